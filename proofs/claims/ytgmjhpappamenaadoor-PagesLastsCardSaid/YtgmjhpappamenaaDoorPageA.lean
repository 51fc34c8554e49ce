/- dev: shown. -/
import Derived.Test.YtgmjhpappamenaaDoorDevF
import Derived.Test.YtgmjhpappamenaaDoorAids
namespace Go.Proofs.YtgmjhpappamenaaDoor
open Go.RowKit Go.Shelf
attribute [local go_sem] Oper.semAt_some

theorem wpListIn_load_bv {P : Program} {ops : Array Oper} {Q : Exit → Act → World → Prop} {F : Fence} {n : Nat} {rest : List Oper} {op : Oper} {a : Act} {w : World} (hgd : op.guard = none) (ty : TypeId) (x : Operand) (ho : op.op = .load ty x) {b off : Nat} {A : List Nat} (hc : w.rangeAt b off (u8s A))
    (hx : a.eval x = .pointer (some ⟨b, off, none⟩)) (h1 : rowTy P ty = some (u8s A).length) (h : wpListIn F n P ops Q rest (a.put op.dst (.agg (bv A))) w) : wpListIn F n P ops Q (op :: rest) a w :=
  wpListIn_load_row hgd ty x ho hc hx h1 h
theorem Stable.own1 {B : Nat} {I : World → Prop} (h : Stable B I) : OwnFrom B (fun (_ : Unit) W => I W) := by
  intro s W W' row hs hg hr
  exact h W W' row.toList hs ((Fr.refl _ W).grown hg (fun k hk => .inl (by simp [hk]))) (fun r hrr => hr r (by simpa using hrr))
theorem zeroWrite : ∃ zs : List Value, zs.length = 65 ∧ ∀ w, (zeroValue 95).run Tryd.prog w = .ok (.agg zs.toArray) w :=
  ⟨.int .i64 0 :: u8s zeros64, by simp [u8s, zeros64], fun _ => by kernel_rfl⟩
set_option maxRecDepth 100000 in
set_option maxHeartbeats 2000000 in
theorem devShown_any (b : Nat) (D : List Nat) (x : Dev) (s : Nat) (w : World) (h : IsDev w b D x) (hs : s < x.F.length) (hO : (x.O.length + 1) * 72 ≤ 140737488355328) :
    Calls Tryd.prog 90 #[.pointer (some ⟨b, 0, none⟩), .int .i64 (s : Nat)] w fun e w' => e = .returned (.agg (bv (shownL x.F x.O s))) ∧ Fr [] w w' := by
  have hz : ∀ w, (zeroValue 88).run Tryd.prog w = .ok (.agg (bv zeros64)) w := fun _ => by kernel_rfl
  have hzs : (bv zeros64).size = 64 := by simp [bv_size, zeros64]
  obtain ⟨bf, ov, pv, rfl, h⟩ := h
  obtain ⟨oa, cap, rfl⟩ := owns_form0 h.own
  have hB := h.blk
  have hSF : (u8s x.F[s]).length = 64 := by simp [u8s, (h.secs _ (List.getElem_mem hs)).1]
  have hR : w.rangeAt bf (s * 64) (u8s x.F[s]) := h.firm.range _ _ (fun j v hj => firmZ_get _ h.secs s hs j v hj)
  have hLF := (h.secs _ (List.getElem_mem hs)).1
  have hgs : x.F.getD s [] = x.F[s] := by simp [hs]
  have HH := Lib.hid h
  have HS := Lib.hid hs
  have HO := Lib.hid hO
  have HGS := Lib.hid hgs
  have HLF := Lib.hid hLF
  have hblt := hB.lt
  have hflt := h.firm.lt
  clear h hO hgs hSF hLF
  generalize hA0 : x.F[s] = A0 at *
  have HA0 := Lib.hid hA0
  clear hA0 hs
  refine (callsIn_wide (n := 6)).1 ?_
  have hro : Fence.wide.round = none := rfl
  refine callsIn_of_wp_marks Tryd.func90 rfl trivial ?_ hro
  simp only [Tryd.ntmps90, List.size_toArray, List.length_cons, List.length_nil, Nat.reduceAdd, Nat.reduceSub, Array.replicate_succ, Array.replicate_zero, List.push_toArray, List.append_toArray, List.nil_append, List.cons_append]
  gi_wp2_with fail
  apply wpIn_scope_straight
  gi_wp2_with fail
  have hs' : (s : Int) < (x.F.length : Nat) := by have := HS.out; omega
  have hFW : Fr [] w ((w.alloc (.cells #[.int .i64 (s : Nat)] 3)).alloc (.cells (bv zeros64) 88)) := ((Fr.refl [] w).alloc _).alloc _
  have hB2 := hB.fr hFW (by simp)
  have hR2 : ((w.alloc (.cells #[.int .i64 (s : Nat)] 3)).alloc (.cells (bv zeros64) 88)).rangeAt bf (s * 64) (u8s A0) := hFW.range hR hflt (by simp)
  have hT3 := (Blk.new w #[.int .i64 (s : Nat)] 3).alloc (.cells (bv zeros64) 88)
  have hT4 := Blk.new (w.alloc (.cells #[.int .i64 (s : Nat)] 3)) (bv zeros64) 88
  simp only [World.size_alloc] at hT4
  have hT5 : Blk (((w.alloc (.cells #[.int .i64 (s : Nat)] 3)).alloc (.cells (bv zeros64) 88)).alloc (.cells (bv zeros64) 88)).drew (w.heap.size + 1 + 1) 88 (bv zeros64) := blk_at _ _ _ _ (by simp)
  have hA64 : (bv A0).size = 64 := by rw [bv_size, HLF.out]
  obtain ⟨w5, hst, hB5, hF5, hs5⟩ := store_all (P := Tryd.prog) hT5 A0 (by rw [HLF.out, bv_size]; rfl)
  have hF05 := ((hFW.alloc (.cells (bv zeros64) 88)).drew).comp hF5 (by simp; omega)
  refine wpIn_wide.2 ?_
  refine region_tail [8] [] (.take 0 (.take 1 (.take 2 (.take 3 (.take 4 (.take 5 (.take 6 (.pick 7 (.last 8 .done) .none)))))))) (by kernel_rfl) (by kernel_rfl) ?_
  simp only [ordList, Ord.map, List.getD_cons_zero, List.getD_cons_succ]
  refine' ord_pure (v := _) ?_ rfl ?_; rotate_left; focus (intro w; go_simp <;> (first | (with_reducible rfl) | (constructor <;> with_reducible rfl)))
  simp only [Act.put, List.setIfInBounds_toArray, List.set_cons_zero, List.set_cons_succ]
  refine' ord_pure (v := _) ?_ rfl ?_; rotate_left; focus (intro w; go_simp <;> (first | (with_reducible rfl) | (constructor <;> with_reducible rfl)))
  simp only [Act.put, List.setIfInBounds_toArray, List.set_cons_zero, List.set_cons_succ]
  refine' ord_pure (v := _) ?_ rfl ?_; rotate_left; focus (intro w; go_simp <;> (first | (with_reducible rfl) | (constructor <;> with_reducible rfl)))
  simp only [Act.put, List.setIfInBounds_toArray, List.set_cons_zero, List.set_cons_succ]
  refine ord_cell hB2 (by simp) rfl rfl (by kernel_rfl) rfl rfl ?_
  simp only [Act.put, List.getElem_toArray, List.getElem_cons_zero, List.getElem_cons_succ, List.setIfInBounds_toArray, List.set_cons_zero, List.set_cons_succ]
  refine ord_cell hT3 (by simp) rfl rfl (by kernel_rfl) rfl rfl ?_
  simp only [Act.put, List.getElem_toArray, List.getElem_cons_zero, List.getElem_cons_succ, List.setIfInBounds_toArray, List.set_cons_zero, List.set_cons_succ]
  refine' ord_pure (v := _) ?_ rfl ?_; rotate_left; focus (intro w; go_simp <;> (first | (with_reducible rfl) | (constructor <;> with_reducible rfl)))
  simp only [Act.put, List.setIfInBounds_toArray, List.set_cons_zero, List.set_cons_succ]
  refine ord_bv hR2 (by simp) HLF.out rfl rfl (by kernel_rfl) rfl ?_
  simp only [Act.put, List.setIfInBounds_toArray, List.set_cons_zero, List.set_cons_succ]
  -- 7: t5 := alloc <api.Block = lavabo/api.Block>    {}
  refine' ord_do (v := _) (w' := _) ?_ ?_ rfl ?_; rotate_left 2; focus (go_simp <;> (first | (with_reducible rfl) | (constructor <;> with_reducible rfl)))
  focus (exact (Fr.refl _ _).alloc _)
  simp only [Act.put, List.setIfInBounds_toArray, List.set_cons_zero, List.set_cons_succ]
  -- 8: t_ := store <api.Block = lavabo/api.Block> t5 t14   {0,1,2,3,4,5,6,7}
  refine' ord_last_skip (w' := w5) ?_ rfl ?_
  focus (go_simp; done)
  simp only [Act.put, List.setIfInBounds_toArray, List.set_cons_zero, List.set_cons_succ]
  refine ord_nil ?_
  have HS5 := Lib.hid hs5
  clear hst hs5
  have HB := hB.fr hF05 (by simp)
  have c5 : w5.cell? ⟨b, 1, none⟩ = some (.slice oa x.O.length cap) := HB.cell rfl
  gi_wp2_with fail
  refine wpIn_label ?_
  gi_wp2_with fail
  refine ⟨trivial, (callsIn_wide.2 (backward_any oa x.O.length cap w5)).mono ?_⟩
  rintro e w6 ⟨rfl, hw6⟩
  have HW6 := Lib.hid hw6
  clear hw6
  gi_wp2
  have hw6 := HW6.out
  have hbx : Blk w6 w5.heap.size 77 #[.slice oa x.O.length cap] := by rw [hw6]; exact Blk.new _ _ _
  have hF56 : Fr [] w5 w6 := by rw [hw6]; exact (Fr.refl _ _).alloc _
  have hF06 := hF05.trans hF56
  have hA5 := hB5.fr hF56 (by simp)
  have hown := owns_fr HH.out.own hF06 (by simp)
  have hT36 : Blk w6 w.heap.size 3 #[.int .i64 (s : Nat)] := (((hT3.alloc (.cells (bv zeros64) 88)).drew).fr hF5 (by simp; omega)).fr hF56 (by simp)
  have hT46 : Blk w6 (w.heap.size + 1) 88 (bv zeros64) := (((hT4.alloc (.cells (bv zeros64) 88)).drew).fr hF5 (by simp)).fr hF56 (by simp)
  have hKK : ∀ k, k ∈ w5.heap.size :: (Value.slice oa x.O.length cap).ownBlock.toList → k < w6.heap.size := by
    intro k hk
    rcases List.mem_cons.1 hk with rfl | hk
    · exact hbx.lt
    · exact owns_block_lt hown k hk
  have hne5 : ∀ k, k ∈ w5.heap.size :: (Value.slice oa x.O.length cap).ownBlock.toList → ¬ k = w.heap.size + 1 + 1 := by
    intro k hk
    rcases List.mem_cons.1 hk with rfl | hk
    · have := hB5.lt; omega
    · have := owns_block_lt HH.out.own k hk; omega
  obtain ⟨zs, hzl, hzw⟩ := zeroWrite
  have hl5 := hA5.lt
  refine wpIn_rangeFunc_ownH hro (by omega) (gf := 134) (lb := #[.pointer (some ⟨w5.heap.size, 0, none⟩)]) rfl trivial (enters_of Tryd.func134 (by kernel_rfl) rfl)
    (backward_stops Fence.wide (6 - 1) trivial hro (by omega) w5.heap.size 0 _ _ x.O HH.out.opens (by have := HO.out; omega) w6 hbx hown) KpL.trans (KpL.put hKK) (Below.refl _ _) (fun _ => rfl)
    (fun pre W => (∀ y, y ∈ pre → ¬ y.2.1 = s) ∧ Blk W (w.heap.size + 1 + 1) 88 (bv A0) ∧ Fr [w.heap.size + 1 + 1] w6 W)
    (fun c pre W => (c = .exit 0 ∧ ∃ pre' y, pre = pre' ++ [y] ∧ (∀ z, z ∈ pre' → ¬ z.2.1 = s) ∧ y.2.1 = s ∧ Blk W (w.heap.size + 1 + 1) 88 (bv (fix64 y.2.2))) ∧ Fr [w.heap.size + 1 + 1] w6 W)
    (Stable.own fun _ => (Stable.pure _ _).and ((Stable.blk _ _ _ _).and (Stable.fr _ _ (Nat.le_refl _))))
    (fun c => Stable.own fun _ => ((Stable.pure _ _).and (Stable.ex fun p' => Stable.ex fun y => (Stable.pure _ _).and ((Stable.pure _ _).and ((Stable.pure _ _).and (Stable.blk _ _ _ _))))).and (Stable.fr _ _ (Nat.le_refl _)))
    ⟨by simp, hA5, Fr.refl _ _⟩
    (fun y a' W => ∃ v, w6.heap.size ≤ v ∧ Blk W v 95 (wrC y.2.1 (fix64 y.2.2)).toArray ∧ a' = { tmps := #[.pointer (some ⟨b, 0, none⟩), .int .i64 (s : Nat), undef, .pointer (some ⟨w.heap.size, 0, none⟩), .pointer (some ⟨w.heap.size + 1, 0, none⟩), .pointer (some ⟨w.heap.size + 1 + 1, 0, none⟩), undef,
        .pointer (some ⟨v, 0, none⟩), .pointer (some ⟨b, 0, none⟩), .pointer (some ⟨b, 0, none⟩), .pointer (some ⟨b, 0, none⟩), .slice (some ⟨bf, 0, none⟩) x.F.length x.C, .int .i64 (s : Nat), .pointer (some ⟨bf, s * 64, none⟩), .agg (bv A0),
        .pointer (some ⟨b, 0, none⟩), .pointer (some ⟨b, 0, none⟩), .pointer (some ⟨b, 1, none⟩), .slice oa x.O.length cap, .func (.func 134) #[] #[.pointer (some ⟨w5.heap.size, 0, none⟩)],
        .int .i64 (y.1 : Nat), .agg (wrC y.2.1 (fix64 y.2.2)).toArray, undef, undef, undef, undef, undef, undef, undef], defers := [] })
    (fun y a' => Stable.own1 (Stable.ex fun v => (Stable.pure _ _).and ((Stable.blk _ _ _ _).and (Stable.pure _ _))))
    ?assign ?body ?done ?stop
  case assign =>
    rintro l pre y W K ⟨hp, hb, hF⟩ hK
    obtain ⟨w7, hst, hB7, hF7, hs7⟩ := store_list (P := Tryd.prog) (Blk.new W zs.toArray 95) (wrC y.2.1 (fix64 y.2.2)) (by rw [wrC_len _ _ (fix64_len _)]; simp [hzl]) (wrC_one _ _)
    have hcs : (wrC y.2.1 (fix64 y.2.2)).toArray.size = 65 := by simpa using wrC_len y.2.1 _ (fix64_len y.2.2)
    have hF17 : Fr [] W w7 := ((Fr.refl [] W).alloc (.cells zs.toArray 95)).comp hF7 (by simp)
    have hgt := hF.size
    have HZ := Lib.hid hz
    clear hz
    simp only [encB]
    gi_wp2
    refine hK _ _ (hF17.keeps (by simp)) (KpL.of_fr hF17 (by simp)) ⟨hp, hb.fr hF17 (by simp), hF.trans (hF17.sub (by simp))⟩ ⟨W.heap.size, hgt, hB7, rfl⟩
  case body =>
    rintro l pre y a' W hll ⟨r, hr⟩ ⟨hp, hb, hF⟩ ⟨v, hv, hBv, rfl⟩ _
    have cv : W.cell? ⟨v, 0, none⟩ = some (.int .i64 (y.2.1 : Nat)) := hBv.cell rfl
    have ct3 : W.cell? ⟨w.heap.size, 0, none⟩ = some (.int .i64 (s : Nat)) := (hT36.fr hF (by simp; omega)).cell rfl
    by_cases hy : y.2.1 = s
    · have b0 : ((y.2.1 : Int) == (s : Int)) = true := by simp [hy]
      have hRv : W.rangeAt v 1 (u8s (fix64 y.2.2)) := hBv.range 1 _ (fun j u hj => by simpa [wrC, Nat.add_comm 1 j] using hj)
      obtain ⟨w8, hst, hB8, hF8, hs8⟩ := store_all (P := Tryd.prog) hb (fix64 y.2.2) (by rw [fix64_len, bv_size, HLF.out])
      have h64 : (bv (fix64 y.2.2)).size = 64 := by rw [bv_size, fix64_len]
      have hrt : rowTy Tryd.prog 88 = some (u8s (fix64 y.2.2)).length := by rw [show (u8s (fix64 y.2.2)).length = 64 by simp [u8s, fix64_len]]; kernel_rfl
      gi_wp2_with (refine wpListIn_load_bv rfl 88 _ rfl hRv rfl hrt ?_)
      have hs8' := hF.size
      exact ⟨hF8.keeps (fun r hr => by simp at hr; omega), ⟨rfl, pre, y, rfl, hp, hy, hB8⟩, hF.trans hF8⟩
    · have b0 : ((y.2.1 : Int) == (s : Int)) = false := beq_eq_false_iff_ne.2 (by omega)
      gi_wp2
      exact ⟨(Fr.refl [] W).keeps (by simp), KpL.refl _ _, fun z hz => by rcases List.mem_append.1 hz with hz | hz; exact hp z hz; obtain rfl := List.mem_singleton.1 hz; exact hy, hb, hF⟩
  case done =>
    rintro D xs W hD rfl ⟨hp, hb, hF⟩ hK
    have hlA : A0.length = 64 := HLF.out
    obtain ⟨w9, hst, hB9, hF9, hs9⟩ := store_all (P := Tryd.prog) (hT46.fr hF (by simp)) A0 (by rw [hlA, bv_size]; rfl)
    have h64 : (bv A0).size = 64 := by rw [bv_size, hlA]
    have hrt : rowTy Tryd.prog 88 = some (u8s A0).length := by rw [show (u8s A0).length = 64 by simp [u8s, hlA]]; kernel_rfl
    have hRb := range_bv hb
    have hKl := (Array.getElem?_eq_some_iff.1 hK).1
    have hszF := hF.size
    have hsz06 := hF06.size
    have h46 := hT46.lt
    have hK9 : w9.heap[D]? = some (.deferred (some [])) := (hF9.block D hKl (by simp; omega)).trans hK
    have hF09 : Fr [] w w9 := (hF06.comp hF (by simp; omega)).comp hF9 (by simp)
    gi_wp2_with (refine wpListIn_load_bv rfl 88 _ rfl hRb rfl hrt ?_)
    rw [Exit.noGoto_ret]
    have hP : Fr [D] w9 (w9.putObj D (.deferred none)) := (Fr.refl [D] w9).put' D (by simp) _
    have hld := load_var (P := Tryd.prog) (o := 0) (hB9.fr hP (by simp; omega)) A0 (bv_self _) Tryd.underlying88 (by kernel_rfl) hlA
    refine ⟨by simp, .inl ⟨_, _, rfl, run_takeDeferred hK9, ?_⟩⟩
    refine ⟨_, res_cell Tryd.results90 rfl hld, ?_⟩
    refine ⟨?_, hF09.put D (by omega) _⟩
    rw [shown_none hp, HGS.out]
  case stop =>
    rintro D c pre W hD ⟨k, hk, hpk⟩ ⟨⟨rfl, pre', y, rfl, hp, hy, hb⟩, hF⟩ hK
    have hlA : (fix64 y.2.2).length = 64 := fix64_len _
    obtain ⟨w9, hst, hB9, hF9, hs9⟩ := store_all (P := Tryd.prog) (hT46.fr hF (by simp)) (fix64 y.2.2) (by rw [hlA, bv_size]; rfl)
    have h64 : (bv (fix64 y.2.2)).size = 64 := by rw [bv_size, hlA]
    have hrt : rowTy Tryd.prog 88 = some (u8s (fix64 y.2.2)).length := by rw [show (u8s (fix64 y.2.2)).length = 64 by simp [u8s, hlA]]; kernel_rfl
    have hRb := range_bv hb
    have hKl := (Array.getElem?_eq_some_iff.1 hK).1
    have hszF := hF.size
    have hsz06 := hF06.size
    have h46 := hT46.lt
    have hK9 : w9.heap[D]? = some (.deferred (some [])) := (hF9.block D hKl (by simp; omega)).trans hK
    have hF09 : Fr [] w w9 := (hF06.comp hF (by simp; omega)).comp hF9 (by simp)
    gi_wp2_with (refine wpListIn_load_bv rfl 88 _ rfl hRb rfl hrt ?_)
    rw [Exit.noGoto_ret]
    have hP : Fr [D] w9 (w9.putObj D (.deferred none)) := (Fr.refl [D] w9).put' D (by simp) _
    have hld := load_var (P := Tryd.prog) (o := 0) (hB9.fr hP (by simp; omega)) (fix64 y.2.2) (bv_self _) Tryd.underlying88 (by kernel_rfl) hlA
    refine ⟨by simp, .inl ⟨_, _, rfl, run_takeDeferred hK9, ?_⟩⟩
    refine ⟨_, res_cell Tryd.results90 rfl hld, ?_⟩
    refine ⟨?_, hF09.put D (by omega) _⟩
    have hsh := shown_some (F := x.F) hk hpk hp hy
    have h64' := (shownL_secs HH.out.secs HH.out.opens HS.out).1
    rw [hsh] at h64' ⊢
    rw [fix64_of h64']
end Go.Proofs.YtgmjhpappamenaaDoor

/- dev: Read. -/
namespace Go.Proofs.YtgmjhpappamenaaDoor
open Go.RowKit Go.Shelf

theorem devRead1_any (w : World) : Calls Tryd.prog 89 #[] w fun e w' => e = .returned (.tuple #[]) ∧ w = w' := by
  go_enter Tryd.func89, Tryd.ntmps89
  go_wp2_with fail
  go_end0
  exact ⟨rfl, rfl⟩
/-- what Read answers, and what it leaves -/
def devRB (x : Dev) (s : Int) : List Nat := if devE x s = 0 ∧ ¬ x.P.headD 0 = 1 then shownL x.F x.O s.toNat else zeros64
def devRE (x : Dev) (s : Int) : Int := if devE x s = 0 then devR (x.P.headD 0) 19 else devE x s
def devRd (x : Dev) (s : Int) : Dev := if devE x s = 0 then nextP x else x
set_option maxRecDepth 100000 in
theorem devRead_any (b : Nat) (D : List Nat) (x : Dev) (s : Int) (w : World) (h : IsDev w b D x) (hO : (x.O.length + 1) * 72 ≤ 140737488355328) :
    Calls Tryd.prog 68 #[.pointer (some ⟨b, 0, none⟩), .int .i64 s] w fun e w' => e = .returned (.tuple #[.agg (bv (devRB x s)), .int .i64 (devRE x s)]) ∧
      ∃ D', IsDev w' b D' (devRd x s) ∧ Fr D w w' ∧ ∀ i, i ∈ D' → i ∈ D := by
  have hz : ∀ w, (zeroValue 88).run Tryd.prog w = .ok (.agg (bv zeros64)) w := fun _ => by kernel_rfl
  have hzs : (bv zeros64).size = 64 := by simp [bv_size, zeros64]
  have hbl : Tryd.prog.built 88 [] = some (bv zeros64) := by kernel_rfl
  have HBL := Lib.hid hbl
  clear hbl
  have HL := h.lt
  have HO := Lib.hid hO
  have HH := Lib.hid h
  have hT := Blk.new w (bv zeros64) 88
  have hFW : Fr [] w (w.alloc (.cells (bv zeros64) 88)) := (Fr.refl [] w).alloc _
  have hIW := h.fr hFW (by simp)
  have hc := devCheck_any b D x s _ hIW
  clear h hO
  by_cases hE : devE x s = 0
  · obtain ⟨k, rfl, hk⟩ := devE_in hE
    have hcall := devCall_any b D x 19 89 #[] _ hIW (enters_of Tryd.func89 (by kernel_rfl) rfl)
      (fun w' => ∃ D', IsDev w' b D' (nextP x) ∧ Fr D (w.alloc (.cells (bv zeros64) 88)) w' ∧ ∀ i, i ∈ D' → i ∈ D)
      (by
        intro hp w1 D1 hI1 hF1 hD1
        refine (devRead1_any w1).mono ?_
        rintro e w2 ⟨rfl, rfl⟩
        exact ⟨rfl, D1, hI1, hF1, hD1⟩)
      (fun hp w1 D1 hI1 hF1 hD1 => ⟨D1, hI1, hF1, hD1⟩)
    rw [hE] at hc
    have HC := Lib.hid hc
    have HCC := Lib.hid hcall
    clear hc hcall
    rw [show devRE x (k : Int) = devR (x.P.headD 0) 19 from if_pos hE, show devRd x (k : Int) = nextP x from if_pos hE]
    have hnD : ¬ w.heap.size ∈ D := fun hm => Nat.lt_irrefl _ (HL _ hm)
    by_cases hp : x.P.headD 0 = 1
    · rw [hp] at HCC ⊢
      rw [show devR 1 19 = 19 from rfl] at HCC ⊢
      rw [show devRB x (k : Int) = zeros64 from if_neg (fun h => h.2 hp)]
      go_enter Tryd.func68, Tryd.ntmps68
      go_wp2_with fail
      refine HC.out.mono ?_
      rintro e w1 ⟨rfl, rfl⟩
      go_wp2_with fail
      refine HCC.out.mono ?_
      rintro e w2 ⟨rfl, D2, hI2, hF2, hD2⟩
      obtain ⟨w3, hst, hB3, hF3, hs3⟩ := store_all (P := Tryd.prog) (hT.fr hF2 hnD) zeros64 (by simp [bv_size])
      go_wp2_with fail
      have hld := load_var (P := Tryd.prog) (o := 0) hB3 zeros64 (bv_self _) Tryd.underlying88 (by kernel_rfl) (by simp [zeros64])
      refine bodyPost_ret (res_cell_tmp Tryd.results68 rfl hld) rfl ⟨rfl, D2, ?_⟩
      exact ⟨hI2.fr hF3 (fun i hi hm => hnD (by simp at hm; subst hm; exact hD2 _ hi)), ((hFW.sub (by simp)).trans hF2).comp hF3 (by simp), hD2⟩
    · have hr0 : devR (x.P.headD 0) 19 = 0 := if_neg hp
      rw [hr0] at HCC ⊢
      rw [show devRB x (k : Int) = shownL x.F x.O k from if_pos ⟨hE, hp⟩]
      have hlen := (by
        obtain ⟨bf, ov, pv, _, h⟩ := HH.out
        exact (shownL_secs h.secs h.opens hk).1 : (shownL x.F x.O k).length = 64)
      have HLEN := Lib.hid hlen
      have HK := Lib.hid hk
      clear hlen hk
      go_enter Tryd.func68, Tryd.ntmps68
      go_wp2_with fail
      refine HC.out.mono ?_
      rintro e w1 ⟨rfl, rfl⟩
      go_wp2_with fail
      refine HCC.out.mono ?_
      rintro e w2 ⟨rfl, D2, hI2, hF2, hD2⟩
      go_wp2_with fail
      refine (devShown_any b D2 (nextP x) k w2 hI2 HK.out HO.out).mono ?_
      rintro e w4 ⟨rfl, hF4⟩
      rw [show shownL (nextP x).F (nextP x).O k = shownL x.F x.O k from rfl]
      generalize hA : shownL x.F x.O k = A at HLEN ⊢
      obtain ⟨w3, hst, hB3, hF3, hs3⟩ := store_all (P := Tryd.prog) ((hT.fr hF2 hnD).fr hF4 (by simp)) A (by rw [HLEN.out, bv_size]; rfl)
      have hsz : (bv A).size = 64 := by rw [bv_size, HLEN.out]
      have HA := Lib.hid hA
      clear hA
      go_wp2_with fail
      have hld := load_var (P := Tryd.prog) (o := 0) hB3 A (bv_self _) Tryd.underlying88 (by kernel_rfl) HLEN.out
      refine bodyPost_ret (res_cell_tmp Tryd.results68 rfl hld) rfl ⟨by rw [HA.out]; rfl, D2, ?_⟩
      exact ⟨(hI2.fr hF4 (by simp)).fr hF3 (fun i hi hm => hnD (by simp at hm; subst hm; exact hD2 _ hi)), (((hFW.sub (by simp)).trans hF2).trans (hF4.sub (by simp))).comp hF3 (by simp), hD2⟩
  · have b0 : (devE x s != 0) = true := by simpa using hE
    rw [show devRE x s = devE x s from if_neg hE, show devRd x s = x from if_neg hE, show devRB x s = zeros64 from if_neg (fun h => hE h.1)]
    have HC := Lib.hid hc
    clear hc
    generalize hg : devE x s = ee at *
    obtain ⟨w2, hst, hB2, hF2, hs2⟩ := store_all (P := Tryd.prog) hT zeros64 (by simp [bv_size])
    go_enter Tryd.func68, Tryd.ntmps68
    go_wp2_with fail
    refine HC.out.mono ?_
    rintro e w1 ⟨rfl, rfl⟩
    go_wp2_with fail
    have hld := load_var (P := Tryd.prog) (o := 0) hB2 zeros64 (bv_self _) Tryd.underlying88 (by kernel_rfl) (by simp [zeros64])
    refine bodyPost_ret (res_cell_tmp Tryd.results68 rfl hld) rfl ⟨rfl, D, ?_⟩
    have hF02 : Fr [] w w2 := hFW.comp hF2 (by simp)
    exact ⟨HH.out.fr hF02 (by simp), hF02.sub (by simp), fun i hi => hi⟩
end Go.Proofs.YtgmjhpappamenaaDoor

/- dev: Flush. -/
namespace Go.Proofs.YtgmjhpappamenaaDoor
open Go.RowKit Go.Shelf

/-- all that was written is firm -/
def devFl (x : Dev) : Dev := { x with F := flushL x.F x.O, O := [] }
theorem flushL_take_succ (F : List (List Nat)) (O : List (Nat × List Nat)) (k : Nat) (hk : k < O.length) : flushL F (O.take (k + 1)) = (flushL F (O.take k)).set O[k].1 O[k].2 := by
  unfold flushL
  rw [List.take_add_one, List.getElem?_eq_getElem hk, List.foldl_append]
  rfl
/-- a sector as it is firm -/
def devFB (x : Dev) (s : Int) : List Nat := if devE x s = 0 then x.F.getD s.toNat [] else zeros64
set_option maxRecDepth 100000 in
theorem devFirm_any (b : Nat) (D : List Nat) (x : Dev) (s : Int) (w : World) (h : IsDev w b D x) :
    Calls Tryd.prog 44 #[.pointer (some ⟨b, 0, none⟩), .int .i64 s] w fun e w' => e = .returned (.tuple #[.agg (bv (devFB x s)), .int .i64 (devE x s)]) ∧ Fr [] w w' := by
  have hz : ∀ w, (zeroValue 88).run Tryd.prog w = .ok (.agg (bv zeros64)) w := fun _ => by kernel_rfl
  have hzs : (bv zeros64).size = 64 := by simp [bv_size, zeros64]
  have hT := Blk.new w (bv zeros64) 88
  have hFW : Fr [] w (w.alloc (.cells (bv zeros64) 88)) := (Fr.refl [] w).alloc _
  have hIW := h.fr hFW (by simp)
  have HC := Lib.hid (devCheck_any b D x s _ hIW)
  clear hIW
  by_cases hE : devE x s = 0
  · obtain ⟨k, rfl, hk⟩ := devE_in hE
    rw [hE] at HC ⊢
    rw [show devFB x (k : Int) = x.F[k] by unfold devFB; rw [if_pos hE]; simp [hk]]
    obtain ⟨bf, ov, pv, rfl, h⟩ := h
    have hl := (h.secs _ (List.getElem_mem hk)).1
    have c0 : (w.alloc (.cells (bv zeros64) 88)).cell? ⟨b, 0, none⟩ = some (.slice (some ⟨bf, 0, none⟩) x.F.length x.C) := (h.blk.fr hFW (by simp)).cell rfl
    have hR : (w.alloc (.cells (bv zeros64) 88)).rangeAt bf (k * 64) (u8s x.F[k]) := (h.firm.fr hFW (by simp)).range _ _ (fun j v hj => firmZ_get _ h.secs k hk j v hj)
    have HE := Lib.hid hE
    clear h hE
    generalize hA : x.F[k] = A at *
    have hlt : (k : Int) < (x.F.length : Nat) := by omega
    clear hA
    obtain ⟨w3, hst, hB3, hF3, hs3⟩ := store_all (P := Tryd.prog) hT A (by rw [hl, bv_size]; rfl)
    have hsz : (bv A).size = 64 := by rw [bv_size, hl]
    have HL := Lib.hid hl
    clear hl
    go_enter Tryd.func44, Tryd.ntmps44
    go_wp2_with fail
    refine HC.out.mono ?_
    rintro e w1 ⟨rfl, rfl⟩
    go_wp2_with (refine wpList_load_bv rfl 88 _ rfl bf (k * 64) rfl A hR Tryd.underlying88 (by kernel_rfl) HL.out ?_)
    have hld := load_var (P := Tryd.prog) (o := 0) hB3 A (bv_self _) Tryd.underlying88 (by kernel_rfl) HL.out
    refine bodyPost_ret (res_cell_tmp Tryd.results44 rfl hld) rfl ⟨rfl, ?_⟩
    exact hFW.comp hF3 (by simp)
  · have b0 : (devE x s != 0) = true := by simpa using hE
    rw [show devFB x s = zeros64 from if_neg hE]
    generalize hg : devE x s = ee at *
    obtain ⟨w2, hst, hB2, hF2, hs2⟩ := store_all (P := Tryd.prog) hT zeros64 (by simp [bv_size])
    go_enter Tryd.func44, Tryd.ntmps44
    go_wp2_with fail
    refine HC.out.mono ?_
    rintro e w1 ⟨rfl, rfl⟩
    go_wp2_with fail
    have hld := load_var (P := Tryd.prog) (o := 0) hB2 zeros64 (bv_self _) Tryd.underlying88 (by kernel_rfl) (by simp [zeros64])
    refine bodyPost_ret (res_cell_tmp Tryd.results44 rfl hld) rfl ⟨rfl, ?_⟩
    exact hFW.comp hF2 (by simp)
/-- where the open writes lie -/
theorem owns_wr {w : World} {base N : Nat} {v : Value} {O : List (Nat × List Nat)} (hO : Opens N O) (h : w.ownsRow base 95 65 v O.length (openC O)) :
    ∃ oa cap, v = .slice oa O.length cap ∧ ∀ k, (hk : k < O.length) → ∃ g, oa = some ⟨g, 0, none⟩ ∧ v.ownBlock = some g ∧ w.rangeAt g (k * 65) (wrC O[k].1 O[k].2) := by
  obtain ⟨h1, ⟨rfl, hz⟩ | ⟨g, cap, cur, rfl, hg, hh, hcur, hcap, hs, ht⟩⟩ := h
  · exact ⟨none, 0, by rw [hz], fun k hk => by omega⟩
  · refine ⟨_, cap, rfl, fun k hk => ⟨g, rfl, rfl, ?_⟩⟩
    have hb : Blk w g 95 cur := hh
    exact hb.range _ _ (fun j u hj => take_get ht (openC_wrC hO k hk j u hj))
end Go.Proofs.YtgmjhpappamenaaDoor

/- dev: Flush. -/
namespace Go.Proofs.YtgmjhpappamenaaDoor
open Go.RowKit Go.Shelf

theorem owns_le {w : World} {base e size : Nat} {v : Value} {n : Nat} {xs : List Value} (h : w.ownsRow base e size v n xs) : n ≤ 9223372036854775807 := by
  obtain ⟨h1, ⟨rfl, hz⟩ | ⟨g, cap, cur, rfl, hg, hh, hcur, hcap, hs, ht⟩⟩ := h
  · omega
  · unfold maxLen at hcap; omega
set_option maxRecDepth 100000 in
set_option maxHeartbeats 1000000 in
theorem devFlush1_any (b : Nat) (D : List Nat) (x : Dev) (pd : Nat) (w : World) (h : IsDev w b D x) (hd : Blk w pd 25 #[.pointer (some ⟨b, 0, none⟩)]) (hdis : ¬ pd ∈ D) :
    Calls Tryd.prog 66 #[.pointer (some ⟨pd, 0, none⟩)] w fun e w' => e = .returned (.tuple #[]) ∧
      ∃ D', IsDev w' b D' (devFl x) ∧ Fr D w w' ∧ ∀ i, i ∈ D' → i ∈ D := by
  obtain ⟨bf, ov, pv, rfl, h⟩ := h
  obtain ⟨oa, cap, rfl, hW⟩ := owns_wr h.opens h.own
  have hB := h.blk
  have hdf : ¬ pd = bf := fun e => hdis (mem_devD.2 (.inr (.inl e)))
  have hdb : ¬ pd = b := fun e => hdis (mem_devD.2 (.inl e))
  have hfb : ¬ b = bf := h.ne
  have c1 : w.cell? ⟨b, 1, none⟩ = some (.slice oa x.O.length cap) := hB.cell rfl
  have c0 : w.cell? ⟨pd, 0, none⟩ = some (.pointer (some ⟨b, 0, none⟩)) := hd.cell rfl
  have HH := Lib.hid h
  have HW := Lib.hid hW
  clear h hW hdis
  go_enter Tryd.func66, Tryd.ntmps66
  go_wp2_with fail
  go_loopw [8] (fun i wr => ∃ k : Nat, k ≤ x.O.length ∧ i = .int .i64 k ∧ Blk wr bf 88 (firmC (flushL x.F (x.O.take k)) ++ x.Z).toArray ∧ Fr [bf] w wr) (fun i _ => x.O.length - (intOf i).toNat)
  case atStart => exact ⟨0, Nat.zero_le _, rfl, HH.out.firm, Fr.refl _ _⟩
  case round =>
    obtain ⟨k, hk, rfl, hf, hFr⟩ := hrel
    by_cases hlt : k < x.O.length
    · have HLT := Lib.hid hlt
      have hmax := owns_le HH.out.own
      have h := HH.out
      obtain ⟨g, rfl, hg, hRg⟩ := HW.out k hlt
      have hgn := h.no g hg
      have hp := h.opens _ (List.getElem_mem hlt)
      have hgl := owns_lt' h.own g hg
      have hfr := flushL_take_succ x.F x.O k hlt
      generalize hO1 : x.O[k].1 = s1 at *
      generalize hO2 : x.O[k].2 = A1 at *
      have hRw : wr.rangeAt g (k * 65) (wrC s1 A1) := hFr.range hRg hgl (by simpa using hgn.2)
      have hBw := hB.fr hFr (by simpa using hfb)
      have hdw := hd.fr hFr (by simpa using hdf)
      obtain ⟨zs, hzl, hzw⟩ := zeroWrite
      have hwl := wrC_len s1 A1 hp.2.1
      obtain ⟨w2, hst, hB2, hF2, hs2⟩ := store_list (P := Tryd.prog) (Blk.new wr zs.toArray 95) (wrC s1 A1) (by rw [hwl]; simp [hzl]) (wrC_one _ _)
      have hrt : rowTy Tryd.prog 95 = some (wrC s1 A1).length := by rw [hwl]; kernel_rfl
      have hsz : (wrC s1 A1).toArray.size = 65 := by simpa using hwl
      have b0 : decide ((k : Int) < (x.O.length : Nat)) = true := by simp; omega
      go_wp2_with (refine wpList_load_row rfl 95 _ rfl hRw rfl hrt ?_)
      have hbl := hBw.lt
      have hfl := hf.lt
      have hdl := hdw.lt
      have hB2' := (hBw.alloc (.cells zs.toArray 95)).fr hF2 (by simp; omega)
      have hf2' := (hf.alloc (.cells zs.toArray 95)).fr hF2 (by simp; omega)
      have hd2' := (hdw.alloc (.cells zs.toArray 95)).fr hF2 (by simp; omega)
      have hRA : w2.rangeAt wr.heap.size 1 (u8s A1) := hB2.range 1 _ (fun j u hj => by simpa [wrC, Nat.add_comm 1 j] using hj)
      have hs1 : (s1 : Int) < (x.F.length : Nat) := by have := hp.1; omega
      have hsec : Secs (flushL x.F (x.O.take k)) := flushL_secs h.secs (fun p hp => h.opens p (List.mem_of_mem_take hp))
      have hfl2 := flushL_len x.F (x.O.take k)
      have hA64 : (u8s A1).length = 64 := by simp [u8s, hp.2.1]
      obtain ⟨w3, hst3, hf3, hF3, hs3⟩ := store_mid (P := Tryd.prog) (w := w2.drew) (o := s1 * 64) hf2'.drew (u8s A1) (by have := firmC_len hsec; simp only [List.size_toArray, List.length_append]; rw [this, hfl2, hA64]; have := hp.1; omega) (by simp [u8s, Value.oneCell'])
      rw [firmZ_set _ hsec s1 (by rw [hfl2]; exact hp.1) A1 hp.2.1, ← hfr] at hf3
      have hst3 : (storeCells ⟨bf, s1 * 64, none⟩ (bv A1).toList).run Tryd.prog w2.drew = .ok () w3 := hst3
      have hszA : (bv A1).size = 64 := by rw [bv_size, hp.2.1]
      have hc16 : w2.cell? ⟨wr.heap.size, 0, none⟩ = some (.int .i64 (s1 : Nat)) := hB2.cell rfl
      refine region_tail [9] [] (.take 0 (.take 1 (.take 2 (.take 3 (.take 4 (.take 5 (.take 6 (.take 7 (.take 8 (.last 9 .done)))))))))) (by kernel_rfl) (by kernel_rfl) ?_
      simp only [ordList, Ord.map, List.getD_cons_zero, List.getD_cons_succ]
      refine ord_cell hd2' (by simp) rfl rfl (by kernel_rfl) rfl rfl ?_
      simp only [Act.put, List.getElem_toArray, List.getElem_cons_zero, List.getElem_cons_succ, List.setIfInBounds_toArray, List.set_cons_zero, List.set_cons_succ]
      refine' ord_pure (v := _) ?_ rfl ?_; rotate_left; focus (intro w; go_simp <;> (first | (with_reducible rfl) | (constructor <;> with_reducible rfl)))
      simp only [Act.put, List.setIfInBounds_toArray, List.set_cons_zero, List.set_cons_succ]
      refine' ord_pure (v := _) ?_ rfl ?_; rotate_left; focus (intro w; go_simp <;> (first | (with_reducible rfl) | (constructor <;> with_reducible rfl)))
      simp only [Act.put, List.setIfInBounds_toArray, List.set_cons_zero, List.set_cons_succ]
      refine ord_cell hB2' (by simp) rfl rfl (by kernel_rfl) rfl rfl ?_
      simp only [Act.put, List.getElem_toArray, List.getElem_cons_zero, List.getElem_cons_succ, List.setIfInBounds_toArray, List.set_cons_zero, List.set_cons_succ]
      refine' ord_pure (v := _) ?_ rfl ?_; rotate_left; focus (intro w; go_simp <;> (first | (with_reducible rfl) | (constructor <;> with_reducible rfl)))
      simp only [Act.put, List.setIfInBounds_toArray, List.set_cons_zero, List.set_cons_succ]
      refine ord_load rfl rfl (by kernel_rfl) rfl hc16 (by simp) ?_
      simp only [Act.put, List.setIfInBounds_toArray, List.set_cons_zero, List.set_cons_succ]
      refine' ord_pure (v := _) ?_ rfl ?_; rotate_left; focus (intro w; go_simp <;> (first | (with_reducible rfl) | (constructor <;> with_reducible rfl)))
      simp only [Act.put, List.setIfInBounds_toArray, List.set_cons_zero, List.set_cons_succ]
      refine ord_bv hRA (by simp) hp.2.1 rfl rfl (by kernel_rfl) rfl ?_
      simp only [Act.put, List.setIfInBounds_toArray, List.set_cons_zero, List.set_cons_succ]
      refine' ord_pure (v := _) ?_ rfl ?_; rotate_left; focus (intro w; go_simp <;> (first | (with_reducible rfl) | (constructor <;> with_reducible rfl)))
      simp only [Act.put, List.setIfInBounds_toArray, List.set_cons_zero, List.set_cons_succ]
      -- 9: t_ := store <api.Block = lavabo/api.Block> t20 t19   {0,1,2,3,4,5,6,7,8}
      refine' ord_last_skip (w' := w3) ?_ rfl ?_
      focus (go_simp; done)
      simp only [Act.put, List.setIfInBounds_toArray, List.set_cons_zero, List.set_cons_succ]
      refine ord_nil ?_
      go_wp2_with fail
      go_roundw
      case rel => exact ⟨k + 1, HLT.out, by go_num, hf3, (hFr.comp ((((Fr.refl [] wr).alloc (.cells zs.toArray 95)).comp hF2 (by simp)).drew) (by simp)).comp hF3 (by simp)⟩
      case measure => have := HLT.out; simp [intOf]; omega
    · obtain rfl : k = x.O.length := by omega
      have hBw := hB.fr hFr (by simpa using hfb)
      have hdw := hd.fr hFr (by simpa using hdf)
      have d0 : wr.cell? ⟨pd, 0, none⟩ = some (.pointer (some ⟨b, 0, none⟩)) := hdw.cell rfl
      have d1 : wr.cell? ⟨b, 1, none⟩ = some (.slice oa x.O.length cap) := hBw.cell rfl
      have fz := hBw.frozen 1
      have b0 : decide ((x.O.length : Int) < (x.O.length : Nat)) = false := by simp
      go_wp2_with fail
      go_end0
      have hF2 : Fr [b] wr (wr.setCell ⟨b, 1, none⟩ (.slice none 0 0)) := (Fr.refl _ wr).setCell _ (.inl (by simp)) _
      have h := HH.out
      have hlt' := Nat.le_trans hFr.size hF2.size
      rw [List.take_length] at hf
      refine ⟨rfl, devD b bf (.slice none 0 0) pv, ⟨bf, .slice none 0 0, pv, rfl, ?_⟩, ?_, ?_⟩
      · refine ⟨by simp only [devFl, flushL_len]; exact h.n1, by simp only [devFl, flushL_len]; exact h.n2, flushL_secs h.secs h.opens, fun p hp => (by cases hp), ?_, hf.fr hF2 (by simpa using fun e => hfb e.symm), World.ownsRow_nil _ _ _ _, ?_, hfb, fun g hg => (by cases hg), ?_⟩
        · have := hBw.set 1 (.slice none 0 0)
          simpa [devFl, flushL_len] using this
        · exact plan_fr (plan_fr h.plan hFr (fun g hg => by simpa using (h.np g hg).2.1)) hF2 (fun g hg => by simpa using (h.np g hg).1)
        · intro g hg
          have hn := h.np g hg
          exact ⟨hn.1, hn.2.1, by simp [Value.ownBlock], Nat.lt_of_lt_of_le hn.2.2.2 hlt'⟩
      · exact (hFr.sub (fun i hi => .inl (by simp at hi; subst hi; exact mem_devD.2 (.inr (.inl rfl))))).comp hF2 (fun i hi => .inl (by simp at hi; subst hi; exact mem_devD.2 (.inl rfl)))
      · intro i hi
        rcases mem_devD.1 hi with hi | hi | hi | hi
        · exact mem_devD.2 (.inl hi)
        · exact mem_devD.2 (.inr (.inl hi))
        · cases hi
        · exact mem_devD.2 (.inr (.inr (.inr hi)))
/-- what Flush leaves -/
def devFlush (x : Dev) : Dev := if x.P.headD 0 = 0 then devFl (nextP x) else nextP x
set_option maxRecDepth 100000 in
theorem devFlush_any (b : Nat) (D : List Nat) (x : Dev) (w : World) (h : IsDev w b D x) :
    Calls Tryd.prog 35 #[.pointer (some ⟨b, 0, none⟩)] w fun e w' => e = .returned (.int .i64 (devR (x.P.headD 0) 21)) ∧
      ∃ D', IsDev w' b D' (devFlush x) ∧ Fr D w w' ∧ ∀ i, i ∈ D' → i ∈ D := by
  have HL := h.lt
  have hFW : Fr [] w (w.alloc (.cells #[.pointer (some ⟨b, 0, none⟩)] 25)) := (Fr.refl [] w).alloc _
  have hT := Blk.new w #[.pointer (some ⟨b, 0, none⟩)] 25
  have hnD : ¬ w.heap.size ∈ D := fun hm => Nat.lt_irrefl _ (HL _ hm)
  have hcall := devCall_any b D x 21 66 #[.pointer (some ⟨w.heap.size, 0, none⟩)] _ (h.fr hFW (by simp)) (enters_of Tryd.func66 (by kernel_rfl) rfl)
    (fun w' => ∃ D', IsDev w' b D' (devFlush x) ∧ Fr D w w' ∧ ∀ i, i ∈ D' → i ∈ D)
    (by
      intro hp w1 D1 hI1 hF1 hD1
      refine (devFlush1_any b D1 (nextP x) _ w1 hI1 (hT.fr hF1 hnD) (fun hm => hnD (hD1 _ hm))).mono ?_
      rintro e w2 ⟨rfl, D2, hI2, hF2, hD2⟩
      refine ⟨rfl, D2, ?_, ((hFW.sub (by simp)).trans hF1).trans (hF2.sub (fun i hi => .inl (hD1 i hi))), fun i hi => hD1 i (hD2 i hi)⟩
      unfold devFlush
      rw [if_pos hp]
      exact hI2)
    (by
      intro hp w1 D1 hI1 hF1 hD1
      refine ⟨D1, ?_, (hFW.sub (by simp)).trans hF1, hD1⟩
      unfold devFlush
      rw [if_neg hp]
      exact hI1)
  have HCC := Lib.hid hcall
  clear hcall
  generalize devR (x.P.headD 0) 21 = rr at *
  go_enter Tryd.func35, Tryd.ntmps35
  go_wp2_with fail
  refine HCC.out.mono ?_
  rintro e w2 ⟨rfl, hQ⟩
  go_wp2
  go_ret
  exact ⟨rfl, hQ⟩
end Go.Proofs.YtgmjhpappamenaaDoor

/- pages: Need, check. -/
namespace Go.Proofs.YtgmjhpappamenaaDoor
open Go.RowKit Go.Shelf

/-- how many pages so many entries need -/
def needN (n : Nat) : Nat := if n % 4 = 0 ∧ ¬ n / 4 = 0 then n / 4 else n / 4 + 1
theorem need_any (n : Nat) (w : World) (hn : n ≤ 4611686018427387904) :
    Calls Tryd.prog 33 #[.int .i64 (n : Nat)] w fun e w' => e = .returned (.int .i64 (needN n : Nat)) ∧ w = w' := by
  have hq : ((n : Int).tdiv 4) = (n / 4 : Nat) := rfl
  have hr : ((n : Int).tmod 4) = (n % 4 : Nat) := rfl
  unfold needN
  by_cases h1 : n % 4 = 0
  · by_cases h2 : n / 4 = 0
    · rw [if_neg (fun h => h.2 h2)]
      have b1 : decide ((0 : Int) < (n % 4 : Nat)) = false := by simp; omega
      go_enter Tryd.func33, Tryd.ntmps33
      go_wp2_with fail
      go_ret
      exact ⟨by rw [h2]; rfl, rfl⟩
    · rw [if_pos ⟨h1, h2⟩]
      go_enter Tryd.func33, Tryd.ntmps33
      go_wp2_with fail
      go_ret
      exact ⟨rfl, rfl⟩
  · rw [if_neg (fun h => h1 h.1)]
    go_enter Tryd.func33, Tryd.ntmps33
    go_wp2_with fail
    go_ret
    exact ⟨rfl, rfl⟩
/-- what is wrong with sectors of a device -/
def pgE (z : Nat) (base n : Int) : Int := if base < 0 ∨ n < 1 ∨ (z : Int) < n ∨ (z : Int) - n < base then 10 else 0
theorem pgCheck_any (b : Nat) (D : List Nat) (x : Dev) (base n : Int) (w : World) (h : IsDev w b D x) :
    Calls Tryd.prog 37 #[.pointer (some ⟨b, 0, none⟩), .int .i64 base, .int .i64 n] w fun e w' => e = .returned (.int .i64 (pgE x.F.length base n)) ∧ w = w' := by
  have hz := (by obtain ⟨bf, ov, pv, _, h⟩ := h; exact h.n2 : x.F.length ≤ 4096)
  have HS := Lib.hid (devSize_any b D x w h)
  clear h
  generalize x.F.length = z at *
  unfold pgE
  by_cases h1 : base < 0
  · rw [if_pos (.inl h1)]
    go_enter Tryd.func37, Tryd.ntmps37
    go_wp2_with fail
    go_ret
    exact ⟨rfl, rfl⟩
  · by_cases h2 : n < 1
    · rw [if_pos (.inr (.inl h2))]
      go_enter Tryd.func37, Tryd.ntmps37
      go_wp2_with fail
      go_ret
      exact ⟨rfl, rfl⟩
    · by_cases h3 : (z : Int) < n
      · rw [if_pos (.inr (.inr (.inl h3)))]
        go_enter Tryd.func37, Tryd.ntmps37
        go_wp2_with fail
        refine HS.out.mono ?_
        rintro e w1 ⟨rfl, rfl⟩
        go_wp2_with fail
        go_ret
        exact ⟨rfl, rfl⟩
      · by_cases h4 : (z : Int) - n < base
        · rw [if_pos (.inr (.inr (.inr h4)))]
          go_enter Tryd.func37, Tryd.ntmps37
          go_wp2_with fail
          refine HS.out.mono ?_
          rintro e w1 ⟨rfl, rfl⟩
          go_wp2_with fail
          refine HS.out.mono ?_
          rintro e w1 ⟨rfl, rfl⟩
          go_wp2_with fail
          go_ret
          exact ⟨rfl, rfl⟩
        · rw [if_neg (by omega)]
          go_enter Tryd.func37, Tryd.ntmps37
          go_wp2_with fail
          refine HS.out.mono ?_
          rintro e w1 ⟨rfl, rfl⟩
          go_wp2_with fail
          refine HS.out.mono ?_
          rintro e w1 ⟨rfl, rfl⟩
          go_wp2_with fail
          go_ret
          exact ⟨rfl, rfl⟩
end Go.Proofs.YtgmjhpappamenaaDoor
