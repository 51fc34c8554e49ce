/- second: Ghosts, and the law's ghosts. -/
import Derived.RangeFuncBox
import Derived.Maps.AppendAt
import Derived.Test.YthhkgknolclakaaSecJ
namespace Go.Proofs.Ythhkgknolclakaa
open Go Go.RowKit Go.Shelf Go.Maps
attribute [local go_sem] Oper.semAt_some

set_option maxRecDepth 100000 in
set_option maxHeartbeats 2000000 in
theorem values1I_in (F : Fence) (n : Nat) (h7 : F.fn 46) (hro : F.round = none) (hn : 1 ≤ n) (l Bs b len cap : Nat) (zs : List Int) (hreach : len * 8 ≤ 140737488351232) (J Jx : List Int → World → Prop)
    (hY : ∀ pre x W, J pre W → pre.length < len → YieldAt F (n - 1) Try.prog l #[.int .i64 x] W fun e W' =>
      (e = .returned (.bool true) ∧ J (pre ++ [x]) W' ∧ KpL [b] W W') ∨ (e = .returned (.bool false) ∧ Jx (pre ++ [x]) W'))
    (W : World) (hBs : W.cell? ⟨Bs, 0, none⟩ = some (.slice (some ⟨b, 0, none⟩) len cap)) (cur : Array Value) (hb : Blk W b 3 cur) (hc : ∀ j, j < len → cur[j]? = some (.int .i64 (zs[j]?.getD 0))) (h0 : J [] W) :
    CallsIn F n Try.prog 46 #[.func (.yield l) #[] #[], .pointer (some ⟨Bs, 0, none⟩)] W fun e W' => (∃ v, e = .returned v) ∧
      ((∃ ys, ys = upto (fun j => zs[j]?.getD 0) len ∧ J ys W') ∨ (∃ pre, (∃ k, k ≤ len ∧ pre = upto (fun j => zs[j]?.getD 0) k) ∧ Jx pre W')) := by
  refine callsIn_of_wp Try.func46 rfl h7 ?_ hro
  simp only [Try.ntmps46, List.size_toArray, List.length_cons, List.length_nil, Nat.reduceAdd, Nat.reduceSub, Array.replicate_succ, Array.replicate_zero, List.push_toArray, List.append_toArray, List.nil_append, List.cons_append]
  gi_wp2
  gi_loopw [7] (fun i wr => ∃ k : Nat, k ≤ len ∧ i = .int .i64 k ∧ J (upto (fun j => zs[j]?.getD 0) k) wr ∧ KpL [b] W wr)
    (fun i _ => len - (intOf i).toNat)
  case atStart => exact ⟨0, Nat.zero_le _, rfl, h0, KpL.refl _ _⟩
  case round =>
    obtain ⟨k, hk, rfl, hJs, hnx⟩ := hrel
    have hcx : k < len → wr.cell? ⟨b, k, none⟩ = some (.int .i64 (zs[k]?.getD 0)) := fun h => (hb.kp hnx (by simp)).cell (hc k h)
    by_cases hlt : k < len
    · obtain ⟨fn, tmps, assign, body, hy, hR⟩ := hY _ (zs[k]?.getD 0) wr hJs (by rw [upto_length]; exact hlt)
      have hcx' := hcx hlt
      gi_wp2
      refine hR.mono ?_
      rintro e W3 (⟨rfl, hJ3, hk3⟩ | ⟨rfl, hJx3⟩)
      · gi_wp2
        go_roundw
        case rel => exact ⟨k + 1, by omega, by simp, by rw [upto_succ]; exact hJ3, hnx.trans hk3⟩
        case measure => simp [intOf]; omega
      · gi_wp2
        refine bodyPost_ret (results_none rfl _ _ _) rfl ?_
        exact ⟨⟨_, rfl⟩, .inr ⟨_, ⟨k + 1, by omega, (upto_succ _ _).symm⟩, hJx3⟩⟩
    · obtain rfl : k = len := by omega
      gi_wp2
      go_end0
      exact ⟨⟨_, rfl⟩, .inl ⟨_, rfl, hJs⟩⟩
set_option maxRecDepth 100000 in
set_option maxHeartbeats 1000000 in
theorem values1I_nil_in (F : Fence) (n : Nat) (h7 : F.fn 46) (hro : F.round = none) (l Bs : Nat) (J : List Int → World → Prop) (W : World) (hBs : W.cell? ⟨Bs, 0, none⟩ = some (.slice none 0 0)) (h0 : J [] W) :
    CallsIn F n Try.prog 46 #[.func (.yield l) #[] #[], .pointer (some ⟨Bs, 0, none⟩)] W fun e W' => (∃ v, e = .returned v) ∧ J [] W' := by
  refine callsIn_of_wp Try.func46 rfl h7 ?_ hro
  simp only [Try.ntmps46, List.size_toArray, List.length_cons, List.length_nil, Nat.reduceAdd, Nat.reduceSub, Array.replicate_succ, Array.replicate_zero, List.push_toArray, List.append_toArray, List.nil_append, List.cons_append]
  gi_wp2
  gi_loopw [7] (fun i wr => i = .int .i64 0 ∧ J [] wr) (fun _ _ => 0)
  case atStart => exact ⟨rfl, h0⟩
  case round =>
    obtain ⟨rfl, hJs⟩ := hrel
    gi_wp2
    go_end0
    exact ⟨⟨_, rfl⟩, hJs⟩

/-- the closure of slices.Values over a box of an owned row of ints gives them all, in order, or the first ones -/
theorem values_stopsI (F : Fence) (n : Nat) (h7 : F.fn 46) (hro : F.round = none) (hn : 1 ≤ n) (Bs base : Nat) (sv : Value) (zs : List Int) (hreach : zs.length * 8 ≤ 140737488351232) (w : World)
    (hc : Blk w Bs 31 #[sv]) (hI : w.ownsRow base 3 1 sv zs.length (intC zs)) :
    SeqStopsK F n Try.prog 46 #[.pointer (some ⟨Bs, 0, none⟩)] (fun x : Int => #[Value.int .i64 x]) (KpL sv.ownBlock.toList) (fun ys => ys = zs) (fun pre => pre <+: zs) zs.length w := fun l J Jx W hW _ _ hY h0 => by
  have hc' : W.cell? ⟨Bs, 0, none⟩ = some sv := (hc.below hW hc.lt).cell rfl
  obtain ⟨_, ⟨rfl, hz, _⟩ | ⟨g, cap, cur, rfl, _, hb, _, _, _, ht⟩⟩ := owns_cases hI
  · obtain rfl : zs = [] := List.eq_nil_of_length_eq_zero hz
    exact (values1I_nil_in F n h7 hro l Bs J W hc' h0).mono fun e W' ⟨he, hj⟩ => ⟨he, .inl ⟨_, rfl, hj⟩⟩
  · refine (values1I_in F n h7 hro hn l Bs g zs.length cap zs hreach J Jx hY W hc' cur (hb.below hW hb.lt) ?_ h0).mono ?_
    · intro j hj
      exact take_get ht (by simp [intC, hj])
    · rintro e W' ⟨he, ⟨ys, rfl, hj⟩ | ⟨pre, ⟨k, hk, rfl⟩, hj⟩⟩
      · exact ⟨he, .inl ⟨_, upto_all 0 zs, hj⟩⟩
      · exact ⟨he, .inr ⟨_, by rw [upto_take 0 zs hk]; exact List.take_prefix _ _, hj⟩⟩

theorem owns_cells {w : World} {base e : Nat} {v : Value} {n : Nat} {xs : List Value} (h : w.ownsRow base e 1 v n xs) :
    ∃ oa c, v = .slice oa n c ∧ ∀ (j : Nat) (u : Value), xs[j]? = some u → ∃ g cur, oa = some ⟨g, 0, none⟩ ∧ Blk w g e cur ∧ cur[j]? = some u := by
  obtain ⟨hl, ⟨rfl, rfl, rfl⟩ | ⟨g, cap, cur, rfl, _, hb, _, _, _, ht⟩⟩ := owns_cases h
  · exact ⟨none, 0, rfl, by simp⟩
  · exact ⟨_, _, rfl, fun j u hj => ⟨g, cur, rfl, hb, take_get ht hj⟩⟩
theorem Values_any (a : Option Addr) (len cap : Nat) (w : World) :
    Calls Try.prog 45 #[.slice a len cap] w fun e w' => e = .returned (.func (.func 46) #[] #[.pointer (some ⟨w.heap.size, 0, none⟩)]) ∧ w' = w.alloc (.cells #[.slice a len cap] 31) := by
  go_enter Try.func45, Try.ntmps45
  go_wp2
  go_ret
  exact ⟨rfl, rfl⟩
def GhostsAt (w w' : World) (l : List Int) (e : Ending) : Prop := ∃ bx v, e = .returned (.func (.func 46) #[] #[.pointer (some ⟨bx, 0, none⟩)]) ∧
  Fr [] w w' ∧ Blk w' bx 31 #[v] ∧ w'.ownsRow w.heap.size 3 1 v l.length (intC l) ∧ w.heap.size ≤ bx
theorem Ghosts_nil (w : World) : Calls Try.prog 34 #[.pointer none] w fun e w' => GhostsAt w w' [] e := by
  go_enter Try.func34, Try.ntmps34
  go_wp2_with fail
  refine (Values_any _ _ _ _).mono ?_
  rintro e w' ⟨rfl, rfl⟩
  go_wp2
  go_ret
  exact ⟨_, _, rfl, (Fr.refl _ _).alloc _, Blk.new _ _ _, World.ownsRow_nil _ _ _ _, Nat.le_refl _⟩
theorem Ghosts_any {w : World} {b : Nat} {D : List Nat} {x : Clk} (h : IsClk w b D x) : Calls Try.prog 34 #[.pointer (some ⟨b, 0, none⟩)] w fun e w' => GhostsAt w w' x.G e := by
  obtain ⟨mb, lv, gv, rfl, h⟩ := h
  have hl := Nat.le_trans h.ok.few h.few
  have HC := Lib.hid (cloneI_any h.g (by omega))
  have c2 := h.blk.cell (i := 2) rfl
  obtain ⟨oa, cap, hv⟩ := plan_form h.g
  subst hv
  clear h
  go_enter Try.func34, Try.ntmps34
  go_wp2_with fail
  refine HC.out.mono ?_
  rintro e w1 ⟨v, rfl, ho, hF⟩
  obtain ⟨oa1, cap1, hv, _⟩ := owns_cells ho
  subst hv
  have HO := Lib.hid ho
  clear ho
  go_wp2_with fail
  refine (Values_any _ _ _ _).mono ?_
  rintro e w' ⟨rfl, rfl⟩
  go_wp2
  go_ret
  exact ⟨_, _, rfl, hF.alloc _, Blk.new _ _ _, HO.out.alloc _, hF.size⟩
set_option maxRecDepth 100000 in
theorem ghosts_of (a : Option Addr) (l : List Int) (w : World) (hl2 : l.length ≤ 1024)
    (hAll : ∀ w1, Fr [] w w1 → Calls Try.prog 34 #[.pointer a] w1 fun e w' => ∃ bx v, e = .returned (.func (.func 46) #[] #[.pointer (some ⟨bx, 0, none⟩)]) ∧
      Fr [] w1 w' ∧ Blk w' bx 31 #[v] ∧ w'.ownsRow w1.heap.size 3 1 v l.length (intC l) ∧ w1.heap.size ≤ bx) :
    Calls Try.prog 17 #[.pointer a] w fun e w' => ∃ v, e = .returned (.tuple #[v, .bool true]) ∧
      w'.ownsRow w.heap.size 3 1 v l.length (intC l) ∧ Fr [] w w' := by
  refine (callsIn_wide (n := 6)).1 ?_
  have hro : Fence.wide.round = none := rfl
  refine callsIn_of_wp_marks Try.func17 rfl trivial ?_ hro
  simp only [Try.ntmps17, List.size_toArray, List.length_cons, List.length_nil, Nat.reduceAdd, Nat.reduceSub, Array.replicate_succ, Array.replicate_zero, List.push_toArray, List.append_toArray, List.nil_append, List.cons_append]
  obtain ⟨i0, hi, hz0, hz1, hz2⟩ := infoInt
  have HALL := Lib.hid hAll
  clear hAll
  have hlen : l.length ≤ 1024 := hl2
  gi_wp2_with fail
  refine ⟨trivial, (callsIn_wide.2 (HALL.out _ (((Fr.refl [] w).alloc _).alloc _))).mono ?_⟩
  rintro e w1 ⟨bx, v, rfl, hF1, hbx, hown, hbx2⟩
  have hR0 := ((Blk.new w #[.slice none 0 0] 31).alloc (.cells #[.bool false] 4)).fr hF1 (by simp)
  have hR1 := (Blk.new (w.alloc (.cells #[.slice none 0 0] 31)) #[.bool false] 4).fr hF1 (by simp)
  rw [World.size_alloc] at hR1
  have hsz : w.heap.size + 2 ≤ w1.heap.size := by have := hF1.size; simpa using this
  have hglt := owns_block_lt hown
  have hbxlt := hbx.lt
  obtain ⟨zs, hzs⟩ : ∃ zs, zs = l := ⟨_, rfl⟩
  rw [← hzs] at hown hlen
  have HZ := Lib.hid hzs
  clear hzs
  have hF0 : Fr [] w w1 := (((Fr.refl [] w).alloc _).alloc _).trans (hF1.sub (by simp))
  have qf : ∀ (W : World) x y, (binOp .eql 70 (.func (.func 46) x y) .nilFunc).run Try.prog W = .ok (.bool false) W := fun W x y => run_eql_func_nil W _ _ x y Try.underlying70
  gi_wp2
  clear qf
  obtain ⟨W2, hW2⟩ : ∃ W2, W2 = w1.alloc (.cells #[.slice none 0 0] 31) := ⟨_, rfl⟩
  rw [← hW2]
  have hO : Blk W2 w1.heap.size 31 #[.slice none 0 0] := by rw [hW2]; exact Blk.new _ _ _
  have hs2 : W2.heap.size = w1.heap.size + 1 := by rw [hW2]; simp
  have hbx2 : Blk W2 bx 31 #[v] := by rw [hW2]; exact hbx.alloc _
  have hown2 : W2.ownsRow ((w.alloc (.cells #[.slice none 0 0] 31)).alloc (.cells #[.bool false] 4)).heap.size 3 1 v zs.length (intC zs) := by rw [hW2]; exact hown.alloc _
  have hR0' : Blk W2 w.heap.size 31 #[.slice none 0 0] := by rw [hW2]; exact hR0.alloc _
  have hR1' : Blk W2 (w.heap.size + 1) 4 #[.bool false] := by rw [hW2]; exact hR1.alloc _
  have hF02 : Fr [] w W2 := by rw [hW2]; exact hF0.alloc _
  clear hW2
  have HS2 := Lib.hid hs2
  clear hs2
  refine wpIn_rangeFunc_ownG hro (by omega) (gf := 46) (lb := #[.pointer (some ⟨bx, 0, none⟩)]) rfl trivial (enters_of Try.func46 (by kernel_rfl) rfl)
    (values_stopsI Fence.wide (6 - 1) trivial hro (by omega) bx _ v zs (by omega) W2 hbx2 hown2) KpL.trans (KpL.put (owns_block_lt hown2)) (Below.refl _ _) (fun _ => rfl)
    (fun pre W => (∃ v, Blk W w1.heap.size 31 #[v] ∧ W.ownsRow (w1.heap.size + 1) 3 1 v pre.length (intC pre)) ∧ Fr [w1.heap.size] W2 W)
    (fun _ _ _ => False)
    (Stable.own fun s => (Stable.ex fun x => (Stable.blk _ _ _ _).and (Stable.owns _ _ _ _ _ _ _)).and (Stable.fr _ _ (Nat.le_refl _)))
    (fun c => Stable.own fun s => Stable.pure _ _)
    ⟨⟨_, hO, World.ownsRow_nil _ _ _ _⟩, Fr.refl _ _⟩ ?a1 ?assign ?body ?done ?stop
  case assign =>
    intro l x W K hK
    gi_wp2
    exact hK
  case body =>
    rintro l0 pre x W ⟨⟨u, hb, hu⟩, hF⟩ hpre
    have hc := hb.cell (i := 0) rfl
    have hf := hb.frozen 0
    have hWl := hb.lt
    have HO := Lib.hid hu
    have hge := owns_ge hu
    have hlt := owns_block_lt hu
    clear hu
    have hpl : pre.length < 1024 := by omega
    have b1 : decide ((1100 : Int) < (pre.length : Nat) + 1) = false := by simp; omega
    gi_wp2_with (gi_at_builtin; refine wpListIn_append_own _ rfl _ _ 31 rfl (w1.heap.size + 1) 3 i0 (.int .i64 0) 1 8 Try.underlying31 hi hz0 hz1 hz2 rfl (by decide) _ _ _ rfl (HO.out.alloc _) ⟨W.heap.size, 0, none⟩ 1 1 [.int .i64 x] rfl rfl ?c1 ?c2 ?c3 ?c4 ?c5 ?_)
    case c1 => exact new_cells _ _ _ _ rfl
    case c2 => simp [Value.oneCell']
    case c3 => unfold maxLen; omega
    case c4 => omega
    case c5 => simp; omega
    intro v' w3 hown' hgrow _
    obtain ⟨g', cap', hv⟩ : ∃ g' cap', v' = .slice (some ⟨g', 0, none⟩) (pre.length + 1) cap' := by
      obtain ⟨_, ⟨h1, h2, _⟩ | ⟨g', cap', _, h1, _⟩⟩ := owns_cases hown'
      · omega
      · exact ⟨g', cap', h1⟩
    rw [hv] at hown' ⊢
    clear hv
    have hF3 : Fr (u.ownBlock.toList) W w3 := ((Fr.refl (u.ownBlock.toList) W).alloc _).grown hgrow (fun g hg => .inl (by simp [hg]))
    have hbn : ¬ w1.heap.size ∈ u.ownBlock.toList := by
      intro hm
      have := hge w1.heap.size (by simpa using hm)
      omega
    have hb3 := hb.fr hF3 hbn
    have hc3 := hb3.cell (i := 0) rfl
    have hf3 := hb3.frozen 0
    gi_wp2
    have h2 := HS2.out
    have hF4 : Fr (w1.heap.size :: u.ownBlock.toList) W (w3.setCell ⟨w1.heap.size, 0, none⟩ (.slice (some ⟨g', 0, none⟩) (pre.length + 1) cap')) :=
      (hF3.sub (T := w1.heap.size :: u.ownBlock.toList) (fun i hi => .inl (by simp at hi ⊢; exact .inr hi))).setCell _ (by simp) _
    have hge' : ∀ i, i ∈ u.ownBlock.toList → w1.heap.size + 1 ≤ i := fun i hi => hge i (by simpa using hi)
    refine ⟨hF4.keeps ?_, KpL.of_fr hF4 ?_, ⟨_, hb3.set 0 _, ?_⟩, hF.comp hF4 ?_⟩
    · intro r hr
      rcases List.mem_cons.1 hr with rfl | hr
      · exact .inl (by omega)
      · exact .inr (.inr (let ⟨c, hc⟩ := owns_is_blk HO.out r hr; ⟨_, c, hc⟩))
    · intro k hk hm
      have h3 := hglt k hk
      rcases List.mem_cons.1 hm with rfl | hm
      · omega
      · have := hge' k hm; omega
    · have := owns_fr hown' ((Fr.refl [w1.heap.size] w3).setCell ⟨w1.heap.size, 0, none⟩ (by simp) (.slice (some ⟨g', 0, none⟩) (pre.length + 1) cap')) (fun g hg => by have := owns_ge hown' g hg; simp; omega)
      simpa [intC] using this
    · intro i hi
      rcases List.mem_cons.1 hi with rfl | hi
      · simp
      · exact .inr (by have := hge' i hi; omega)
  case done =>
    rintro D ys W hD rfl ⟨⟨u, hb, hu⟩, hF⟩ hK
    have h2 := HS2.out
    have hc := hb.cell (i := 0) rfl
    have q0 := hR0'.fr hF (by simp; omega)
    have q1 := hR1'.fr hF (by simp; omega)
    have hr0 := q0.cell (i := 0) rfl
    have hr1 := q1.cell (i := 0) rfl
    have fr0 := q0.frozen 0
    have fr1 := q1.frozen 0
    have hu' := owns_base hu (show w.heap.size ≤ w1.heap.size + 1 by omega)
    have hFz : Fr [] w W := hF02.comp hF (by simp; omega)
    obtain ⟨oa, ca, hv, _⟩ := owns_cells hu
    rw [hv] at hc hu'
    have HV := Lib.hid hv
    clear hv
    gi_wp2
    have hv := HV.out
    obtain ⟨W3, hW3⟩ : ∃ W3, W3 = (W.setCell ⟨w.heap.size, 0, none⟩ (.slice oa ys.length ca)).setCell ⟨w.heap.size + 1, 0, none⟩ (.bool true) := ⟨_, rfl⟩
    have B0 : Blk W3 w.heap.size 31 #[.slice oa ys.length ca] := by rw [hW3]; exact (q0.set 0 _).set_ne _ _ (by simp)
    have B1 : Blk W3 (w.heap.size + 1) 4 #[.bool true] := by rw [hW3]; exact (q1.set_ne _ _ (by simp)).set 0 _
    have hF3 : Fr [w.heap.size, w.heap.size + 1] W W3 := by rw [hW3]; exact ((Fr.refl _ _).setCell _ (by simp) _).setCell _ (by simp) _
    have hK3 : W3.heap[D]? = some (.deferred (some [])) := (hF3.block D (Array.getElem?_eq_some_iff.1 hK).1 (by simp; omega)).trans hK
    have hP : Fr [D] W3 (W3.putObj D (.deferred none)) := (Fr.refl [D] W3).put' D (by simp) _
    have C0 := (B0.fr hP (by simp; omega)).cell (i := 0) rfl
    have C1 := (B1.fr hP (by simp; omega)).cell (i := 0) rfl
    rw [← hW3]
    refine ⟨by simp, .inl ⟨_, _, rfl, run_takeDeferred hK3, ?_⟩⟩
    refine ⟨.tuple #[.slice oa ys.length ca, .bool true], by simp [results, Try.results17, go_sem, C0, C1], ?_⟩
    have hZ := HZ.out
    refine ⟨_, rfl, ?_, ((hFz.comp hF3 (by simp)).put D (by omega) _)⟩
    have hown3 : W3.ownsRow (w1.heap.size + 1) 3 1 (.slice oa ys.length ca) ys.length (intC ys) := owns_fr (hv ▸ hu) hF3 (fun g hg => by have := owns_ge (hv ▸ hu) g hg; simp; omega)
    have hown4 := owns_base (owns_fr hown3 hP (fun g hg => by
      obtain ⟨c, hc⟩ := owns_is_blk hown3 g (by simp [hg])
      intro e
      obtain rfl : g = D := by simpa using e
      unfold Blk at hc
      rw [hK3] at hc
      cases hc)) (show w.heap.size ≤ w1.heap.size + 1 by omega)
    rw [← hZ]
    exact hown4
  case stop =>
    rintro D c pre W _ _ h _
    exact h.elim

end Go.Proofs.Ythhkgknolclakaa
