/- second: Evict. -/
import Derived.Test.YthhkgknolclakaaSecH
namespace Go.Proofs.Ythhkgknolclakaa
open Go Go.RowKit Go.Shelf Go.Maps

/-- a key may go, by a step -/
def goB (s k : Int) : Bool := decide (s ≤ 0) || !decide (k.tmod s = 0)
theorem may_any (s k : Int) (w : World) :
    Calls Try.prog 20 #[.agg #[.int .i64 s], .int .i64 k] w fun e w' => e = .returned (.bool (goB s k)) ∧ Fr [] w w' := by
  by_cases h : s ≤ 0
  · have e : goB s k = true := by simp [goB, h]
    rw [e]
    have e1 : decide (s ≤ 0) = true := by simpa using h
    clear e
    go_enter Try.func20, Try.ntmps20
    go_wp2
    go_ret
    exact ⟨rfl, (Fr.refl [] w).alloc _⟩
  · have e1 : decide (s ≤ 0) = false := by simpa using h
    have e2 : ¬ s = 0 := by omega
    by_cases hk : k.tmod s = 0
    · have e : goB s k = false := by simp [goB, e1, hk]
      rw [e]
      clear e
      go_enter Try.func20, Try.ntmps20
      go_wp2
      go_ret
      exact ⟨rfl, (Fr.refl [] w).alloc _⟩
    · have e : goB s k = true := by simp [goB, e1, hk]
      rw [e]
      have e3 : (k.tmod s != 0) = true := by simpa using hk
      clear e
      go_enter Try.func20, Try.ntmps20
      go_wp2
      go_ret
      exact ⟨rfl, (Fr.refl [] w).alloc _⟩
theorem dropK_head {k : Int} {a : Bool} {r : List (Int × Bool)} (hn : ¬ k ∈ kofs r) : dropK ((k, a) :: r) k = r := by
  unfold dropK
  rw [List.filter_cons_of_neg (by simp)]
  refine List.filter_eq_self.2 fun p hp => ?_
  simp only [bne_iff_ne, ne_eq]
  exact fun e => hn (mem_kofs.2 ⟨p.2, by rw [← e]; exact hp⟩)
theorem setAsk_head {k : Int} {a c : Bool} {r : List (Int × Bool)} (hn : ¬ k ∈ kofs r) : setAsk ((k, a) :: r) k c = (k, c) :: r := by
  unfold setAsk
  rw [List.map_cons]
  congr 1
  · simp
  · refine (List.map_congr_left fun p hp => ?_).trans (List.map_id r)
    rw [if_neg (fun e : p.1 = k => hn (mem_kofs.2 ⟨p.2, by rw [← e]; exact hp⟩))]
    rfl
theorem lookAt {w : World} {b mb : Nat} {lv gv : Value} {x : Clk} (h : ClkAt w b mb lv gv x) {k : Int} {a : Bool} {r : List (Int × Bool)} (hx : x.L = (k, a) :: r) :
    ∃ pb off cap, lv = .slice (some ⟨pb, off, none⟩) (r.length + 1) cap ∧ w.cell? ⟨pb, off, none⟩ = some (.int .i64 k) ∧ (Lit.int .i64 k).wf = true ∧ ¬ k ∈ kofs r := by
  have hks : x.ks = k :: r.map (·.1) := by simp [Clk.ks, hx]
  obtain ⟨oa, cap, rfl, h1, h2, h3⟩ := h.l
  have hl : x.ks.length = r.length + 1 := by rw [hks]; simp
  obtain ⟨pb, off, rfl, _, hc⟩ := h3 (by omega)
  have hn := h.ok.nl
  rw [hks, List.nodup_cons] at hn
  refine ⟨pb, off, cap, by rw [hl], ?_, h.wf k (by rw [hks]; simp), hn.1⟩
  have := hc 0 (by omega)
  simpa [hks] using this
theorem lastN_len (n : Nat) (l : List Int) : (lastN n l).length ≤ n := by
  unfold lastN
  rw [List.length_drop]
  omega
/-- the key that went is a ghost -/
theorem gone_ok {x : Clk} (h : x.Ok) {k : Int} (hk : ¬ k ∈ kofs x.L) (hg : ¬ k ∈ x.G) : ({ x with G := lastN x.few (x.G ++ [k]) } : Clk).Ok := by
  have hs : ∀ j, j ∈ lastN x.few (x.G ++ [k]) → j ∈ x.G ++ [k] := fun j hj => List.mem_of_mem_drop hj
  refine ⟨h.nl, ?_, fun j hj hm => ?_, h.most, lastN_len _ _⟩
  · refine List.Nodup.sublist (List.drop_sublist _ _) ?_
    rw [List.nodup_append]
    refine ⟨h.ng, by simp, fun a ha c hc e => ?_⟩
    simp at hc
    exact hg (by rw [← hc, ← e]; exact ha)
  · rcases List.mem_append.1 (hs j hm) with h1 | h1
    · exact h.sep j hj h1
    · simp at h1
      exact hk (h1 ▸ hj)
set_option maxHeartbeats 1000000 in
theorem Evict_any {w : World} {b : Nat} {D : List Nat} {x : Clk} (h : IsClk w b D x) (s : Int) :
    Calls Try.prog 19 #[.pointer (some ⟨b, 0, none⟩), .func (.func 20) #[.agg #[.int .i64 s]] #[]] w fun e w' =>
      e = .returned (.tuple #[.int .i64 (ckEvict x (goB s)).2.1, .int .i64 (ckEvict x (goB s)).2.2]) ∧ ∃ D', Turn w w' b D (ckEvict x (goB s)).1 D' := by
  generalize hres : ckEvict x (goB s) = R
  have HRes := Lib.hid hres
  have hlen : x.L.length ≤ 1024 := Nat.le_trans h.ok.most (h.elim fun _ ⟨_, _, _, h⟩ => h.most)
  have HH := Lib.hid h
  have eg : ∀ args w, (callFunc 20 args).run Try.prog w = .ok (.enter 20 args) w := enters_of Try.func20 (by kernel_rfl) rfl
  obtain ⟨c0, hc0⟩ : ∃ oa cap, w.cell? ⟨b, 0, none⟩ = some (.slice oa x.L.length cap) := by
    obtain ⟨mb, lv, gv, rfl, h⟩ := h
    obtain ⟨oa, cap, hv⟩ := plan_form h.l
    have := h.blk.cell (i := 0) rfl
    rw [hv, ks_len] at this
    exact ⟨_, _, this⟩
  obtain ⟨cap0, hc0⟩ := hc0
  clear h hres
  have qf : ∀ (W : World) x y, (binOp .eql 36 (.func (.func 20) x y) .nilFunc).run Try.prog W = .ok (.bool false) W := fun W x y => run_eql_func_nil W _ _ x y Try.underlying36
  go_enter Try.func19, Try.ntmps19
  go_wp2_with fail
  apply wp_scope_straight
  go_wp2_with fail
  refine wp_label ?_
  go_wp2_with fail
  generalize hn : x.L.length = n at *
  have HR0 : evictN (goB s) (2 * n) x = R := by rw [← hn]; exact HRes.out
  have HR := Lib.hid HR0
  have HN := Lib.hid hn
  clear HRes HR0 hc0 hn qf
  go_loopw [7, 21] (fun _ i wr => ∃ (k : Nat) (D' : List Nat) (x' : Clk), i = .int .i64 k ∧ k ≤ 2 * n ∧ Turn w wr b D x' D' ∧ x'.L.length = n ∧ evictN (goB s) (2 * n - k) x' = R) (fun _ i _ => 2 * n - (intOf i).toNat)
  case atStart => exact ⟨0, D, x, rfl, by omega, Turn.refl HH.out, HN.out, HR.out⟩
  case round =>
    obtain ⟨k, D1, x1, rfl, hk, hT, hl1, hE⟩ := hrel
    by_cases hlt : k < 2 * n
    · obtain ⟨m, hm⟩ : ∃ m, 2 * n - k = m + 1 := ⟨2 * n - k - 1, by omega⟩
      rw [hm] at hE
      obtain ⟨mb, lv, gv, rfl, h1⟩ := hT.is
      cases hL : x1.L with
      | nil => rw [hL] at hl1; simp at hl1; omega
      | cons p r =>
        obtain ⟨k1, a1⟩ := p
        obtain ⟨pb, off, cap, rfl, hc, hwf, hni⟩ := lookAt h1 hL
        have c0 := h1.blk.cell (i := 0) rfl
        have b0 : decide ((k : Int) < 2 * (n : Int)) = true := by simp; omega
        have HT := Lib.hid hT
        have H1 := Lib.hid h1
        have HL := Lib.hid hL
        have HE := Lib.hid hE
        clear hT h1 hL hE
        cases hmay : goB s k1
        · have HM := Lib.hid hmay
          clear hmay
          go_wp2_with fail
          refine (may_any s k1 wr).mono ?_
          rintro e w1 ⟨rfl, hF1⟩
          have HF1 := Lib.hid hF1
          rw [HM.out]
          clear hF1 c0 hc
          go_wp2_with fail
          refine (pass_any (x := x1) ⟨mb, _, gv, rfl, H1.out.fr HF1.out (by simp)⟩ HL.out).mono ?_
          rintro e w2 ⟨rfl, D2, hT2⟩
          have HT2 := Lib.hid hT2
          clear hT2
          go_wp2_with fail
          go_roundw
          case rel =>
            have hT := HT.out
            have hT2 := HT2.out
            have hF1 := HF1.out
            have hE := HE.out
            rw [evictN, HL.out] at hE
            simp only [HM.out, if_true] at hE
            refine ⟨k + 1, D2, _, by go_num, by omega, ⟨hT2.is, (hT.fr.comp (hF1.sub (T := []) (by simp)) (by simp)).comp hT2.fr hT.sub, fun i hi => ?_⟩, ?_, ?_⟩
            · rcases hT2.sub i hi with h | h
              · exact hT.sub i h
              · exact .inr (Nat.le_trans hT.fr.size (Nat.le_trans hF1.size h))
            · rw [HL.out] at hl1
              simpa using hl1
            · rw [show 2 * n - (k + 1) = m by omega]
              exact hE
          case measure => simp [intOf]; omega
        · have HM := Lib.hid hmay
          clear hmay
          cases a1
          · obtain ⟨M, hM, hMI⟩ := H1.out.map
            have c1 := H1.out.blk.cell (i := 1) rfl
            rw [HL.out] at hM hMI
            have HMI := Lib.hid hMI
            clear hMI
            go_wp2_with fail
            refine (may_any s k1 wr).mono ?_
            rintro e w1 ⟨rfl, hF1⟩
            have HF1 := Lib.hid hF1
            rw [HM.out]
            have c1' : w1.cell? ⟨b, 1, none⟩ = some (.map (some mb)) := cell_fr hF1 (by simp) c1
            have hM1 := owns_map_fr hM hF1 (by simp)
            clear hF1 c0 hc c1 hM
            go_wp2_with (at_lookup; refine wpList_lookup_own_int _ rfl _ _ 59 rfl 3 3 .i64 lawI Try.underlying59 Try.underlying3 (zeroI _) mb _ _ rfl hM1 _ _ rfl (keyOf_int_mk Try.underlying3 hwf) ?_; intro c hat hwc; obtain rfl : c = 0 := by have := (HMI.out.at_ k1 false (by simp)).symm.trans hat; simpa using this.symm)
            clear hM1 c1'
            have hkx : ckHas x1 k1 = true := ckHas_mem.2 (by rw [HL.out]; simp [kofs])
            have hdx : ckDrop x1 k1 = { x1 with L := r } := by
              rw [ckDrop, if_pos hkx, HL.out, dropK_head hni]
            have hdr := Drop_any (x := x1) ⟨mb, _, gv, rfl, H1.out.fr HF1.out (by simp)⟩ hwf
            rw [hkx, if_pos rfl, hdx] at hdr
            clear hkx
            refine hdr.mono ?_
            clear hdr
            rintro e w2 ⟨rfl, D2, hT2⟩
            obtain ⟨mb2, lv2, gv2, hD2, h2⟩ := hT2.is
            have hgl : x1.G.length ≤ 1024 := Nat.le_trans h2.ok.few h2.few
            obtain ⟨a', c', w3, hrun, hP3, hF3, hO3⟩ := append_one (l := x1.G) h2.g (by omega) k1
            have c2 := h2.blk.cell (i := 2) rfl
            have hB3 := h2.blk.fr hF3 (by intro hi; exact (h2.ng b (by simpa using hi)).1 rfl)
            obtain ⟨oa2, cap2, hv2⟩ := plan_form h2.g
            subst hv2
            have HT2 := Lib.hid hT2
            have H2 := Lib.hid h2
            have HD2 := Lib.hid hD2
            have HP3 := Lib.hid hP3
            have HF3 := Lib.hid hF3
            have HO3 := Lib.hid hO3
            have HR3 := Lib.hid hrun
            clear hT2 h2 hD2 hP3 hF3 hO3 hrun hdx
            go_wp2_with first
              | (at_builtin; refine wpList_run_append _ rfl _ _ _ _ rfl _ _ rfl rfl _ _ HR3.out ?_)
              | (refine wpList_put (i := 2) rfl rfl hB3 rfl rfl rfl (by kernel_rfl) (by simp) ?_; intro w4 hB4' hF4 hs4; clear hs4; have hB4 : Blk w4 b 61 #[lv2, .map (some mb2), .slice a' (x1.G.length + 1) c', .int .i64 x1.most, .int .i64 x1.few] := hB4'; clear hB4')
            have hd4 := drop_own a' (x1.G.length + 1 - x1.few) (x1.G.length + 1) (x1.G.length + 1 - (x1.G.length + 1 - x1.few)) c' (c' - (x1.G.length + 1 - x1.few))
            have hpl : PlanAt w4 (.slice a' (x1.G.length + 1) c') (x1.G ++ [k1]) := plan_fr HP3.out hF4 (by
              intro g hg hb
              have hgb : g = b := by simpa using hb
              subst hgb
              rcases HO3.out with e | ⟨i, e, h1, _⟩
              · exact (H2.out.ng g (e ▸ hg)).1 rfl
              · rw [hg] at e
                cases e
                have := H2.out.blk.lt
                omega)
            generalize hm1 : x1.G.length + 1 - x1.few = m1 at *
            obtain ⟨n1, hn1⟩ : ∃ n1, x1.G.length + 1 = n1 + m1 := ⟨x1.G.length + 1 - m1, by omega⟩
            have hsl0 := hpl
            rw [hn1] at hsl0
            obtain ⟨hpd, hle1⟩ := plan_drop hsl0
            have hsl := fun w0 => run_slice_from w0 a' m1 n1 c' hle1
            rw [← hn1] at hsl
            have HSL := Lib.hid (show ∀ w0 : World, (Instr.sliceAt 31 (.slice a' (x1.G.length + 1) c') (some (.int .i64 m1)) none none).run Try.prog w0 = _ from hsl)
            rw [hn1, Nat.add_sub_cancel] at hd4
            rw [← hn1] at hd4
            have hlast : (x1.G ++ [k1]).drop m1 = lastN x1.few (x1.G ++ [k1]) := by
              unfold lastN
              rw [List.length_append, List.length_singleton, hm1]
            rw [hlast] at hpd
            generalize Value.slice (if c' = m1 then a' else Option.map (fun x : Addr => x.add m1) a') n1 (c' - m1) = v5 at *
            obtain ⟨oa5, cap5, hv5⟩ := plan_form hpd
            generalize (lastN x1.few (x1.G ++ [k1])).length = n5 at hv5
            subst hv5
            have hfl : x1.few ≤ 1024 := H2.out.few
            have hm2 : max (0 : Int) (IntKind.i64.wrap ((x1.G.length : Int) + 1 - (x1.few : Int))) = (m1 : Int) := by
              rw [IntKind.wrap_i64]
              omega
            have HM2 := Lib.hid hm2
            clear hm2
            have cb := hB4.cell (i := 2) rfl
            have fb := hB4.frozen 2
            have HPD := Lib.hid hpd
            have HD4 := Lib.hid hd4
            have HF4 := Lib.hid hF4
            clear hpd hd4 hF4 hpl hsl hsl0 hlast hn1 hm1 hle1
            refine region_tail [17,18,19] [] (.take 0 (.take 1 (.take 2 (.take 3 (.take 4 (.take 5 (.take 6 (.take 7 (.take 8 (.take 9 (.take 10 (.take 11 (.take 12 (.take 13 (.take 14 (.take 15 (.take 16 (.last 17 (.last 18 (.last 19 .done)))))))))))))))))))) (by kernel_rfl) (by kernel_rfl) ?_
            simp only [ordList, Ord.map, List.getD_cons_zero, List.getD_cons_succ]
            refine' ord_pure (v := _) ?_ rfl ?_; rotate_left; focus (intro w; go_simp <;> (first | (with_reducible rfl) | (constructor <;> with_reducible rfl)))
            simp only [Act.put, List.setIfInBounds_toArray, List.set_cons_zero, List.set_cons_succ]
            refine' ord_pure (v := _) ?_ rfl ?_; rotate_left; focus (intro w; go_simp <;> (first | (with_reducible rfl) | (constructor <;> with_reducible rfl)))
            simp only [Act.put, List.setIfInBounds_toArray, List.set_cons_zero, List.set_cons_succ]
            refine' ord_pure (v := _) ?_ rfl ?_; rotate_left; focus (intro w; go_simp <;> (first | (with_reducible rfl) | (constructor <;> with_reducible rfl)))
            simp only [Act.put, List.setIfInBounds_toArray, List.set_cons_zero, List.set_cons_succ]
            refine' ord_pure (v := _) ?_ rfl ?_; rotate_left; focus (intro w; go_simp <;> (first | (with_reducible rfl) | (constructor <;> with_reducible rfl)))
            simp only [Act.put, List.setIfInBounds_toArray, List.set_cons_zero, List.set_cons_succ]
            refine ord_cell hB4 (by simp) rfl rfl (by kernel_rfl) rfl rfl ?_
            simp only [Act.put, List.getElem_toArray, List.getElem_cons_zero, List.getElem_cons_succ, List.setIfInBounds_toArray, List.set_cons_zero, List.set_cons_succ]
            refine' ord_pure (v := _) ?_ rfl ?_; rotate_left; focus (intro w; go_simp <;> (first | (with_reducible rfl) | (constructor <;> with_reducible rfl)))
            simp only [Act.put, List.setIfInBounds_toArray, List.set_cons_zero, List.set_cons_succ]
            refine' ord_pure (v := _) ?_ rfl ?_; rotate_left; focus (intro w; go_simp <;> (first | (with_reducible rfl) | (constructor <;> with_reducible rfl)))
            simp only [Act.put, List.setIfInBounds_toArray, List.set_cons_zero, List.set_cons_succ]
            refine' ord_pure (v := _) ?_ rfl ?_; rotate_left; focus (intro w; go_simp <;> (first | (with_reducible rfl) | (constructor <;> with_reducible rfl)))
            simp only [Act.put, List.setIfInBounds_toArray, List.set_cons_zero, List.set_cons_succ]
            refine ord_cell hB4 (by simp) rfl rfl (by kernel_rfl) rfl rfl ?_
            simp only [Act.put, List.getElem_toArray, List.getElem_cons_zero, List.getElem_cons_succ, List.setIfInBounds_toArray, List.set_cons_zero, List.set_cons_succ]
            refine' ord_pure (v := _) ?_ rfl ?_; rotate_left; focus (intro w; go_simp <;> (first | (with_reducible rfl) | (constructor <;> with_reducible rfl)))
            simp only [Act.put, List.setIfInBounds_toArray, List.set_cons_zero, List.set_cons_succ]
            refine' ord_pure (v := _) ?_ rfl ?_; rotate_left; focus (intro w; go_simp <;> (first | (with_reducible rfl) | (constructor <;> with_reducible rfl)))
            simp only [Act.put, List.setIfInBounds_toArray, List.set_cons_zero, List.set_cons_succ]
            refine' ord_pure (v := _) ?_ rfl ?_; rotate_left; focus (intro w; go_simp <;> (first | (with_reducible rfl) | (constructor <;> with_reducible rfl)))
            simp only [Act.put, List.setIfInBounds_toArray, List.set_cons_zero, List.set_cons_succ]
            refine' ord_pure (v := _) ?_ rfl ?_; rotate_left; focus (intro w; go_simp <;> (first | (with_reducible rfl) | (constructor <;> with_reducible rfl)))
            simp only [Act.put, List.setIfInBounds_toArray, List.set_cons_zero, List.set_cons_succ]
            refine ord_cell hB4 (by simp) rfl rfl (by kernel_rfl) rfl rfl ?_
            simp only [Act.put, List.getElem_toArray, List.getElem_cons_zero, List.getElem_cons_succ, List.setIfInBounds_toArray, List.set_cons_zero, List.set_cons_succ]
            refine' ord_pure (v := _) ?_ rfl ?_; rotate_left; focus (intro w; go_simp <;> (first | (with_reducible rfl) | (constructor <;> with_reducible rfl)))
            simp only [Act.put, List.setIfInBounds_toArray, List.set_cons_zero, List.set_cons_succ]
            -- 15: t79 := CALL builtin Builtin.max(0, t78)   {14}
            refine' ord_pure (v := .int .i64 m1) (fun w0 => ?_) rfl ?_
            focus (go_simp; exact HM2.out)
            simp only [Act.put, List.setIfInBounds_toArray, List.set_cons_zero, List.set_cons_succ]
            -- 16: t80 := slice <[]int> t68 some(t79) none none   {4,15}
            refine ord_slice HSL.out rfl rfl rfl rfl ?_
            simp only [Act.put, List.setIfInBounds_toArray, List.set_cons_zero, List.set_cons_succ]
            -- 17: t81 := nilCheck t64   {0,1,2,3,4,5,6,7,8,9,10,11,12,13,14,15,16}
            refine' ord_last_pure (v := _) ?_ rfl ?_; rotate_left; focus (intro w; go_simp <;> (first | (with_reducible rfl) | (constructor <;> with_reducible rfl)))
            simp only [Act.put, List.setIfInBounds_toArray, List.set_cons_zero, List.set_cons_succ]
            -- 18: t82 := fieldAddr <second.Clock[int] = lavabo/second.Clock[int]> t81 2   {0,1,2,3,4,5,6,7,8,9,10,11,12,13,14,15,16,17}
            refine' ord_last_pure (v := _) ?_ rfl ?_; rotate_left; focus (intro w; go_simp <;> (first | (with_reducible rfl) | (constructor <;> with_reducible rfl)))
            simp only [Act.put, List.setIfInBounds_toArray, List.set_cons_zero, List.set_cons_succ]
            -- 19: t_ := store <[]int> t82 t80   {0,1,2,3,4,5,6,7,8,9,10,11,12,13,14,15,16,18}
            refine' ord_last_skip (w' := w4.drew.setCell ⟨b, 2, none⟩ (.slice oa5 n5 cap5)) ?_ rfl ?_
            focus (go_simp)
            simp only [Act.put, List.setIfInBounds_toArray, List.set_cons_zero, List.set_cons_succ]
            refine ord_nil ?_
            go_wp2_with fail
            rw [Exit.noGoto_ret]
            go_ret2
            have h2 := H2.out
            have hT2 := HT2.out
            have hT := HT.out
            have hF1 := HF1.out
            have hF3 := HF3.out
            have hO3 := HO3.out
            have hF4 := HF4.out
            have hP5 := HPD.out
            have hO5 := HD4.out
            have hE := HE.out
            rw [evictN, HL.out] at hE
            simp only [HM.out] at hE
            have hE : (({ x1 with L := r, G := lastN x1.few (x1.G ++ [k1]) } : Clk), k1, (0 : Int)) = R := by simpa using hE
            subst hE
            refine ⟨rfl, ?_⟩
            have hF5 : Fr [b] w4 (w4.drew.setCell ⟨b, 2, none⟩ (.slice oa5 n5 cap5)) := (Fr.refl _ _).drew.setCell _ (by simp) _
            have hB5 := hB4.drew.set 2 (.slice oa5 n5 cap5)
            have hng : ¬ k1 ∈ x1.G := H1.out.ok.sep k1 (by simp [Clk.ks, HL.out])
            have hok := gone_ok h2.ok (k := k1) hni hng
            clear HSL HM2 HE HM HT HF1 HT2 H2 HP3 HF3 HO3 HR3 HPD HD4 HF4 H1 HL c2 cb fb hB3 hB4 HMI
            generalize Value.slice a' (x1.G.length + 1) c' = v3 at *
            generalize Value.slice oa5 n5 cap5 = v5 at *
            generalize Value.slice oa2 x1.G.length cap2 = gv2 at *
            generalize Value.slice (some ⟨pb, off, none⟩) (r.length + 1) cap = lv at *
            have hb2 := h2.blk.lt
            have hm2 := h2.map.lt
            have hv : ∀ g, v5.ownBlock = some g → ¬ g = b ∧ ¬ g = mb2 ∧ ¬ lv2.ownBlock = some g := by
              intro g hg
              rw [hO5] at hg
              rcases hO3 with e | ⟨i, e, h1, _⟩
              · rw [e] at hg
                exact ⟨(h2.ng g hg).1, (h2.ng g hg).2.1, fun e => (h2.nl g e).2.2.1 hg⟩
              · rw [hg] at e
                cases e
                exact ⟨by omega, by omega, fun e => by have := (h2.nl g e).2.2.2; omega⟩
            have hg3 : ∀ i, i ∈ gv2.ownBlock.toList → ¬ i = b ∧ ¬ i = mb2 ∧ ¬ lv2.ownBlock = some i := by
              intro i hi
              have hi : gv2.ownBlock = some i := by simpa using hi
              exact ⟨(h2.ng i hi).1, (h2.ng i hi).2.1, fun e => (h2.nl i e).2.2.1 hi⟩
            obtain ⟨D5, T5⟩ := turn_of (w' := w4.drew.setCell ⟨b, 2, none⟩ v5) (lv' := lv2) (gv' := v5) h2 { x1 with L := r, G := lastN x1.few (x1.G ++ [k1]) } rfl rfl hok h2.wf (by simpa using hB5)
              (((h2.map.fr hF3 (fun hi => (hg3 _ hi).2.1 rfl)).fr hF4 (by simpa using fun e => h2.ne e.symm)).fr hF5 (by simpa using fun e => h2.ne e.symm))
              (plan_fr (plan_fr (plan_fr h2.l hF3 (fun g hg hi => (hg3 _ hi).2.2 hg)) hF4 (fun g hg => by simpa using (h2.nl g hg).1)) hF5 (fun g hg => by simpa using (h2.nl g hg).1))
              (plan_fr hP5 hF5 (fun g hg => by simpa using (hv g hg).1))
              (((hF3.sub (T := clkD b mb2 lv2 gv2) (fun i hi => .inl (mem_clkD.2 (.inr (.inr (.inr (by simpa using hi))))))).trans (hF4.sub (fun i hi => .inl (mem_clkD.2 (.inl (by simpa using hi)))))).trans (hF5.sub (fun i hi => .inl (mem_clkD.2 (.inl (by simpa using hi))))))
              (.inl rfl) (hO3.imp (fun e => hO5.trans e) (fun ⟨i, e, h1, h3⟩ => ⟨i, hO5.trans e, h1, Nat.lt_of_lt_of_le h3 (Nat.le_trans hF4.size hF5.size)⟩)) (fun i hi hg => (hv i hg).2.2 hi)
            rw [← HD2.out] at T5
            have T2 := hT2.trans T5
            refine ⟨D5, T2.is, (hT.fr.comp (hF1.sub (T := []) (by simp)) (by simp)).comp T2.fr hT.sub, fun i hi => ?_⟩
            rcases T2.sub i hi with h | h
            · exact hT.sub i h
            · exact .inr (Nat.le_trans hT.fr.size (Nat.le_trans hF1.size h))
          · obtain ⟨M, hM, hMI⟩ := H1.out.map
            have c1 := H1.out.blk.cell (i := 1) rfl
            have hrl : r.length < 1024 := by
              rw [HL.out] at hl1
              simp at hl1
              omega
            rw [HL.out] at hM hMI
            have HMI := Lib.hid hMI
            clear hMI
            go_wp2_with fail
            refine (may_any s k1 wr).mono ?_
            rintro e w1 ⟨rfl, hF1⟩
            have HF1 := Lib.hid hF1
            rw [HM.out]
            have c1' : w1.cell? ⟨b, 1, none⟩ = some (.map (some mb)) := cell_fr hF1 (by simp) c1
            have hM1 := owns_map_fr hM hF1 (by simp)
            clear hF1 c0 hc c1 hM
            go_wp2_with first
              | (at_lookup; refine wpList_lookup_own_int _ rfl _ _ 59 rfl 3 3 .i64 lawI Try.underlying59 Try.underlying3 (zeroI _) mb _ _ rfl hM1 _ _ rfl (keyOf_int_mk Try.underlying3 hwf) ?_; intro c hat hwc; obtain rfl : c = 1 := by have := (HMI.out.at_ k1 true (by simp)).symm.trans hat; simpa using this.symm)
              | (at_mapUpdate; refine wpList_mapUpdate_own _ rfl _ _ _ 59 rfl 3 3 lawI Try.underlying59 _ mb _ _ rfl hM1 (by simp; unfold maxLen; omega) _ _ _ rfl rfl (keyOf_int_mk Try.underlying3 hwf) _ [] (plainElem_int Try.underlying3 (by decide)) ?_; intro w2 hown2 hgrow2)
            have hm2 := map_set HMI.out hM1 (k := k1) (by simp [kofs]) false hown2
            rw [setAsk_head hni] at hm2
            have h2 := (turn_map (H1.out.fr HF1.out (by simp)) ((k1, false) :: r) (by simp [Clk.ks, HL.out, kofs]) hm2 hgrow2).1
            have hF2 : Fr [mb] w1 w2 := (Fr.refl _ _).grown hgrow2 (fun k hk => .inl (by cases hk; simp))
            have HF2 := Lib.hid hF2
            clear hm2 hF2 hown2 hgrow2 hM1 c1'
            refine (pass_any (x := { x1 with L := (k1, false) :: r }) ⟨mb, _, gv, rfl, h2⟩ rfl).mono ?_
            rintro e w3 ⟨rfl, D2, hT2⟩
            have HT2 := Lib.hid hT2
            clear hT2 h2
            go_wp2_with fail
            go_roundw
            case rel =>
              have hT := HT.out
              have hT2 := HT2.out
              have hF1 := HF1.out
              have hF2 := HF2.out
              have hE := HE.out
              rw [evictN, HL.out] at hE
              simp only [HM.out, if_true] at hE
              have hF12 : Fr (clkD b mb (.slice (some ⟨pb, off, none⟩) (r.length + 1) cap) gv) wr w2 := (hF1.sub (by simp)).trans (hF2.sub (by intro i hi; exact .inl (mem_clkD.2 (.inr (.inl (by simpa using hi))))))
              refine ⟨k + 1, D2, _, by go_num, by omega, ⟨hT2.is, (hT.fr.comp hF12 hT.sub).comp hT2.fr hT.sub, fun i hi => ?_⟩, ?_, ?_⟩
              · rcases hT2.sub i hi with h | h
                · exact hT.sub i h
                · exact .inr (Nat.le_trans hT.fr.size (Nat.le_trans hF12.size h))
              · rw [HL.out] at hl1
                simpa using hl1
              · rw [show 2 * n - (k + 1) = m by omega]
                simpa using hE
            case measure => simp [intOf]; omega
    · obtain rfl : k = 2 * n := by omega
      have b0 : decide (((2 * n : Nat) : Int) < 2 * (n : Int)) = false := by simp
      have HT := Lib.hid hT
      rw [Nat.sub_self, evictN] at hE
      subst hE
      clear hT
      go_wp2_with fail
      rw [Exit.noGoto_ret]
      go_ret2
      exact ⟨rfl, _, HT.out⟩
end Go.Proofs.Ythhkgknolclakaa
