/- FormPages: the walk. -/
import Derived.Test.YtifafnmbcmhlcaaDoorFormR
import Derived.Test.YtifafnmbcmhlcaaDoorFormL
namespace Go.Proofs.YtifafnmbcmhlcaaDoor
open Go.RowKit Go.Shelf

set_option maxRecDepth 100000 in
set_option maxHeartbeats 2000000 in
theorem refPage_any (q n o m : Int) (w : World) :
    Calls Tryd.prog 49 #[.agg #[.int .i64 q, .int .i64 n, .int .i64 o, .int .i64 m]] w fun e w' =>
      ∃ g, e = .returned (.slice (some ⟨g, 0, none⟩) 4 4) ∧ Blk w' g 109 (nums4 (headN q n o m)).toArray ∧ w.heap.size ≤ g ∧ Fr [] w w' := by
  have hFw := ((Fr.refl [] w).alloc (.cells #[.int .i64 q, .int .i64 n, .int .i64 o, .int .i64 m] 101)).drew
  have hB := (Blk.new w #[.int .i64 q, .int .i64 n, .int .i64 o, .int .i64 m] 101).drew
  have hsub : IntKind.i64.wrap (o - 1) = wrap64 (o - 1) := by rw [IntKind.wrap_i64]; unfold wrap64; omega
  go_enter Tryd.func49, Tryd.ntmps49
  go_wp2_with fail
  refine region_ord [] (.take 0 (.take 1 (.take 3 (.take 4 (.take 5 (.take 6 (.take 7 (.take 9 (.take 10 (.take 12 (.take 13 (.take 14 (.pick 2 (.pick 8 (.pick 11 (.pick 15 (.take 16 .done) .none) .none) .none) .none))))))))))))) (by kernel_rfl) (by kernel_rfl) ?_
  simp only [ordList, Ord.map, List.getD_cons_zero, List.getD_cons_succ]
  refine' ord_pure (v := _) ?_ rfl ?_; rotate_left; focus (intro w; go_simp <;> (first | (with_reducible rfl) | (constructor <;> with_reducible rfl)))
  simp only [Act.put, List.setIfInBounds_toArray, List.set_cons_zero, List.set_cons_succ]
  refine ord_cell hB (by simp) rfl rfl (by kernel_rfl) rfl rfl ?_
  simp only [Act.put, List.getElem_toArray, List.getElem_cons_zero, List.getElem_cons_succ, List.setIfInBounds_toArray, List.set_cons_zero, List.set_cons_succ]
  refine' ord_pure (v := _) ?_ rfl ?_; rotate_left; focus (intro w; go_simp <;> (first | (with_reducible rfl) | (constructor <;> with_reducible rfl)))
  simp only [Act.put, List.setIfInBounds_toArray, List.set_cons_zero, List.set_cons_succ]
  refine ord_cell hB (by simp) rfl rfl (by kernel_rfl) rfl rfl ?_
  simp only [Act.put, List.getElem_toArray, List.getElem_cons_zero, List.getElem_cons_succ, List.setIfInBounds_toArray, List.set_cons_zero, List.set_cons_succ]
  refine' ord_pure (v := _) ?_ rfl ?_; rotate_left; focus (intro w; go_simp <;> (first | (with_reducible rfl) | (constructor <;> with_reducible rfl)))
  simp only [Act.put, List.setIfInBounds_toArray, List.set_cons_zero, List.set_cons_succ]
  refine ord_cell hB (by simp) rfl rfl (by kernel_rfl) rfl rfl ?_
  simp only [Act.put, List.getElem_toArray, List.getElem_cons_zero, List.getElem_cons_succ, List.setIfInBounds_toArray, List.set_cons_zero, List.set_cons_succ]
  refine' ord_pure (v := _) ?_ rfl ?_; rotate_left; focus (intro w; go_simp <;> (first | (with_reducible rfl) | (constructor <;> with_reducible rfl)))
  simp only [Act.put, List.setIfInBounds_toArray, List.set_cons_zero, List.set_cons_succ]
  refine' ord_pure (v := _) ?_ rfl ?_; rotate_left; focus (intro w; go_simp <;> (first | (with_reducible rfl) | (constructor <;> with_reducible rfl)))
  simp only [Act.put, List.setIfInBounds_toArray, List.set_cons_zero, List.set_cons_succ]
  refine ord_cell hB (by simp) rfl rfl (by kernel_rfl) rfl rfl ?_
  simp only [Act.put, List.getElem_toArray, List.getElem_cons_zero, List.getElem_cons_succ, List.setIfInBounds_toArray, List.set_cons_zero, List.set_cons_succ]
  refine' ord_pure (v := _) ?_ rfl ?_; rotate_left; focus (intro w; go_simp <;> (first | (with_reducible rfl) | (constructor <;> with_reducible rfl)))
  simp only [Act.put, List.setIfInBounds_toArray, List.set_cons_zero, List.set_cons_succ]
  refine ord_cell hB (by simp) rfl rfl (by kernel_rfl) rfl rfl ?_
  simp only [Act.put, List.getElem_toArray, List.getElem_cons_zero, List.getElem_cons_succ, List.setIfInBounds_toArray, List.set_cons_zero, List.set_cons_succ]
  refine' ord_pure (v := _) ?_ rfl ?_; rotate_left; focus (intro w; go_simp <;> (first | (with_reducible rfl) | (constructor <;> with_reducible rfl)))
  simp only [Act.put, List.setIfInBounds_toArray, List.set_cons_zero, List.set_cons_succ]
  -- 2: t5 := CALL lavabo/lavaboref06.seq(t4, 0)   {1}
  refine' ord_call (f := 58) (args := _) ?_ rfl ?_; rotate_left; focus (go_simp <;> (first | (with_reducible rfl) | (constructor <;> with_reducible rfl)))
  refine (seq_any _ _ _).mono ?_
  rintro e w1 ⟨rfl, hF⟩
  have hFw := hFw.trans hF
  refine ⟨_, rfl, hF, ?_⟩
  simp only [Act.put, List.setIfInBounds_toArray, List.set_cons_zero, List.set_cons_succ]
  -- 8: t11 := CALL lavabo/lavaboref06.two(t7, 0, t10)   {2,4,7}
  refine' ord_call (f := 59) (args := _) ?_ rfl ?_; rotate_left; focus (go_simp <;> (first | (with_reducible rfl) | (constructor <;> with_reducible rfl)))
  refine (two_any _ _ _ _).mono ?_
  rintro e w1 ⟨rfl, hF⟩
  have hFw := hFw.trans hF
  refine ⟨_, rfl, hF, ?_⟩
  simp only [Act.put, List.setIfInBounds_toArray, List.set_cons_zero, List.set_cons_succ]
  -- 11: t14 := CALL lavabo/lavaboref06.two(t13, 1, 256)   {8,10}
  refine' ord_call (f := 59) (args := _) ?_ rfl ?_; rotate_left; focus (go_simp <;> (first | (with_reducible rfl) | (constructor <;> with_reducible rfl)))
  refine (two_any _ _ _ _).mono ?_
  rintro e w1 ⟨rfl, hF⟩
  have hFw := hFw.trans hF
  refine ⟨_, rfl, hF, ?_⟩
  simp only [Act.put, List.setIfInBounds_toArray, List.set_cons_zero, List.set_cons_succ]
  -- 15: t18 := buildSlice <[]lavaboref06.Num> 4 [(0,t5),(1,t11),(2,t14),(3,t17)]   {2,8,11,14}
  have hSl := blk_new hFw (nums4 (headN q n o m)).toArray 109
  refine' ord_do (v := _) (w' := _) ?_ ?_ rfl ?_
  rotate_left 2
  focus (go_simp <;> (first | (with_reducible rfl) | (constructor <;> with_reducible rfl)))
  focus (exact (Fr.refl _ _).alloc _)
  have hge := hFw.size
  have hFw := hFw.alloc (.cells (nums4 (headN q n o m)).toArray 109)
  simp only [Act.put, List.setIfInBounds_toArray, List.set_cons_zero, List.set_cons_succ]
  refine' ord_pure (v := _) ?_ rfl ?_; rotate_left; focus (intro w; go_simp <;> (first | (with_reducible rfl) | (constructor <;> with_reducible rfl)))
  simp only [Act.put, List.setIfInBounds_toArray, List.set_cons_zero, List.set_cons_succ]
  refine ord_nil ?_
  go_wp2_with fail
  go_ret
  exact ⟨_, rfl, hSl, hge, hFw⟩
theorem entsN_snoc (m : Int) (e0 e1 e2 e3 : En) (k : Nat) (hk : k < 4) : ∃ e, [e0, e1, e2, e3][k]? = some e ∧ entsN m 0 ([e0, e1, e2, e3].take (k + 1)) = entsN m 0 ([e0, e1, e2, e3].take k) ++ entN e.b e.s e.d e.m (decide (m ≤ (k : Int))) := by
  have : k = 0 ∨ k = 1 ∨ k = 2 ∨ k = 3 := by omega
  rcases this with rfl | rfl | rfl | rfl
  · exact ⟨e0, rfl, by simp [entsN]⟩
  · exact ⟨e1, rfl, by simp [entsN]⟩
  · exact ⟨e2, rfl, by simp [entsN]⟩
  · exact ⟨e3, rfl, by simp [entsN]⟩
theorem ensC_at : ∀ (es : List En) (k : Nat) (e : En), es[k]? = some e → (ensC es)[k * 4]? = some (.int .i64 e.b) ∧ (ensC es)[k * 4 + 1]? = some (.int .i64 e.s) ∧ (ensC es)[k * 4 + 2]? = some (.bool e.d) ∧ (ensC es)[k * 4 + 3]? = some (.int .i64 e.m) := by
  intro es
  induction es with
  | nil => intro k e h; simp at h
  | cons x r ih =>
    intro k e h
    cases k with
    | zero =>
      simp only [List.getElem?_cons_zero, Option.some.injEq] at h
      subst h
      exact ⟨rfl, rfl, rfl, rfl⟩
    | succ k =>
      have := ih k e (by simpa using h)
      rw [show (k + 1) * 4 = k * 4 + 4 by omega]
      exact this
set_option maxRecDepth 100000 in
set_option maxHeartbeats 4000000 in
theorem page_any (q n o m : Int) (e0 e1 e2 e3 : En) (w : World) :
    Calls Tryd.prog 28 #[.agg (pageL q n o m (ensC [e0, e1, e2, e3])).toArray] w fun e w' =>
      ∃ g cap, e = .returned (.slice (some ⟨g, 0, none⟩) 20 cap) ∧ IsNums w' (some ⟨g, 0, none⟩) (pageN q n o m [e0, e1, e2, e3]) ∧ Fr [] w w' := by
  obtain ⟨j0, hi, hz0, hz1, hz2⟩ := info_parts infoNum4
  have HRP := Lib.hid (fun W => refPage_any q n o m W)
  have hP0 : (pageL q n o m (ensC [e0, e1, e2, e3])).toArray[0]? = some (.int .i64 q) := rfl
  have hP1 : (pageL q n o m (ensC [e0, e1, e2, e3])).toArray[1]? = some (.int .i64 n) := rfl
  have hP2 : (pageL q n o m (ensC [e0, e1, e2, e3])).toArray[2]? = some (.int .i64 o) := rfl
  have hP3 : (pageL q n o m (ensC [e0, e1, e2, e3])).toArray[3]? = some (.int .i64 m) := rfl
  have hPE : ∀ (j : Nat) (v : Value), (ensC [e0, e1, e2, e3])[j]? = some v → (pageL q n o m (ensC [e0, e1, e2, e3])).toArray[4 + j]? = some v := fun j v hj => by
    simp only [pageL, List.getElem?_toArray]
    rw [List.getElem?_append_right (by simp)]
    simpa using hj
  have hsz : (pageL q n o m (ensC [e0, e1, e2, e3])).toArray.size = 20 := rfl
  generalize (pageL q n o m (ensC [e0, e1, e2, e3])).toArray = PA at hP0 hP1 hP2 hP3 hPE hsz ⊢
  obtain ⟨_, g0⟩ := Array.getElem?_eq_some_iff.1 hP0
  obtain ⟨_, g1⟩ := Array.getElem?_eq_some_iff.1 hP1
  obtain ⟨_, g2⟩ := Array.getElem?_eq_some_iff.1 hP2
  obtain ⟨_, g3⟩ := Array.getElem?_eq_some_iff.1 hP3
  have HPE := Lib.hid hPE
  have HP3 := Lib.hid hP3
  have hF0 := (Fr.refl [] w).alloc (.cells PA 66)
  have HB0 := Lib.hid (Blk.new w PA 66)
  clear hPE
  go_enter Tryd.func28, Tryd.ntmps28
  go_wp2_with fail
  refine (HRP.out _).mono ?_
  rintro e' w1 ⟨g1', rfl, hN1, hg1, hF1⟩
  rw [World.size_alloc] at hg1
  have hF01 := hF0.trans hF1
  have HB1 := Lib.hid (HB0.out.fr hF1 (by simp))
  have HO1 := Lib.hid (owns_blk_new (n := 4) (size := 4) (w.heap.size + 1) hN1 hg1 rfl (by omega) (by decide) rfl)
  clear hN1 hF0 hF1 g0 g1 g2 g3 hP0 hP1 hP2 hP3 hsz hg1
  go_wp2_with fail
  go_loopw [3, 4] (fun vb i wr => ∃ k : Nat, k ≤ 4 ∧ i = .int .i64 k ∧ wr.ownsRow (w.heap.size + 1) 109 4 vb (4 + 4 * k) (nums4 (headN q n o m ++ entsN m 0 ([e0, e1, e2, e3].take k))) ∧ Blk wr w.heap.size 66 PA ∧ Fr [] w wr) (fun _ i _ => 4 - (intOf i).toNat)
  case atStart => exact ⟨0, Nat.zero_le _, rfl, by simpa [entsN] using HO1.out, HB1.out, hF01⟩
  case round =>
    obtain ⟨k, hk, rfl, hown, hB, hF⟩ := hrel
    have HO := Lib.hid hown
    have HB := Lib.hid hB
    have HX := Lib.hid hF
    have hszF := hF.size
    have hBlt := hB.lt
    clear hown hF
    by_cases hlt : k < 4
    · obtain ⟨e, he, hsn⟩ := entsN_snoc m e0 e1 e2 e3 k hlt
      have hc := ensC_at [e0, e1, e2, e3] k e he
      have c0 : wr.cell? ⟨w.heap.size, 4 + k * 4, none⟩ = some (.int .i64 e.b) := hB.cell (HPE.out _ _ hc.1)
      have c1 : wr.cell? ⟨w.heap.size, 4 + k * 4 + 1, none⟩ = some (.int .i64 e.s) := hB.cell (by rw [Nat.add_assoc]; exact HPE.out _ _ hc.2.1)
      have c2 : wr.cell? ⟨w.heap.size, 4 + k * 4 + 2, none⟩ = some (.bool e.d) := hB.cell (by rw [Nat.add_assoc]; exact HPE.out _ _ hc.2.2.1)
      have c3 : wr.cell? ⟨w.heap.size, 4 + k * 4 + 3, none⟩ = some (.int .i64 e.m) := hB.cell (by rw [Nat.add_assoc]; exact HPE.out _ _ hc.2.2.2)
      have cm : wr.cell? ⟨w.heap.size, 3, none⟩ = some (.int .i64 m) := hB.cell HP3.out
      have HSN := Lib.hid (show nums4 (headN q n o m ++ entsN m 0 ([e0, e1, e2, e3].take k)) ++ nums4 (entN e.b e.s e.d e.m (decide (m ≤ (k : Int)))) = nums4 (headN q n o m ++ entsN m 0 ([e0, e1, e2, e3].take (k + 1))) by
        rw [hsn, ← nums4_append, List.append_assoc])
      have HRE := Lib.hid (fun W => refEntry_any e.b e.s e.d e.m (decide (m ≤ (k : Int))) W)
      have i0 : (0 : Int) ≤ (k : Int) := by omega
      have i1 : (k : Int) < 4 := by omega
      clear he hsn hc hB
      go_wp2_with fail
      refine (HRE.out _).mono ?_
      rintro e' w2 ⟨g, rfl, hN, hg, hF'⟩
      have hFr1 := ((Fr.refl [] wr).alloc (.cells #[.int .i64 e.b, .int .i64 e.s, .bool e.d, .int .i64 e.m] 63)).trans hF'
      have hO1 := owns_fr HO.out hFr1 (by simp)
      have hs1 := hFr1.size
      have HB1' := Lib.hid (HB.out.fr hFr1 (by simp))
      have HX1 := Lib.hid (HX.out.trans hFr1)
      clear hFr1 hF' hg c0 c1 c2 c3 cm
      go_wp2_with (at_builtin; refine wpList_append_lies _ rfl _ _ 58 rfl (w.heap.size + 1) 109 j0 (.agg #[.int .i64 0, .int .i64 0, .int .i64 0, .int .i64 0]) 4 32 Tryd.underlying58 hi hz0 hz1 hz2 rfl (by decide) _ (4 + 4 * k) _ rfl hO1 ⟨g, 0, none⟩ 4 4 (nums4 (entN e.b e.s e.d e.m (decide (m ≤ (k : Int))))) rfl (nums4_len _) (blk_news hN) (nums4_one _) (by decide) (by unfold maxLen; omega) (by omega) (by omega) _ rfl ?_)
      intro g5 cap5 w5 hown hgrow hor hlt5
      have hge := owns_ge hO1
      have hF5 : Fr [] w w5 := HX1.out.grown hgrow (fun k hk => .inr (by have := hge k hk; omega))
      have hB5 := HB1'.out.grown hgrow (by intro hk; have := hge _ hk; omega)
      rw [HSN.out] at hown
      have HO5 := Lib.hid hown
      clear hown hgrow hor hge hO1 hN
      go_wp2
      go_roundw
      case rel => exact ⟨k + 1, by omega, by go_num, by rw [show 4 + 4 * (k + 1) = 4 + 4 * k + 4 by omega]; exact HO5.out, hB5, hF5⟩
      case measure => simp [intOf]; omega
    · obtain rfl : k = 4 := by omega
      have hP := HO.out
      rw [show [e0, e1, e2, e3].take 4 = [e0, e1, e2, e3] from rfl] at hP
      obtain ⟨g, cap, hv, hg, hglt⟩ := hP.form (by omega)
      rw [hv] at hP
      have HP := Lib.hid (owns_nums (ps := pageN q n o m [e0, e1, e2, e3]) hP)
      subst hv
      clear hP HO
      go_wp2_with fail
      go_ret
      exact ⟨_, _, rfl, HP.out, HX.out⟩

set_option maxRecDepth 100000 in
set_option maxHeartbeats 2000000 in
theorem FormPages_ok (q n o m : Int) (e0 e1 e2 e3 : En) (w : World) (hH : Halves w) :
    Calls Tryd.prog 9 #[.agg (pageL q n o m (ensC [e0, e1, e2, e3])).toArray] w fun e w' => e = .returned (.bool true) ∧ Fr [] w w' := by
  have hz : ∀ w, (zeroValue 33).run Tryd.prog w = .ok (.agg (bv zeros64)) w := fun _ => by kernel_rfl
  have HH := Lib.hid hH
  have HPP := Lib.hid (fun W hW => PutPage_any q n o m e0 e1 e2 e3 W hW)
  have HPA := Lib.hid (fun W => page_any q n o m e0 e1 e2 e3 W)
  rw [pageR_eq, pageN_ps] at HPP
  have HP1 := Lib.hid (fun g cap W hN => put06_any 3 (some ⟨g, 0, none⟩) cap (pageN q n o m [e0, e1, e2, e3]) W (by omega) hN (by simp [pageN, headN, entsN, entN]) (pageN_cap q n o m e0 e1 e2 e3) (pageN_len q n o m e0 e1 e2 e3))
  have hl1 := putB_len 3 (rightB (pageN q n o m [e0, e1, e2, e3])) (toPs (pageN q n o m [e0, e1, e2, e3]))
  rw [show ((3 : Nat) : Int) = 3 from rfl] at HP1
  generalize putB 3 (rightB (pageN q n o m [e0, e1, e2, e3])) (toPs (pageN q n o m [e0, e1, e2, e3])) = A1 at HPP HP1 hl1
  generalize putEr 3 (rightB (pageN q n o m [e0, e1, e2, e3])) (toPs (pageN q n o m [e0, e1, e2, e3])) = E1 at HPP HP1
  have hsz : (pageL q n o m (ensC [e0, e1, e2, e3])).toArray.size = 20 := rfl
  generalize (pageL q n o m (ensC [e0, e1, e2, e3])).toArray = PA at HPP HPA hsz ⊢
  have HSZ := Lib.hid hsz
  have hF0 := (Fr.refl [] w).alloc (.cells PA 66)
  have hS0 := Blk.new w PA 66
  have HL1 := Lib.hid hl1
  have hz1 : (bv A1).size = 64 := by rw [bv_size, hl1]
  clear hH hl1
  go_enter Tryd.func9, Tryd.ntmps9
  go_wp2_with (refine wpList_load_all rfl 66 _ rfl hS0 rfl (by rw [HSZ.out]; kernel_rfl) ?_)
  refine (HPP.out _ (HH.out.keep hF0 (by simp))).mono ?_
  rintro e w1 ⟨rfl, hF1⟩
  have hF01 := hF0.trans hF1
  have hS1 := hS0.fr hF1 (by simp)
  obtain ⟨w2, hst, hA2, hF2, hs2⟩ := store_all (P := Tryd.prog) (Blk.new w1 (bv zeros64) 33) A1 (by rw [HL1.out, bv_size]; rfl)
  have hF02 : Fr [] w w2 := (hF01.alloc _).comp hF2 (by have := hF01.size; simp; omega)
  have hS2 := (hS1.alloc (.cells (bv zeros64) 33)).fr hF2 (by have := hS1.lt; simp; omega)
  clear hS0 hF0 hS1 hF1 hF2 hF01 hs2
  go_wp2_with fail
  have hRA := range_bv hA2.drew
  have hS := hS2.drew
  have hFw := hF02.drew
  clear hS2 hF02 hst
  have hHw := HH.out.keep hFw (by simp)
  refine region_ord [] (.take 0 (.take 1 (.take 2 (.pick 3 (.pick 4 (.take 5 (.pick 6 (.take 7 (.take 8 .done)) .none)) .none) .none)))) (by kernel_rfl) (by kernel_rfl) ?_
  simp only [ordList, Ord.map, List.getD_cons_zero, List.getD_cons_succ]
  refine ord_bv hRA (by simp) HL1.out rfl rfl (by kernel_rfl) rfl ?_
  simp only [Act.put, List.setIfInBounds_toArray, List.set_cons_zero, List.set_cons_succ]
  refine' ord_pure (v := _) ?_ rfl ?_; rotate_left; focus (intro w; go_simp <;> (first | (with_reducible rfl) | (constructor <;> with_reducible rfl)))
  simp only [Act.put, List.setIfInBounds_toArray, List.set_cons_zero, List.set_cons_succ]
  -- 2: t12 := load <forms.Page = lavabo/forms.Page> t1   {}
  refine ord_all hS (by simp) rfl rfl (by rw [HSZ.out]; kernel_rfl) rfl ?_
  simp only [Act.put, List.setIfInBounds_toArray, List.set_cons_zero, List.set_cons_succ]
  -- 3: t13 := CALL lavabo/lavabolaw06.page(t12)   {2}
  refine' ord_call (f := 28) (args := _) ?_ rfl ?_; rotate_left; focus (go_simp <;> (first | (with_reducible rfl) | (constructor <;> with_reducible rfl)))
  refine (HPA.out _).mono ?_
  rintro e w5 ⟨g5, cap5, rfl, hN5, hF⟩
  have hFw := hFw.trans hF
  have hHw := hHw.keep hF (by simp)
  refine ⟨_, rfl, hF, ?_⟩
  simp only [Act.put, List.setIfInBounds_toArray, List.set_cons_zero, List.set_cons_succ]
  -- 4: t14 := CALL lavabo/lavabolaw06.put(t10, t11, 3, t13)   {0,1,3}
  refine' ord_call (f := 23) (args := _) ?_ rfl ?_; rotate_left; focus (go_simp <;> (first | (with_reducible rfl) | (constructor <;> with_reducible rfl)))
  refine (HP1.out _ _ _ hN5).mono ?_
  rintro e w6 ⟨rfl, hF⟩
  have hFw := hFw.trans hF
  have hHw := hHw.keep hF (by simp)
  refine ⟨_, rfl, hF, ?_⟩
  simp only [Act.put, List.setIfInBounds_toArray, List.set_cons_zero, List.set_cons_succ]
  refine' ord_pure (v := _) ?_ rfl ?_; rotate_left; focus (intro w; go_simp <;> (first | (with_reducible rfl) | (constructor <;> with_reducible rfl)))
  simp only [Act.put, List.setIfInBounds_toArray, List.set_cons_zero, List.set_cons_succ]
  -- 6: t16 := CALL lavabo/lavabolaw06.awake()   [if op5=true]   {5}
  refine' ord_call (f := 26) (args := _) ?_ rfl ?_; rotate_left; focus (go_simp <;> (first | (with_reducible rfl) | (constructor <;> with_reducible rfl)))
  refine (awake06_any _ hHw).mono ?_
  rintro e w9 ⟨rfl, hF⟩
  have hFw := hFw.trans hF
  refine ⟨_, rfl, hF, ?_⟩
  simp only [Act.put, List.setIfInBounds_toArray, List.set_cons_zero, List.set_cons_succ]
  refine' ord_pure (v := _) ?_ rfl ?_; rotate_left; focus (intro w; go_simp <;> (first | (with_reducible rfl) | (constructor <;> with_reducible rfl)))
  simp only [Act.put, List.setIfInBounds_toArray, List.set_cons_zero, List.set_cons_succ]
  refine' ord_pure (v := _) ?_ rfl ?_; rotate_left; focus (intro w; go_simp <;> (first | (with_reducible rfl) | (constructor <;> with_reducible rfl)))
  simp only [Act.put, List.setIfInBounds_toArray, List.set_cons_zero, List.set_cons_succ]
  refine ord_nil ?_
  go_wp2_with fail
  go_ret
  exact ⟨rfl, hFw⟩
end Go.Proofs.YtifafnmbcmhlcaaDoor
