/- FormCaches: the walk. -/
import Derived.Test.YtifafnmbcmhlcaaDoorFormK
namespace Go.Proofs.YtifafnmbcmhlcaaDoor
open Go.RowKit Go.Shelf

theorem superR_eq (x0 x1 x2 x3 x4 x5 x6 : Int) : superR x0 x1 x2 x3 x4 x5 x6 = rightB (superN x0 x1 x2 x3 x4 x5 x6) := by
  simp [superR, rightB, superN, okN, seqN, twoN, Bool.and_assoc]
theorem superL_eq (x0 x1 x2 x3 x4 x5 x6 : Int) : superL x0 x1 x2 x3 x4 x5 x6 = toPs (superN x0 x1 x2 x3 x4 x5 x6) := rfl
theorem superN_cap (x0 x1 x2 x3 x4 x5 x6 : Int) : ∀ p, p ∈ superN x0 x1 x2 x3 x4 x5 x6 → CapN p := by
  intro p hp
  simp only [superN, List.mem_cons, List.not_mem_nil, or_false] at hp
  rcases hp with rfl | rfl | rfl | rfl | rfl | rfl | rfl <;> exact ⟨by simp [seqN, twoN], by simp [seqN, twoN], by simp [seqN, twoN], by simp [seqN, twoN]⟩
theorem superN_len (x0 x1 x2 x3 x4 x5 x6 : Int) : (numBs (superN x0 x1 x2 x3 x4 x5 x6)).length ≤ 59 := by
  simp [numBs, superN, numB, bytesOf_len, seqN, twoN]
theorem recR_eq (q l o b s : Int) (d : Bool) (m : Int) : recR q l o b s d m = rightB (recN q l o b s d m) := by
  rw [Bool.eq_iff_iff]
  simp only [recR, rightB, recN, recE, okN, seqN, entR, dropB, List.all_append, List.all_cons, List.all_nil, Bool.and_eq_true, wI_iff, Bool.not_eq_true', Bool.and_eq_false_iff, Bool.not_eq_false', beq_iff_eq, beq_eq_false_iff_ne, and_true]
  by_cases ho : o = 1
  · subst ho
    cases d
    · simp [flagN]; omega
    · simp [flagN]
  · cases d
    · simp [flagN, ho]; omega
    · simp [flagN, ho]; omega
theorem recL_eq (q l o b s : Int) (d : Bool) (m : Int) : recL q l o b s d m = toPs (recN q l o b s d m) := rfl
theorem recN_cap (q l o b s : Int) (d : Bool) (m : Int) : ∀ p, p ∈ recN q l o b s d m → CapN p := by
  intro p hp
  simp only [recN, recE, List.cons_append, List.nil_append, List.mem_cons, List.not_mem_nil, or_false] at hp
  rcases hp with rfl | rfl | rfl | rfl | rfl | rfl | rfl
  all_goals refine ⟨?_, ?_, ?_, ?_⟩ <;> simp [seqN] <;> (split <;> omega)
theorem recN_len (q l o b s : Int) (d : Bool) (m : Int) : (numBs (recN q l o b s d m)).length ≤ 59 := by
  simp [numBs, recN, recE, numB, bytesOf_len, seqN]

theorem super_any (x0 x1 x2 x3 x4 x5 x6 : Int) (w : World) :
    Calls Tryd.prog 24 #[superV x0 x1 x2 x3 x4 x5 x6] w fun e w' => ∃ g, e = .returned (.slice (some ⟨g, 0, none⟩) 7 7) ∧ IsNums w' (some ⟨g, 0, none⟩) (superN x0 x1 x2 x3 x4 x5 x6) ∧ Fr [] w w' := by
  have HS := Lib.hid (fun W => refSuper_any x0 x1 x2 x3 x4 x5 x6 W)
  have hF0 := (Fr.refl [] w).alloc (.cells #[.int .i64 x0, .int .i64 x1, .int .i64 x2, .int .i64 x3, .int .i64 x4, .int .i64 x5, .int .i64 x6] 52)
  unfold superV
  go_enter Tryd.func24, Tryd.ntmps24
  go_wp2_with fail
  refine (HS.out _).mono ?_
  rintro e w1 ⟨g, rfl, hB, _, hF⟩
  have hFF := hF0.trans hF
  have hNN := nums_blk hB
  clear hB
  go_wp2_with fail
  go_ret
  exact ⟨_, rfl, hNN, hFF⟩
theorem record_any (q l o b s : Int) (d : Bool) (m : Int) (w : World) :
    Calls Tryd.prog 25 #[.agg (recV q l o b s d m)] w fun e w' => ∃ g cap, e = .returned (.slice (some ⟨g, 0, none⟩) 7 cap) ∧ IsNums w' (some ⟨g, 0, none⟩) (recN q l o b s d m) ∧ Fr [] w w' := by
  have HS := Lib.hid (fun W => refRecord_any q l o b s d m W)
  have hF0 := (Fr.refl [] w).alloc (.cells #[.int .i64 q, .int .i64 l, .int .i64 o, .int .i64 b, .int .i64 s, .bool d, .int .i64 m] 54)
  unfold recV
  go_enter Tryd.func25, Tryd.ntmps25
  go_wp2_with fail
  refine (HS.out _).mono ?_
  rintro e w1 ⟨g, cap, rfl, hNN, hF⟩
  have hFF := hF0.trans hF
  go_wp2_with fail
  go_ret
  exact ⟨_, _, rfl, hNN, hFF⟩

set_option maxRecDepth 100000 in
set_option maxHeartbeats 2000000 in
theorem FormCaches_ok (x0 x1 x2 x3 x4 x5 x6 : Int) (q l o b s : Int) (d : Bool) (m : Int) (w : World) (hH : Halves w) :
    Calls Tryd.prog 8 #[superV x0 x1 x2 x3 x4 x5 x6, .agg (recV q l o b s d m)] w fun e w' => e = .returned (.bool true) ∧ Fr [] w w' := by
  have hz : ∀ w, (zeroValue 33).run Tryd.prog w = .ok (.agg (bv zeros64)) w := fun _ => by kernel_rfl
  have HII := Lib.hid (show (Tryd.prog.info? 33).map (·.size) = some 64 by kernel_rfl)
  have HH := Lib.hid hH
  have HPS := Lib.hid (fun W hW => PutSuper_any x0 x1 x2 x3 x4 x5 x6 W hW)
  have HPR := Lib.hid (fun W hW => PutRecord_any q l o b s d m W hW)
  have HSU := Lib.hid (fun W => super_any x0 x1 x2 x3 x4 x5 x6 W)
  have HRE := Lib.hid (fun W => record_any q l o b s d m W)
  rw [superR_eq, superL_eq] at HPS
  rw [recR_eq, recL_eq] at HPR
  have HP1 := Lib.hid (fun g W hN => put06_any 1 (some ⟨g, 0, none⟩) 7 (superN x0 x1 x2 x3 x4 x5 x6) W (by omega) hN (by simp [superN]) (fun _ => superN_cap x0 x1 x2 x3 x4 x5 x6) (superN_len x0 x1 x2 x3 x4 x5 x6))
  have HP2 := Lib.hid (fun g cap W hN => put06_any 2 (some ⟨g, 0, none⟩) cap (recN q l o b s d m) W (by omega) hN (by simp [recN, recE]) (fun _ => recN_cap q l o b s d m) (recN_len q l o b s d m))
  have hl1 := putB_len 1 (rightB (superN x0 x1 x2 x3 x4 x5 x6)) (toPs (superN x0 x1 x2 x3 x4 x5 x6))
  have hl2 := putB_len 2 (rightB (recN q l o b s d m)) (toPs (recN q l o b s d m))
  rw [show ((1 : Nat) : Int) = 1 from rfl] at HP1
  rw [show ((2 : Nat) : Int) = 2 from rfl] at HP2
  generalize putB 1 (rightB (superN x0 x1 x2 x3 x4 x5 x6)) (toPs (superN x0 x1 x2 x3 x4 x5 x6)) = A1 at HPS HP1 hl1
  generalize putEr 1 (rightB (superN x0 x1 x2 x3 x4 x5 x6)) (toPs (superN x0 x1 x2 x3 x4 x5 x6)) = E1 at HPS HP1
  generalize putB 2 (rightB (recN q l o b s d m)) (toPs (recN q l o b s d m)) = A2 at HPR HP2 hl2
  generalize putEr 2 (rightB (recN q l o b s d m)) (toPs (recN q l o b s d m)) = E2 at HPR HP2
  unfold superV at HPS HSU ⊢
  unfold recV at HPR HRE ⊢
  have hF0 := ((Fr.refl [] w).alloc (.cells #[.int .i64 x0, .int .i64 x1, .int .i64 x2, .int .i64 x3, .int .i64 x4, .int .i64 x5, .int .i64 x6] 52)).alloc (.cells #[.int .i64 q, .int .i64 l, .int .i64 o, .int .i64 b, .int .i64 s, .bool d, .int .i64 m] 54)
  have hS0 := (Blk.new w #[.int .i64 x0, .int .i64 x1, .int .i64 x2, .int .i64 x3, .int .i64 x4, .int .i64 x5, .int .i64 x6] 52).alloc (.cells #[.int .i64 q, .int .i64 l, .int .i64 o, .int .i64 b, .int .i64 s, .bool d, .int .i64 m] 54)
  have hR0 := blk_at (w.alloc (.cells #[.int .i64 x0, .int .i64 x1, .int .i64 x2, .int .i64 x3, .int .i64 x4, .int .i64 x5, .int .i64 x6] 52)) #[.int .i64 q, .int .i64 l, .int .i64 o, .int .i64 b, .int .i64 s, .bool d, .int .i64 m] 54 (w.heap.size + 1) (by simp)
  have HL1 := Lib.hid hl1
  have HL2 := Lib.hid hl2
  have hz1 : (bv A1).size = 64 := by rw [bv_size, hl1]
  have hz2 : (bv A2).size = 64 := by rw [bv_size, hl2]
  clear hH hl1 hl2
  go_enter Tryd.func8, Tryd.ntmps8
  go_wp2_with (refine wpList_load_all rfl 52 _ rfl hS0 rfl (by kernel_rfl) ?_)
  refine (HPS.out _ (HH.out.keep hF0 (by simp))).mono ?_
  rintro e w1 ⟨rfl, hF1⟩
  have hF01 := hF0.trans hF1
  have hS1 := hS0.fr hF1 (by simp)
  have hR1 := hR0.fr hF1 (by simp)
  obtain ⟨w2, hst, hA2, hF2, hs2⟩ := store_all (P := Tryd.prog) (Blk.new w1 (bv zeros64) 33) A1 (by rw [HL1.out, bv_size]; rfl)
  have hF02 : Fr [] w w2 := (hF01.alloc _).comp hF2 (by have := hF01.size; simp; omega)
  have hS2 := (hS1.alloc (.cells (bv zeros64) 33)).fr hF2 (by have := hS1.lt; simp; omega)
  have hR2 := (hR1.alloc (.cells (bv zeros64) 33)).fr hF2 (by have := hR1.lt; simp; omega)
  clear hS0 hR0 hF0 hS1 hR1 hF1 hF2 hF01 hs2
  go_wp2_with (refine wpList_load_all rfl 54 _ rfl hR2 rfl (by kernel_rfl) ?_)
  refine (HPR.out _ (HH.out.keep hF02 (by simp))).mono ?_
  rintro e w3 ⟨rfl, hF3⟩
  have hF03 := hF02.trans hF3
  have hS3 := hS2.fr hF3 (by simp)
  have hR3 := hR2.fr hF3 (by simp)
  have hA3 := hA2.fr hF3 (by simp)
  clear hst hS2 hR2 hA2 hF3 hF02
  obtain ⟨w4, hst, hB4, hF4, hs4⟩ := store_all (P := Tryd.prog) (Blk.new w3 (bv zeros64) 33) A2 (by rw [HL2.out, bv_size]; rfl)
  have hF04 : Fr [] w w4 := (hF03.alloc _).comp hF4 (by have := hF03.size; simp; omega)
  have hS4 := (hS3.alloc (.cells (bv zeros64) 33)).fr hF4 (by have := hS3.lt; simp; omega)
  have hR4 := (hR3.alloc (.cells (bv zeros64) 33)).fr hF4 (by have := hR3.lt; simp; omega)
  have hA4 := (hA3.alloc (.cells (bv zeros64) 33)).fr hF4 (by have := hA3.lt; simp; omega)
  clear hS3 hR3 hA3 hF4 hs4 hF03
  go_wp2_with fail
  have hS := hS4.drew
  have hR := hR4.drew
  have hA := hA4.drew
  have hB := hB4.drew
  have hFw := hF04.drew
  clear hS4 hR4 hA4 hB4 hF04 hst
  have hRA := range_bv hA
  have hRB := range_bv hB
  have hHw := HH.out.keep hFw (by simp)
  refine region_ord [] (.take 0 (.take 1 (.take 2 (.pick 3 (.pick 4 (.take 5 (.take 6 (.take 7 (.take 8 (.pick 9 (.pick 10 (.take 11 (.take 12 (.pick 13 (.take 14 (.take 15 .done)) .none))) .none) .none))))) .none) .none)))) (by kernel_rfl) (by kernel_rfl) ?_
  simp only [ordList, Ord.map, List.getD_cons_zero, List.getD_cons_succ]
  refine ord_bv hRA (by simp) HL1.out rfl rfl (by kernel_rfl) rfl ?_
  simp only [Act.put, List.setIfInBounds_toArray, List.set_cons_zero, List.set_cons_succ]
  refine' ord_pure (v := _) ?_ rfl ?_; rotate_left; focus (intro w; go_simp <;> (first | (with_reducible rfl) | (constructor <;> with_reducible rfl)))
  simp only [Act.put, List.setIfInBounds_toArray, List.set_cons_zero, List.set_cons_succ]
  refine ord_all hS (by simp) rfl rfl (by kernel_rfl) rfl ?_
  simp only [Act.put, List.setIfInBounds_toArray, List.set_cons_zero, List.set_cons_succ]
  -- 3: t22 := CALL lavabo/lavabolaw06.super(t21)   {2}
  refine' ord_call (f := 24) (args := _) ?_ rfl ?_; rotate_left; focus (go_simp <;> (first | (with_reducible rfl) | (constructor <;> with_reducible rfl)))
  refine (HSU.out _).mono ?_
  rintro e w5 ⟨g5, rfl, hN5, hF⟩
  have hS := hS.fr hF (by simp)
  have hR := hR.fr hF (by simp)
  have hRB := range_bv (hB.fr hF (by simp))
  have hB := hB.fr hF (by simp)
  have hFw := hFw.trans hF
  have hHw := hHw.keep hF (by simp)
  refine ⟨_, rfl, hF, ?_⟩
  simp only [Act.put, List.setIfInBounds_toArray, List.set_cons_zero, List.set_cons_succ]
  -- 4: t23 := CALL lavabo/lavabolaw06.put(t19, t20, 1, t22)   {0,1,3}
  refine' ord_call (f := 23) (args := _) ?_ rfl ?_; rotate_left; focus (go_simp <;> (first | (with_reducible rfl) | (constructor <;> with_reducible rfl)))
  refine (HP1.out _ _ hN5).mono ?_
  rintro e w6 ⟨rfl, hF⟩
  have hR := hR.fr hF (by simp)
  have hRB := range_bv (hB.fr hF (by simp))
  have hB := hB.fr hF (by simp)
  have hFw := hFw.trans hF
  have hHw := hHw.keep hF (by simp)
  refine ⟨_, rfl, hF, ?_⟩
  simp only [Act.put, List.setIfInBounds_toArray, List.set_cons_zero, List.set_cons_succ]
  refine' ord_pure (v := _) ?_ rfl ?_; rotate_left; focus (intro w; go_simp <;> (first | (with_reducible rfl) | (constructor <;> with_reducible rfl)))
  simp only [Act.put, List.setIfInBounds_toArray, List.set_cons_zero, List.set_cons_succ]
  refine ord_bv hRB (by simp) HL2.out rfl rfl (by kernel_rfl) rfl ?_
  simp only [Act.put, List.setIfInBounds_toArray, List.set_cons_zero, List.set_cons_succ]
  refine' ord_pure (v := _) ?_ rfl ?_; rotate_left; focus (intro w; go_simp <;> (first | (with_reducible rfl) | (constructor <;> with_reducible rfl)))
  simp only [Act.put, List.setIfInBounds_toArray, List.set_cons_zero, List.set_cons_succ]
  refine ord_all hR (by simp) rfl rfl (by kernel_rfl) rfl ?_
  simp only [Act.put, List.setIfInBounds_toArray, List.set_cons_zero, List.set_cons_succ]
  -- 9: t28 := CALL lavabo/lavabolaw06.record(t27)   [if op5=true]   {5,8}
  refine' ord_call (f := 25) (args := _) ?_ rfl ?_; rotate_left; focus (go_simp <;> (first | (with_reducible rfl) | (constructor <;> with_reducible rfl)))
  refine (HRE.out _).mono ?_
  rintro e w7 ⟨g7, cap7, rfl, hN7, hF⟩
  have hFw := hFw.trans hF
  have hHw := hHw.keep hF (by simp)
  refine ⟨_, rfl, hF, ?_⟩
  simp only [Act.put, List.setIfInBounds_toArray, List.set_cons_zero, List.set_cons_succ]
  -- 10: t29 := CALL lavabo/lavabolaw06.put(t25, t26, 2, t28)   [if op5=true]   {5,6,7,9}
  refine' ord_call (f := 23) (args := _) ?_ rfl ?_; rotate_left; focus (go_simp <;> (first | (with_reducible rfl) | (constructor <;> with_reducible rfl)))
  refine (HP2.out _ _ _ hN7).mono ?_
  rintro e w8 ⟨rfl, hF⟩
  have hFw := hFw.trans hF
  have hHw := hHw.keep hF (by simp)
  refine ⟨_, rfl, hF, ?_⟩
  simp only [Act.put, List.setIfInBounds_toArray, List.set_cons_zero, List.set_cons_succ]
  refine' ord_pure (v := _) ?_ rfl ?_; rotate_left; focus (intro w; go_simp <;> (first | (with_reducible rfl) | (constructor <;> with_reducible rfl)))
  simp only [Act.put, List.setIfInBounds_toArray, List.set_cons_zero, List.set_cons_succ]
  refine' ord_pure (v := _) ?_ rfl ?_; rotate_left; focus (intro w; go_simp <;> (first | (with_reducible rfl) | (constructor <;> with_reducible rfl)))
  simp only [Act.put, List.setIfInBounds_toArray, List.set_cons_zero, List.set_cons_succ]
  -- 13: t32 := CALL lavabo/lavabolaw06.awake()   [if op12=true]   {12}
  refine' ord_call (f := 26) (args := _) ?_ rfl ?_; rotate_left; focus (go_simp <;> (first | (with_reducible rfl) | (constructor <;> with_reducible rfl)))
  refine (awake06_any _ hHw).mono ?_
  rintro e w9 ⟨rfl, hF⟩
  have hFw := hFw.trans hF
  refine ⟨_, rfl, hF, ?_⟩
  simp only [Act.put, List.setIfInBounds_toArray, List.set_cons_zero, List.set_cons_succ]
  refine' ord_pure (v := _) ?_ rfl ?_; rotate_left; focus (intro w; go_simp <;> (first | (with_reducible rfl) | (constructor <;> with_reducible rfl)))
  simp only [Act.put, List.setIfInBounds_toArray, List.set_cons_zero, List.set_cons_succ]
  refine' ord_pure (v := _) ?_ rfl ?_; rotate_left; focus (intro w; go_simp <;> (first | (with_reducible rfl) | (constructor <;> with_reducible rfl)))
  simp only [Act.put, List.setIfInBounds_toArray, List.set_cons_zero, List.set_cons_succ]
  refine ord_nil ?_
  go_wp2_with fail
  go_ret
  exact ⟨rfl, hFw⟩
end Go.Proofs.YtifafnmbcmhlcaaDoor
