/- forms: entries and records: which may be, their numbers. -/
import Derived.Test.YtifafnmbcmhlcaaDoorFormA
namespace Go.Proofs.YtifafnmbcmhlcaaDoor
open Go.RowKit Go.Shelf

def entV (b s : Int) (d : Bool) (m : Int) : Array Value := #[.int .i64 b, .int .i64 s, .bool d, .int .i64 m]
def entR (b s m : Int) : Bool := wI b 0 4095 && wI s 0 1023 && wI m 0 4294967295
set_option maxHeartbeats 1000000 in
theorem entR_val (b s : Int) (d : Bool) (m : Int) (r : Bool) (w : World) (hr : entR b s m = r) :
    Calls Tryd.prog 57 #[.agg (entV b s d m)] w fun e w' => e = .returned (.bool r) ∧ Fr [] w w' := by
  subst hr
  unfold entR entV
  cases h0 : wI b 0 4095
  rotate_left
  cases h1 : wI s 0 1023
  rotate_left
  cases h2 : wI m 0 4294967295
  all_goals
    go_enter Tryd.func57, Tryd.ntmps57
    go_wp2_with (go_at_call 55; refine (within_val _ _ _ _ _ (by with_reducible first | exact h0 | exact h1 | exact h2)).mono ?_; rintro e w' ⟨rfl, rfl⟩)
    go_ret
    exact ⟨by simp, (Fr.refl _ _).alloc _⟩
def recV (q l o b s : Int) (d : Bool) (m : Int) : Array Value := #[.int .i64 q, .int .i64 l, .int .i64 o, .int .i64 b, .int .i64 s, .bool d, .int .i64 m]
theorem recEntry_any (q l o b s : Int) (d : Bool) (m : Int) (w : World) :
    Calls Tryd.prog 39 #[.agg (recV q l o b s d m)] w fun e w' => e = .returned (.agg (entV b s d m)) ∧ Fr [] w w' := by
  unfold recV entV
  go_enter Tryd.func39, Tryd.ntmps39
  go_wp2_with fail
  exact bodyPost_ret (v := .agg #[.int .i64 b, .int .i64 s, .bool d, .int .i64 m]) (by simp [results, Tryd.results39, go_sem]) rfl ⟨rfl, ((Fr.refl _ _).alloc _).alloc _⟩
/-- nums: the numbers and their sizes, as pairs -/
def numsV (l : List (Int × Int)) : List Value := l.flatMap fun p => [.int .i64 p.1, .int .i64 p.2]
def entL (b s : Int) (d : Bool) (m : Int) : List (Int × Int) := [(b, 2), (s, 2), ((flagN d : Nat), 1), (m, 4)]
theorem entNums_any (b s : Int) (d : Bool) (m : Int) (w : World) :
    Calls Tryd.prog 40 #[.agg (entV b s d m)] w fun e w' => ∃ g, e = .returned (.slice (some ⟨g, 0, none⟩) 4 4) ∧ Blk w' g 83 (numsV (entL b s d m)).toArray ∧ w.heap.size ≤ g ∧ Fr [] w w' := by
  unfold entV
  go_enter Tryd.func40, Tryd.ntmps40
  go_wp2_with fail
  have hB := (Blk.new w #[.int .i64 b, .int .i64 s, .bool d, .int .i64 m] 63).drew
  refine region_ord [] (.take 0 (.take 1 (.take 2 (.take 3 (.take 4 (.take 5 (.take 6 (.take 7 (.take 10 (.take 11 (.take 12 (.pick 8 (.take 9 (.pick 13 (.take 14 .done) .none)) .none)))))))))))) (by kernel_rfl) (by kernel_rfl) ?_
  simp only [ordList, Ord.map, List.getD_cons_zero, List.getD_cons_succ]
  refine' ord_pure (v := _) ?_ rfl ?_; rotate_left; focus (intro w; go_simp <;> (first | (with_reducible rfl) | (constructor <;> with_reducible rfl)))
  simp only [Act.put, List.setIfInBounds_toArray, List.set_cons_zero, List.set_cons_succ]
  refine ord_cell hB (by simp) rfl rfl (by kernel_rfl) rfl rfl ?_
  simp only [Act.put, List.getElem_toArray, List.getElem_cons_zero, List.getElem_cons_succ, List.setIfInBounds_toArray, List.set_cons_zero, List.set_cons_succ]
  refine' ord_pure (v := _) ?_ rfl ?_; rotate_left; focus (intro w; go_simp <;> (first | (with_reducible rfl) | (constructor <;> with_reducible rfl)))
  simp only [Act.put, List.setIfInBounds_toArray, List.set_cons_zero, List.set_cons_succ]
  refine' ord_pure (v := _) ?_ rfl ?_; rotate_left; focus (intro w; go_simp <;> (first | (with_reducible rfl) | (constructor <;> with_reducible rfl)))
  simp only [Act.put, List.setIfInBounds_toArray, List.set_cons_zero, List.set_cons_succ]
  refine ord_cell hB (by simp) rfl rfl (by kernel_rfl) rfl rfl ?_
  simp only [Act.put, List.getElem_toArray, List.getElem_cons_zero, List.getElem_cons_succ, List.setIfInBounds_toArray, List.set_cons_zero, List.set_cons_succ]
  refine' ord_pure (v := _) ?_ rfl ?_; rotate_left; focus (intro w; go_simp <;> (first | (with_reducible rfl) | (constructor <;> with_reducible rfl)))
  simp only [Act.put, List.setIfInBounds_toArray, List.set_cons_zero, List.set_cons_succ]
  refine' ord_pure (v := _) ?_ rfl ?_; rotate_left; focus (intro w; go_simp <;> (first | (with_reducible rfl) | (constructor <;> with_reducible rfl)))
  simp only [Act.put, List.setIfInBounds_toArray, List.set_cons_zero, List.set_cons_succ]
  refine ord_cell hB (by simp) rfl rfl (by kernel_rfl) rfl rfl ?_
  simp only [Act.put, List.getElem_toArray, List.getElem_cons_zero, List.getElem_cons_succ, List.setIfInBounds_toArray, List.set_cons_zero, List.set_cons_succ]
  refine' ord_pure (v := _) ?_ rfl ?_; rotate_left; focus (intro w; go_simp <;> (first | (with_reducible rfl) | (constructor <;> with_reducible rfl)))
  simp only [Act.put, List.setIfInBounds_toArray, List.set_cons_zero, List.set_cons_succ]
  refine ord_cell hB (by simp) rfl rfl (by kernel_rfl) rfl rfl ?_
  simp only [Act.put, List.getElem_toArray, List.getElem_cons_zero, List.getElem_cons_succ, List.setIfInBounds_toArray, List.set_cons_zero, List.set_cons_succ]
  refine' ord_pure (v := _) ?_ rfl ?_; rotate_left; focus (intro w; go_simp <;> (first | (with_reducible rfl) | (constructor <;> with_reducible rfl)))
  simp only [Act.put, List.setIfInBounds_toArray, List.set_cons_zero, List.set_cons_succ]
  -- 8: t11 := CALL lavabo/forms.flag(t10)   {7}
  refine' ord_call (f := 56) (args := _) ?_ rfl ?_; rotate_left; focus (go_simp <;> (first | (with_reducible rfl) | (constructor <;> with_reducible rfl)))
  refine (flag_any _ _).mono ?_
  rintro e w1 ⟨rfl, rfl⟩
  have hF := Fr.refl [] (w.alloc (.cells #[.int .i64 b, .int .i64 s, .bool d, .int .i64 m] 63)).drew
  refine ⟨_, rfl, hF, ?_⟩
  simp only [Act.put, List.setIfInBounds_toArray, List.set_cons_zero, List.set_cons_succ]
  refine' ord_pure (v := _) ?_ rfl ?_; rotate_left; focus (intro w; go_simp <;> (first | (with_reducible rfl) | (constructor <;> with_reducible rfl)))
  simp only [Act.put, List.setIfInBounds_toArray, List.set_cons_zero, List.set_cons_succ]
  -- 13: t16 := buildSlice <[]forms.num> 4 [(0,t5),(1,t8),(2,t12),(3,t15)]   {2,5,9,12}
  refine' ord_do (v := _) (w' := _) ?_ ?_ rfl ?_; rotate_left 2; focus (go_simp <;> (first | (with_reducible rfl) | (constructor <;> with_reducible rfl)))
  focus (exact (Fr.refl _ _).alloc _)
  simp only [Act.put, List.setIfInBounds_toArray, List.set_cons_zero, List.set_cons_succ]
  refine' ord_pure (v := _) ?_ rfl ?_; rotate_left; focus (intro w; go_simp <;> (first | (with_reducible rfl) | (constructor <;> with_reducible rfl)))
  simp only [Act.put, List.setIfInBounds_toArray, List.set_cons_zero, List.set_cons_succ]
  refine ord_nil ?_
  go_wp2_with fail
  go_ret
  exact ⟨_, rfl, (blk_at _ _ _ _ (by simp)).drew, by simp, (((Fr.refl _ _).alloc _).alloc _).drew⟩
/-- a dropped record's other numbers are noughts -/
def dropB (o s : Int) (d : Bool) (m : Int) : Bool := o == 1 && !(s == 0 && (d == false && m == 0))
def recR (q l o b s : Int) (d : Bool) (m : Int) : Bool := wI q 1 1099511627776 && wI l 0 1099511627776 && wI o 0 1 && entR b s m && !dropB o s d m
set_option maxHeartbeats 1000000 in
theorem recR_any (q l o b s : Int) (d : Bool) (m : Int) (w : World) :
    Calls Tryd.prog 41 #[.agg (recV q l o b s d m)] w fun e w' => e = .returned (.bool (recR q l o b s d m)) ∧ Fr [] w w' := by
  have HREC := Lib.hid (fun W => recEntry_any q l o b s d m W)
  unfold recV at HREC ⊢
  unfold entV at HREC
  have hF0 := ((Fr.refl [] w).alloc (.cells #[.int .i64 q, .int .i64 l, .int .i64 o, .int .i64 b, .int .i64 s, .bool d, .int .i64 m] 54)).drew
  have hB0 := (Blk.new w #[.int .i64 q, .int .i64 l, .int .i64 o, .int .i64 b, .int .i64 s, .bool d, .int .i64 m] 54).drew
  go_enter Tryd.func41, Tryd.ntmps41
  go_upto_region 1 with fail
  go_cut [3] (fun t wr => t = .bool (dropB o s d m) ∧ ∃ w4, w4 = wr ∧ Fr [] w w4 ∧ Blk w4 w.heap.size 54 #[.int .i64 q, .int .i64 l, .int .i64 o, .int .i64 b, .int .i64 s, .bool d, .int .i64 m])
  case first =>
    have hB := hB0
    have hFw := hF0
    clear hB0 hF0
    by_cases ho : o = 1
    · subst ho
      refine region_ord [] (.take 0 (.take 1 (.take 2 (.take 3 (.take 4 (.take 6 (.take 7 (.take 8 (.pick 5 (.take 9 (.take 10 (.take 11 .done))) .none))))))))) (by kernel_rfl) (by kernel_rfl) ?_
      simp only [ordList, Ord.map, List.getD_cons_zero, List.getD_cons_succ]
      refine' ord_pure (v := _) ?_ rfl ?_; rotate_left; focus (intro w; go_simp <;> (first | (with_reducible rfl) | (constructor <;> with_reducible rfl)))
      simp only [Act.put, List.setIfInBounds_toArray, List.set_cons_zero, List.set_cons_succ]
      refine ord_cell hB (by simp) rfl rfl (by kernel_rfl) rfl rfl ?_
      simp only [Act.put, List.getElem_toArray, List.getElem_cons_zero, List.getElem_cons_succ, List.setIfInBounds_toArray, List.set_cons_zero, List.set_cons_succ]
      refine' ord_pure (v := _) ?_ rfl ?_; rotate_left; focus (intro w; go_simp <;> (first | (with_reducible rfl) | (constructor <;> with_reducible rfl)))
      simp only [Act.put, List.setIfInBounds_toArray, List.set_cons_zero, List.set_cons_succ]
      refine' ord_pure (v := _) ?_ rfl ?_; rotate_left; focus (intro w; go_simp <;> (first | (with_reducible rfl) | (constructor <;> with_reducible rfl)))
      simp only [Act.put, List.setIfInBounds_toArray, List.set_cons_zero, List.set_cons_succ]
      refine ord_all hB (by simp) rfl rfl (by kernel_rfl) rfl ?_
      simp only [Act.put, List.setIfInBounds_toArray, List.set_cons_zero, List.set_cons_succ]
      refine' ord_pure (v := _) ?_ rfl ?_; rotate_left; focus (intro w; go_simp <;> (first | (with_reducible rfl) | (constructor <;> with_reducible rfl)))
      simp only [Act.put, List.setIfInBounds_toArray, List.set_cons_zero, List.set_cons_succ]
      refine ord_cell hB (by simp) rfl rfl (by kernel_rfl) rfl rfl ?_
      simp only [Act.put, List.getElem_toArray, List.getElem_cons_zero, List.getElem_cons_succ, List.setIfInBounds_toArray, List.set_cons_zero, List.set_cons_succ]
      refine' ord_pure (v := _) ?_ rfl ?_; rotate_left; focus (intro w; go_simp <;> (first | (with_reducible rfl) | (constructor <;> with_reducible rfl)))
      simp only [Act.put, List.setIfInBounds_toArray, List.set_cons_zero, List.set_cons_succ]
      -- 5: t9 := CALL (lavabo/forms.Record).entry(t8)   [if op3=true]   {3,4}
      refine' ord_call (f := 39) (args := _) ?_ rfl ?_; rotate_left; focus (go_simp <;> (first | (with_reducible rfl) | (constructor <;> with_reducible rfl)))
      refine (HREC.out _).mono ?_
      rintro e w1 ⟨rfl, hF⟩
      have hB := hB.fr hF (by simp)
      have hFw := hFw.trans hF
      refine ⟨_, rfl, hF, ?_⟩
      simp only [Act.put, List.setIfInBounds_toArray, List.set_cons_zero, List.set_cons_succ]
      -- 9: t13 := t9 neq t12   [if op3=true]   {3,5,8}
      refine ord_pure (v := .bool (dropB 1 s d m)) (fun W => (by go_simp; by_cases h1 : s = 0 <;> cases d <;> by_cases h2 : m = 0 <;> simp [dropB, h1, h2])) rfl ?_
      simp only [Act.put, List.setIfInBounds_toArray, List.set_cons_zero, List.set_cons_succ]
      refine' ord_pure (v := _) ?_ rfl ?_; rotate_left; focus (intro w; go_simp <;> (first | (with_reducible rfl) | (constructor <;> with_reducible rfl)))
      simp only [Act.put, List.setIfInBounds_toArray, List.set_cons_zero, List.set_cons_succ]
      refine' ord_pure (v := _) ?_ rfl ?_; rotate_left; focus (intro w; go_simp <;> (first | (with_reducible rfl) | (constructor <;> with_reducible rfl)))
      simp only [Act.put, List.setIfInBounds_toArray, List.set_cons_zero, List.set_cons_succ]
      refine ord_nil ?_
      go_wp2_with fail
      go_meet
      exact ⟨by simp [dropB], _, rfl, hFw, hB⟩
    · have hob : (o == 1) = false := beq_eq_false_iff_ne.2 ho
      refine region_ord [] (.take 0 (.take 1 (.take 2 (.take 3 (.take 4 (.take 5 (.take 6 (.take 7 (.take 8 (.take 9 (.take 10 (.take 11 .done)))))))))))) (by kernel_rfl) (by kernel_rfl) ?_
      simp only [ordList, Ord.map, List.getD_cons_zero, List.getD_cons_succ]
      refine' ord_pure (v := _) ?_ rfl ?_; rotate_left; focus (intro w; go_simp <;> (first | (with_reducible rfl) | (constructor <;> with_reducible rfl)))
      simp only [Act.put, List.setIfInBounds_toArray, List.set_cons_zero, List.set_cons_succ]
      refine ord_cell hB (by simp) rfl rfl (by kernel_rfl) rfl rfl ?_
      simp only [Act.put, List.getElem_toArray, List.getElem_cons_zero, List.getElem_cons_succ, List.setIfInBounds_toArray, List.set_cons_zero, List.set_cons_succ]
      refine' ord_pure (v := _) ?_ rfl ?_; rotate_left; focus (intro w; go_simp <;> (first | (with_reducible rfl) | (constructor <;> with_reducible rfl)))
      simp only [Act.put, List.setIfInBounds_toArray, List.set_cons_zero, List.set_cons_succ]
      refine' ord_pure (v := _) ?_ rfl ?_; rotate_left; focus (intro w; go_simp <;> (first | (with_reducible rfl) | (constructor <;> with_reducible rfl)))
      simp only [Act.put, List.setIfInBounds_toArray, List.set_cons_zero, List.set_cons_succ]
      refine ord_shut rfl ?_
      simp only [Act.put, List.setIfInBounds_toArray, List.set_cons_zero, List.set_cons_succ]
      refine ord_shut rfl ?_
      simp only [Act.put, List.setIfInBounds_toArray, List.set_cons_zero, List.set_cons_succ]
      refine ord_shut rfl ?_
      simp only [Act.put, List.setIfInBounds_toArray, List.set_cons_zero, List.set_cons_succ]
      refine ord_shut rfl ?_
      simp only [Act.put, List.setIfInBounds_toArray, List.set_cons_zero, List.set_cons_succ]
      refine ord_shut rfl ?_
      simp only [Act.put, List.setIfInBounds_toArray, List.set_cons_zero, List.set_cons_succ]
      refine ord_shut rfl ?_
      simp only [Act.put, List.setIfInBounds_toArray, List.set_cons_zero, List.set_cons_succ]
      refine' ord_pure (v := _) ?_ rfl ?_; rotate_left; focus (intro w; go_simp <;> (first | (with_reducible rfl) | (constructor <;> with_reducible rfl)))
      simp only [Act.put, List.setIfInBounds_toArray, List.set_cons_zero, List.set_cons_succ]
      refine' ord_pure (v := _) ?_ rfl ?_; rotate_left; focus (intro w; go_simp <;> (first | (with_reducible rfl) | (constructor <;> with_reducible rfl)))
      simp only [Act.put, List.setIfInBounds_toArray, List.set_cons_zero, List.set_cons_succ]
      refine ord_nil ?_
      go_wp2_with fail
      go_meet
      exact ⟨by simp [dropB, hob], _, rfl, hFw, hB⟩
  case rest =>
    obtain ⟨rfl, w4, rfl, hF4, hB4⟩ := hcut
    have c0 : w4.cell? ⟨w.heap.size, 0, none⟩ = some (.int .i64 q) := hB4.cell rfl
    have c1 : w4.cell? ⟨w.heap.size, 1, none⟩ = some (.int .i64 l) := hB4.cell rfl
    have c2 : w4.cell? ⟨w.heap.size, 2, none⟩ = some (.int .i64 o) := hB4.cell rfl
    have c3 : w4.cell? ⟨w.heap.size, 3, none⟩ = some (.int .i64 b) := hB4.cell rfl
    have c4 : w4.cell? ⟨w.heap.size, 4, none⟩ = some (.int .i64 s) := hB4.cell rfl
    have c5 : w4.cell? ⟨w.heap.size, 5, none⟩ = some (.bool d) := hB4.cell rfl
    have c6 : w4.cell? ⟨w.heap.size, 6, none⟩ = some (.int .i64 m) := hB4.cell rfl
    have hE := fun r h W => entR_val b s d m r W h
    unfold entV at hE
    have HE := Lib.hid hE
    clear hB4 hE hF0 hB0
    cases h0 : wI q 1 1099511627776
    rotate_left
    cases h1 : wI l 0 1099511627776
    rotate_left
    cases h2 : wI o 0 1
    rotate_left
    cases h3 : entR b s m
    all_goals
      go_wp2_with (first
        | (go_at_call 55; refine (within_val _ _ _ _ _ (by with_reducible first | exact h0 | exact h1 | exact h2)).mono ?_; rintro e w' ⟨rfl, rfl⟩)
        | (go_at_call 39; refine (HREC.out _).mono ?_; rintro e w5 ⟨rfl, hF5⟩)
        | (go_at_call 57; refine (HE.out _ h3 _).mono ?_; rintro e w6 ⟨rfl, hF6⟩))
      go_ret
      exact ⟨by simp [recR, h0, *], by first | exact hF4 | exact (hF4.trans hF5).trans hF6⟩
end Go.Proofs.YtifafnmbcmhlcaaDoor
