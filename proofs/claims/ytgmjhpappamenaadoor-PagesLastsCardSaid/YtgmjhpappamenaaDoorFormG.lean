/- forms: bounds, flags, which numbers may be. -/
import Derived.Test.YtgmjhpappamenaaDoorFieldN
import Derived.Test.YtgmjhpappamenaaDoorDrawn
import Derived.Test.YtgmjhpappamenaaDoorFieldO
namespace Go.Proofs.YtgmjhpappamenaaDoor
open Go.RowKit Go.Shelf

/-- is a number within bounds -/
def wI (n a b : Int) : Bool := decide (a ≤ n ∧ n ≤ b)
theorem wI_iff {n a b : Int} : wI n a b = true ↔ a ≤ n ∧ n ≤ b := by unfold wI; exact decide_eq_true_iff
theorem within_val (n a b : Int) (r : Bool) (w : World) (h : wI n a b = r) :
    Calls Tryd.prog 98 #[.int .i64 n, .int .i64 a, .int .i64 b] w fun e w' => e = .returned (.bool r) ∧ w = w' := by
  subst h
  by_cases h1 : a ≤ n
  · by_cases h2 : n ≤ b
    · have hr : wI n a b = true := wI_iff.2 ⟨h1, h2⟩
      rw [hr]
      clear hr
      go_enter Tryd.func98, Tryd.ntmps98
      go_wp2_with fail
      go_ret
      exact ⟨by simp [h1, h2], rfl⟩
    · have hr : wI n a b = false := by unfold wI; simp; intro; omega
      rw [hr]
      clear hr
      go_enter Tryd.func98, Tryd.ntmps98
      go_wp2_with fail
      go_ret
      exact ⟨by simp [h2], rfl⟩
  · have hr : wI n a b = false := by unfold wI; simp; intro; omega
    rw [hr]
    clear hr
    go_enter Tryd.func98, Tryd.ntmps98
    go_wp2_with fail
    go_ret
    exact ⟨by simp [h1], rfl⟩
def flagN (d : Bool) : Nat := if d then 1 else 0
theorem flag_any (d : Bool) (w : World) :
    Calls Tryd.prog 105 #[.bool d] w fun e w' => e = .returned (.int .i64 (flagN d : Nat)) ∧ w = w' := by
  cases d
  all_goals
    go_enter Tryd.func105, Tryd.ntmps105
    go_wp2_with fail
    go_ret
    exact ⟨rfl, rfl⟩
def superR (x0 x1 x2 x3 x4 x5 x6 : Int) : Bool :=
  wI x0 0 1099511627776 && wI x1 1 4096 && wI x2 1 1024 && wI x3 1 4096 && wI x4 1 4096 && wI x5 1 4096 && wI x6 1 64
def superV (x0 x1 x2 x3 x4 x5 x6 : Int) : Value := .agg #[.int .i64 x0, .int .i64 x1, .int .i64 x2, .int .i64 x3, .int .i64 x4, .int .i64 x5, .int .i64 x6]
end Go.Proofs.YtgmjhpappamenaaDoor

/- forms: entries and records: which may be, their numbers. -/
namespace Go.Proofs.YtgmjhpappamenaaDoor
open Go.RowKit Go.Shelf

def entV (b s : Int) (d : Bool) (m : Int) : Array Value := #[.int .i64 b, .int .i64 s, .bool d, .int .i64 m]
def entR (b s m : Int) : Bool := wI b 0 4095 && wI s 0 1023 && wI m 0 4294967295
set_option maxHeartbeats 1000000 in
theorem entR_val (b s : Int) (d : Bool) (m : Int) (r : Bool) (w : World) (hr : entR b s m = r) :
    Calls Tryd.prog 99 #[.agg (entV b s d m)] w fun e w' => e = .returned (.bool r) ∧ Fr [] w w' := by
  subst hr
  unfold entR entV
  cases h0 : wI b 0 4095
  rotate_left
  cases h1 : wI s 0 1023
  rotate_left
  cases h2 : wI m 0 4294967295
  all_goals
    go_enter Tryd.func99, Tryd.ntmps99
    go_wp2_with (go_at_call 98; refine (within_val _ _ _ _ _ (by with_reducible first | exact h0 | exact h1 | exact h2)).mono ?_; rintro e w' ⟨rfl, rfl⟩)
    go_ret
    exact ⟨by simp, (Fr.refl _ _).alloc _⟩
def recV (q l o b s : Int) (d : Bool) (m : Int) : Array Value := #[.int .i64 q, .int .i64 l, .int .i64 o, .int .i64 b, .int .i64 s, .bool d, .int .i64 m]
theorem recEntry_any (q l o b s : Int) (d : Bool) (m : Int) (w : World) :
    Calls Tryd.prog 79 #[.agg (recV q l o b s d m)] w fun e w' => e = .returned (.agg (entV b s d m)) ∧ Fr [] w w' := by
  unfold recV entV
  go_enter Tryd.func79, Tryd.ntmps79
  go_wp2_with fail
  exact bodyPost_ret (v := .agg #[.int .i64 b, .int .i64 s, .bool d, .int .i64 m]) (by simp [results, Tryd.results79, go_sem]) rfl ⟨rfl, ((Fr.refl _ _).alloc _).alloc _⟩
/-- nums: the numbers and their sizes, as pairs -/
def numsV (l : List (Int × Int)) : List Value := l.flatMap fun p => [.int .i64 p.1, .int .i64 p.2]
def entL (b s : Int) (d : Bool) (m : Int) : List (Int × Int) := [(b, 2), (s, 2), ((flagN d : Nat), 1), (m, 4)]
theorem entNums_any (b s : Int) (d : Bool) (m : Int) (w : World) :
    Calls Tryd.prog 80 #[.agg (entV b s d m)] w fun e w' => ∃ g, e = .returned (.slice (some ⟨g, 0, none⟩) 4 4) ∧ Blk w' g 143 (numsV (entL b s d m)).toArray ∧ w.heap.size ≤ g ∧ Fr [] w w' := by
  unfold entV
  go_enter Tryd.func80, Tryd.ntmps80
  go_wp2_with fail
  have hB := (Blk.new w #[.int .i64 b, .int .i64 s, .bool d, .int .i64 m] 83).drew
  refine region_ord [] (.take 0 (.take 1 (.take 2 (.take 3 (.take 4 (.take 5 (.take 6 (.take 7 (.take 10 (.take 11 (.take 12 (.pick 8 (.take 9 (.pick 13 (.take 14 .done) .none)) .none)))))))))))) (by kernel_rfl) (by kernel_rfl) ?_
  simp only [ordList, Ord.map, List.getD_cons_zero, List.getD_cons_succ]
  refine' ord_pure (v := _) ?_ rfl ?_; rotate_left; focus (intro w; go_simp <;> (first | (with_reducible rfl) | (constructor <;> with_reducible rfl)))
  simp only [Act.put, List.setIfInBounds_toArray, List.set_cons_zero, List.set_cons_succ]
  refine ord_cell hB (by simp) rfl rfl (by kernel_rfl) rfl rfl ?_
  simp only [Act.put, List.getElem_toArray, List.getElem_cons_zero, List.getElem_cons_succ, List.setIfInBounds_toArray, List.set_cons_zero, List.set_cons_succ]
  refine' ord_pure (v := _) ?_ rfl ?_; rotate_left; focus (intro w; go_simp <;> (first | (with_reducible rfl) | (constructor <;> with_reducible rfl)))
  simp only [Act.put, List.setIfInBounds_toArray, List.set_cons_zero, List.set_cons_succ]
  refine' ord_pure (v := _) ?_ rfl ?_; rotate_left; focus (intro w; go_simp <;> (first | (with_reducible rfl) | (constructor <;> with_reducible rfl)))
  simp only [Act.put, List.setIfInBounds_toArray, List.set_cons_zero, List.set_cons_succ]
  refine ord_cell hB (by simp) rfl rfl (by kernel_rfl) rfl rfl ?_
  simp only [Act.put, List.getElem_toArray, List.getElem_cons_zero, List.getElem_cons_succ, List.setIfInBounds_toArray, List.set_cons_zero, List.set_cons_succ]
  refine' ord_pure (v := _) ?_ rfl ?_; rotate_left; focus (intro w; go_simp <;> (first | (with_reducible rfl) | (constructor <;> with_reducible rfl)))
  simp only [Act.put, List.setIfInBounds_toArray, List.set_cons_zero, List.set_cons_succ]
  refine' ord_pure (v := _) ?_ rfl ?_; rotate_left; focus (intro w; go_simp <;> (first | (with_reducible rfl) | (constructor <;> with_reducible rfl)))
  simp only [Act.put, List.setIfInBounds_toArray, List.set_cons_zero, List.set_cons_succ]
  refine ord_cell hB (by simp) rfl rfl (by kernel_rfl) rfl rfl ?_
  simp only [Act.put, List.getElem_toArray, List.getElem_cons_zero, List.getElem_cons_succ, List.setIfInBounds_toArray, List.set_cons_zero, List.set_cons_succ]
  refine' ord_pure (v := _) ?_ rfl ?_; rotate_left; focus (intro w; go_simp <;> (first | (with_reducible rfl) | (constructor <;> with_reducible rfl)))
  simp only [Act.put, List.setIfInBounds_toArray, List.set_cons_zero, List.set_cons_succ]
  refine ord_cell hB (by simp) rfl rfl (by kernel_rfl) rfl rfl ?_
  simp only [Act.put, List.getElem_toArray, List.getElem_cons_zero, List.getElem_cons_succ, List.setIfInBounds_toArray, List.set_cons_zero, List.set_cons_succ]
  refine' ord_pure (v := _) ?_ rfl ?_; rotate_left; focus (intro w; go_simp <;> (first | (with_reducible rfl) | (constructor <;> with_reducible rfl)))
  simp only [Act.put, List.setIfInBounds_toArray, List.set_cons_zero, List.set_cons_succ]
  -- 8: t11 := CALL lavabo/forms.flag(t10)   {7}
  refine' ord_call (f := 105) (args := _) ?_ rfl ?_; rotate_left; focus (go_simp <;> (first | (with_reducible rfl) | (constructor <;> with_reducible rfl)))
  refine (flag_any _ _).mono ?_
  rintro e w1 ⟨rfl, rfl⟩
  have hF := Fr.refl [] (w.alloc (.cells #[.int .i64 b, .int .i64 s, .bool d, .int .i64 m] 83)).drew
  refine ⟨_, rfl, hF, ?_⟩
  simp only [Act.put, List.setIfInBounds_toArray, List.set_cons_zero, List.set_cons_succ]
  refine' ord_pure (v := _) ?_ rfl ?_; rotate_left; focus (intro w; go_simp <;> (first | (with_reducible rfl) | (constructor <;> with_reducible rfl)))
  simp only [Act.put, List.setIfInBounds_toArray, List.set_cons_zero, List.set_cons_succ]
  -- 13: t16 := buildSlice <[]forms.num> 4 [(0,t5),(1,t8),(2,t12),(3,t15)]   {2,5,9,12}
  refine' ord_do (v := _) (w' := _) ?_ ?_ rfl ?_; rotate_left 2; focus (go_simp <;> (first | (with_reducible rfl) | (constructor <;> with_reducible rfl)))
  focus (exact (Fr.refl _ _).alloc _)
  simp only [Act.put, List.setIfInBounds_toArray, List.set_cons_zero, List.set_cons_succ]
  refine' ord_pure (v := _) ?_ rfl ?_; rotate_left; focus (intro w; go_simp <;> (first | (with_reducible rfl) | (constructor <;> with_reducible rfl)))
  simp only [Act.put, List.setIfInBounds_toArray, List.set_cons_zero, List.set_cons_succ]
  refine ord_nil ?_
  go_wp2_with fail
  go_ret
  exact ⟨_, rfl, (blk_at _ _ _ _ (by simp)).drew, by simp, (((Fr.refl _ _).alloc _).alloc _).drew⟩
/-- a dropped record's other numbers are noughts -/
def dropB (o s : Int) (d : Bool) (m : Int) : Bool := o == 1 && !(s == 0 && (d == false && m == 0))
def recR (q l o b s : Int) (d : Bool) (m : Int) : Bool := wI q 1 1099511627776 && wI l 0 1099511627776 && wI o 0 1 && entR b s m && !dropB o s d m
set_option maxHeartbeats 1000000 in
theorem recR_any (q l o b s : Int) (d : Bool) (m : Int) (w : World) :
    Calls Tryd.prog 75 #[.agg (recV q l o b s d m)] w fun e w' => e = .returned (.bool (recR q l o b s d m)) ∧ Fr [] w w' := by
  have HREC := Lib.hid (fun W => recEntry_any q l o b s d m W)
  unfold recV at HREC ⊢
  unfold entV at HREC
  have hF0 := ((Fr.refl [] w).alloc (.cells #[.int .i64 q, .int .i64 l, .int .i64 o, .int .i64 b, .int .i64 s, .bool d, .int .i64 m] 51)).drew
  have hB0 := (Blk.new w #[.int .i64 q, .int .i64 l, .int .i64 o, .int .i64 b, .int .i64 s, .bool d, .int .i64 m] 51).drew
  go_enter Tryd.func75, Tryd.ntmps75
  go_upto_region 1 with fail
  go_cut [3] (fun t wr => t = .bool (dropB o s d m) ∧ ∃ w4, w4 = wr ∧ Fr [] w w4 ∧ Blk w4 w.heap.size 51 #[.int .i64 q, .int .i64 l, .int .i64 o, .int .i64 b, .int .i64 s, .bool d, .int .i64 m])
  case first =>
    have hB := hB0
    have hFw := hF0
    clear hB0 hF0
    by_cases ho : o = 1
    · subst ho
      refine region_ord [] (.take 0 (.take 1 (.take 2 (.take 3 (.take 4 (.take 6 (.take 7 (.take 8 (.pick 5 (.take 9 (.take 10 (.take 11 .done))) .none))))))))) (by kernel_rfl) (by kernel_rfl) ?_
      simp only [ordList, Ord.map, List.getD_cons_zero, List.getD_cons_succ]
      refine' ord_pure (v := _) ?_ rfl ?_; rotate_left; focus (intro w; go_simp <;> (first | (with_reducible rfl) | (constructor <;> with_reducible rfl)))
      simp only [Act.put, List.setIfInBounds_toArray, List.set_cons_zero, List.set_cons_succ]
      refine ord_cell hB (by simp) rfl rfl (by kernel_rfl) rfl rfl ?_
      simp only [Act.put, List.getElem_toArray, List.getElem_cons_zero, List.getElem_cons_succ, List.setIfInBounds_toArray, List.set_cons_zero, List.set_cons_succ]
      refine' ord_pure (v := _) ?_ rfl ?_; rotate_left; focus (intro w; go_simp <;> (first | (with_reducible rfl) | (constructor <;> with_reducible rfl)))
      simp only [Act.put, List.setIfInBounds_toArray, List.set_cons_zero, List.set_cons_succ]
      refine' ord_pure (v := _) ?_ rfl ?_; rotate_left; focus (intro w; go_simp <;> (first | (with_reducible rfl) | (constructor <;> with_reducible rfl)))
      simp only [Act.put, List.setIfInBounds_toArray, List.set_cons_zero, List.set_cons_succ]
      refine ord_all hB (by simp) rfl rfl (by kernel_rfl) rfl ?_
      simp only [Act.put, List.setIfInBounds_toArray, List.set_cons_zero, List.set_cons_succ]
      refine' ord_pure (v := _) ?_ rfl ?_; rotate_left; focus (intro w; go_simp <;> (first | (with_reducible rfl) | (constructor <;> with_reducible rfl)))
      simp only [Act.put, List.setIfInBounds_toArray, List.set_cons_zero, List.set_cons_succ]
      refine ord_cell hB (by simp) rfl rfl (by kernel_rfl) rfl rfl ?_
      simp only [Act.put, List.getElem_toArray, List.getElem_cons_zero, List.getElem_cons_succ, List.setIfInBounds_toArray, List.set_cons_zero, List.set_cons_succ]
      refine' ord_pure (v := _) ?_ rfl ?_; rotate_left; focus (intro w; go_simp <;> (first | (with_reducible rfl) | (constructor <;> with_reducible rfl)))
      simp only [Act.put, List.setIfInBounds_toArray, List.set_cons_zero, List.set_cons_succ]
      -- 5: t9 := CALL (lavabo/forms.Record).entry(t8)   [if op3=true]   {3,4}
      refine' ord_call (f := 79) (args := _) ?_ rfl ?_; rotate_left; focus (go_simp <;> (first | (with_reducible rfl) | (constructor <;> with_reducible rfl)))
      refine (HREC.out _).mono ?_
      rintro e w1 ⟨rfl, hF⟩
      have hB := hB.fr hF (by simp)
      have hFw := hFw.trans hF
      refine ⟨_, rfl, hF, ?_⟩
      simp only [Act.put, List.setIfInBounds_toArray, List.set_cons_zero, List.set_cons_succ]
      -- 9: t13 := t9 neq t12   [if op3=true]   {3,5,8}
      refine ord_pure (v := .bool (dropB 1 s d m)) (fun W => (by go_simp; by_cases h1 : s = 0 <;> cases d <;> by_cases h2 : m = 0 <;> simp [dropB, h1, h2])) rfl ?_
      simp only [Act.put, List.setIfInBounds_toArray, List.set_cons_zero, List.set_cons_succ]
      refine' ord_pure (v := _) ?_ rfl ?_; rotate_left; focus (intro w; go_simp <;> (first | (with_reducible rfl) | (constructor <;> with_reducible rfl)))
      simp only [Act.put, List.setIfInBounds_toArray, List.set_cons_zero, List.set_cons_succ]
      refine' ord_pure (v := _) ?_ rfl ?_; rotate_left; focus (intro w; go_simp <;> (first | (with_reducible rfl) | (constructor <;> with_reducible rfl)))
      simp only [Act.put, List.setIfInBounds_toArray, List.set_cons_zero, List.set_cons_succ]
      refine ord_nil ?_
      go_wp2_with fail
      go_meet
      exact ⟨by simp [dropB], _, rfl, hFw, hB⟩
    · have hob : (o == 1) = false := beq_eq_false_iff_ne.2 ho
      refine region_ord [] (.take 0 (.take 1 (.take 2 (.take 3 (.take 4 (.take 5 (.take 6 (.take 7 (.take 8 (.take 9 (.take 10 (.take 11 .done)))))))))))) (by kernel_rfl) (by kernel_rfl) ?_
      simp only [ordList, Ord.map, List.getD_cons_zero, List.getD_cons_succ]
      refine' ord_pure (v := _) ?_ rfl ?_; rotate_left; focus (intro w; go_simp <;> (first | (with_reducible rfl) | (constructor <;> with_reducible rfl)))
      simp only [Act.put, List.setIfInBounds_toArray, List.set_cons_zero, List.set_cons_succ]
      refine ord_cell hB (by simp) rfl rfl (by kernel_rfl) rfl rfl ?_
      simp only [Act.put, List.getElem_toArray, List.getElem_cons_zero, List.getElem_cons_succ, List.setIfInBounds_toArray, List.set_cons_zero, List.set_cons_succ]
      refine' ord_pure (v := _) ?_ rfl ?_; rotate_left; focus (intro w; go_simp <;> (first | (with_reducible rfl) | (constructor <;> with_reducible rfl)))
      simp only [Act.put, List.setIfInBounds_toArray, List.set_cons_zero, List.set_cons_succ]
      refine' ord_pure (v := _) ?_ rfl ?_; rotate_left; focus (intro w; go_simp <;> (first | (with_reducible rfl) | (constructor <;> with_reducible rfl)))
      simp only [Act.put, List.setIfInBounds_toArray, List.set_cons_zero, List.set_cons_succ]
      refine ord_shut rfl ?_
      simp only [Act.put, List.setIfInBounds_toArray, List.set_cons_zero, List.set_cons_succ]
      refine ord_shut rfl ?_
      simp only [Act.put, List.setIfInBounds_toArray, List.set_cons_zero, List.set_cons_succ]
      refine ord_shut rfl ?_
      simp only [Act.put, List.setIfInBounds_toArray, List.set_cons_zero, List.set_cons_succ]
      refine ord_shut rfl ?_
      simp only [Act.put, List.setIfInBounds_toArray, List.set_cons_zero, List.set_cons_succ]
      refine ord_shut rfl ?_
      simp only [Act.put, List.setIfInBounds_toArray, List.set_cons_zero, List.set_cons_succ]
      refine ord_shut rfl ?_
      simp only [Act.put, List.setIfInBounds_toArray, List.set_cons_zero, List.set_cons_succ]
      refine' ord_pure (v := _) ?_ rfl ?_; rotate_left; focus (intro w; go_simp <;> (first | (with_reducible rfl) | (constructor <;> with_reducible rfl)))
      simp only [Act.put, List.setIfInBounds_toArray, List.set_cons_zero, List.set_cons_succ]
      refine' ord_pure (v := _) ?_ rfl ?_; rotate_left; focus (intro w; go_simp <;> (first | (with_reducible rfl) | (constructor <;> with_reducible rfl)))
      simp only [Act.put, List.setIfInBounds_toArray, List.set_cons_zero, List.set_cons_succ]
      refine ord_nil ?_
      go_wp2_with fail
      go_meet
      exact ⟨by simp [dropB, hob], _, rfl, hFw, hB⟩
  case rest =>
    obtain ⟨rfl, w4, rfl, hF4, hB4⟩ := hcut
    have c0 : w4.cell? ⟨w.heap.size, 0, none⟩ = some (.int .i64 q) := hB4.cell rfl
    have c1 : w4.cell? ⟨w.heap.size, 1, none⟩ = some (.int .i64 l) := hB4.cell rfl
    have c2 : w4.cell? ⟨w.heap.size, 2, none⟩ = some (.int .i64 o) := hB4.cell rfl
    have c3 : w4.cell? ⟨w.heap.size, 3, none⟩ = some (.int .i64 b) := hB4.cell rfl
    have c4 : w4.cell? ⟨w.heap.size, 4, none⟩ = some (.int .i64 s) := hB4.cell rfl
    have c5 : w4.cell? ⟨w.heap.size, 5, none⟩ = some (.bool d) := hB4.cell rfl
    have c6 : w4.cell? ⟨w.heap.size, 6, none⟩ = some (.int .i64 m) := hB4.cell rfl
    have hE := fun r h W => entR_val b s d m r W h
    unfold entV at hE
    have HE := Lib.hid hE
    clear hB4 hE hF0 hB0
    cases h0 : wI q 1 1099511627776
    rotate_left
    cases h1 : wI l 0 1099511627776
    rotate_left
    cases h2 : wI o 0 1
    rotate_left
    cases h3 : entR b s m
    all_goals
      go_wp2_with (first
        | (go_at_call 98; refine (within_val _ _ _ _ _ (by with_reducible first | exact h0 | exact h1 | exact h2)).mono ?_; rintro e w' ⟨rfl, rfl⟩)
        | (go_at_call 79; refine (HREC.out _).mono ?_; rintro e w5 ⟨rfl, hF5⟩)
        | (go_at_call 99; refine (HE.out _ h3 _).mono ?_; rintro e w6 ⟨rfl, hF6⟩))
      go_ret
      exact ⟨by simp [recR, h0, *], by first | exact hF4 | exact (hF4.trans hF5).trans hF6⟩
end Go.Proofs.YtgmjhpappamenaaDoor

/- forms: put. -/
namespace Go.Proofs.YtgmjhpappamenaaDoor
open Go.RowKit Go.Shelf

theorem res_cell_at {P : Program} {fn : Func} {p u : Tmp} {ty : TypeId} (h : fn.results = #[.cell p ty, .tmp u]) {tmps : Array Value} {w : World} {a : Addr} {v x : Value} (ht : tmps.getD p undef = .pointer (some a))
    (hu : tmps.getD u undef = x) (hl : (loadVar ty a).run P w = .ok v w) : (results fn tmps).run P w = .ok (.tuple #[v, x]) w := by
  rw [res_cell_tmp h ht hl, hu]
/-- what put answers: the sector, and the error -/
def putSt (kind : Int) (ps : List (Int × Int)) : List Nat × Int := putN ((kind, 1) :: ps) (ps.length + 1)
set_option maxRecDepth 100000 in
theorem put_no (kind : Int) (sl : Value) (w : World) :
    Calls Tryd.prog 81 #[.int .i64 kind, .bool false, sl] w fun e w' => e = .returned (.tuple #[.agg (bv zeros64), .int .i64 10]) ∧ Fr [] w w' := by
  have hz : ∀ w, (zeroValue 88).run Tryd.prog w = .ok (.agg (bv zeros64)) w := fun _ => by kernel_rfl
  obtain ⟨W1, hst, hB1, hF1, hs1⟩ := store_all (P := Tryd.prog) (Blk.new w (bv zeros64) 88) zeros64 (by simp [bv_size])
  have hsz : (bv zeros64).size = 64 := by simp [bv_size, zeros64]
  go_enter Tryd.func81, Tryd.ntmps81
  go_wp2_with fail
  have hld := load_var (P := Tryd.prog) (o := 0) hB1 zeros64 (bv_self _) Tryd.underlying88 (by kernel_rfl) (by simp [zeros64])
  refine bodyPost_ret (res_cell_at Tryd.results81 rfl rfl hld) rfl ⟨rfl, ?_⟩
  exact ((Fr.refl [] w).alloc _).comp hF1 (by simp)
set_option maxRecDepth 100000 in
set_option maxHeartbeats 1000000 in
theorem put_yes (kind : Int) (oa : Option Addr) (ps : List (Int × Int)) (cap : Nat) (w : World) (hP : IsPairs w oa ps) (hH : Halves w) (hl : ps.length ≤ 1000) :
    Calls Tryd.prog 81 #[.int .i64 kind, .bool true, .slice oa ps.length cap] w fun e w' => e = .returned (.tuple #[.agg (bv (sealV (putSt kind ps))), .int .i64 (putSt kind ps).2]) ∧ Fr [] w w' := by
  have hz : ∀ w, (zeroValue 88).run Tryd.prog w = .ok (.agg (bv zeros64)) w := fun _ => by kernel_rfl
  have HP := Lib.hid hP
  have HH := Lib.hid hH
  have hT0 := (Blk.new w (bv zeros64) 88)
  have hF0 := (Fr.refl [] w).alloc (.cells (bv zeros64) 88)
  obtain ⟨n, hn⟩ : ∃ n, n = ps.length := ⟨_, rfl⟩
  unfold putSt
  rw [← hn] at hl ⊢
  have HN := Lib.hid hn
  have HN1 := Lib.hid (show putN ((kind, 1) :: ps) 1 = putS ([], 0) kind 1 from rfl)
  clear hP hH hn
  go_enter Tryd.func81, Tryd.ntmps81
  go_wp2_with fail
  refine (Write_any _).mono ?_
  rintro e w1 ⟨rfl, hW1, hF1⟩
  rw [World.size_alloc] at hW1
  have hF01 := hF0.trans hF1
  have hs1 := hF1.size
  rw [World.size_alloc] at hs1
  have hlt1 := hW1.blk.lt
  have hT1 := hT0.fr hF1 (by simp)
  clear hT0 hF0 hF1
  go_wp2_with fail
  refine (Put_all (w.heap.size + 1) ([], 0) kind 1 w1 hW1).mono ?_
  rintro e w2 ⟨rfl, hW2, hF2⟩
  rw [← HN1.out] at hW2
  have HW2 := Lib.hid hW2
  have hs2 := hF2.size
  have HT2 := Lib.hid (hT1.fr hF2 (by simp))
  have hF02 : Fr [] w w2 := hF01.comp hF2 (by simp)
  clear hT1 hF2 hF01 hW1 hW2
  go_wp2_with fail
  go_loopw [19] (fun i wr => ∃ k : Nat, k ≤ n ∧ i = .int .i64 k ∧ IsWriter wr (w.heap.size + 1) (putN ((kind, 1) :: ps) (k + 1)).1 (putN ((kind, 1) :: ps) (k + 1)).2 ∧ Fr [w.heap.size + 1] w2 wr) (fun i _ => n - (intOf i).toNat)
  case atStart => exact ⟨0, Nat.zero_le _, rfl, HW2.out, Fr.refl _ _⟩
  case round =>
    obtain ⟨k, hk, rfl, hW, hF⟩ := hrel
    have HW := Lib.hid hW
    have hFw : Fr [] w wr := hF02.comp hF (by simp)
    have hszr := hF.size
    have hszw := hFw.size
    clear hW
    by_cases hlt : k < n
    · have hlt' : k < ps.length := by rw [← HN.out]; exact hlt
      obtain ⟨ab, off, hoa, c0, c1⟩ := HP.out k hlt'
      have hab := cell_lt c0
      have k1 := (hFw.cell _ (cell_lt c0) (by simp)).trans c0
      have k2 := (hFw.cell _ (cell_lt c1) (by simp)).trans c1
      have HS := Lib.hid (show putN ((kind, 1) :: ps) (k + 1 + 1) = putS (putN ((kind, 1) :: ps) (k + 1)) ps[k].1 ps[k].2 from putN_succ ((kind, 1) :: ps) (k + 1) (by simp; omega))
      have HCALL := Lib.hid (fun W hF' => Put_all (w.heap.size + 1) (putN ((kind, 1) :: ps) (k + 1)) ps[k].1 ps[k].2 W (HW.out.fr (S := []) hF' (by simp)))
      generalize ps[k].1 = x at k1 HCALL HS
      generalize ps[k].2 = y at k2 HCALL HS
      rw [hoa]
      clear c0 c1 hoa hlt'
      go_wp2_with fail
      refine (HCALL.out _ ((Fr.refl [] wr).alloc _)).mono ?_
      rintro e w4 ⟨rfl, hW4, hF4⟩
      have hF24 : Fr [w.heap.size + 1] w2 w4 := (hF.alloc _).trans hF4
      go_wp2
      go_roundw
      case rel => exact ⟨k + 1, by omega, by go_num, by rw [HS.out]; exact hW4, hF24⟩
      case measure => simp [intOf]; omega
    · obtain rfl : k = n := by omega
      go_wp2_with fail
      have hmem := putN_mem ((kind, 1) :: ps) (k + 1) (by rw [HN.out]; simp)
      refine (Seal_all (w.heap.size + 1) (putN ((kind, 1) :: ps) (k + 1)) wr HW.out (HH.out.keep hFw (by simp)) hmem).mono ?_
      rintro e w5 ⟨rfl, hF5⟩
      have hlen := sealV_len (putN ((kind, 1) :: ps) (k + 1)) HW.out.len
      generalize hS : putN ((kind, 1) :: ps) (k + 1) = S at hlen ⊢
      have HLEN := Lib.hid hlen
      obtain ⟨w6, hst, hB6, hF6, hs6⟩ := store_all (P := Tryd.prog) ((HT2.out.fr hF (by simp)).fr hF5 (by simp)) (sealV S) (by rw [hlen, bv_size]; rfl)
      have hsz : (bv (sealV S)).size = 64 := by rw [bv_size, hlen]
      have hF06 : Fr [] w w6 := (hFw.trans hF5).comp hF6 (by simp)
      have HSS := Lib.hid hS
      clear hS hlen
      go_wp2_with fail
      have hld := load_var (P := Tryd.prog) (o := 0) hB6 (sealV S) (bv_self _) Tryd.underlying88 (by kernel_rfl) HLEN.out
      exact bodyPost_ret (res_cell_at Tryd.results81 rfl rfl hld) rfl ⟨by rw [HSS.out]; rfl, hF06⟩
end Go.Proofs.YtgmjhpappamenaaDoor

/- forms: superblocks, intents. -/
namespace Go.Proofs.YtgmjhpappamenaaDoor
open Go.RowKit Go.Shelf

theorem numsV_get : ∀ (ps : List (Int × Int)) (i : Nat) (h : i < ps.length), (numsV ps)[i * 2]? = some (.int .i64 ps[i].1) ∧ (numsV ps)[i * 2 + 1]? = some (.int .i64 ps[i].2) := by
  intro ps
  induction ps with
  | nil => intro i h; simp at h
  | cons p r ih =>
    intro i h
    cases i with
    | zero => exact ⟨rfl, rfl⟩
    | succ i =>
      have := ih i (by simpa using h)
      rw [show (i + 1) * 2 = i * 2 + 2 by omega]
      exact this
theorem pairs_blk {w : World} {g : Nat} {T : TypeId} {ps : List (Int × Int)} (h : Blk w g T (numsV ps).toArray) : IsPairs w (some ⟨g, 0, none⟩) ps := by
  intro i hi
  have := numsV_get ps i hi
  refine ⟨g, 0, rfl, ?_, ?_⟩
  · rw [Nat.zero_add]; exact h.cell (by simpa using this.1)
  · rw [Nat.zero_add]; exact h.cell (by simpa using this.2)
def putB (kind : Int) (r : Bool) (ps : List (Int × Int)) : List Nat := if r then sealV (putSt kind ps) else zeros64
def putEr (kind : Int) (r : Bool) (ps : List (Int × Int)) : Int := if r then (putSt kind ps).2 else 10
theorem putSt_len (kind : Int) (ps : List (Int × Int)) : (putSt kind ps).1.length ≤ 60 := by
  unfold putSt
  suffices ∀ (l : List (Int × Int)) (s : List Nat × Int), s.1.length ≤ 60 → (l.foldl (fun s p => putS s p.1 p.2) s).1.length ≤ 60 from this _ _ (by simp)
  intro l
  induction l with
  | nil => intro s h; exact h
  | cons p r ih =>
    intro s h
    apply ih
    show (putS s p.1 p.2).1.length ≤ 60
    unfold putS
    split
    · simp only [putL]
      split
      · rename_i h1 h2
        rw [List.length_append, bytesOf_len]
        unfold putE at h2
        split at h2
        · omega
        · split at h2
          · omega
          · unfold wrongE at h2
            split at h2
            · omega
            · split at h2
              · omega
              · omega
      · exact h
    · exact h
theorem putB_len (kind : Int) (r : Bool) (ps : List (Int × Int)) : (putB kind r ps).length = 64 := by
  unfold putB
  cases r
  · rfl
  · exact sealV_len _ (putSt_len kind ps)
theorem put_any (kind : Int) (r : Bool) (oa : Option Addr) (ps : List (Int × Int)) (cap : Nat) (w : World) (hP : IsPairs w oa ps) (hH : Halves w) (hl : ps.length ≤ 1000) :
    Calls Tryd.prog 81 #[.int .i64 kind, .bool r, .slice oa ps.length cap] w fun e w' => e = .returned (.tuple #[.agg (bv (putB kind r ps)), .int .i64 (putEr kind r ps)]) ∧ Fr [] w w' := by
  cases r
  · exact put_no kind _ w
  · exact put_yes kind oa ps cap w hP hH hl

def superL (x0 x1 x2 x3 x4 x5 x6 : Int) : List (Int × Int) := [(x0, 6), (x1, 2), (x2, 2), (x3, 2), (x4, 2), (x5, 2), (x6, 1)]
end Go.Proofs.YtgmjhpappamenaaDoor

/- forms: intents, kinds. -/
namespace Go.Proofs.YtgmjhpappamenaaDoor
open Go.RowKit Go.Shelf

def intV (i q f n : Int) : Array Value := #[.int .i64 i, .int .i64 q, .int .i64 f, .int .i64 n]
def intR (i q f n : Int) : Bool := wI i 0 1099511627776 && wI q 0 1099511627776 && wI f 0 4096 && wI n 1 (4096 - f)
def intL (i q f n : Int) : List (Int × Int) := [(i, 6), (q, 6), (f, 2), (n, 2)]
end Go.Proofs.YtgmjhpappamenaaDoor

/- forms: records put. -/
namespace Go.Proofs.YtgmjhpappamenaaDoor
open Go.RowKit Go.Shelf

theorem infoNum : (Tryd.prog.info? 143).map (fun i => (i.zero, i.size, i.bytes)) = some (some (.agg #[.int .i64 0, .int .i64 0]), 2, 16) := by kernel_rfl
theorem numsV_append (a b : List (Int × Int)) : numsV (a ++ b) = numsV a ++ numsV b := by simp [numsV]
theorem numsV_len (a : List (Int × Int)) : (numsV a).length = a.length * 2 := by
  induction a with
  | nil => rfl
  | cons p r ih => simp only [numsV, List.flatMap_cons, List.length_append, List.length_cons, List.length_nil] at ih ⊢; omega
theorem numsV_one (a : List (Int × Int)) : ∀ u ∈ numsV a, u.oneCell' = true := by
  intro u hu
  simp only [numsV, List.mem_flatMap] at hu
  obtain ⟨p, _, hp⟩ := hu
  simp only [List.mem_cons, List.not_mem_nil, or_false] at hp
  rcases hp with rfl | rfl <;> rfl
theorem blk_news {w : World} {g : Nat} {T : TypeId} {l : List Value} (h : Blk w g T l.toArray) : ∀ (j : Nat) (u : Value), l[j]? = some u → w.cell? (Addr.add ⟨g, 0, none⟩ j) = some u := by
  intro j u hj
  have e : Addr.add ⟨g, 0, none⟩ j = ⟨g, j, none⟩ := by unfold Addr.add; split <;> simp_all
  rw [e]
  exact h.cell (by simpa using hj)
theorem own_slice {g n c i : Nat} (h : (Value.slice (some ⟨g, 0, none⟩) n c).ownBlock = some i) : g = i := by cases h; rfl
theorem pairs_fr {w w' : World} {oa : Option Addr} {ps : List (Int × Int)} (h : IsPairs w oa ps) (hF : Fr [] w w') : IsPairs w' oa ps := by
  intro i hi
  obtain ⟨b, off, he, h0, h1⟩ := h i hi
  exact ⟨b, off, he, cell_fr hF (by simp) h0, cell_fr hF (by simp) h1⟩
theorem owns_pairs {w : World} {base g : Nat} {T : TypeId} {n cap : Nat} {ps : List (Int × Int)} (h : w.ownsRow base T 2 (.slice (some ⟨g, 0, none⟩) n cap) n (numsV ps)) : IsPairs w (some ⟨g, 0, none⟩) ps := by
  obtain ⟨h1, h2⟩ := h
  rcases h2 with ⟨h2, _⟩ | ⟨g', cap', cur, hv, hg, hh, hn, hc, hs, ht⟩
  · simp at h2
  · simp only [Value.slice.injEq, Option.some.injEq, Addr.mk.injEq, true_and, and_true] at hv
    obtain ⟨rfl, rfl⟩ := hv
    intro i hi
    have hb : Blk w g T cur := hh
    have := numsV_get ps i hi
    refine ⟨g, 0, rfl, ?_, ?_⟩
    · rw [Nat.zero_add]; exact hb.cell (take_get ht this.1)
    · rw [Nat.zero_add]; exact hb.cell (take_get ht this.2)

def recL (q l o b s : Int) (d : Bool) (m : Int) : List (Int × Int) := [(q, 6), (l, 6), (o, 1)] ++ entL b s d m
set_option maxRecDepth 100000 in
set_option maxHeartbeats 2000000 in
theorem PutRecord_any (q l o b s : Int) (d : Bool) (m : Int) (w : World) (hH : Halves w) :
    Calls Tryd.prog 54 #[.agg (recV q l o b s d m)] w fun e w' =>
      e = .returned (.tuple #[.agg (bv (putB 2 (recR q l o b s d m) (recL q l o b s d m))), .int .i64 (putEr 2 (recR q l o b s d m) (recL q l o b s d m))]) ∧ Fr [] w w' := by
  have hz : ∀ w, (zeroValue 88).run Tryd.prog w = .ok (.agg (bv zeros64)) w := fun _ => by kernel_rfl
  obtain ⟨i0, hi, hz0, hz1, hz2⟩ := info_parts infoNum
  have HR := Lib.hid (fun W => recR_any q l o b s d m W)
  have HEN := Lib.hid (fun W => recEntry_any q l o b s d m W)
  have HNU := Lib.hid (fun W => entNums_any b s d m W)
  have HH := Lib.hid hH
  have hlen := putB_len 2 (recR q l o b s d m) (recL q l o b s d m)
  have HLEN := Lib.hid hlen
  have hsz : (bv (putB 2 (recR q l o b s d m) (recL q l o b s d m))).size = 64 := by rw [bv_size, hlen]
  unfold recV at HR HEN ⊢
  unfold entV at HEN HNU
  generalize recR q l o b s d m = r at HR HLEN hsz ⊢
  have HPUT := Lib.hid (fun W g cap (h : IsPairs W (some ⟨g, 0, none⟩) (recL q l o b s d m)) hH => put_any 2 r (some ⟨g, 0, none⟩) (recL q l o b s d m) cap W h hH (by simp [recL, entL]))
  have hF0 := (((Fr.refl [] w).alloc (.cells #[.int .i64 q, .int .i64 l, .int .i64 o, .int .i64 b, .int .i64 s, .bool d, .int .i64 m] 51)).alloc (.cells (bv zeros64) 88)).drew
  have hB0 := ((Blk.new w #[.int .i64 q, .int .i64 l, .int .i64 o, .int .i64 b, .int .i64 s, .bool d, .int .i64 m] 51).alloc (.cells (bv zeros64) 88)).drew
  have hT0 := (blk_at (w.alloc (.cells #[.int .i64 q, .int .i64 l, .int .i64 o, .int .i64 b, .int .i64 s, .bool d, .int .i64 m] 51)) (bv zeros64) 88 (w.heap.size + 1) (by simp)).drew
  clear hH hlen
  go_enter Tryd.func54, Tryd.ntmps54
  go_wp2_with fail
  have hB := hB0
  have hFw := hF0
  have hT := hT0
  clear hB0 hF0 hT0
  refine region_old (w.heap.size + 2) [] (.take 0 (.take 1 (.take 2 (.take 3 (.take 4 (.take 5 (.take 6 (.take 7 (.take 8 (.take 10 (.pick 9 (.pick 11 (.pick 12 (.pick 13 (.take 14 .done) .none) .none) .none) (.pick 11 (.pick 9 (.pick 12 (.pick 13 (.take 14 .done) .none) .none) (.pick 12 (.pick 9 (.pick 13 (.take 14 .done) .none) .none) .none)) .none)))))))))))) (by kernel_rfl) (by kernel_rfl) ?_
  simp only [ordList, Ord.map, List.getD_cons_zero, List.getD_cons_succ]
  refine' ord_pure (v := _) ?_ rfl ?_; rotate_left; focus (intro w; go_simp <;> (first | (with_reducible rfl) | (constructor <;> with_reducible rfl)))
  simp only [Act.put, List.setIfInBounds_toArray, List.set_cons_zero, List.set_cons_succ]
  refine ord_cellO hB (by simp) (by simp) rfl rfl (by kernel_rfl) rfl rfl ?_
  simp only [Act.put, List.getElem_toArray, List.getElem_cons_zero, List.getElem_cons_succ, List.setIfInBounds_toArray, List.set_cons_zero, List.set_cons_succ]
  refine' ord_pure (v := _) ?_ rfl ?_; rotate_left; focus (intro w; go_simp <;> (first | (with_reducible rfl) | (constructor <;> with_reducible rfl)))
  simp only [Act.put, List.setIfInBounds_toArray, List.set_cons_zero, List.set_cons_succ]
  refine' ord_pure (v := _) ?_ rfl ?_; rotate_left; focus (intro w; go_simp <;> (first | (with_reducible rfl) | (constructor <;> with_reducible rfl)))
  simp only [Act.put, List.setIfInBounds_toArray, List.set_cons_zero, List.set_cons_succ]
  refine ord_cellO hB (by simp) (by simp) rfl rfl (by kernel_rfl) rfl rfl ?_
  simp only [Act.put, List.getElem_toArray, List.getElem_cons_zero, List.getElem_cons_succ, List.setIfInBounds_toArray, List.set_cons_zero, List.set_cons_succ]
  refine' ord_pure (v := _) ?_ rfl ?_; rotate_left; focus (intro w; go_simp <;> (first | (with_reducible rfl) | (constructor <;> with_reducible rfl)))
  simp only [Act.put, List.setIfInBounds_toArray, List.set_cons_zero, List.set_cons_succ]
  refine' ord_pure (v := _) ?_ rfl ?_; rotate_left; focus (intro w; go_simp <;> (first | (with_reducible rfl) | (constructor <;> with_reducible rfl)))
  simp only [Act.put, List.setIfInBounds_toArray, List.set_cons_zero, List.set_cons_succ]
  refine ord_cellO hB (by simp) (by simp) rfl rfl (by kernel_rfl) rfl rfl ?_
  simp only [Act.put, List.getElem_toArray, List.getElem_cons_zero, List.getElem_cons_succ, List.setIfInBounds_toArray, List.set_cons_zero, List.set_cons_succ]
  refine' ord_pure (v := _) ?_ rfl ?_; rotate_left; focus (intro w; go_simp <;> (first | (with_reducible rfl) | (constructor <;> with_reducible rfl)))
  simp only [Act.put, List.setIfInBounds_toArray, List.set_cons_zero, List.set_cons_succ]
  refine ord_allO hB (by simp) (by simp) rfl rfl (by kernel_rfl) rfl ?_
  simp only [Act.put, List.setIfInBounds_toArray, List.set_cons_zero, List.set_cons_succ]
  refine ord_fork ?_ ?_
  -- 9: t14 := buildSlice <[]forms.num> 3 [(0,t7),(1,t10),(2,t13)]   {2,5,8}
  refine' ord_do (v := _) (w' := _) ?_ ?_ rfl ?_
  rotate_left 2
  focus (go_simp <;> (first | (with_reducible rfl) | (constructor <;> with_reducible rfl)))
  focus (exact old_fr ((Fr.refl [] _).alloc _) hT.lt (by simp))
  have hA := blk_new hFw (numsV [(q, 6), (l, 6), (o, 1)]).toArray 143
  have hAge := hT.lt
  try simp only [World.size_drew, World.size_alloc] at hA hAge
  have hB := hB.alloc (.cells (numsV [(q, 6), (l, 6), (o, 1)]).toArray 143)
  have hT := hT.alloc (.cells (numsV [(q, 6), (l, 6), (o, 1)]).toArray 143)
  have hFw := hFw.alloc (.cells (numsV [(q, 6), (l, 6), (o, 1)]).toArray 143)
  try have hN := hN.alloc (.cells (numsV [(q, 6), (l, 6), (o, 1)]).toArray 143)
  simp only [Act.put, List.setIfInBounds_toArray, List.set_cons_zero, List.set_cons_succ]
  -- 11: t16 := CALL (lavabo/forms.Record).entry(t15)   {10}
  refine' ord_call (f := 79) (args := _) ?_ rfl ?_; rotate_left; focus (go_simp <;> (first | (with_reducible rfl) | (constructor <;> with_reducible rfl)))
  refine (HEN.out _).mono ?_
  rintro e w1 ⟨rfl, hF'⟩
  have hF := old_fr (S := []) (B := w.heap.size + 2) hF' hT.lt (by simp)
  have hB := hB.fr hF' (by simp)
  have hT := hT.fr hF' (by simp)
  have hFw := hFw.trans hF'
  try have hA := hA.fr hF' (by simp)
  refine ⟨_, rfl, hF, ?_⟩
  simp only [Act.put, List.setIfInBounds_toArray, List.set_cons_zero, List.set_cons_succ]
  -- 12: t17 := CALL (lavabo/forms.Entry).nums(t16)   {11}
  refine' ord_call (f := 80) (args := _) ?_ rfl ?_; rotate_left; focus (go_simp <;> (first | (with_reducible rfl) | (constructor <;> with_reducible rfl)))
  refine (HNU.out _).mono ?_
  rintro e w2 ⟨g, rfl, hN, hg, hF'⟩
  have hF := old_fr (S := []) (B := w.heap.size + 2) hF' hT.lt (by simp)
  have hB := hB.fr hF' (by simp)
  have hT := hT.fr hF' (by simp)
  have hFw := hFw.trans hF'
  try have hA := hA.fr hF' (by simp)
  refine ⟨_, rfl, hF, ?_⟩
  simp only [Act.put, List.setIfInBounds_toArray, List.set_cons_zero, List.set_cons_succ]
  -- 13: t18 := CALL builtin Builtin.append(t14, t17)   {9,12}
  refine ord_append rfl _ _ 141 rfl w.heap.size 143 i0 (.agg #[.int .i64 0, .int .i64 0]) 2 16 Tryd.underlying141 hi hz0 hz1 hz2 rfl (by decide) _ 3 _ rfl (owns_blk_new (n := 3) (size := 2) w.heap.size hA (by omega) rfl (by omega) (by decide) rfl) ⟨g, 0, none⟩ 4 4 (numsV (entL b s d m)) rfl (numsV_len _) (blk_news hN) (numsV_one _) (by decide) (by decide) (by decide) hFw.size (fun w' h => old_grown h hT.lt (fun i hi => .inr (by have := own_slice hi; omega))) ?_
  intro g2 cap2 w5 hown hgrow hor hlt2
  have hF5 : Fr [] w w5 := hFw.grown hgrow (fun k hk => .inr (by have := own_slice hk; omega))
  have hB5 := hB.grown hgrow (by intro hk; have := own_slice hk; omega)
  have hT5 := hT.grown hgrow (by intro hk; have := own_slice hk; omega)
  simp only [Act.put, List.setIfInBounds_toArray, List.set_cons_zero, List.set_cons_succ]
  refine' ord_pure (v := _) ?_ rfl ?_; rotate_left; focus (intro w; go_simp <;> (first | (with_reducible rfl) | (constructor <;> with_reducible rfl)))
  simp only [Act.put, List.setIfInBounds_toArray, List.set_cons_zero, List.set_cons_succ]
  refine ord_nil ?_
  rotate_left
  -- 11: t16 := CALL (lavabo/forms.Record).entry(t15)   {10}
  refine' ord_call (f := 79) (args := _) ?_ rfl ?_; rotate_left; focus (go_simp <;> (first | (with_reducible rfl) | (constructor <;> with_reducible rfl)))
  refine (HEN.out _).mono ?_
  rintro e w1 ⟨rfl, hF'⟩
  have hF := old_fr (S := []) (B := w.heap.size + 2) hF' hT.lt (by simp)
  have hB := hB.fr hF' (by simp)
  have hT := hT.fr hF' (by simp)
  have hFw := hFw.trans hF'
  try have hA := hA.fr hF' (by simp)
  refine ⟨_, rfl, hF, ?_⟩
  simp only [Act.put, List.setIfInBounds_toArray, List.set_cons_zero, List.set_cons_succ]
  refine ord_fork ?_ ?_
  -- 9: t14 := buildSlice <[]forms.num> 3 [(0,t7),(1,t10),(2,t13)]   {2,5,8}
  refine' ord_do (v := _) (w' := _) ?_ ?_ rfl ?_
  rotate_left 2
  focus (go_simp <;> (first | (with_reducible rfl) | (constructor <;> with_reducible rfl)))
  focus (exact old_fr ((Fr.refl [] _).alloc _) hT.lt (by simp))
  have hA := blk_new hFw (numsV [(q, 6), (l, 6), (o, 1)]).toArray 143
  have hAge := hT.lt
  try simp only [World.size_drew, World.size_alloc] at hA hAge
  have hB := hB.alloc (.cells (numsV [(q, 6), (l, 6), (o, 1)]).toArray 143)
  have hT := hT.alloc (.cells (numsV [(q, 6), (l, 6), (o, 1)]).toArray 143)
  have hFw := hFw.alloc (.cells (numsV [(q, 6), (l, 6), (o, 1)]).toArray 143)
  try have hN := hN.alloc (.cells (numsV [(q, 6), (l, 6), (o, 1)]).toArray 143)
  simp only [Act.put, List.setIfInBounds_toArray, List.set_cons_zero, List.set_cons_succ]
  -- 12: t17 := CALL (lavabo/forms.Entry).nums(t16)   {11}
  refine' ord_call (f := 80) (args := _) ?_ rfl ?_; rotate_left; focus (go_simp <;> (first | (with_reducible rfl) | (constructor <;> with_reducible rfl)))
  refine (HNU.out _).mono ?_
  rintro e w2 ⟨g, rfl, hN, hg, hF'⟩
  have hF := old_fr (S := []) (B := w.heap.size + 2) hF' hT.lt (by simp)
  have hB := hB.fr hF' (by simp)
  have hT := hT.fr hF' (by simp)
  have hFw := hFw.trans hF'
  try have hA := hA.fr hF' (by simp)
  refine ⟨_, rfl, hF, ?_⟩
  simp only [Act.put, List.setIfInBounds_toArray, List.set_cons_zero, List.set_cons_succ]
  -- 13: t18 := CALL builtin Builtin.append(t14, t17)   {9,12}
  refine ord_append rfl _ _ 141 rfl w.heap.size 143 i0 (.agg #[.int .i64 0, .int .i64 0]) 2 16 Tryd.underlying141 hi hz0 hz1 hz2 rfl (by decide) _ 3 _ rfl (owns_blk_new (n := 3) (size := 2) w.heap.size hA (by omega) rfl (by omega) (by decide) rfl) ⟨g, 0, none⟩ 4 4 (numsV (entL b s d m)) rfl (numsV_len _) (blk_news hN) (numsV_one _) (by decide) (by decide) (by decide) hFw.size (fun w' h => old_grown h hT.lt (fun i hi => .inr (by have := own_slice hi; omega))) ?_
  intro g2 cap2 w5 hown hgrow hor hlt2
  have hF5 : Fr [] w w5 := hFw.grown hgrow (fun k hk => .inr (by have := own_slice hk; omega))
  have hB5 := hB.grown hgrow (by intro hk; have := own_slice hk; omega)
  have hT5 := hT.grown hgrow (by intro hk; have := own_slice hk; omega)
  simp only [Act.put, List.setIfInBounds_toArray, List.set_cons_zero, List.set_cons_succ]
  refine' ord_pure (v := _) ?_ rfl ?_; rotate_left; focus (intro w; go_simp <;> (first | (with_reducible rfl) | (constructor <;> with_reducible rfl)))
  simp only [Act.put, List.setIfInBounds_toArray, List.set_cons_zero, List.set_cons_succ]
  refine ord_nil ?_
  rotate_left
  -- 12: t17 := CALL (lavabo/forms.Entry).nums(t16)   {11}
  refine' ord_call (f := 80) (args := _) ?_ rfl ?_; rotate_left; focus (go_simp <;> (first | (with_reducible rfl) | (constructor <;> with_reducible rfl)))
  refine (HNU.out _).mono ?_
  rintro e w2 ⟨g, rfl, hN, hg, hF'⟩
  have hF := old_fr (S := []) (B := w.heap.size + 2) hF' hT.lt (by simp)
  have hB := hB.fr hF' (by simp)
  have hT := hT.fr hF' (by simp)
  have hFw := hFw.trans hF'
  try have hA := hA.fr hF' (by simp)
  refine ⟨_, rfl, hF, ?_⟩
  simp only [Act.put, List.setIfInBounds_toArray, List.set_cons_zero, List.set_cons_succ]
  -- 9: t14 := buildSlice <[]forms.num> 3 [(0,t7),(1,t10),(2,t13)]   {2,5,8}
  refine' ord_do (v := _) (w' := _) ?_ ?_ rfl ?_
  rotate_left 2
  focus (go_simp <;> (first | (with_reducible rfl) | (constructor <;> with_reducible rfl)))
  focus (exact old_fr ((Fr.refl [] _).alloc _) hT.lt (by simp))
  have hA := blk_new hFw (numsV [(q, 6), (l, 6), (o, 1)]).toArray 143
  have hAge := hT.lt
  try simp only [World.size_drew, World.size_alloc] at hA hAge
  have hB := hB.alloc (.cells (numsV [(q, 6), (l, 6), (o, 1)]).toArray 143)
  have hT := hT.alloc (.cells (numsV [(q, 6), (l, 6), (o, 1)]).toArray 143)
  have hFw := hFw.alloc (.cells (numsV [(q, 6), (l, 6), (o, 1)]).toArray 143)
  try have hN := hN.alloc (.cells (numsV [(q, 6), (l, 6), (o, 1)]).toArray 143)
  simp only [Act.put, List.setIfInBounds_toArray, List.set_cons_zero, List.set_cons_succ]
  -- 13: t18 := CALL builtin Builtin.append(t14, t17)   {9,12}
  refine ord_append rfl _ _ 141 rfl w.heap.size 143 i0 (.agg #[.int .i64 0, .int .i64 0]) 2 16 Tryd.underlying141 hi hz0 hz1 hz2 rfl (by decide) _ 3 _ rfl (owns_blk_new (n := 3) (size := 2) w.heap.size hA (by omega) rfl (by omega) (by decide) rfl) ⟨g, 0, none⟩ 4 4 (numsV (entL b s d m)) rfl (numsV_len _) (blk_news hN) (numsV_one _) (by decide) (by decide) (by decide) hFw.size (fun w' h => old_grown h hT.lt (fun i hi => .inr (by have := own_slice hi; omega))) ?_
  intro g2 cap2 w5 hown hgrow hor hlt2
  have hF5 : Fr [] w w5 := hFw.grown hgrow (fun k hk => .inr (by have := own_slice hk; omega))
  have hB5 := hB.grown hgrow (by intro hk; have := own_slice hk; omega)
  have hT5 := hT.grown hgrow (by intro hk; have := own_slice hk; omega)
  simp only [Act.put, List.setIfInBounds_toArray, List.set_cons_zero, List.set_cons_succ]
  refine' ord_pure (v := _) ?_ rfl ?_; rotate_left; focus (intro w; go_simp <;> (first | (with_reducible rfl) | (constructor <;> with_reducible rfl)))
  simp only [Act.put, List.setIfInBounds_toArray, List.set_cons_zero, List.set_cons_succ]
  refine ord_nil ?_
  all_goals
    have hP5 := owns_pairs (ps := recL q l o b s d m) hown
    have hs5 := hF5.size
    clear hA hN hown hgrow hor hFw hB hT hF hF' hlt2 hAge
    go_wp2_with (first
      | (refine wpList_load_all rfl 51 _ rfl hB5 rfl (by kernel_rfl) ?_)
      | (go_at_call 75; refine (HR.out _).mono ?_; rintro e w6 ⟨rfl, hF6⟩))
    refine (HPUT.out _ _ _ (pairs_fr hP5 hF6) (HH.out.keep (hF5.trans hF6) (by simp))).mono ?_
    rintro e w7 ⟨rfl, hF7⟩
    obtain ⟨w9, hst, hB9, hF9, hs9⟩ := store_all (P := Tryd.prog) ((hT5.fr hF6 (by simp)).fr hF7 (by simp)) _ (by rw [HLEN.out, bv_size]; rfl)
    have hF09 : Fr [] w w9 := ((hF5.trans hF6).trans hF7).comp hF9 (by simp)
    clear hP5 hB5 hT5 hF5 hF6 hF7
    go_wp2_with fail
    have hld := load_var (P := Tryd.prog) (o := 0) hB9 _ (bv_self _) Tryd.underlying88 (by kernel_rfl) HLEN.out
    exact bodyPost_ret (res_cell_at Tryd.results54 rfl rfl hld) rfl ⟨rfl, hF09⟩
end Go.Proofs.YtgmjhpappamenaaDoor
