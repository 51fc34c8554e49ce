/- forms: bounds, flags, which numbers may be. -/
import Derived.Test.YtifafnmbcmhlcaaDoorFieldN
import Derived.Test.YtifafnmbcmhlcaaDoorDrawn
namespace Go.Proofs.YtifafnmbcmhlcaaDoor
open Go.RowKit Go.Shelf

/-- is a number within bounds -/
def wI (n a b : Int) : Bool := decide (a ≤ n ∧ n ≤ b)
theorem wI_iff {n a b : Int} : wI n a b = true ↔ a ≤ n ∧ n ≤ b := by unfold wI; exact decide_eq_true_iff
theorem within_val (n a b : Int) (r : Bool) (w : World) (h : wI n a b = r) :
    Calls Tryd.prog 55 #[.int .i64 n, .int .i64 a, .int .i64 b] w fun e w' => e = .returned (.bool r) ∧ w = w' := by
  subst h
  by_cases h1 : a ≤ n
  · by_cases h2 : n ≤ b
    · have hr : wI n a b = true := wI_iff.2 ⟨h1, h2⟩
      rw [hr]
      clear hr
      go_enter Tryd.func55, Tryd.ntmps55
      go_wp2_with fail
      go_ret
      exact ⟨by simp [h1, h2], rfl⟩
    · have hr : wI n a b = false := by unfold wI; simp; intro; omega
      rw [hr]
      clear hr
      go_enter Tryd.func55, Tryd.ntmps55
      go_wp2_with fail
      go_ret
      exact ⟨by simp [h2], rfl⟩
  · have hr : wI n a b = false := by unfold wI; simp; intro; omega
    rw [hr]
    clear hr
    go_enter Tryd.func55, Tryd.ntmps55
    go_wp2_with fail
    go_ret
    exact ⟨by simp [h1], rfl⟩
def flagN (d : Bool) : Nat := if d then 1 else 0
theorem flag_any (d : Bool) (w : World) :
    Calls Tryd.prog 56 #[.bool d] w fun e w' => e = .returned (.int .i64 (flagN d : Nat)) ∧ w = w' := by
  cases d
  all_goals
    go_enter Tryd.func56, Tryd.ntmps56
    go_wp2_with fail
    go_ret
    exact ⟨rfl, rfl⟩
theorem sectors_val (n : Int) (r : Bool) (w : World) (h : wI n 1 4096 = r) :
    Calls Tryd.prog 54 #[.int .i64 n] w fun e w' => e = .returned (.bool r) ∧ w = w' := by
  have H := Lib.hid h
  clear h
  go_enter Tryd.func54, Tryd.ntmps54
  go_wp2_with (go_at_call 55; refine (within_val _ _ _ _ _ H.out).mono ?_; rintro e w' ⟨rfl, rfl⟩)
  go_ret
  exact ⟨rfl, rfl⟩

def superR (x0 x1 x2 x3 x4 x5 x6 : Int) : Bool :=
  wI x0 0 1099511627776 && wI x1 1 4096 && wI x2 1 1024 && wI x3 1 4096 && wI x4 1 4096 && wI x5 1 4096 && wI x6 1 64
def superV (x0 x1 x2 x3 x4 x5 x6 : Int) : Value := .agg #[.int .i64 x0, .int .i64 x1, .int .i64 x2, .int .i64 x3, .int .i64 x4, .int .i64 x5, .int .i64 x6]
set_option maxHeartbeats 4000000 in
theorem superR_any (x0 x1 x2 x3 x4 x5 x6 : Int) (w : World) :
    Calls Tryd.prog 38 #[superV x0 x1 x2 x3 x4 x5 x6] w fun e w' => e = .returned (.bool (superR x0 x1 x2 x3 x4 x5 x6)) ∧ Fr [] w w' := by
  unfold superR superV
  cases h0 : wI x0 0 1099511627776
  rotate_left
  cases h1 : wI x1 1 4096
  rotate_left
  cases h2 : wI x2 1 1024
  rotate_left
  cases h3 : wI x3 1 4096
  rotate_left
  cases h4 : wI x4 1 4096
  rotate_left
  cases h5 : wI x5 1 4096
  rotate_left
  cases h6 : wI x6 1 64
  all_goals
    go_enter Tryd.func38, Tryd.ntmps38
    go_wp2_with (first
      | (go_at_call 55; refine (within_val _ _ _ _ _ (by with_reducible first | exact h0 | exact h2 | exact h6)).mono ?_; rintro e w' ⟨rfl, rfl⟩)
      | (go_at_call 54; refine (sectors_val _ _ _ (by with_reducible first | exact h1 | exact h3 | exact h4 | exact h5)).mono ?_; rintro e w' ⟨rfl, rfl⟩))
    go_ret
    exact ⟨by simp, (Fr.refl _ _).alloc _⟩
end Go.Proofs.YtifafnmbcmhlcaaDoor
