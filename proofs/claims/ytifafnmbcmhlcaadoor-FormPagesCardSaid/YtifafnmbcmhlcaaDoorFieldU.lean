/- Contracts of the reference of layer 4: Put. -/
import Derived.Test.YtifafnmbcmhlcaaDoorFieldT
namespace Go.Proofs.YtifafnmbcmhlcaaDoor
open Go.RowKit Go.Shelf

theorem refPut_arg (v : Value) (n size : Int) (w : World) (hs : size < 1 ∨ 7 < size) :
    Calls Tryd.prog 13 #[v, .int .i64 n, .int .i64 size] w fun e w' => e = .returned (.tuple #[v, .int .i64 1]) ∧ w = w' := by
  by_cases h1 : size < 1
  · clear hs
    go_enter Tryd.func13, Tryd.ntmps13
    go_wp2
    go_ret2
    exact ⟨rfl, rfl⟩
  · have h7 : 7 < size := by omega
    clear hs
    go_enter Tryd.func13, Tryd.ntmps13
    go_wp2
    go_ret2
    exact ⟨rfl, rfl⟩
theorem refPut_neg (v : Value) (n size : Int) (w : World) (h1 : ¬ size < 1) (h7 : ¬ 7 < size) (hn : n < 0) :
    Calls Tryd.prog 13 #[v, .int .i64 n, .int .i64 size] w fun e w' => e = .returned (.tuple #[v, .int .i64 11]) ∧ w = w' := by
  go_enter Tryd.func13, Tryd.ntmps13
  go_wp2_with fail
  refine (refBytes_neg n size w hn).mono ?_
  rintro e w' ⟨rfl, rfl⟩
  go_wp2
  go_ret2
  exact ⟨rfl, rfl⟩
theorem refPut_over (v : Value) (k s : Nat) (w : World) (h1 : 1 ≤ s) (h7 : s ≤ 7) (hk : k < 9223372036854775808) (hn : ¬ k / 2 ^ (8 * s) = 0) :
    Calls Tryd.prog 13 #[v, .int .i64 k, .int .i64 s] w fun e w' => e = .returned (.tuple #[v, .int .i64 11]) ∧ Fr [] w w' := by
  have hB := refBytes_ok k s w hk h7
  rw [decide_eq_false hn] at hB
  have HB := Lib.hid hB
  clear hB hn hk
  go_enter Tryd.func13, Tryd.ntmps13
  go_wp2_with fail
  refine HB.out.mono ?_
  rintro e w' ⟨v2, rfl, hown, hF⟩
  go_wp2
  go_ret2
  exact ⟨rfl, hF⟩
theorem refPut_full (oa : Option Addr) (len cap : Nat) (k s : Nat) (w : World) (h1 : 1 ≤ s) (h7 : s ≤ 7) (hk : k < 9223372036854775808) (hn : k / 2 ^ (8 * s) = 0) (hl : len ≤ 60) (hf : 60 < len + s) :
    Calls Tryd.prog 13 #[.slice oa len cap, .int .i64 k, .int .i64 s] w fun e w' => e = .returned (.tuple #[.slice oa len cap, .int .i64 17]) ∧ Fr [] w w' := by
  have hB := refBytes_ok k s w hk h7
  rw [decide_eq_true hn] at hB
  have HB := Lib.hid hB
  clear hB hn hk
  go_enter Tryd.func13, Tryd.ntmps13
  go_wp2_with fail
  refine HB.out.mono ?_
  rintro e w' ⟨v2, rfl, hown, hF⟩
  go_wp2
  go_ret2
  exact ⟨rfl, hF⟩
end Go.Proofs.YtifafnmbcmhlcaaDoor
