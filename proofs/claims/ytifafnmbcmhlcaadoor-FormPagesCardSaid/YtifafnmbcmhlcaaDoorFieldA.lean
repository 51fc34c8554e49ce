/- Contracts of package field: each, wrong. -/
import Derived.Test.YtifafnmbcmhlcaaDoorCrcA
import Derived.Test.YtifafnmbcmhlcaaDoorBlocks
namespace Go.Proofs.YtifafnmbcmhlcaaDoor
open Go.RowKit

theorem each_any (f : Nat) (c0 c1 : Value) (size : Nat) (I : Nat → World → Prop) (w : World) (hen : ∀ args w, (callFunc f args).run Tryd.prog w = .ok (.enter f args) w) (hs : size ≤ 100) (h0 : I 0 w)
    (hstep : ∀ (i : Nat) (w : World), i < size → I i w → Calls Tryd.prog f #[.int .i64 i, .int .i64 (8 * i : Nat), c0, c1] w fun e w' => e = .returned (.tuple #[]) ∧ I (i + 1) w') :
    Calls Tryd.prog 30 #[.int .i64 size, .func (.func f) #[] #[c0, c1]] w fun e w' => e = .returned (.tuple #[]) ∧ I size w' := by
  have HS := Lib.hid hstep
  clear hstep
  go_enter Tryd.func30, Tryd.ntmps30
  go_wp2_with fail
  apply wp_scope_straight
  go_wp2_with fail
  refine wp_label ?_
  go_wp2_with fail
  go_loopw [4] (fun i wr => ∃ k : Nat, k ≤ size ∧ i = .int .i64 k ∧ I k wr) (fun i _ => size - (intOf i).toNat)
  case atStart => exact ⟨0, Nat.zero_le _, rfl, h0⟩
  case round =>
    obtain ⟨k, hk, rfl, hI⟩ := hrel
    have HI := Lib.hid hI
    clear hI
    by_cases hlt : k < size
    · have b0 : ((k : Int) == (size : Int)) = false := beq_eq_false_iff_ne.2 (by omega)
      have hc := HS.out k wr hlt HI.out
      rw [show ((8 * k : Nat) : Int) = 8 * (k : Int) from by omega] at hc
      have HC := Lib.hid hc
      clear hc
      go_wp2_with fail
      refine HC.out.mono ?_
      rintro e w' ⟨rfl, hI'⟩
      go_wp2
      go_roundw
      case rel => exact ⟨k + 1, by omega, by go_num, hI'⟩
      case measure => simp [intOf]; omega
    · obtain rfl : k = size := by omega
      have b0 : ((k : Int) == (k : Int)) = true := by simp
      go_wp2_with fail
      simp only [Exit.noGoto_normal]
      go_end0
      exact ⟨rfl, HI.out⟩

/-- what is wrong with a size, so many bytes being left -/
def wrongE (size left : Int) : Int := if size < 1 ∨ 7 < size then 1 else if left < size then 17 else 0
theorem wrong_any (size left : Int) (w : World) :
    Calls Tryd.prog 29 #[.int .i64 size, .int .i64 left] w fun e w' => e = .returned (.int .i64 (wrongE size left)) ∧ w = w' := by
  by_cases h1 : size < 1
  · rw [show wrongE size left = 1 by simp [wrongE, h1]]
    go_enter Tryd.func29, Tryd.ntmps29
    go_wp2
    go_ret
    exact ⟨rfl, rfl⟩
  · by_cases h2 : 7 < size
    · rw [show wrongE size left = 1 by simp [wrongE, h2]]
      go_enter Tryd.func29, Tryd.ntmps29
      go_wp2
      go_ret
      exact ⟨rfl, rfl⟩
    · by_cases h3 : left < size
      · rw [show wrongE size left = 17 by simp [wrongE, h1, h2, h3]]
        go_enter Tryd.func29, Tryd.ntmps29
        go_wp2
        go_ret
        exact ⟨rfl, rfl⟩
      · rw [show wrongE size left = 0 by simp [wrongE, h1, h2, h3]]
        go_enter Tryd.func29, Tryd.ntmps29
        go_wp2
        go_ret
        exact ⟨rfl, rfl⟩

/-- a writer's cells: its bytes, where it is, its first error -/
def wcA (l : List Nat) (at_ : Nat) (e : Int) : Array Value := (u8s (pad 64 l) ++ [Value.int .i64 (at_ : Nat), Value.int .i64 e]).toArray
theorem wcA_at (l : List Nat) (a : Nat) (e : Int) (h : l.length ≤ 64) : (wcA l a e)[64]? = some (.int .i64 a) := by
  have := pad_len 64 l h
  simp [wcA, u8s, List.getElem?_append, this]
theorem wcA_e (l : List Nat) (a : Nat) (e : Int) (h : l.length ≤ 64) : (wcA l a e)[65]? = some (.int .i64 e) := by
  have := pad_len 64 l h
  simp [wcA, u8s, List.getElem?_append, this]
theorem wcA_b (l : List Nat) (a : Nat) (e : Int) (h : l.length ≤ 64) (i : Nat) (hi : i < 64) : (wcA l a e)[i]? = some (.int .u8 ((pad 64 l).getD i 0 : Nat)) := by
  have := pad_len 64 l h
  simp [wcA, u8s, List.getElem?_append, this, hi]
theorem wcA_set (l : List Nat) (a : Nat) (e : Int) (x : Nat) (h : l.length < 64) : (wcA l a e).setIfInBounds l.length (.int .u8 (x : Nat)) = wcA (l ++ [x]) a e := by
  have hp : (pad 64 l).set l.length x = pad 64 (l ++ [x]) := by
    unfold pad
    rw [show 64 - l.length = (64 - (l ++ [x]).length) + 1 by simp; omega, List.replicate_succ, List.set_append_right _ _ (Nat.le_refl _)]
    simp
  have hl := pad_len 64 l (by omega)
  unfold wcA
  rw [← hp, List.setIfInBounds_toArray, List.set_append_left _ _ (by simp [u8s, hl, h])]
  simp [u8s, List.map_set]
end Go.Proofs.YtifafnmbcmhlcaaDoor
