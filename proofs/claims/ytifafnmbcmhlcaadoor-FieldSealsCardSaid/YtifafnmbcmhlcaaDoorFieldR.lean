/- FieldSeals: plain facts, the walk. -/
import Derived.Test.YtifafnmbcmhlcaaDoorFieldQ
import Derived.Test.YtifafnmbcmhlcaaDoorFieldO
namespace Go.Proofs.YtifafnmbcmhlcaaDoor
open Go.RowKit Go.Shelf

theorem isSealed_set (c : List Nat) (i z : Nat) (hl : c.length = 64) (hb : ∀ x, x ∈ c → x < 256) (hs : isSealed c = true) (hi : i < 64) (hz : z < 256) : isSealed (c.set i z) = decide (c = c.set i z) := by
  have hs' := of_decide_eq_true hs
  by_cases h : c = c.set i z
  · rw [← h, hs]; simp
  · rw [decide_eq_false h]
    unfold isSealed
    apply decide_eq_false
    intro e
    apply h
    have hb60 : ∀ x, x ∈ c.take 60 → x < 256 := fun x hx => hb x (List.mem_of_mem_take hx)
    by_cases h60 : i < 60
    · rw [List.take_set, List.drop_set_of_lt h60, ← hs'] at e
      have hset : ∀ x, x ∈ (c.take 60).set i z → x < 256 := by
        intro x hx
        rcases List.mem_or_eq_of_mem_set hx with h | rfl
        · exact hb60 x h
        · exact hz
      have e2 := congrArg numOf e
      rw [numOf_bytesOf, numOf_bytesOf, Nat.mod_eq_of_lt (crc_lt _ hset), Nat.mod_eq_of_lt (crc_lt _ hb60)] at e2
      have hi6 : i < (c.take 60).length := by simp; omega
      have e3 := crc_set (c.take 60) i z hb60 hi6 hz e2
      rw [List.getElem_take] at e3
      rw [e3, List.set_getElem_self]
    · rw [List.take_set_of_le (by omega), hs'] at e
      have : c.set i z = (c.set i z).take 60 ++ (c.set i z).drop 60 := (List.take_append_drop _ _).symm
      rw [this, ← e, List.take_set_of_le (by omega), List.take_append_drop]
theorem isSealed_num (l : List Nat) (hl : l.length = 64) (hb : ∀ x, x ∈ l → x < 256) : decide (crc (l.take 60) = numOf (l.drop 60)) = isSealed l := by
  unfold isSealed
  rw [decide_eq_decide]
  have hlt := crc_lt (l.take 60) (fun x hx => hb x (List.mem_of_mem_take hx))
  constructor
  · intro h
    rw [h]
    have := bytesOf_numOf (l.drop 60) (fun x hx => hb x (List.mem_of_mem_drop hx))
    rwa [List.length_drop, hl] at this
  · intro h
    rw [← h, numOf_bytesOf, Nat.mod_eq_of_lt hlt]
end Go.Proofs.YtifafnmbcmhlcaaDoor
