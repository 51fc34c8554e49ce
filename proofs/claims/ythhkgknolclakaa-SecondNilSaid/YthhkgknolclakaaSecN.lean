/- second: SecondTurns: keys go in the order in which they came (plain). -/
import Derived.Test.YthhkgknolclakaaSecM
namespace Go.Proofs.Ythhkgknolclakaa
open Go Go.RowKit Go.Shelf Go.Maps

/-- the keys that get in, in their order -/
def inOf (l : List Int) : List Int := l.foldl (fun I k => if k ∈ I then I else I ++ [k]) []
theorem inOf_snoc (l : List Int) (k : Int) : inOf (l ++ [k]) = if k ∈ inOf l then inOf l else inOf l ++ [k] := by
  unfold inOf
  rw [List.foldl_append]
  rfl
theorem inF_nodup (l : List Int) : ∀ I : List Int, I.Nodup → (l.foldl (fun I k => if k ∈ I then I else I ++ [k]) I).Nodup := by
  induction l with
  | nil => exact fun I h => h
  | cons k l ih =>
    intro I h
    rw [List.foldl_cons]
    refine ih _ ?_
    split
    · exact h
    · rename_i hk
      rw [List.nodup_append]
      exact ⟨h, by simp, fun a ha c hc e => hk (by simp at hc; rw [← hc, ← e]; exact ha)⟩
theorem inOf_nodup (l : List Int) : (inOf l).Nodup := inF_nodup l [] List.nodup_nil
theorem inF_len (l : List Int) : ∀ I : List Int, (l.foldl (fun I k => if k ∈ I then I else I ++ [k]) I).length ≤ I.length + l.length := by
  induction l with
  | nil => intro I; simp
  | cons k l ih =>
    intro I
    rw [List.foldl_cons]
    refine Nat.le_trans (ih _) ?_
    split <;> simp <;> omega
theorem inOf_len (l : List Int) : (inOf l).length ≤ l.length := by
  have := inF_len l []
  simpa [inOf] using this
def clkIn (I : List Int) (few : Nat) : Clk := ⟨I.map (fun k => (k, false)), [], 64, few⟩
def clkOut (I : List Int) (few j : Nat) : Clk := ⟨(I.drop j).map (fun k => (k, false)), lastN few (I.take j), 64, few⟩
theorem clkIn_ks (I : List Int) (few : Nat) : (clkIn I few).ks = I := by simp [clkIn, Clk.ks, Function.comp_def]
theorem clkIn_out (I : List Int) (few : Nat) : clkIn I few = clkOut I few 0 := by simp [clkIn, clkOut, lastN]
theorem add_in {I : List Int} {few : Nat} {k : Int} (h : k ∈ I) : ckAddE (clkIn I few) k = 15 ∧ ckAdd (clkIn I few) k = clkIn I few := by
  have e : ckHas (clkIn I few) k = true := by rw [ckHas, clkIn_ks]; simpa using h
  simp [ckAddE, ckAdd, e]
theorem add_out {I : List Int} {few : Nat} {k : Int} (h : ¬ k ∈ I) (hl : I.length < 64) : ckAddE (clkIn I few) k = 0 ∧ ckAdd (clkIn I few) k = clkIn (I ++ [k]) few := by
  have e : ckHas (clkIn I few) k = false := by rw [ckHas, clkIn_ks]; simpa using h
  have e2 : ¬ (clkIn I few).L.length = (clkIn I few).most := by simp [clkIn]; omega
  refine ⟨by simp [ckAddE, e, e2], ?_⟩
  simp only [ckAdd, e, e2]
  simp [clkIn, ckGhost]
theorem lastN_snoc (n : Nat) (l : List Int) (k : Int) : lastN n (lastN n l ++ [k]) = lastN n (l ++ [k]) := by
  by_cases h : l.length ≤ n
  · have e : lastN n l = l := by
      unfold lastN
      rw [show l.length - n = 0 by omega, List.drop_zero]
    rw [e]
  · obtain ⟨d, hd⟩ : ∃ d, l.length = n + d := ⟨l.length - n, by omega⟩
    have e : lastN n l = l.drop d := by
      unfold lastN
      rw [hd, Nat.add_sub_cancel_left]
    have e2 : (l.drop d ++ [k]).length - n = 1 := by
      rw [List.length_append, List.length_drop, hd, List.length_singleton]
      omega
    have e3 : (l ++ [k]).length - n = d + 1 := by
      rw [List.length_append, hd, List.length_singleton]
      omega
    rw [e]
    unfold lastN
    rw [e2, e3, ← List.drop_append_of_le_length (by omega), List.drop_drop]
theorem goB_zero (k : Int) : goB 0 k = true := by simp [goB]
theorem evict_out {I : List Int} {few j : Nat} (h : j < I.length) : ckEvict (clkOut I few j) (goB 0) = (clkOut I few (j + 1), I[j], 0) := by
  have hd : I.drop j = I[j] :: I.drop (j + 1) := List.drop_eq_getElem_cons h
  have hL : (clkOut I few j).L = (I[j], false) :: (I.drop (j + 1)).map (fun k => (k, false)) := by
    show (I.drop j).map (fun k => (k, false)) = _
    rw [hd]
    rfl
  have ht : I.take (j + 1) = I.take j ++ [I[j]] := (List.take_append_getElem h).symm
  have hp : 0 < (clkOut I few j).L.length := by rw [hL]; exact Nat.zero_lt_succ _
  have hn : 2 * (clkOut I few j).L.length = (2 * (clkOut I few j).L.length - 1) + 1 := by omega
  unfold ckEvict
  rw [hn, evictN]
  rw [hL]
  simp only [goB_zero]
  simp only [clkOut, ht]
  rw [lastN_snoc]
  rfl
theorem evict_none {I : List Int} {few : Nat} : ckEvict (clkOut I few I.length) (goB 0) = (clkOut I few I.length, 0, 14) := by
  unfold ckEvict
  rw [show (clkOut I few I.length).L = [] by simp [clkOut]]
  rfl
end Go.Proofs.Ythhkgknolclakaa
