/- Contracts of the small functions of package slots. -/
import Derived.Test.YtoppbacokbbjdaaDoorProg
import Derived.Test.YtoppbacokbbjdaaDoorKit
namespace Go.Proofs.YtoppbacokbbjdaaDoor
open Go.RowKit

/-- which turns may be -/
def mayB (a b : Int) : Bool :=
  (a == 0 && b == 1) || (a == 1 && (b == 2 || b == 3 || b == 4)) || (a == 2 && (b == 3 || b == 4)) || (a == 3 && (b == 0 || b == 4))
def stB (n : Int) : Bool := decide (0 ≤ n) && decide (n < 5)
def Turns (w : World) : Prop := ∀ i j : Nat, i < 5 → j < 5 → w.cell? ⟨0, i * 5 + j, none⟩ = some (.bool (mayB i j))
theorem Turns.fr {S : List Nat} {w w' : World} (h : Turns w) (hf : Fr S w w') (hg : 0 < w.heap.size) (hs : ¬ 0 ∈ S) : Turns w' :=
  fun i j hi hj => (hf.cell ⟨_, _, _⟩ hg hs).trans (h i j hi hj)

theorem state_any (n : Int) (w : World) :
    Calls Tryd.prog 25 #[.int .i64 n] w fun e w' => e = .returned (.bool (stB n)) ∧ w = w' := by
  by_cases h0 : 0 ≤ n
  · by_cases h1 : n < 5
    · go_enter Tryd.func25, Tryd.ntmps25
      go_wp2
      go_ret
      exact ⟨by simp [stB, h0, h1], rfl⟩
    · go_enter Tryd.func25, Tryd.ntmps25
      go_wp2
      go_ret
      exact ⟨by simp [stB]; omega, rfl⟩
  · go_enter Tryd.func25, Tryd.ntmps25
    go_wp2
    go_ret
    exact ⟨by simp [stB]; omega, rfl⟩
theorem state_yes (n : Int) (w : World) (h : stB n = true) :
    Calls Tryd.prog 25 #[.int .i64 n] w fun e w' => e = .returned (.bool true) ∧ w = w' := by
  rw [← h]; exact state_any n w
theorem state_no (n : Int) (w : World) (h : stB n = false) :
    Calls Tryd.prog 25 #[.int .i64 n] w fun e w' => e = .returned (.bool false) ∧ w = w' := by
  rw [← h]; exact state_any n w

theorem mayB_out (a b : Int) (h : stB a = false ∨ stB b = false) : mayB a b = false := by
  simp only [stB, Bool.and_eq_false_iff, decide_eq_false_iff_not] at h
  simp only [mayB, Bool.or_eq_false_iff, Bool.and_eq_false_iff, beq_eq_false_iff_ne]
  omega

theorem May_any (a b : Int) (w : World) (hT : Turns w) :
    Calls Tryd.prog 9 #[.int .i64 a, .int .i64 b] w fun e w' => e = .returned (.bool (mayB a b)) ∧ w = w' := by
  by_cases ha : stB a = true
  · by_cases hb : stB b = true
    · have ha' := ha
      have hb' := hb
      simp only [stB, Bool.and_eq_true, decide_eq_true_eq] at ha' hb'
      obtain ⟨x, rfl⟩ := Int.eq_ofNat_of_zero_le ha'.1
      obtain ⟨y, rfl⟩ := Int.eq_ofNat_of_zero_le hb'.1
      have hc := hT x y (by omega) (by omega)
      obtain ⟨r, hr⟩ : ∃ r, r = mayB x y := ⟨_, rfl⟩
      rw [← hr] at hc ⊢
      have ha2 : (x : Int) < 5 := ha'.2
      have hb2 : (y : Int) < 5 := hb'.2
      clear ha' hb' hr hT
      have HA := Lib.hid ha
      have HB := Lib.hid hb
      clear ha hb
      go_enter Tryd.func9, Tryd.ntmps9
      go_wp2_with fail
      refine (state_yes _ _ HA.out).mono ?_
      rintro e w' ⟨rfl, rfl⟩
      go_wp2_with fail
      refine (state_yes _ _ HB.out).mono ?_
      rintro e w' ⟨rfl, rfl⟩
      go_wp2
      go_ret
      exact ⟨rfl, rfl⟩
    · have hb2 : stB b = false := by simpa using hb
      rw [mayB_out a b (.inr hb2)]
      have HA := Lib.hid ha
      have HB := Lib.hid hb2
      clear ha hb hb2 hT
      go_enter Tryd.func9, Tryd.ntmps9
      go_wp2_with fail
      refine (state_yes _ _ HA.out).mono ?_
      rintro e w' ⟨rfl, rfl⟩
      go_wp2_with fail
      refine (state_no _ _ HB.out).mono ?_
      rintro e w' ⟨rfl, rfl⟩
      go_wp2
      go_ret
      exact ⟨rfl, rfl⟩
  · have ha2 : stB a = false := by simpa using ha
    rw [mayB_out a b (.inl ha2)]
    have HA := Lib.hid ha2
    clear ha ha2 hT
    go_enter Tryd.func9, Tryd.ntmps9
    go_wp2_with fail
    refine (state_no _ _ HA.out).mono ?_
    rintro e w' ⟨rfl, rfl⟩
    go_wp2
    go_ret
    exact ⟨rfl, rfl⟩

/-- the reference's May -/
theorem refMay_any (a b : Int) (w : World) :
    Calls Tryd.prog 10 #[.int .i64 a, .int .i64 b] w fun e w' => e = .returned (.bool (mayB a b)) ∧ w = w' := by
  go_enter Tryd.func10, Tryd.ntmps10
  go_wp2
  all_goals (go_ret; refine ⟨?_, rfl⟩; congr 2; simp_all [mayB])

/-- 'slots' lies at block b, its states in block bl: l -/
structure IsSlots (w : World) (b bl : Nat) (l : List Nat) : Prop where
  ne : ¬ bl = b
  len1 : 1 ≤ l.length
  len : l.length ≤ 1024
  lt : ∀ x, x ∈ l → x < 5
  rep : ∃ cap c arr, Blk w b 51 c ∧ Blk w bl 3 arr ∧ c.size = 6 ∧ c[0]? = some (.slice (some ⟨bl, 0, none⟩) l.length cap) ∧
    (∀ k, k < 5 → c[1 + k]? = some (.int .i64 (l.count k))) ∧ l.length ≤ arr.size ∧ (∀ i (h : i < l.length), arr[i]? = some (.int .i64 (l[i] : Nat))) ∧ l.length ≤ cap ∧ cap ≤ maxLen
theorem IsSlots.fr {S : List Nat} {w w' : World} {b bl : Nat} {l : List Nat} (h : IsSlots w b bl l) (hf : Fr S w w') (h1 : ¬ b ∈ S) (h2 : ¬ bl ∈ S) : IsSlots w' b bl l := by
  obtain ⟨h1', h2', h3, h4, cap, c, arr, hb, hl, r⟩ := h
  exact ⟨h1', h2', h3, h4, cap, c, arr, hb.fr hf h1, hl.fr hf h2, r⟩
theorem IsSlots.below {B : Nat} {w w' : World} {b bl : Nat} {l : List Nat} (h : IsSlots w b bl l) (hf : Below B w w') (h1 : b < B) (h2 : bl < B) : IsSlots w' b bl l := by
  obtain ⟨h1', h2', h3, h4, cap, c, arr, hb, hl, r⟩ := h
  exact ⟨h1', h2', h3, h4, cap, c, arr, hb.below hf h1, hl.below hf h2, r⟩
theorem IsSlots.bl_lt {w : World} {b bl : Nat} {l : List Nat} (h : IsSlots w b bl l) : bl < w.heap.size := by
  obtain ⟨_, _, _, _, cap, c, arr, hb, hl, r⟩ := h; exact hl.lt
theorem IsSlots.b_lt {w : World} {b bl : Nat} {l : List Nat} (h : IsSlots w b bl l) : b < w.heap.size := by
  obtain ⟨_, _, _, _, cap, c, arr, hb, hl, r⟩ := h; exact hb.lt

theorem count_set_plain (l : List Nat) (i x k : Nat) (h : i < l.length) (hne : ¬ l[i] = x) :
    (l.set i x).count k = if k = l[i] then l.count k - 1 else if k = x then l.count k + 1 else l.count k := by
  rw [List.count_set h]
  have := List.count_pos_iff (a := l[i]) (l := l)
  by_cases h1 : k = l[i]
  · subst h1
    have hx : ¬ x = l[i] := fun e => hne e.symm
    simp [hx]
  · have h1' : ¬ l[i] = k := fun e => h1 e.symm
    by_cases h2 : k = x
    · subst h2; simp [h1, h1']
    · have h2' : ¬ x = k := fun e => h2 e.symm
      simp [h1, h1', h2, h2']
theorem count_lt_of_ne (l : List Nat) (i x : Nat) (h : i < l.length) (hne : ¬ l[i] = x) : l.count x < l.length := by
  rcases Nat.lt_or_ge (l.count x) l.length with h1 | h1
  · exact h1
  · have h2 : l.count x = l.length := Nat.le_antisymm List.count_le_length h1
    rw [List.count_eq_length] at h2
    exact absurd (h2 l[i] (List.getElem_mem h)).symm hne

theorem set_any (b bl : Nat) (l : List Nat) (slot to : Nat) (w : World) (h : IsSlots w b bl l) (hs : slot < l.length) (ht : to < 5) (hne : ¬ l[slot] = to) :
    Calls Tryd.prog 27 #[.pointer (some ⟨b, 0, none⟩), .int .i64 slot, .int .i64 to] w fun e w' => e = .returned (.tuple #[]) ∧
      IsSlots w' b bl (l.set slot to) ∧ Fr [b, bl] w w' := by
  obtain ⟨hbl, hl1, hl2, hlt, cap, c, arr, hb, hbl', hc6, hc0, hcc, has, ha, hcap, hcap2⟩ := h
  have hold : l[slot] < 5 := hlt _ (List.getElem_mem hs)
  have ho := hbl'.cell (ha slot hs)
  have hc1 := hb.cell (hcc l[slot] hold)
  have hc2 := hb.cell (hcc to ht)
  have hc0' := hb.cell hc0
  have f1 := hb.frozen
  have f2 := hbl'.frozen
  have b1 : 0 < (l.count l[slot] : Int) := by have := List.count_pos_iff.2 (List.getElem_mem hs); omega
  have b2 : (l.count l[slot] : Int) ≤ 1024 := by have := List.count_le_length (a := l[slot]) (l := l); omega
  have b3 : (l.count to : Int) < 1024 := by have := count_lt_of_ne l slot to hs hne; omega
  have b4 : 0 ≤ (l.count to : Int) := by omega
  have key : ∀ w', (w' = (((w.setCell ⟨b, 1 + l[slot], none⟩ (.int .i64 (l.count l[slot] - 1))).drew.setCell ⟨b, 1 + to, none⟩ (.int .i64 (l.count to + 1))).drew.setCell ⟨bl, slot, none⟩ (.int .i64 to))) →
      IsSlots w' b bl (l.set slot to) ∧ Fr [b, bl] w w' := by
    rintro w' rfl
    refine ⟨⟨hbl, by simpa using hl1, by simpa using hl2, ?_, cap, _, _, ((((hb.set (1 + l[slot]) _).drew).set (1 + to) _).drew).set_ne _ _ (by simpa using hbl), ((((hbl'.set_ne _ _ (by simpa using fun e => hbl e.symm)).drew).set_ne _ _ (by simpa using fun e => hbl e.symm)).drew).set slot _, ?_, ?_, ?_, ?_, ?_, ?_, hcap2⟩, ?_⟩
    · intro x hx
      rcases List.mem_or_eq_of_mem_set hx with h | h
      · exact hlt _ h
      · omega
    · simp [hc6]
    · simp only [Array.getElem?_setIfInBounds]
      rw [if_neg (by omega), if_neg (by omega), hc0]; simp
    · intro k hk
      rw [count_set_plain l slot to k hs hne]
      simp only [Array.getElem?_setIfInBounds, Array.size_setIfInBounds]
      by_cases h1 : k = l[slot]
      · subst h1
        rw [if_neg (by omega), if_pos rfl, if_pos (by omega)]
        simp; omega
      · by_cases h2 : k = to
        · subst h2
          rw [if_pos rfl, if_pos (by omega)]
          simp [h1]
        · rw [if_neg (by omega), if_neg (by omega), hcc k hk]
          simp [h1, h2]
    · simpa using has
    · intro i hi
      simp only [Array.getElem?_setIfInBounds, List.getElem_set]
      by_cases h1 : slot = i
      · subst h1; simp; omega
      · simp only [h1, if_false]
        exact ha i (by simpa using hi)
    · simpa using hcap
    · exact ((((((Fr.refl [b, bl] w).setCell _ (by simp) _).drew).setCell _ (by simp) _).drew).setCell _ (by simp) _)
  obtain ⟨o, hoo⟩ : ∃ o, o = l[slot] := ⟨_, rfl⟩
  rw [← hoo] at hold ho hc1 b1 b2 key hne
  obtain ⟨n1, hn1⟩ : ∃ n1 : Nat, n1 = l.count o := ⟨_, rfl⟩
  obtain ⟨n2, hn2⟩ : ∃ n2 : Nat, n2 = l.count to := ⟨_, rfl⟩
  obtain ⟨n, hn⟩ : ∃ n : Nat, n = l.length := ⟨_, rfl⟩
  rw [← hn1] at hc1 b1 b2 key
  rw [← hn2] at hc2 b3 b4 key
  rw [← hn] at hc0' hs
  have K := Lib.hid key
  clear key hn hn1 hn2 hoo hcc ha hb hbl' hc0 hlt
  go_enter Tryd.func27, Tryd.ntmps27
  go_wp2
  go_region
  go_wp2
  go_region
  go_wp2
  go_end0
  exact ⟨rfl, K.out _ rfl⟩
end Go.Proofs.YtoppbacokbbjdaaDoor
