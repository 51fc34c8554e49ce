/- SlotsRound, SlotsNil: the walks. -/
import Derived.Test.YtoppbacokbbjdaaDoorSlotsI
namespace Go.Proofs.YtoppbacokbbjdaaDoor
open Go.RowKit Go.Shelf

theorem allOf_none (l : List Nat) (n : Int) (k : Nat) (h : ∀ j, j < k → ¬ (l.getD j 0 : Int) = n) : allOf l n k = [] := by
  induction k with
  | zero => rfl
  | succ k ih =>
    simp only [allOf]
    rw [ih (fun j hj => h j (by omega)), if_neg (h k (by omega))]
    rfl
/-- a x's, and b y's behind them -/
def two (a x b y : Nat) : List Nat := List.replicate a x ++ List.replicate b y
theorem two_len (a x b y : Nat) : (two a x b y).length = a + b := by simp [two]
theorem two_get (a x b y i : Nat) (h : i < a + b) : (two a x b y).getD i 0 = if i < a then x else y := by
  unfold two
  rw [List.getD_eq_getElem?_getD, List.getElem?_append]
  split
  · rename_i h1; simp at h1; simp [h1]
  · rename_i h1
    simp only [List.length_replicate] at h1 ⊢
    rw [if_neg h1, List.getElem?_replicate, if_pos (by omega)]
    rfl
theorem two_set (a x b y : Nat) : (two a x (b + 1) y).set a x = two (a + 1) x b y := by
  unfold two
  apply List.ext_getElem
  · simp; omega
  · intro i h1 h2
    simp only [List.getElem_set, List.getElem_append, List.length_replicate, List.getElem_replicate]
    by_cases h : a = i
    · subst h; simp
    · rw [if_neg h]
      by_cases h3 : i < a
      · rw [dif_pos h3, dif_pos (by omega)]
      · rw [dif_neg h3, dif_neg (by omega)]
theorem two_alloc (a b : Nat) : allocN (two a 1 (b + 1) 0) = a ∧ allocE (two a 1 (b + 1) 0) = 0 ∧ allocL (two a 1 (b + 1) 0) = two (a + 1) 1 b 0 := by
  have hz : ¬ frees (two a 1 (b + 1) 0) = [] ∧ allocN (two a 1 (b + 1) 0) = a := by
    refine frees_first _ a (allOf_none _ _ _ (fun j hj => ?_)) (by rw [two_len]; omega) ?_
    · rw [two_get _ _ _ _ _ (by omega), if_pos hj]; omega
    · have h1 := two_get a 1 (b + 1) 0 a (by omega)
      have h2 : a < (two a 1 (b + 1) 0).length := by rw [two_len]; omega
      rw [if_neg (by omega)] at h1
      simpa [h2] using h1
  refine ⟨hz.2, by simp [allocE, hz.1], ?_⟩
  simp only [allocL, hz.1, if_false, hz.2]
  exact two_set a 1 b 0
theorem two_full (a : Nat) : allocE (two a 1 0 0) = 17 ∧ allocN (two a 1 0 0) = 0 ∧ allocL (two a 1 0 0) = two a 1 0 0 := by
  have h : frees (two a 1 0 0) = [] := by
    unfold frees
    refine allOf_none _ _ _ (fun j hj => ?_)
    rw [two_len] at hj
    rw [two_get _ _ _ _ _ (by omega), if_pos (by omega)]
    omega
  simp [allocE, allocN, allocL, h]
theorem turn_at (l : List Nat) (i x to : Nat) (h : i < l.length) (hx : l.getD i 0 = x) (hs : stB to = true) (hm : mayB x to = true) : turnE l i to = 0 ∧ turnL l i to = l.set i to := by
  have h1 : turnE l i to = 0 := by
    unfold turnE
    rw [if_neg (by omega), if_neg (by simp [hs]), Int.toNat_natCast, hx, if_neg (by simp [hm])]
  exact ⟨h1, by simp [turnL, h1]⟩
theorem two_turns (a b : Nat) :
    let l1 := (two a 0 (b + 1) 1).set a 2
    let l2 := l1.set a 3
    turnE (two a 0 (b + 1) 1) a 2 = 0 ∧ turnL (two a 0 (b + 1) 1) a 2 = l1 ∧ turnE l1 a 3 = 0 ∧ turnL l1 a 3 = l2 ∧ turnE l2 a 0 = 0 ∧ turnL l2 a 0 = two (a + 1) 0 b 1 := by
  have hl : a < (two a 0 (b + 1) 1).length := by rw [two_len]; omega
  have g0 : (two a 0 (b + 1) 1).getD a 0 = 1 := by rw [two_get _ _ _ _ _ (by omega), if_neg (by omega)]
  have t1 := turn_at (two a 0 (b + 1) 1) a 1 2 hl g0 (by decide) (by decide)
  have t2 := turn_at ((two a 0 (b + 1) 1).set a 2) a 2 3 (by simpa using hl) (by simp [hl]) (by decide) (by decide)
  have t3 := turn_at (((two a 0 (b + 1) 1).set a 2).set a 3) a 3 0 (by simpa using hl) (by simp [hl]) (by decide) (by decide)
  refine ⟨t1.1, t1.2, t2.1, t2.2, t3.1, ?_⟩
  refine t3.2.trans ?_
  rw [List.set_set, List.set_set]
  exact two_set a 0 b 1

theorem bad_range (n : Int) (w : World) (hT : Turns w) (h : n < 1 ∨ 200 < n) :
    Calls Tryd.prog 5 #[.int .i64 n] w fun e w' => e = .returned (.bool true) ∧ Fr [] w w' := by
  have HT := Lib.hid hT
  clear hT
  by_cases h0 : n < 1
  · go_enter Tryd.func5, Tryd.ntmps5
    go_wp2_with fail
    refine (awake_ok _ HT.out).mono ?_
    rintro e w' ⟨rfl, hF⟩
    go_wp2
    go_ret
    exact ⟨rfl, hF⟩
  · have h1 : 200 < n := by omega
    clear h
    go_enter Tryd.func5, Tryd.ntmps5
    go_wp2_with fail
    refine (awake_ok _ HT.out).mono ?_
    rintro e w' ⟨rfl, hF⟩
    go_wp2
    go_ret
    exact ⟨rfl, hF⟩

theorem SlotsRound_in (n : Nat) (w : World) (hT : Turns w) (h1 : 1 ≤ n) (h2 : n ≤ 200) :
    Calls Tryd.prog 5 #[.int .i64 n] w fun e w' => e = .returned (.bool true) ∧ Fr [] w w' := by
  have hg := hT.lt
  have HT := Lib.hid hT
  clear hT
  go_enter Tryd.func5, Tryd.ntmps5
  go_wp2_with fail
  refine (New_ok n _ (by omega) (by omega)).mono ?_
  rintro e w1 ⟨b, bl, rfl, hI1, hF1, hb1, hb2⟩
  have hI1' : IsSlots w1 b bl (two 0 1 n 0) := by simpa [two] using hI1
  have HI := Lib.hid hI1'
  clear hI1 hI1'
  have hg1 : 0 < b := by omega
  have hg2 : 0 < bl := by omega
  have HT1 := Lib.hid (HT.out.keep hF1 (by simp))
  go_wp2_with fail
  go_loopw [5] (fun i wr => ∃ k : Nat, k ≤ n ∧ i = .int .i64 k ∧ IsSlots wr b bl (two k 1 (n - k) 0) ∧ Fr [b, bl] w1 wr) (fun i _ => n - (intOf i).toNat)
  case atStart => exact ⟨0, Nat.zero_le _, rfl, HI.out, Fr.refl _ _⟩
  case round =>
    obtain ⟨k, hk, rfl, hI, hF⟩ := hrel
    by_cases hlt : k < n
    · have ha := two_alloc k (n - (k + 1))
      rw [show n - (k + 1) + 1 = n - k by omega] at ha
      have HA := Lib.hid ha
      have HIk := Lib.hid hI
      clear ha hI
      go_wp2_with fail
      refine (Alloc_any b bl _ _ HIk.out).mono ?_
      rintro e w2 ⟨rfl, hI2, hF2⟩
      rw [HA.out.1, HA.out.2.1]
      rw [HA.out.2.2] at hI2
      go_wp2
      go_roundw
      case rel => exact ⟨k + 1, by omega, by go_num, hI2, hF.trans hF2⟩
      case measure => simp [intOf]; omega
    · obtain rfl : k = n := by omega
      rw [Nat.sub_self] at hI
      have HIk := Lib.hid hI
      clear hI
      go_wp2_with fail
      refine (Alloc_any b bl _ _ HIk.out).mono ?_
      rintro e w2 ⟨rfl, hI2, hF2⟩
      rw [(two_full k).1, (two_full k).2.1]
      rw [(two_full k).2.2] at hI2
      have hI3 : IsSlots w2 b bl (two 0 0 k 1) := by simpa [two] using hI2
      have HI3 := Lib.hid hI3
      have hF3 := hF.trans hF2
      clear hI2 hI3 hF hF2
      have HT3 := Lib.hid (HT1.out.keep hF3 (by simp; omega))
      go_wp2_with fail
      go_loopw [10] (fun i wr => ∃ m : Nat, m ≤ k ∧ i = .int .i64 m ∧ IsSlots wr b bl (two m 0 (k - m) 1) ∧ Fr [b, bl] w1 wr) (fun i _ => k - (intOf i).toNat)
      case atStart => exact ⟨0, Nat.zero_le _, rfl, HI3.out, hF3⟩
      case round =>
        obtain ⟨m, hm, rfl, hI, hF⟩ := hrel
        by_cases hlt : m < k
        · have ha := two_turns m (k - (m + 1))
          rw [show k - (m + 1) + 1 = k - m by omega] at ha
          have HA := Lib.hid ha
          have HIk := Lib.hid hI
          have HT4 := Lib.hid (HT1.out.keep hF (by simp; omega))
          clear ha hI
          go_wp2_with fail
          refine (Turn_any b bl _ _ _ _ HIk.out HT4.out).mono ?_
          rintro e w3 ⟨rfl, hI4, hF4⟩
          rw [HA.out.1]
          rw [HA.out.2.1] at hI4
          have HT5 := Lib.hid (HT4.out.keep hF4 (by simp; omega))
          go_wp2_with fail
          refine (Turn_any b bl _ _ _ _ hI4 HT5.out).mono ?_
          rintro e w4 ⟨rfl, hI5, hF5⟩
          rw [HA.out.2.2.1]
          rw [HA.out.2.2.2.1] at hI5
          have HT6 := Lib.hid (HT5.out.keep hF5 (by simp; omega))
          go_wp2_with fail
          refine (Turn_any b bl _ _ _ _ hI5 HT6.out).mono ?_
          rintro e w5 ⟨rfl, hI6, hF6⟩
          rw [HA.out.2.2.2.2.1]
          rw [HA.out.2.2.2.2.2] at hI6
          go_wp2
          go_roundw
          case rel => exact ⟨m + 1, by omega, by go_num, hI6, ((hF.trans hF4).trans hF5).trans hF6⟩
          case measure => simp [intOf]; omega
        · obtain rfl : m = k := by omega
          rw [Nat.sub_self] at hI
          have HIk := Lib.hid hI
          have HT4 := Lib.hid (HT1.out.keep hF (by simp; omega))
          clear hI
          go_wp2_with fail
          refine (Count_any b bl _ _ _ HIk.out).mono ?_
          rintro e w3 ⟨rfl, rfl⟩
          rw [show cnt (two m 0 0 1) 0 = m from by simp [cnt, two]]
          go_wp2_with fail
          refine (awake_ok _ HT4.out).mono ?_
          rintro e w4 ⟨rfl, hF7⟩
          go_wp2
          go_ret
          exact ⟨rfl, hF1.comp (hF.comp hF7 (S := [b, bl]) (by simp)) (by simp; omega)⟩

theorem SlotsNil_ok (slot state : Int) (w : World) (hT : Turns w) :
    Calls Tryd.prog 8 #[.int .i64 slot, .int .i64 state] w fun e w' => e = .returned (.bool true) ∧ Fr [] w w' := by
  have hg := hT.lt
  have HT := Lib.hid hT
  clear hT
  go_enter Tryd.func8, Tryd.ntmps8
  go_wp2_with fail
  refine (lawAll_nil _ _).mono ?_
  rintro e w1 ⟨oa, cap, rfl, hF1⟩
  have HT1 := Lib.hid (HT.out.keep hF1 (by simp))
  go_wp2_with fail
  refine (Alloc_nil _).mono ?_
  rintro e w' ⟨rfl, rfl⟩
  go_wp2_with fail
  refine (State_nil _ _).mono ?_
  rintro e w' ⟨rfl, rfl⟩
  go_wp2_with fail
  refine (New_ok 2 _ (by omega) (by omega)).mono ?_
  rintro e w2 ⟨b, bl, rfl, hI2, hF2, hb1, hb2⟩
  have HI2 := Lib.hid hI2
  have HT2 := Lib.hid (HT1.out.keep hF2 (by simp))
  have hs1 := hF1.size
  have hs2 := hF2.size
  go_wp2_with fail
  refine (Copy_any b bl _ _ HI2.out).mono ?_
  rintro e w3 ⟨b', bl', rfl, hI3, hF3, hb3, hb4⟩
  have HI2' := Lib.hid (HI2.out.fr hF3 (by simp) (by simp))
  have HI3 := Lib.hid hI3
  have hs3 := hF3.size
  have HT3 := Lib.hid (HT2.out.keep hF3 (by simp))
  have hd1 : ¬ b' = b := by have := HI2.out.b_lt; omega
  have hd2 : ¬ bl' = b := by have := HI2.out.b_lt; omega
  have hd3 : ¬ b' = bl := by have := HI2.out.bl_lt; omega
  have hd4 : ¬ bl' = bl := by have := HI2.out.bl_lt; omega
  clear hI2 hI3
  go_wp2_with fail
  refine (Turn_nil _ _ _).mono ?_
  rintro e w' ⟨rfl, rfl⟩
  go_wp2_with fail
  refine (Count_nil _ _).mono ?_
  rintro e w' ⟨rfl, rfl⟩
  go_wp2_with fail
  refine (Len_nil _).mono ?_
  rintro e w' ⟨rfl, rfl⟩
  go_wp2_with fail
  refine (Copy_nil _).mono ?_
  rintro e w' ⟨rfl, rfl⟩
  go_wp2_with fail
  refine (Alloc_any b' bl' _ _ HI3.out).mono ?_
  rintro e w4 ⟨rfl, hI4, hF4⟩
  rw [show allocL (List.replicate 2 0) = [1, 0] from by decide] at hI4
  have HI5 := Lib.hid (HI2'.out.fr hF4 (by simp; omega) (by simp; omega))
  have HI4 := Lib.hid hI4
  have HT4 := Lib.hid (HT3.out.keep hF4 (by simp; omega))
  clear hI4
  go_wp2_with fail
  refine (Count_any b bl _ _ _ HI5.out).mono ?_
  rintro e w' ⟨rfl, rfl⟩
  rw [show cnt (List.replicate 2 0) 0 = 2 from by decide]
  go_wp2_with fail
  refine (Count_any b' bl' _ _ _ HI4.out).mono ?_
  rintro e w' ⟨rfl, rfl⟩
  rw [show cnt [1, 0] 0 = 1 from by decide]
  go_wp2_with fail
  refine (Count_any b' bl' _ _ _ HI4.out).mono ?_
  rintro e w' ⟨rfl, rfl⟩
  rw [show cnt [1, 0] 1 = 1 from by decide]
  go_wp2_with fail
  refine (awake_ok _ HT4.out).mono ?_
  rintro e w5 ⟨rfl, hF5⟩
  go_wp2
  go_ret
  exact ⟨rfl, (((hF1.trans hF2).trans hF3).comp hF4 (by simp; omega)).trans hF5⟩
end Go.Proofs.YtoppbacokbbjdaaDoor
