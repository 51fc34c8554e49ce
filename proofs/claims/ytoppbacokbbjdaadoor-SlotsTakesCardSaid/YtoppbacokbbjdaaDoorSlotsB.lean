/- Contracts of package slots: State, Count, Len, Turn, New. -/
import Derived.Test.YtoppbacokbbjdaaDoorSlotsA
namespace Go.Proofs.YtoppbacokbbjdaaDoor
open Go.RowKit

theorem State_nil (slot : Int) (w : World) :
    Calls Tryd.prog 24 #[.pointer none, .int .i64 slot] w fun e w' => e = .returned (.tuple #[.int .i64 0, .int .i64 2]) ∧ w = w' := by
  go_enter Tryd.func24, Tryd.ntmps24
  go_wp2
  go_ret2
  exact ⟨rfl, rfl⟩
theorem State_out (b bl : Nat) (l : List Nat) (slot : Int) (w : World) (h : IsSlots w b bl l) (hs : slot < 0 ∨ (l.length : Int) ≤ slot) :
    Calls Tryd.prog 24 #[.pointer (some ⟨b, 0, none⟩), .int .i64 slot] w fun e w' => e = .returned (.tuple #[.int .i64 0, .int .i64 10]) ∧ w = w' := by
  obtain ⟨hbl, hl1, hl2, hlt, cap, c, arr, hb, hbl', hc6, hc0, hcc, has, ha, hcap, hcap2⟩ := h
  have hc0' := hb.cell hc0
  clear hcc ha hb hbl' hc0 hlt
  obtain ⟨n, hn⟩ : ∃ n : Nat, n = l.length := ⟨_, rfl⟩
  rw [← hn] at hc0' hs
  clear hn
  by_cases h0 : slot < 0
  · go_enter Tryd.func24, Tryd.ntmps24
    go_wp2
    go_ret2
    exact ⟨rfl, rfl⟩
  · have h1 : (n : Int) ≤ slot := by omega
    clear hs
    go_enter Tryd.func24, Tryd.ntmps24
    go_wp2
    go_ret2
    exact ⟨rfl, rfl⟩
theorem State_in (b bl : Nat) (l : List Nat) (slot : Nat) (w : World) (h : IsSlots w b bl l) (hs : slot < l.length) :
    Calls Tryd.prog 24 #[.pointer (some ⟨b, 0, none⟩), .int .i64 slot] w fun e w' => e = .returned (.tuple #[.int .i64 (l[slot] : Nat), .int .i64 0]) ∧ w = w' := by
  obtain ⟨hbl, hl1, hl2, hlt, cap, c, arr, hb, hbl', hc6, hc0, hcc, has, ha, hcap, hcap2⟩ := h
  have hc0' := hb.cell hc0
  have ho := hbl'.cell (ha slot hs)
  obtain ⟨o, hoo⟩ : ∃ o, o = l[slot] := ⟨_, rfl⟩
  rw [← hoo] at ho ⊢
  clear hcc ha hb hbl' hc0 hlt hoo
  obtain ⟨n, hn⟩ : ∃ n : Nat, n = l.length := ⟨_, rfl⟩
  rw [← hn] at hc0' hs
  clear hn
  go_enter Tryd.func24, Tryd.ntmps24
  go_wp2
  go_ret2
  exact ⟨rfl, rfl⟩

theorem Len_nil (w : World) :
    Calls Tryd.prog 22 #[.pointer none] w fun e w' => e = .returned (.int .i64 0) ∧ w = w' := by
  go_enter Tryd.func22, Tryd.ntmps22
  go_wp2
  go_ret
  exact ⟨rfl, rfl⟩
theorem Len_any (b bl : Nat) (l : List Nat) (w : World) (h : IsSlots w b bl l) :
    Calls Tryd.prog 22 #[.pointer (some ⟨b, 0, none⟩)] w fun e w' => e = .returned (.int .i64 l.length) ∧ w = w' := by
  obtain ⟨hbl, hl1, hl2, hlt, cap, c, arr, hb, hbl', hc6, hc0, hcc, has, ha, hcap, hcap2⟩ := h
  have hc0' := hb.cell hc0
  clear hcc ha hb hbl' hc0 hlt
  go_enter Tryd.func22, Tryd.ntmps22
  go_wp2
  go_ret
  exact ⟨rfl, rfl⟩

theorem Count_nil (n : Int) (w : World) :
    Calls Tryd.prog 21 #[.pointer none, .int .i64 n] w fun e w' => e = .returned (.int .i64 0) ∧ w = w' := by
  go_enter Tryd.func21, Tryd.ntmps21
  go_wp2
  go_ret
  exact ⟨rfl, rfl⟩
def cnt (l : List Nat) (n : Int) : Nat := if 0 ≤ n then l.count n.toNat else 0
theorem Count_any (b bl : Nat) (l : List Nat) (n : Int) (w : World) (h : IsSlots w b bl l) :
    Calls Tryd.prog 21 #[.pointer (some ⟨b, 0, none⟩), .int .i64 n] w fun e w' => e = .returned (.int .i64 (cnt l n)) ∧ w = w' := by
  obtain ⟨hbl, hl1, hl2, hlt, cap, c, arr, hb, hbl', hc6, hc0, hcc, has, ha, hcap, hcap2⟩ := h
  by_cases hn : stB n = true
  · have hn' := hn
    simp only [stB, Bool.and_eq_true, decide_eq_true_eq] at hn'
    obtain ⟨k, rfl⟩ := Int.eq_ofNat_of_zero_le hn'.1
    have hk : (k : Int) < 5 := hn'.2
    have hkc := hb.cell (hcc k (by omega))
    have e : cnt l k = l.count k := by simp [cnt]
    rw [e]
    obtain ⟨r, hr⟩ : ∃ r, r = l.count k := ⟨_, rfl⟩
    rw [← hr] at hkc ⊢
    have H := Lib.hid hn
    clear hn hn' hr e hcc ha hb hbl' hc0 hlt
    go_enter Tryd.func21, Tryd.ntmps21
    go_wp2_with fail
    refine (state_yes _ _ H.out).mono ?_
    rintro e w' ⟨rfl, rfl⟩
    go_wp2
    go_ret
    exact ⟨rfl, rfl⟩
  · have hn2 : stB n = false := by simpa using hn
    have e : cnt l n = 0 := by
      unfold cnt
      split
      · rw [List.count_eq_zero]
        intro hm
        have h5 := hlt _ hm
        simp only [stB, Bool.and_eq_false_iff, decide_eq_false_iff_not] at hn2
        omega
      · rfl
    rw [e]
    have H := Lib.hid hn2
    clear hn hn2 e hcc ha hb hbl' hc0 hlt
    go_enter Tryd.func21, Tryd.ntmps21
    go_wp2_with fail
    refine (state_no _ _ H.out).mono ?_
    rintro e w' ⟨rfl, rfl⟩
    go_wp2
    go_ret
    exact ⟨rfl, rfl⟩

/-- what Turn answers, and what the states are then -/
def turnE (l : List Nat) (slot to : Int) : Int :=
  if slot < 0 ∨ (l.length : Int) ≤ slot then 10 else if stB to = false then 1 else if mayB (l.getD slot.toNat 0 : Nat) to = false then 16 else 0
def turnL (l : List Nat) (slot to : Int) : List Nat := if turnE l slot to = 0 then l.set slot.toNat to.toNat else l

theorem Turn_nil (slot to : Int) (w : World) :
    Calls Tryd.prog 16 #[.pointer none, .int .i64 slot, .int .i64 to] w fun e w' => e = .returned (.int .i64 2) ∧ w = w' := by
  go_enter Tryd.func16, Tryd.ntmps16
  go_wp2_with fail
  refine (State_nil _ _).mono ?_
  rintro e w' ⟨rfl, rfl⟩
  go_wp2
  go_ret
  exact ⟨rfl, rfl⟩
theorem Turn_any (b bl : Nat) (l : List Nat) (slot to : Int) (w : World) (h : IsSlots w b bl l) (hT : Turns w) :
    Calls Tryd.prog 16 #[.pointer (some ⟨b, 0, none⟩), .int .i64 slot, .int .i64 to] w fun e w' => e = .returned (.int .i64 (turnE l slot to)) ∧
      IsSlots w' b bl (turnL l slot to) ∧ Fr [b, bl] w w' := by
  have HT := Lib.hid hT
  clear hT
  have HI := Lib.hid h
  clear h
  by_cases h0 : slot < 0 ∨ (l.length : Int) ≤ slot
  · have e1 : turnE l slot to = 10 := by simp [turnE, h0]
    have e2 : turnL l slot to = l := by simp [turnL, e1]
    rw [e1, e2]
    have H0 := Lib.hid h0
    clear e1 e2 h0
    go_enter Tryd.func16, Tryd.ntmps16
    go_wp2_with fail
    refine (State_out b bl l _ _ HI.out H0.out).mono ?_
    rintro e w' ⟨rfl, rfl⟩
    go_wp2
    go_ret
    exact ⟨rfl, HI.out, Fr.refl _ _⟩
  · have h1 : 0 ≤ slot := by omega
    obtain ⟨s, rfl⟩ := Int.eq_ofNat_of_zero_le h1
    have hs : s < l.length := by omega
    have hg : l.getD s 0 = l[s] := by simp [hs]
    by_cases h2 : stB to = true
    · by_cases h3 : mayB (l[s] : Nat) to = true
      · have e1 : turnE l s to = 0 := by simp [turnE, h2, hs, h3]
        have e2 : turnL l s to = l.set s to.toNat := by simp [turnL, e1]
        rw [e1, e2]
        have h2' := h2
        simp only [stB, Bool.and_eq_true, decide_eq_true_eq] at h2'
        obtain ⟨t, rfl⟩ := Int.eq_ofNat_of_zero_le h2'.1
        have ht : t < 5 := by omega
        have hne : ¬ l[s] = t := by
          intro e; rw [e] at h3
          simp [mayB] at h3; omega
        have H2 := Lib.hid h2
        have H3 := Lib.hid h3
        have Hs := Lib.hid hs
        have Hn := Lib.hid hne
        rw [Int.toNat_natCast]
        clear e1 e2 h0 h1 h2 h3 hne hg h2'
        have e0 : ((0 : Int) == 0) = true := rfl
        clear e0
        go_enter Tryd.func16, Tryd.ntmps16
        go_wp2_with fail
        refine (State_in b bl l s _ HI.out Hs.out).mono ?_
        rintro e w' ⟨rfl, rfl⟩
        go_wp2_with fail
        refine (state_yes _ _ H2.out).mono ?_
        rintro e w' ⟨rfl, rfl⟩
        go_wp2_with fail
        refine (May_any _ _ _ HT.out).mono ?_
        rintro e w' ⟨rfl, rfl⟩
        rw [H3.out]
        go_wp2_with fail
        refine (set_any b bl l s t _ HI.out Hs.out ht Hn.out).mono ?_
        rintro e w' ⟨rfl, hI, hF⟩
        go_wp2
        go_ret
        exact ⟨rfl, hI, hF⟩
      · have h3' : mayB (l[s] : Nat) to = false := by simpa using h3
        have e1 : turnE l s to = 16 := by simp [turnE, h2, hs, h3']
        have e2 : turnL l s to = l := by simp [turnL, e1]
        rw [e1, e2]
        have H2 := Lib.hid h2
        have H3 := Lib.hid h3'
        have Hs := Lib.hid hs
        clear e1 e2 h0 h1 h2 h3 h3' hg
        go_enter Tryd.func16, Tryd.ntmps16
        go_wp2_with fail
        refine (State_in b bl l s _ HI.out Hs.out).mono ?_
        rintro e w' ⟨rfl, rfl⟩
        go_wp2_with fail
        refine (state_yes _ _ H2.out).mono ?_
        rintro e w' ⟨rfl, rfl⟩
        go_wp2_with fail
        refine (May_any _ _ _ HT.out).mono ?_
        rintro e w' ⟨rfl, rfl⟩
        rw [H3.out]
        go_wp2
        go_ret
        exact ⟨rfl, HI.out, Fr.refl _ _⟩
    · have h2' : stB to = false := by simpa using h2
      have e1 : turnE l s to = 1 := by simp [turnE, h2', hs]
      have e2 : turnL l s to = l := by simp [turnL, e1]
      rw [e1, e2]
      have H2 := Lib.hid h2'
      have Hs := Lib.hid hs
      clear e1 e2 h0 h1 h2 h2' hs hg
      go_enter Tryd.func16, Tryd.ntmps16
      go_wp2_with fail
      refine (State_in b bl l s _ HI.out Hs.out).mono ?_
      rintro e w' ⟨rfl, rfl⟩
      go_wp2_with fail
      refine (state_no _ _ H2.out).mono ?_
      rintro e w' ⟨rfl, rfl⟩
      go_wp2
      go_ret
      exact ⟨rfl, HI.out, Fr.refl _ _⟩

theorem New_bad (n : Int) (w : World) (h : n < 1 ∨ 1024 < n) :
    Calls Tryd.prog 12 #[.int .i64 n] w fun e w' => e = .returned (.tuple #[.pointer none, .int .i64 24]) ∧ w = w' := by
  by_cases h0 : n < 1
  · go_enter Tryd.func12, Tryd.ntmps12
    go_wp2
    go_ret2
    exact ⟨rfl, rfl⟩
  · have h1 : 1024 < n := by omega
    clear h
    go_enter Tryd.func12, Tryd.ntmps12
    go_wp2
    go_ret2
    exact ⟨rfl, rfl⟩
end Go.Proofs.YtoppbacokbbjdaaDoor
