/- SlotsWhole: the walk. -/
import Derived.Test.YtoppbacokbbjdaaDoorSlotsL
namespace Go.Proofs.YtoppbacokbbjdaaDoor
open Go.RowKit Go.Shelf

def cntTo (l : List Nat) : Nat → Nat
  | 0 => 0
  | k + 1 => cntTo l k + l.count k
theorem cntTo_le (l : List Nat) (h : ∀ x, x ∈ l → x < 5) : cntTo l 5 = l.length := by
  simp only [cntTo]
  induction l with
  | nil => rfl
  | cons a l ih =>
    have ih' := ih (fun x hx => h x (List.mem_cons_of_mem _ hx))
    have ha := h a List.mem_cons_self
    simp only [List.count_cons, List.length_cons]
    have : a = 0 ∨ a = 1 ∨ a = 2 ∨ a = 3 ∨ a = 4 := by omega
    rcases this with rfl | rfl | rfl | rfl | rfl <;> simp <;> omega
theorem cntTo_bd (l : List Nat) (k : Nat) : cntTo l k ≤ k * l.length := by
  induction k with
  | zero => simp [cntTo]
  | succ k ih =>
    have := List.count_le_length (a := k) (l := l)
    simp only [cntTo, Nat.succ_mul]; omega
/-- how many of the first k places differ -/
def diffs (a b : List Nat) : Nat → Nat
  | 0 => 0
  | k + 1 => diffs a b k + (if a.getD k 0 = b.getD k 0 then 0 else 1)
theorem diffs_bd (a b : List Nat) (k : Nat) : diffs a b k ≤ k := by
  induction k with
  | zero => simp [diffs]
  | succ k ih => simp only [diffs]; split <;> omega
theorem diffs_same (a : List Nat) (k : Nat) : diffs a a k = 0 := by
  induction k with
  | zero => rfl
  | succ k ih => simp [diffs, ih]
theorem diffs_set (a : List Nat) (i x k : Nat) : diffs a (a.set i x) k ≤ (if i < k then 1 else 0) := by
  induction k with
  | zero => simp [diffs]
  | succ k ih =>
    simp only [diffs]
    by_cases h : i = k
    · subst h
      rw [if_neg (by omega)] at ih
      rw [if_pos (show i < i + 1 by omega)]
      split <;> omega
    · have : a.getD k 0 = (a.set i x).getD k 0 := by simp [List.getD_eq_getElem?_getD, List.getElem?_set_ne h]
      rw [if_pos this]
      by_cases h2 : i < k
      · rw [if_pos h2] at ih; rw [if_pos (by omega)]; omega
      · rw [if_neg h2] at ih; rw [if_neg (by omega)]; omega
theorem stepL_cases (l : List Nat) (o : Bool × Int × Int) : stepL l o = l ∨ ∃ i x, ∃ h : i < l.length, mayB (l[i] : Nat) (x : Nat) = true ∧ stepL l o = l.set i x := by
  unfold stepL
  split
  · unfold allocL
    split
    · exact .inl rfl
    · rename_i h
      obtain ⟨h1, h2⟩ := allocN_spec l h
      exact .inr ⟨_, 1, h1, by rw [h2]; decide, rfl⟩
  · unfold turnL
    split
    · rename_i h
      unfold turnE at h
      split at h
      · omega
      · split at h
        · omega
        · split at h
          · omega
          · rename_i h1 h2 h3
            obtain ⟨s, hs⟩ := Int.eq_ofNat_of_zero_le (show 0 ≤ o.2.1 by omega)
            have h2' : stB o.2.2 = true := by simpa using h2
            simp only [stB, Bool.and_eq_true, decide_eq_true_eq] at h2'
            obtain ⟨t, ht⟩ := Int.eq_ofNat_of_zero_le h2'.1
            have hl : s < l.length := by omega
            rw [hs, ht] at h3 ⊢
            rw [Int.toNat_natCast] at h3 ⊢
            refine .inr ⟨s, t, hl, ?_, by rw [Int.toNat_natCast]⟩
            simpa [hl] using h3
    · exact .inl rfl
theorem stepL_at (l : List Nat) (o : Bool × Int × Int) (k : Nat) (h : k < l.length) (h' : k < (stepL l o).length) : l[k] = (stepL l o)[k] ∨ mayB (l[k] : Nat) ((stepL l o)[k] : Nat) = true := by
  rcases stepL_cases l o with e | ⟨i, x, hi, hm, e⟩
  · left
    exact (List.getElem_of_eq e (by rw [e]; exact h)).symm
  · have e2 := List.getElem_of_eq e h'
    by_cases hik : i = k
    · subst hik
      right
      rw [e2]; simpa using hm
    · left
      rw [e2, List.getElem_set_ne hik]
theorem stepL_diffs (l : List Nat) (o : Bool × Int × Int) (k : Nat) : diffs l (stepL l o) k ≤ 1 := by
  rcases stepL_cases l o with e | ⟨i, x, hi, hm, e⟩
  · rw [e, diffs_same]; omega
  · rw [e]
    have := diffs_set l i x k
    split at this <;> omega
theorem mayB_facts (a b : Nat) (h : mayB a b = true) : ¬ a = b ∧ ¬ a = 4 ∧ (b = 0 → a = 3) := by
  simp [mayB] at h
  omega

theorem SlotsWhole_out (n : Int) (oa : Option Addr) (len cap : Nat) (w : World) (hT : Turns w) (h : n < 1 ∨ 40 < n ∨ 100 < len) :
    Calls Tryd.prog 7 #[.int .i64 n, .slice oa len cap] w fun e w' => e = .returned (.bool true) ∧ Fr [] w w' := by
  have HT := Lib.hid hT
  clear hT
  by_cases h0 : n < 1
  · clear h
    go_enter Tryd.func7, Tryd.ntmps7
    go_wp2_with fail
    refine (awake_ok _ HT.out).mono ?_
    rintro e w' ⟨rfl, hF⟩
    go_wp2
    go_ret
    exact ⟨rfl, hF⟩
  · by_cases h1 : 40 < n
    · clear h
      go_enter Tryd.func7, Tryd.ntmps7
      go_wp2_with fail
      refine (awake_ok _ HT.out).mono ?_
      rintro e w' ⟨rfl, hF⟩
      go_wp2
      go_ret
      exact ⟨rfl, hF⟩
    · have h2 : (100 : Int) < len := by omega
      clear h
      go_enter Tryd.func7, Tryd.ntmps7
      go_wp2_with fail
      refine (awake_ok _ HT.out).mono ?_
      rintro e w' ⟨rfl, hF⟩
      go_wp2
      go_ret
      exact ⟨rfl, hF⟩

set_option maxRecDepth 100000 in
set_option maxHeartbeats 4000000 in
theorem SlotsWhole_in (n : Nat) (oa : Option Addr) (cap : Nat) (ops : List (Bool × Int × Int)) (w : World) (hT : Turns w) (h1 : 1 ≤ n) (h2 : n ≤ 40) (h3 : ops.length ≤ 100) (hO : IsOps w oa ops) :
    Calls Tryd.prog 7 #[.int .i64 n, .slice oa ops.length cap] w fun e w' => e = .returned (.bool true) ∧ Fr [] w w' := by
  have hg := hT.lt
  have HT := Lib.hid hT
  have HO := Lib.hid hO
  clear hT hO
  obtain ⟨len, hlen⟩ : ∃ len, len = ops.length := ⟨_, rfl⟩
  rw [← hlen] at h3 ⊢
  have HL := Lib.hid hlen
  clear hlen
  go_enter Tryd.func7, Tryd.ntmps7
  go_wp2_with fail
  refine (New_ok n _ (by omega) (by omega)).mono ?_
  rintro e w1 ⟨b, bl, rfl, hI1, hF1, hb1, hb2⟩
  have HI1 := Lib.hid hI1
  have hg1 : 0 < b := by omega
  have hg2 : 0 < bl := by omega
  clear hI1
  go_wp2_with fail
  go_loopw [7] (fun i wr => ∃ k : Nat, k ≤ len ∧ i = .int .i64 k ∧ IsSlots wr b bl (runL n ops k) ∧ Fr [] w wr) (fun i _ => len - (intOf i).toNat)
  case atStart => exact ⟨0, Nat.zero_le _, rfl, HI1.out, hF1⟩
  case round =>
    obtain ⟨k, hk, rfl, hI, hF⟩ := hrel
    have HIk := Lib.hid hI
    have HTk := Lib.hid (HT.out.keep hF (by simp))
    clear hI
    by_cases hlt : k < len
    · have hlt' : k < ops.length := by rw [← HL.out]; exact hlt
      obtain ⟨ab, off, hoa, c0, c1, c2⟩ := HO.out k hlt'
      have hab := cell_lt c0
      have HS := Lib.hid (runL_succ n ops k hlt')
      obtain ⟨o, ho⟩ : ∃ o, o = ops[k] := ⟨_, rfl⟩
      rw [← ho] at c0 c1 c2
      have HO1 := Lib.hid ho
      obtain ⟨l, hl⟩ : ∃ l, l = runL n ops k := ⟨_, rfl⟩
      have hln : l.length = n := by rw [hl]; exact runL_len _ _ _
      have HL1 := Lib.hid hl
      have HLN := Lib.hid hln
      rw [← hl] at HIk
      clear hl hln ho
      have hsl : (stepL l o).length = n := by rw [stepL_len]; exact HLN.out
      have HSL := Lib.hid hsl
      have HSTEP := Lib.hid (show runL n ops (k + 1) = stepL l o by rw [HS.out, ← HL1.out, ← HO1.out])
      rw [hoa]
      clear hoa hsl HS
      go_wp2_with fail
      refine (Copy_any b bl _ _ HIk.out).mono ?_
      rintro e w3 ⟨b', bl', rfl, hI3, hF3, hb3, hb4⟩
      have HI3' := Lib.hid (HIk.out.fr hF3 (by simp) (by simp))
      have HI3 := Lib.hid hI3
      have HT3 := Lib.hid (HTk.out.keep hF3 (by simp))
      have hd1 : ¬ b' = b := by have := HIk.out.b_lt; omega
      have hd2 : ¬ bl' = b := by have := HIk.out.b_lt; omega
      have hd3 : ¬ b' = bl := by have := HIk.out.bl_lt; omega
      have hd4 : ¬ bl' = bl := by have := HIk.out.bl_lt; omega
      have hF03 := hF.trans hF3
      have k0 := (hF03.cell _ (cell_lt c0) (by simp)).trans c0
      have k1 := (hF03.cell _ (cell_lt c1) (by simp)).trans c1
      have k2 := (hF03.cell _ (cell_lt c2) (by simp)).trans c2
      clear hI3 c0 c1 c2 hF3 hF
      obtain ⟨oal, osl, ost⟩ := o
      simp only at k0 k1 k2
      go_upto_if 54 with fail
      go_cut [] (fun wr => ∃ w4, w4 = wr ∧ IsSlots w4 b bl (stepL l (oal, osl, ost)) ∧ Fr [b, bl] w3 w4)
      case first =>
        cases oal with
        | true =>
          go_wp2_with fail
          refine (Alloc_any b bl _ _ HI3'.out).mono ?_
          rintro e w4 ⟨rfl, hI4, hF4⟩
          go_wp2
          go_meet
          exact ⟨_, rfl, hI4, hF4⟩
        | false =>
          go_wp2_with fail
          go_region_with (go_at_call 16; refine (Turn_any b bl _ _ _ _ (HI3'.out.fr (Fr.refl [] w3).drew (by simp) (by simp)) (HT3.out.keep (Fr.refl [] w3).drew (by simp))).mono ?_; rintro e w4 ⟨rfl, hI4, hF4⟩)
          all_goals
            go_wp2
            go_meet
            exact ⟨_, rfl, hI4, (Fr.refl _ _).drew.trans hF4⟩
      case rest =>
        obtain ⟨w4, rfl, hI4, hF4⟩ := hcut
        have hat := stepL_at l (oal, osl, ost)
        have hdf := stepL_diffs l (oal, osl, ost) n
        obtain ⟨l2, hl2⟩ : ∃ l2, l2 = stepL l (oal, osl, ost) := ⟨_, rfl⟩
        rw [← hl2] at hI4 HSL HSTEP hat hdf
        have HI4 := Lib.hid hI4
        have HT4 := Lib.hid (HT3.out.keep hF4 (by simp; omega))
        have HI5 := Lib.hid (HI3.out.fr hF4 (by simp; omega) (by simp; omega))
        have hF04 : Fr [] w w4 := hF03.comp hF4 (by simp; omega)
        have HAT := Lib.hid hat
        have HC5 := Lib.hid (cntTo_le l2 hI4.lt)
        clear hl2 hI4 hF4 hF03 hat
        go_wp2_with fail
        go_loop [9, 10] (fun t i => ∃ m : Nat, m ≤ 5 ∧ i = .int .i64 m ∧ t = .int .i64 (cntTo l2 m)) (fun _ i => 5 - (intOf i).toNat)
        case atStart => exact ⟨0, by omega, rfl, rfl⟩
        case round =>
          obtain ⟨m, hm, rfl, rfl⟩ := hrel
          have hcb := cntTo_bd l2 m
          rw [HSL.out] at hcb
          have hcb2 : cntTo l2 m ≤ 200 := Nat.le_trans hcb (Nat.le_trans (Nat.mul_le_mul hm h2) (by omega))
          clear hcb
          by_cases hlt2 : m < 5
          · have hcl : l2.count m ≤ 40 := by have := List.count_le_length (a := m) (l := l2); rw [HSL.out] at this; omega
            have e1 : cnt l2 (m : Int) = l2.count m := by simp [cnt]
            have E1 := Lib.hid e1
            have E2 := Lib.hid (show cntTo l2 (m + 1) = cntTo l2 m + l2.count m from rfl)
            clear e1
            go_wp2_with fail
            refine (Count_any b bl _ _ _ HI4.out).mono ?_
            rintro e w' ⟨rfl, rfl⟩
            rw [E1.out]
            go_wp2
            go_round
            case rel => exact ⟨m + 1, by omega, by go_num, by rw [E2.out]; go_num⟩
            case measure => simp [intOf]; omega
          · obtain rfl : m = 5 := by omega
            rw [HC5.out, HSL.out]
            go_wp2_with fail
            go_loop [11, 12] (fun t i => ∃ m : Nat, m ≤ n ∧ i = .int .i64 m ∧ t = .int .i64 (diffs l l2 m)) (fun _ i => n - (intOf i).toNat)
            case atStart => exact ⟨0, by omega, rfl, rfl⟩
            case round =>
              obtain ⟨m, hm, rfl, rfl⟩ := hrel
              have hdb := diffs_bd l l2 m
              by_cases hlt3 : m < n
              · have hml : m < l.length := by rw [HLN.out]; exact hlt3
                have hml2 : m < l2.length := by rw [HSL.out]; exact hlt3
                have c1 := State_in b' bl' l m w4 HI5.out hml
                have c2 := State_in b bl l2 m w4 HI4.out hml2
                have hab' := HAT.out m hml hml2
                have E2 : Hid (diffs l l2 (m + 1) = diffs l l2 m + (if l[m] = l2[m] then 0 else 1)) := by show diffs l l2 m + _ = _; simp [hml, hml2]
                obtain ⟨y, hy⟩ : ∃ y, y = l[m] := ⟨_, rfl⟩
                obtain ⟨z, hz⟩ : ∃ z, z = l2[m] := ⟨_, rfl⟩
                rw [← hy] at c1 hab' E2
                rw [← hz] at c2 hab' E2
                have C1 := Lib.hid c1
                have C2 := Lib.hid c2
                clear c1 c2 hy hz
                by_cases hyz : y = z
                · subst hyz
                  have E3 := Lib.hid (show diffs l l2 (m + 1) = diffs l l2 m by rw [E2.out]; simp)
                  clear hab'
                  go_wp2_with fail
                  refine C1.out.mono ?_
                  rintro e w' ⟨rfl, rfl⟩
                  go_wp2_with fail
                  refine C2.out.mono ?_
                  rintro e w' ⟨rfl, rfl⟩
                  go_wp2_with fail
                  all_goals
                    go_round
                    case rel => exact ⟨m + 1, by omega, by go_num, by rw [E3.out]⟩
                    case measure => simp [intOf]; omega
                · have hmay := hab'.resolve_left hyz
                  obtain ⟨_, f2, f3⟩ := mayB_facts y z hmay
                  have E3 := Lib.hid (show diffs l l2 (m + 1) = diffs l l2 m + 1 by rw [E2.out, if_neg hyz])
                  have HM := Lib.hid hmay
                  clear hab' hmay
                  by_cases hz0 : z = 0
                  · obtain rfl := f3 hz0
                    subst hz0
                    clear f2 f3 hyz
                    go_wp2_with fail
                    refine C1.out.mono ?_
                    rintro e w' ⟨rfl, rfl⟩
                    go_wp2_with fail
                    refine C2.out.mono ?_
                    rintro e w' ⟨rfl, rfl⟩
                    go_wp2_with fail
                    refine (May_any _ _ _ HT4.out).mono ?_
                    rintro e w' ⟨rfl, rfl⟩
                    rw [show mayB 3 0 = true from rfl]
                    go_wp2_with fail
                    go_round
                    case rel => exact ⟨m + 1, by omega, by go_num, by rw [E3.out]; go_num⟩
                    case measure => simp [intOf]; omega
                  · have b1 : ((z : Int) == 0) = false := beq_eq_false_iff_ne.2 (by omega)
                    have b2 : ((y : Int) == 4) = false := beq_eq_false_iff_ne.2 (by omega)
                    have b3 : ((y : Int) != (z : Int)) = true := bne_iff_ne.2 (by omega)
                    have b4 : ((z : Int) != (y : Int)) = true := bne_iff_ne.2 (by omega)
                    clear f2 f3 hyz hz0
                    go_wp2_with fail
                    refine C1.out.mono ?_
                    rintro e w' ⟨rfl, rfl⟩
                    go_wp2_with fail
                    refine C2.out.mono ?_
                    rintro e w' ⟨rfl, rfl⟩
                    go_wp2_with fail
                    refine (May_any _ _ _ HT4.out).mono ?_
                    rintro e w' ⟨rfl, rfl⟩
                    rw [HM.out]
                    go_wp2_with fail
                    go_round
                    case rel => exact ⟨m + 1, by omega, by go_num, by rw [E3.out]; go_num⟩
                    case measure => simp [intOf]; omega
              · obtain rfl : m = n := by omega
                have hdn : (diffs l l2 m : Int) ≤ 1 := by omega
                go_wp2
                go_roundw
                case rel => exact ⟨k + 1, by omega, by go_num, by rw [HSTEP.out]; exact HI4.out, hF04⟩
                case measure => simp [intOf]; omega
    · obtain rfl : k = len := by omega
      go_wp2_with fail
      refine (awake_ok _ HTk.out).mono ?_
      rintro e w5 ⟨rfl, hF5⟩
      go_wp2
      go_ret
      exact ⟨rfl, hF.trans hF5⟩
end Go.Proofs.YtoppbacokbbjdaaDoor
