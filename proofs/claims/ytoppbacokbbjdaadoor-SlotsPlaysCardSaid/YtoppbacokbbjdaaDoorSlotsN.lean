/- SlotsPlays: the walk. -/
import Derived.Test.YtoppbacokbbjdaaDoorSlotsM
import Derived.Test.YtoppbacokbbjdaaDoorSlotsK
namespace Go.Proofs.YtoppbacokbbjdaaDoor
open Go.RowKit Go.Shelf

theorem allOf_count (l : List Nat) (x : Nat) : ∀ k, k ≤ l.length → (allOf l (x : Int) k).length = (l.take k).count x := by
  intro k
  induction k with
  | zero => intro _; rfl
  | succ k ih =>
    intro hk
    have hk' : k < l.length := by omega
    rw [List.take_succ_eq_append_getElem hk', List.count_append, ← ih (by omega)]
    simp only [allOf, List.length_append]
    have hg : l.getD k 0 = l[k] := by simp [hk']
    rw [hg]
    by_cases h : l[k] = x
    · simp [h]
    · have h' : ¬ ((l[k] : Nat) : Int) = x := by omega
      simp [h, h']
theorem cnt_allOf (l : List Nat) (n : Int) : cnt l n = (allOf l n l.length).length := by
  unfold cnt
  split
  · rename_i h
    obtain ⟨x, rfl⟩ := Int.eq_ofNat_of_zero_le h
    rw [allOf_count l x l.length (Nat.le_refl _)]; simp
  · rename_i h
    rw [allOf_none l n l.length (fun j _ => by omega)]
    rfl

theorem SlotsPlays_mid (n : Int) (v : Value) (w : World) (hT : Turns w) (h1 : 40 < n) (h2 : n ≤ 1024) :
    Calls Tryd.prog 4 #[.int .i64 n, v] w fun e w' => e = .returned (.bool true) ∧ Fr [] w w' := by
  have HT := Lib.hid hT
  clear hT
  go_enter Tryd.func4, Tryd.ntmps4
  go_wp2_with fail
  refine (awake_ok _ HT.out).mono ?_
  rintro e w' ⟨rfl, hF⟩
  go_wp2
  go_ret
  exact ⟨rfl, hF⟩
theorem SlotsPlays_bad (n : Int) (v : Value) (w : World) (hT : Turns w) (h : n < 1 ∨ 1024 < n) :
    Calls Tryd.prog 4 #[.int .i64 n, v] w fun e w' => e = .returned (.bool true) ∧ Fr [] w w' := by
  have HT := Lib.hid hT
  clear hT
  by_cases h0 : n < 1
  · clear h
    go_enter Tryd.func4, Tryd.ntmps4
    go_wp2_with fail
    refine (New_bad _ _ (.inl h0)).mono ?_
    rintro e w' ⟨rfl, rfl⟩
    go_wp2_with fail
    refine (awake_ok _ HT.out).mono ?_
    rintro e w' ⟨rfl, hF⟩
    go_wp2
    go_ret
    exact ⟨rfl, hF⟩
  · have h1 : 1024 < n := by omega
    clear h
    go_enter Tryd.func4, Tryd.ntmps4
    go_wp2_with fail
    refine (New_bad _ _ (.inr h1)).mono ?_
    rintro e w' ⟨rfl, rfl⟩
    go_wp2_with fail
    refine (awake_ok _ HT.out).mono ?_
    rintro e w' ⟨rfl, hF⟩
    go_wp2
    go_ret
    exact ⟨rfl, hF⟩
theorem SlotsPlays_long (n : Nat) (oa : Option Addr) (len cap : Nat) (w : World) (hT : Turns w) (h1 : 1 ≤ n) (h2 : n ≤ 40) (h3 : 100 < len) :
    Calls Tryd.prog 4 #[.int .i64 n, .slice oa len cap] w fun e w' => e = .returned (.bool true) ∧ Fr [] w w' := by
  have HT := Lib.hid hT
  clear hT
  go_enter Tryd.func4, Tryd.ntmps4
  go_wp2_with fail
  refine (New_ok n _ (by omega) (by omega)).mono ?_
  rintro e w1 ⟨b, bl, rfl, hI1, hF1, hb1, hb2⟩
  have HT1 := Lib.hid (HT.out.keep hF1 (by simp))
  clear hI1
  go_wp2_with fail
  refine (awake_ok _ HT1.out).mono ?_
  rintro e w' ⟨rfl, hF⟩
  go_wp2
  go_ret
  exact ⟨rfl, hF1.trans hF⟩

set_option maxRecDepth 100000 in
set_option maxHeartbeats 4000000 in
theorem SlotsPlays_in (n : Nat) (oa : Option Addr) (cap : Nat) (ops : List (Bool × Int × Int)) (w : World) (hT : Turns w) (h1 : 1 ≤ n) (h2 : n ≤ 40) (h3 : ops.length ≤ 100) (hO : IsOps w oa ops) :
    Calls Tryd.prog 4 #[.int .i64 n, .slice oa ops.length cap] w fun e w' => e = .returned (.bool true) ∧ Fr [] w w' := by
  have hg := hT.lt
  have HT := Lib.hid hT
  have HO := Lib.hid hO
  clear hT hO
  obtain ⟨len, hlen⟩ : ∃ len, len = ops.length := ⟨_, rfl⟩
  rw [← hlen] at h3 ⊢
  have HL := Lib.hid hlen
  clear hlen
  go_enter Tryd.func4, Tryd.ntmps4
  go_wp2_with fail
  refine (New_ok n _ (by omega) (by omega)).mono ?_
  rintro e w1 ⟨b, bl, rfl, hI1, hF1, hb1, hb2⟩
  have HI1 := Lib.hid hI1
  have hg1 : 0 < b := by omega
  have hg2 : 0 < bl := by omega
  clear hI1
  go_wp2_with fail
  refine (refNew_ok n _ (by omega) (by omega)).mono ?_
  rintro e w2 ⟨rb, rg, rfl, hR2, hF2, hb3, hb4⟩
  have HR2 := Lib.hid hR2
  have HI2 := Lib.hid (HI1.out.fr hF2 (by simp) (by simp))
  have hF02 := hF1.trans hF2
  have hd1 : ¬ rb = b := by have := HI1.out.b_lt; omega
  have hd2 : ¬ rg = b := by have := HI1.out.b_lt; omega
  have hd3 : ¬ rb = bl := by have := HI1.out.bl_lt; omega
  have hd4 : ¬ rg = bl := by have := HI1.out.bl_lt; omega
  have hs1 := hF1.size
  clear hR2 hF1 hF2
  go_wp2_with fail
  go_loopw [8] (fun i wr => ∃ k : Nat, k ≤ len ∧ i = .int .i64 k ∧ (IsSlots wr b bl (runL n ops k) ∧ IsRef wr rb rg (runL n ops k)) ∧ Fr [] w wr) (fun i _ => len - (intOf i).toNat)
  case atStart => exact ⟨0, Nat.zero_le _, rfl, ⟨HI2.out, HR2.out⟩, hF02⟩
  case round =>
    obtain ⟨k, hk, rfl, ⟨hI, hR⟩, hF⟩ := hrel
    have HIk := Lib.hid hI
    have HRk := Lib.hid hR
    have HTk := Lib.hid (HT.out.keep hF (by simp))
    clear hI hR
    by_cases hlt : k < len
    · have hlt' : k < ops.length := by rw [← HL.out]; exact hlt
      obtain ⟨ab, off, hoa, c0, c1, c2⟩ := HO.out k hlt'
      have hab := cell_lt c0
      have k0 := (hF.cell _ (cell_lt c0) (by simp)).trans c0
      have k1 := (hF.cell _ (cell_lt c1) (by simp)).trans c1
      have k2 := (hF.cell _ (cell_lt c2) (by simp)).trans c2
      have hsw := hF.size
      have HS := Lib.hid (runL_succ n ops k hlt')
      obtain ⟨o, ho⟩ : ∃ o, o = ops[k] := ⟨_, rfl⟩
      rw [← ho] at k0 k1 k2
      have HO1 := Lib.hid ho
      obtain ⟨l, hl⟩ : ∃ l, l = runL n ops k := ⟨_, rfl⟩
      have hln : l.length = n := by rw [hl]; exact runL_len _ _ _
      have HL1 := Lib.hid hl
      have HLN := Lib.hid hln
      rw [← hl] at HIk HRk
      have HSTEP := Lib.hid (show runL n ops (k + 1) = stepL l o by rw [HS.out, ← HL1.out, ← HO1.out])
      rw [hoa]
      clear hl hln ho hoa HS c0 c1 c2
      obtain ⟨oal, osl, ost⟩ := o
      simp only at k0 k1 k2
      go_upto_if 75 with fail
      go_cut [] (fun wr' => ∃ w4, w4 = wr' ∧ IsSlots w4 b bl (stepL l (oal, osl, ost)) ∧ IsRef w4 rb rg (stepL l (oal, osl, ost)) ∧ Fr [b, bl, rb, rg] wr w4)
      case first =>
        cases oal with
        | true =>
          go_wp2_with fail
          refine (Alloc_any b bl _ _ HIk.out).mono ?_
          rintro e w4 ⟨rfl, hI4, hF4⟩
          have HR4 := Lib.hid (HRk.out.fr hF4 (by simp; omega) (by simp; omega))
          go_wp2_with fail
          refine (refAlloc_any rb rg _ _ HR4.out).mono ?_
          rintro e w5 ⟨rfl, hR5, hF5⟩
          go_wp2
          go_meet
          exact ⟨_, rfl, hI4.fr hF5 (by simp; omega) (by simp; omega), hR5, (hF4.sub (by simp)).trans (hF5.sub (by simp))⟩
        | false =>
          go_wp2_with fail
          have hT4 : ∀ w4, Fr [b, bl] wr w4 → Turns w4 := fun w4 h => HTk.out.keep h (by simp; omega)
          have hlt5 := HIk.out.lt
          have H5 := Lib.hid hlt5
          have HT4 := Lib.hid hT4
          clear hlt5 hT4
          have hTurn := Turn_any b bl l osl ost wr.drew (HIk.out.fr (Fr.refl [] wr).drew (by simp) (by simp)) (HTk.out.keep (Fr.refl [] wr).drew (by simp))
          have hRef := fun w4 (hF : Fr [b, bl] wr.drew w4) => refTurn_any rb rg l osl ost w4 (HRk.out.fr ((Fr.refl [b, bl] wr).drew.trans hF) (by simp; omega) (by simp; omega)) H5.out
          have HTurn := Lib.hid hTurn
          have HRef := Lib.hid hRef
          clear hTurn hRef
          go_region_held3 (fun w' => w'.cell? ⟨ab, off + k * 3 + 1, none⟩ = some (.int .i64 osl) ∧ w'.cell? ⟨ab, off + k * 3 + 2, none⟩ = some (.int .i64 ost))
            (first | exact ⟨k1, k2⟩ | exact ⟨k1', k2'⟩ | exact ⟨k1'', k2''⟩)
            (first
              | (go_at_call 16; refine HTurn.out.mono ?_; rintro e w4 ⟨rfl, hI4, hF4⟩; have k1' := (hF4.cell ⟨ab, off + k * 3 + 1, none⟩ (by simp; omega) (by simp; omega)).trans k1; have k2' := (hF4.cell ⟨ab, off + k * 3 + 2, none⟩ (by simp; omega) (by simp; omega)).trans k2)
              | (go_at_call 17; refine (HRef.out _ hF4).mono ?_; rintro e w5 ⟨rfl, hR5, hF5⟩; have hsz4 := hF4.size; have k1'' := (hF5.cell ⟨ab, off + k * 3 + 1, none⟩ (by simp at *; omega) (by simp; omega)).trans k1'; have k2'' := (hF5.cell ⟨ab, off + k * 3 + 2, none⟩ (by simp at *; omega) (by simp; omega)).trans k2'))
          all_goals
            go_wp2_with fail
            go_meet
            exact ⟨_, rfl, hI4.fr hF5 (by simp; omega) (by simp; omega), hR5, ((Fr.refl [b, bl, rb, rg] wr).drew.trans (hF4.sub (by simp))).trans (hF5.sub (by simp))⟩
      case rest =>
        obtain ⟨w4, rfl, hI4, hR4, hF4⟩ := hcut
        obtain ⟨l2, hl2⟩ : ∃ l2, l2 = stepL l (oal, osl, ost) := ⟨_, rfl⟩
        rw [← hl2] at hI4 hR4 HSTEP
        have HI4 := Lib.hid hI4
        have HR4 := Lib.hid hR4
        have hF04 : Fr [] w w4 := hF.comp hF4 (by simp; omega)
        have hl2n : l2.length = n := by rw [hl2, stepL_len]; exact HLN.out
        have HL2 := Lib.hid hl2n
        clear hl2 hI4 hR4 hF4 hF hl2n
        go_wp2_with fail
        go_loopw [13] (fun i wr => ∃ m : Nat, m ≤ 7 ∧ i = .int .i64 ((m : Int) - 1) ∧ Fr [] w4 wr) (fun i _ => 7 - (intOf i + 1).toNat)
        case atStart => exact ⟨0, by omega, rfl, Fr.refl _ _⟩
        case round =>
          obtain ⟨m, hm, rfl, hF5⟩ := hrel
          by_cases hlt2 : m < 7
          · have HI5 := Lib.hid (HI4.out.fr hF5 (by simp) (by simp))
            have HR5 := Lib.hid (HR4.out.fr hF5 (by simp) (by simp))
            go_wp2_with fail
            refine (lawAll_any b bl l2 _ _ HI5.out).mono ?_
            rintro e w6 ⟨v, rfl, hov, hF6⟩
            have HI6 := Lib.hid (HI5.out.fr hF6 (by simp) (by simp))
            have HR6 := Lib.hid (HR5.out.fr hF6 (by simp) (by simp))
            have hbound := allOf_len l2 ((m : Int) - 1) l2.length
            rw [HL2.out] at hov hbound
            obtain ⟨xs, hxs⟩ : ∃ xs, xs = allOf l2 ((m : Int) - 1) n := ⟨_, rfl⟩
            have hcn : cnt l2 ((m : Int) - 1) = xs.length := by rw [cnt_allOf, HL2.out, ← hxs]
            rw [← hxs] at hov hbound
            have HXS := Lib.hid hxs
            have HCN := Lib.hid hcn
            obtain ⟨ov, cv, hv, _⟩ := owns_at hov
            have HOV := Lib.hid hov
            have HV := Lib.hid hv
            have hF56 := hF5.trans hF6
            rw [hv]
            clear hxs hcn hov hv hF5 hF6
            go_wp2_with fail
            refine (refAll_any rb rg l2 _ _ HR6.out).mono ?_
            rintro e w7 ⟨v2, rfl, hov2, hF7⟩
            rw [HL2.out, ← HXS.out] at hov2
            have HI7 := Lib.hid (HI6.out.fr hF7 (by simp) (by simp))
            have hv7 := owns_fr HOV.out hF7 (by simp)
            rw [HV.out] at hv7
            have HI := Lib.hid (Ints_same _ _ _ v2 xs w7 hv7 hov2 (by omega))
            have hF57 := hF56.trans hF7
            clear hov2 hv7 hF7 hF56
            go_wp2_with fail
            refine HI.out.mono ?_
            rintro e w8 ⟨rfl, hF8⟩
            have HI8 := Lib.hid (HI7.out.fr hF8 (by simp) (by simp))
            have hF58 := hF57.trans hF8
            clear hF57 hF8
            go_wp2_with fail
            refine (Count_any b bl _ _ _ HI8.out).mono ?_
            rintro e w' ⟨rfl, rfl⟩
            rw [HCN.out]
            go_wp2
            go_roundw
            case rel => exact ⟨m + 1, by omega, by go_num, hF58⟩
            case measure => simp [intOf]; omega
          · obtain rfl : m = 7 := by omega
            have HI5 := Lib.hid (HI4.out.fr hF5 (by simp) (by simp))
            have HR5 := Lib.hid (HR4.out.fr hF5 (by simp) (by simp))
            go_wp2
            go_roundw
            case rel => exact ⟨k + 1, by omega, by go_num, by rw [HSTEP.out]; exact ⟨HI5.out, HR5.out⟩, hF04.trans hF5⟩
            case measure => simp [intOf]; omega
    · obtain rfl : k = len := by omega
      go_wp2_with fail
      refine (Len_any b bl _ _ HIk.out).mono ?_
      rintro e w' ⟨rfl, rfl⟩
      rw [runL_len]
      go_wp2_with fail
      refine (awake_ok _ HTk.out).mono ?_
      rintro e w5 ⟨rfl, hF5⟩
      go_wp2
      go_ret
      exact ⟨rfl, hF.trans hF5⟩
end Go.Proofs.YtoppbacokbbjdaaDoor
