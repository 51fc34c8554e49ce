/- Contracts of the reference of package slots, and of the laws' helpers. -/
import Derived.Test.YtoppbacokbbjdaaDoorSlotsE
namespace Go.Proofs.YtoppbacokbbjdaaDoor
open Go.RowKit Go.Shelf

/-- the reference's slots at block b, its states in block g -/
structure IsRef (w : World) (b g : Nat) (l : List Nat) : Prop where
  ne : ¬ g = b
  len : l.length ≤ 1024
  rep : ∃ cap arr, Blk w b 53 #[.slice (some ⟨g, 0, none⟩) l.length cap] ∧ Blk w g 3 arr ∧ l.length ≤ arr.size ∧ (∀ i (h : i < l.length), arr[i]? = some (.int .i64 (l[i] : Nat))) ∧ l.length ≤ cap ∧ cap ≤ maxLen
theorem IsRef.fr {S : List Nat} {w w' : World} {b g : Nat} {l : List Nat} (h : IsRef w b g l) (hf : Fr S w w') (h1 : ¬ b ∈ S) (h2 : ¬ g ∈ S) : IsRef w' b g l := by
  obtain ⟨h1', h2', cap, arr, hb, hl, r⟩ := h
  exact ⟨h1', h2', cap, arr, hb.fr hf h1, hl.fr hf h2, r⟩
theorem IsRef.b_lt {w : World} {b g : Nat} {l : List Nat} (h : IsRef w b g l) : b < w.heap.size := by
  obtain ⟨_, _, cap, arr, hb, hl, r⟩ := h; exact hb.lt
theorem IsRef.g_lt {w : World} {b g : Nat} {l : List Nat} (h : IsRef w b g l) : g < w.heap.size := by
  obtain ⟨_, _, cap, arr, hb, hl, r⟩ := h; exact hl.lt

theorem refNew_ok (n : Nat) (w : World) (h1 : 1 ≤ n) (h2 : n ≤ 1024) :
    Calls Tryd.prog 13 #[.int .i64 n] w fun e w' => ∃ b g, e = .returned (.pointer (some ⟨b, 0, none⟩)) ∧
      IsRef w' b g (List.replicate n 0) ∧ Fr [] w w' ∧ w.heap.size ≤ b ∧ w.heap.size ≤ g := by
  obtain ⟨i0, hi, hz0, hz1, hz2⟩ := info_parts infoInt
  go_enter Tryd.func13, Tryd.ntmps13
  go_wp2_with fail
  go_loopw [4] (fun i wr => ∃ k : Nat, ∃ v, k ≤ n ∧ i = .int .i64 k ∧ Blk wr w.heap.size 53 #[v] ∧ wr.ownsRow (w.heap.size + 1) 3 1 v k (List.replicate k (.int .i64 0)) ∧ Fr [] w wr)
    (fun i _ => n - (intOf i).toNat)
  case atStart => exact ⟨0, _, Nat.zero_le _, rfl, Blk.new _ _ _, World.ownsRow_nil _ _ _ _, (Fr.refl _ _).alloc _⟩
  case round =>
    obtain ⟨k, v, hk, rfl, hb, hown, hF⟩ := hrel
    have hc := hb.cell (i := 0) rfl
    have hf := hb.frozen 0
    have hsz := hb.lt
    by_cases hlt : k < n
    · have HO := Lib.hid hown
      clear hown
      go_wp2_with (at_builtin; refine wpList_append_own _ rfl _ _ 36 rfl (w.heap.size + 1) 3 i0 (.int .i64 0) 1 8 Tryd.underlying36 hi hz0 hz1 hz2 rfl (by decide) _ _ _ rfl (HO.out.alloc _) ⟨wr.heap.size, 0, none⟩ 1 1 [.int .i64 0] rfl rfl ?c1 ?c2 ?c3 ?c4 ?c5 ?_)
      case c1 => exact new_cells _ _ _ _ rfl
      case c2 => simp [Value.oneCell']
      case c3 => unfold maxLen; omega
      case c4 => omega
      case c5 => simp; omega
      intro v' w1 hown' hgrow _
      obtain ⟨g', cap', hv⟩ : ∃ g' cap', v' = .slice (some ⟨g', 0, none⟩) (k + 1) cap' := by
        obtain ⟨_, ⟨h1, h2, _⟩ | ⟨g', cap', _, h1, _⟩⟩ := owns_cases hown'
        · omega
        · exact ⟨g', cap', h1⟩
      rw [hv] at hown' ⊢
      clear hv
      have hF1 : Fr (v.ownBlock.toList) wr w1 := ((Fr.refl (v.ownBlock.toList) wr).alloc _).grown hgrow (fun g hg => .inl (by simp [hg]))
      have hbn : ¬ w.heap.size ∈ v.ownBlock.toList := by
        intro hm
        have := owns_ge HO.out w.heap.size (by simpa using hm)
        omega
      have hb1 := hb.fr hF1 hbn
      have hc1 := hb1.cell (i := 0) rfl
      have hf1 := hb1.frozen 0
      have hF2 : Fr [] w w1 := hF.comp hF1 (fun i hi => .inr (by have := owns_ge HO.out i (by simpa using hi); omega))
      go_wp2
      go_roundw
      case rel => exact ⟨k + 1, _, by omega, by go_num, hb1.set 0 _, by rw [List.replicate_succ']; exact owns_fr hown' ((Fr.refl [w.heap.size] w1).setCell _ (by simp) _) (fun g hg => by have := owns_ge hown' g hg; simp; omega), hF2.setCell _ (by simp) _⟩
      case measure => simp [intOf]; omega
    · obtain rfl : k = n := by omega
      obtain ⟨hlen, ⟨rfl, hn0, _⟩ | ⟨g, cap, cur, rfl, hg, hbg, hcap1, hcap2, hcs, ht⟩⟩ := owns_cases hown
      · omega
      · have HT := Lib.hid ht
        clear ht hown
        go_wp2
        go_ret
        refine ⟨w.heap.size, g, rfl, ⟨by omega, by simpa using h2, cap, cur, by simpa using hb, hbg, by simp; omega, ?_, by simpa using hcap1, hcap2⟩, hF, Nat.le_refl _, by omega⟩
        intro i hi
        simp at hi
        exact take_get HT.out (by simp [hi])

theorem allOf_prefix (l : List Nat) (n : Int) (k : Nat) : ∀ d, allOf l n k <+: allOf l n (k + d) := by
  intro d
  induction d with
  | zero => exact List.prefix_refl _
  | succ d ih => exact ih.trans ⟨_, rfl⟩
theorem frees_first (l : List Nat) (k : Nat) (h0 : allOf l 0 k = []) (hk : k < l.length) (hz : l[k] = 0) : ¬ frees l = [] ∧ allocN l = k := by
  have h1 : allOf l 0 (k + 1) = [k] := by simp [allOf, h0, hk, hz]
  obtain ⟨r, hr⟩ := allOf_prefix l 0 (k + 1) (l.length - (k + 1))
  rw [h1, show k + 1 + (l.length - (k + 1)) = l.length by omega] at hr
  unfold allocN
  rw [show frees l = [k] ++ r from hr.symm]
  simp

theorem refAlloc_any (b g : Nat) (l : List Nat) (w : World) (h : IsRef w b g l) :
    Calls Tryd.prog 15 #[.pointer (some ⟨b, 0, none⟩)] w fun e w' => e = .returned (.tuple #[.int .i64 (allocN l), .int .i64 (allocE l)]) ∧
      IsRef w' b g (allocL l) ∧ Fr [b, g] w w' := by
  have HI := Lib.hid h
  obtain ⟨hne, hl, cap, arr, hb, hg, has, ha, hcap, hcap2⟩ := h
  have c0 := hb.cell (i := 0) rfl
  have hn0 : l.length = l.length := rfl
  obtain ⟨n, hn⟩ : ∃ n, n = l.length := ⟨_, rfl⟩
  rw [← hn] at c0 hl
  have HN := Lib.hid hn
  clear hn0 hn hcap hcap2
  go_enter Tryd.func15, Tryd.ntmps15
  go_wp2_with fail
  go_loop [4] (fun i => ∃ k : Nat, k ≤ n ∧ i = .int .i64 k ∧ allOf l 0 k = []) (fun i => n - (intOf i).toNat)
  case atStart => exact ⟨0, Nat.zero_le _, rfl, rfl⟩
  case round =>
    obtain ⟨k, hk, rfl, hnone⟩ := hrel
    have H0 := Lib.hid hnone
    clear hnone
    by_cases hlt : k < n
    · have hlt' : k < l.length := by rw [← HN.out]; exact hlt
      have ck := hg.cell (ha k hlt')
      have fk := hg.frozen k
      obtain ⟨x, hx⟩ : ∃ x, x = l[k] := ⟨_, rfl⟩
      rw [← hx] at ck
      by_cases hz : x = 0
      · subst hz
        have HF := Lib.hid (frees_first l k H0.out hlt' hx.symm)
        clear hx ha
        rw [show ((0 : Nat) : Int) = 0 from rfl] at ck
        go_wp2
        go_ret2
        have hN := HF.out.2
        have hE : allocE l = 0 := by simp [allocE, HF.out.1]
        have hL : allocL l = l.set k 1 := by simp [allocL, HF.out.1, hN]
        rw [hN, hE, hL]
        refine ⟨rfl, ?_, (Fr.refl _ _).setCell _ (by simp) _⟩
        obtain ⟨hne, hl, cap, arr, hb, hg, has, ha, hcap, hcap2⟩ := HI.out
        refine ⟨hne, by simpa using hl, cap, _, by simpa using hb.set_ne ⟨g, k, none⟩ _ hne, hg.set k _, by simpa using has, ?_, by simpa using hcap, hcap2⟩
        intro i hi
        simp only [Array.getElem?_setIfInBounds, List.getElem_set]
        by_cases h1 : k = i
        · subst h1; simp; omega
        · simp only [h1, if_false]
          exact ha i (by simpa using hi)
      · have hall : allOf l 0 (k + 1) = [] := by
          simp only [allOf, H0.out, List.nil_append]
          rw [if_neg]
          simp [hlt']
          omega
        have HA := Lib.hid hall
        clear hall hx ha
        go_wp2
        go_round
        case rel => exact ⟨k + 1, by omega, by go_num, HA.out⟩
        case measure => simp [intOf]; omega
    · have hkn : k = l.length := by rw [← HN.out]; omega
      have hfr : frees l = [] := by unfold frees; rw [← hkn]; exact H0.out
      have HFR := Lib.hid hfr
      clear hfr hkn ha
      go_wp2
      go_ret2
      have hN : allocN l = 0 := by simp [allocN, HFR.out]
      have hE : allocE l = 17 := by simp [allocE, HFR.out]
      have hL : allocL l = l := by simp [allocL, HFR.out]
      rw [hN, hE, hL]
      exact ⟨rfl, HI.out, Fr.refl _ _⟩

theorem refTurn_any (b g : Nat) (l : List Nat) (slot to : Int) (w : World) (h : IsRef w b g l) (hlt : ∀ x, x ∈ l → x < 5) :
    Calls Tryd.prog 17 #[.pointer (some ⟨b, 0, none⟩), .int .i64 slot, .int .i64 to] w fun e w' => e = .returned (.int .i64 (turnE l slot to)) ∧
      IsRef w' b g (turnL l slot to) ∧ Fr [b, g] w w' := by
  have HI := Lib.hid h
  obtain ⟨hne, hl, cap, arr, hb, hg, has, ha, hcap, hcap2⟩ := h
  have c0 := hb.cell (i := 0) rfl
  clear hcap hcap2 hlt
  obtain ⟨n, hn⟩ : ∃ n, n = l.length := ⟨_, rfl⟩
  rw [← hn] at c0 hl
  by_cases h0 : slot < 0 ∨ (l.length : Int) ≤ slot
  · have e1 : turnE l slot to = 10 := by simp [turnE, h0]
    have e2 : turnL l slot to = l := by simp [turnL, e1]
    rw [e1, e2]
    rw [← hn] at h0
    clear e1 e2 hn ha
    by_cases h1 : slot < 0
    · clear h0
      go_enter Tryd.func17, Tryd.ntmps17
      go_wp2
      go_ret
      exact ⟨rfl, HI.out, Fr.refl _ _⟩
    · have h2 : (n : Int) ≤ slot := by omega
      clear h0
      go_enter Tryd.func17, Tryd.ntmps17
      go_wp2
      go_ret
      exact ⟨rfl, HI.out, Fr.refl _ _⟩
  · have h1 : 0 ≤ slot := by omega
    obtain ⟨s, rfl⟩ := Int.eq_ofNat_of_zero_le h1
    have hs : s < l.length := by omega
    have hs' : s < n := by omega
    have hgd : l.getD s 0 = l[s] := by simp [hs]
    have ck := hg.cell (ha s hs)
    have fk := hg.frozen s
    obtain ⟨x, hx⟩ : ∃ x, x = l[s] := ⟨_, rfl⟩
    rw [← hx] at ck
    have hfin1 : stB to = false → turnE l s to = 1 := fun h => by simp [turnE, hs, h]
    have hfin2 : stB to = true → mayB x to = false → turnE l s to = 16 := fun h h' => by rw [hx] at h'; simp [turnE, hs, h, h']
    have hfin3 : stB to = true → mayB x to = true → turnE l s to = 0 ∧ turnL l s to = l.set s to.toNat := fun h h' => by
      rw [hx] at h'
      have : turnE l s to = 0 := by simp [turnE, hs, h, h']
      exact ⟨this, by simp [turnL, this]⟩
    have hfin4 : ¬ turnE l s to = 0 → turnL l s to = l := fun h => by simp [turnL, h]
    have F1 := Lib.hid hfin1
    have F2 := Lib.hid hfin2
    have F3 := Lib.hid hfin3
    have F4 := Lib.hid hfin4
    clear hfin1 hfin2 hfin3 hfin4 hgd ha hx h0 h1 hs hn has
    by_cases h2 : stB to = true
    · have h2' := h2
      simp only [stB, Bool.and_eq_true, decide_eq_true_eq] at h2'
      obtain ⟨t1, t2⟩ := h2'
      by_cases h3 : mayB x to = true
      · have e1 := (F3.out h2 h3).1
        have e2 := (F3.out h2 h3).2
        obtain ⟨t, rfl⟩ := Int.eq_ofNat_of_zero_le t1
        rw [e1, e2, Int.toNat_natCast]
        have H3 := Lib.hid h3
        clear h2 h3 e1 e2
        go_enter Tryd.func17, Tryd.ntmps17
        go_wp2_with fail
        refine (refMay_any _ _ _).mono ?_
        rintro e w' ⟨rfl, rfl⟩
        rw [H3.out]
        go_wp2
        go_ret
        refine ⟨rfl, ?_, (Fr.refl _ _).setCell _ (by simp) _⟩
        obtain ⟨hne, hl, cap, arr, hb, hg, has, ha, hcap, hcap2⟩ := HI.out
        refine ⟨hne, by simpa using hl, cap, _, by simpa using hb.set_ne ⟨g, s, none⟩ _ hne, hg.set s _, by simpa using has, ?_, by simpa using hcap, hcap2⟩
        intro i hi
        simp only [Array.getElem?_setIfInBounds, List.getElem_set]
        by_cases h1 : s = i
        · subst h1; simp at hi; simp; omega
        · simp only [h1, if_false]
          exact ha i (by simpa using hi)
      · have h3' : mayB x to = false := by simpa using h3
        have e1 := F2.out h2 h3'
        rw [e1, F4.out (by rw [e1]; omega)]
        have H3 := Lib.hid h3'
        clear h2 h3 e1 h3'
        go_enter Tryd.func17, Tryd.ntmps17
        go_wp2_with fail
        refine (refMay_any _ _ _).mono ?_
        rintro e w' ⟨rfl, rfl⟩
        rw [H3.out]
        go_wp2
        go_ret
        exact ⟨rfl, HI.out, Fr.refl _ _⟩
    · have h2' : stB to = false := by simpa using h2
      have e1 := F1.out h2'
      rw [e1, F4.out (by rw [e1]; omega)]
      simp only [stB, Bool.and_eq_false_iff, decide_eq_false_iff_not] at h2'
      clear e1 h2
      by_cases h3 : to < 0
      · clear h2'
        go_enter Tryd.func17, Tryd.ntmps17
        go_wp2
        go_ret
        exact ⟨rfl, HI.out, Fr.refl _ _⟩
      · have h4 : 4 < to := by omega
        clear h2'
        go_enter Tryd.func17, Tryd.ntmps17
        go_wp2
        go_ret
        exact ⟨rfl, HI.out, Fr.refl _ _⟩
end Go.Proofs.YtoppbacokbbjdaaDoor
