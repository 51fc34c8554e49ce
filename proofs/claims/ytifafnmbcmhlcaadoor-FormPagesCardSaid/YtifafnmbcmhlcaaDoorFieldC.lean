/- Contracts of package field: Put. -/
import Derived.Test.YtifafnmbcmhlcaaDoorFieldB
namespace Go.Proofs.YtifafnmbcmhlcaaDoor
open Go.RowKit

theorem wcA_setE (l : List Nat) (a : Nat) (e e' : Int) (h : l.length ≤ 64) : (wcA l a e).setIfInBounds 65 (.int .i64 e') = wcA l a e' := by
  have hp := pad_len 64 l h
  unfold wcA
  rw [List.setIfInBounds_toArray, List.set_append_right _ _ (by simp [u8s, hp])]
  simp [u8s, hp]
theorem wcA_setA (l : List Nat) (a a' : Nat) (e : Int) (h : l.length ≤ 64) : (wcA l a e).setIfInBounds 64 (.int .i64 (a' : Nat)) = wcA l a' e := by
  have hp := pad_len 64 l h
  unfold wcA
  rw [List.setIfInBounds_toArray, List.set_append_right _ _ (by simp [u8s, hp])]
  simp [u8s, hp]

set_option maxHeartbeats 400000 in
theorem Put_arg (b : Nat) (l : List Nat) (n size : Int) (w : World) (h : IsWriter w b l 0) (hs : size < 1 ∨ 7 < size) :
    Calls Tryd.prog 12 #[.pointer (some ⟨b, 0, none⟩), .int .i64 n, .int .i64 size] w fun e' w' => e' = .returned (.pointer (some ⟨b, 0, none⟩)) ∧ IsWriter w' b l 1 ∧ Fr [b] w w' := by
  have hl := h.len
  have c0 := h.blk.cell (wcA_at l l.length 0 (by omega))
  have c1 := h.blk.cell (wcA_e l l.length 0 (by omega))
  have f := h.blk.frozen
  have hb := h.blk.lt
  have HB := Lib.hid h.blk
  have he : wrongE size (60 - l.length) = 1 := by simp [wrongE, hs]
  have HE := Lib.hid he
  have HS := Lib.hid (wcA_setE l l.length 0 1 (by omega))
  clear he hs h
  obtain ⟨m, hm⟩ : ∃ m, m = l.length := ⟨_, rfl⟩
  rw [← hm] at c0 hl HE
  have HM := Lib.hid hm
  clear hm
  go_enter Tryd.func12, Tryd.ntmps12
  go_wp2_with fail
  have hw : IntKind.i64.wrap (60 - (m : Int)) = 60 - m := by rw [IntKind.wrap_i64]; omega
  go_region_with (go_at_call 29; refine (wrong_any _ _ _).mono ?_; rintro e w1 ⟨rfl, rfl⟩; rw [HE.out])
  all_goals
    clear hw
    go_wp2_with fail
    go_ret
    refine ⟨rfl, ⟨by rw [← HM.out]; exact hl, ?_⟩, ((((Fr.refl [b] w).setCell ⟨b, 65, none⟩ (.inl (by simp)) _).alloc _).alloc _).drew⟩
    have := (((HB.out.set 65 (.int .i64 1)).alloc (.cells #[.pointer (some ⟨b, 0, none⟩)] 23)).alloc (.cells #[.int .i64 n] 3)).drew
    rw [HS.out] at this
    exact this

/-- a number that does not fit -/
theorem fits_not (n s : Nat) (h : ¬ n / 2 ^ (8 * s) = 0) : ((n : Int) / 2 ^ (8 * s) != 0) = true := by
  rw [bne_iff_ne]
  intro e
  apply h
  have : (((n / 2 ^ (8 * s) : Nat) : Int)) = 0 := by simpa using e
  omega
theorem fits_so (n s : Nat) (h : n / 2 ^ (8 * s) = 0) : ((n : Int) / 2 ^ (8 * s) != 0) = false := by
  have : ((n : Int) / 2 ^ (8 * s)) = ((n / 2 ^ (8 * s) : Nat) : Int) := by simp
  rw [this, h]
  rfl
set_option maxHeartbeats 800000 in
theorem Put_over (b : Nat) (l : List Nat) (n : Int) (s : Nat) (w : World) (h : IsWriter w b l 0) (hs1 : 1 ≤ s) (hs2 : s ≤ 7) (hn : n < 0 ∨ 0 ≤ n ∧ ¬ n.toNat / 2 ^ (8 * s) = 0) :
    Calls Tryd.prog 12 #[.pointer (some ⟨b, 0, none⟩), .int .i64 n, .int .i64 s] w fun e' w' => e' = .returned (.pointer (some ⟨b, 0, none⟩)) ∧ IsWriter w' b l 11 ∧ Fr [b] w w' := by
  have hl := h.len
  have c0 := h.blk.cell (wcA_at l l.length 0 (by omega))
  have c1 := h.blk.cell (wcA_e l l.length 0 (by omega))
  have f := h.blk.frozen
  have hb := h.blk.lt
  have HB := Lib.hid h.blk
  have he : ∃ x : Int, wrongE s (60 - l.length) = x ∧ ¬ x = 1 := ⟨_, rfl, by unfold wrongE; rw [if_neg (by omega)]; split <;> omega⟩
  obtain ⟨x, he, hx⟩ := he
  have HE := Lib.hid he
  have HS := Lib.hid (wcA_setE l l.length 0 11 (by omega))
  have HS1 := Lib.hid (wcA_setE l l.length 0 x (by omega))
  have HS2 := Lib.hid (wcA_setE l l.length x 11 (by omega))
  have b0 : (x != 1) = true := bne_iff_ne.2 hx
  clear he h hx
  obtain ⟨m, hm⟩ : ∃ m, m = l.length := ⟨_, rfl⟩
  rw [← hm] at c0 hl HE
  have HM := Lib.hid hm
  clear hm
  by_cases hn0 : n < 0
  · clear hn
    go_enter Tryd.func12, Tryd.ntmps12
    go_wp2_with fail
    have hw : IntKind.i64.wrap (60 - (m : Int)) = 60 - m := by rw [IntKind.wrap_i64]; omega
    go_region_with (go_at_call 29; refine (wrong_any _ _ _).mono ?_; rintro e w1 ⟨rfl, rfl⟩; rw [HE.out])
    all_goals
      clear hw
      go_wp2_with fail
      go_ret
      refine ⟨rfl, ⟨by rw [← HM.out]; exact hl, ?_⟩, (((((Fr.refl [b] w).setCell ⟨b, 65, none⟩ (.inl (by simp)) _).setCell ⟨b, 65, none⟩ (.inl (by simp)) _).alloc _).alloc _).drew⟩
      have := ((((HB.out.set 65 (.int .i64 x)).set 65 (.int .i64 11)).alloc (.cells #[.pointer (some ⟨b, 0, none⟩)] 23)).alloc (.cells #[.int .i64 n] 3)).drew
      rw [HS1.out, HS2.out] at this
      exact this
  · obtain ⟨k, rfl⟩ := Int.eq_ofNat_of_zero_le (show 0 ≤ n by omega)
    have hk : ¬ k / 2 ^ (8 * s) = 0 := by rcases hn with h | h; exact absurd h hn0; exact h.2
    have b1 := fits_not k s hk
    clear hn hn0 hk
    go_enter Tryd.func12, Tryd.ntmps12
    go_wp2_with fail
    have hw : IntKind.i64.wrap (60 - (m : Int)) = 60 - m := by rw [IntKind.wrap_i64]; omega
    go_region_with (go_at_call 29; refine (wrong_any _ _ _).mono ?_; rintro e w1 ⟨rfl, rfl⟩; rw [HE.out])
    all_goals
      clear hw
      go_wp2_with fail
      go_ret
      refine ⟨rfl, ⟨by rw [← HM.out]; exact hl, ?_⟩, (((((Fr.refl [b] w).setCell ⟨b, 65, none⟩ (.inl (by simp)) _).setCell ⟨b, 65, none⟩ (.inl (by simp)) _).alloc _).alloc _).drew⟩
      have := ((((HB.out.set 65 (.int .i64 x)).set 65 (.int .i64 11)).alloc (.cells #[.pointer (some ⟨b, 0, none⟩)] 23)).alloc (.cells #[.int .i64 k] 3)).drew
      rw [HS1.out, HS2.out] at this
      exact this

set_option maxHeartbeats 800000 in
theorem Put_full (b : Nat) (l : List Nat) (k : Nat) (s : Nat) (w : World) (h : IsWriter w b l 0) (hs1 : 1 ≤ s) (hs2 : s ≤ 7) (hn : k / 2 ^ (8 * s) = 0) (hfull : 60 < l.length + s) :
    Calls Tryd.prog 12 #[.pointer (some ⟨b, 0, none⟩), .int .i64 k, .int .i64 s] w fun e' w' => e' = .returned (.pointer (some ⟨b, 0, none⟩)) ∧ IsWriter w' b l 17 ∧ Fr [b] w w' := by
  have hl := h.len
  have c0 := h.blk.cell (wcA_at l l.length 0 (by omega))
  have c1 := h.blk.cell (wcA_e l l.length 0 (by omega))
  have f := h.blk.frozen
  have hb := h.blk.lt
  have HB := Lib.hid h.blk
  have he : wrongE s (60 - l.length) = 17 := by unfold wrongE; rw [if_neg (by omega), if_pos (by omega)]
  have HE := Lib.hid he
  have HS := Lib.hid (wcA_setE l l.length 0 17 (by omega))
  have b1 := fits_so k s hn
  clear he h hn hfull
  obtain ⟨m, hm⟩ : ∃ m, m = l.length := ⟨_, rfl⟩
  rw [← hm] at c0 hl HE
  have HM := Lib.hid hm
  clear hm
  go_enter Tryd.func12, Tryd.ntmps12
  go_wp2_with fail
  have hw : IntKind.i64.wrap (60 - (m : Int)) = 60 - m := by rw [IntKind.wrap_i64]; omega
  go_region_with (go_at_call 29; refine (wrong_any _ _ _).mono ?_; rintro e w1 ⟨rfl, rfl⟩; rw [HE.out])
  all_goals
    clear hw
    go_wp2_with fail
    go_ret
    refine ⟨rfl, ⟨by rw [← HM.out]; exact hl, ?_⟩, ((((Fr.refl [b] w).setCell ⟨b, 65, none⟩ (.inl (by simp)) _).alloc _).alloc _).drew⟩
    have := (((HB.out.set 65 (.int .i64 17)).alloc (.cells #[.pointer (some ⟨b, 0, none⟩)] 23)).alloc (.cells #[.int .i64 k] 3)).drew
    rw [HS.out] at this
    exact this

end Go.Proofs.YtifafnmbcmhlcaaDoor
