/- Contracts of package field: each, wrong. -/
import Derived.Test.YtgmjhpappamenaaDoorCrcA
import Derived.Test.YtgmjhpappamenaaDoorBlocks
namespace Go.Proofs.YtgmjhpappamenaaDoor
open Go.RowKit

theorem each_any (f : Nat) (c0 c1 : Value) (size : Nat) (I : Nat → World → Prop) (w : World) (hen : ∀ args w, (callFunc f args).run Tryd.prog w = .ok (.enter f args) w) (hs : size ≤ 100) (h0 : I 0 w)
    (hstep : ∀ (i : Nat) (w : World), i < size → I i w → Calls Tryd.prog f #[.int .i64 i, .int .i64 (8 * i : Nat), c0, c1] w fun e w' => e = .returned (.tuple #[]) ∧ I (i + 1) w') :
    Calls Tryd.prog 122 #[.int .i64 size, .func (.func f) #[] #[c0, c1]] w fun e w' => e = .returned (.tuple #[]) ∧ I size w' := by
  have HS := Lib.hid hstep
  clear hstep
  go_enter Tryd.func122, Tryd.ntmps122
  go_wp2_with fail
  apply wp_scope_straight
  go_wp2_with fail
  refine wp_label ?_
  go_wp2_with fail
  go_loopw [4] (fun i wr => ∃ k : Nat, k ≤ size ∧ i = .int .i64 k ∧ I k wr) (fun i _ => size - (intOf i).toNat)
  case atStart => exact ⟨0, Nat.zero_le _, rfl, h0⟩
  case round =>
    obtain ⟨k, hk, rfl, hI⟩ := hrel
    have HI := Lib.hid hI
    clear hI
    by_cases hlt : k < size
    · have b0 : ((k : Int) == (size : Int)) = false := beq_eq_false_iff_ne.2 (by omega)
      have hc := HS.out k wr hlt HI.out
      rw [show ((8 * k : Nat) : Int) = 8 * (k : Int) from by omega] at hc
      have HC := Lib.hid hc
      clear hc
      go_wp2_with fail
      refine HC.out.mono ?_
      rintro e w' ⟨rfl, hI'⟩
      go_wp2
      go_roundw
      case rel => exact ⟨k + 1, by omega, by go_num, hI'⟩
      case measure => simp [intOf]; omega
    · obtain rfl : k = size := by omega
      have b0 : ((k : Int) == (k : Int)) = true := by simp
      go_wp2_with fail
      simp only [Exit.noGoto_normal]
      go_end0
      exact ⟨rfl, HI.out⟩

/-- what is wrong with a size, so many bytes being left -/
def wrongE (size left : Int) : Int := if size < 1 ∨ 7 < size then 1 else if left < size then 17 else 0
theorem wrong_any (size left : Int) (w : World) :
    Calls Tryd.prog 121 #[.int .i64 size, .int .i64 left] w fun e w' => e = .returned (.int .i64 (wrongE size left)) ∧ w = w' := by
  by_cases h1 : size < 1
  · rw [show wrongE size left = 1 by simp [wrongE, h1]]
    go_enter Tryd.func121, Tryd.ntmps121
    go_wp2
    go_ret
    exact ⟨rfl, rfl⟩
  · by_cases h2 : 7 < size
    · rw [show wrongE size left = 1 by simp [wrongE, h2]]
      go_enter Tryd.func121, Tryd.ntmps121
      go_wp2
      go_ret
      exact ⟨rfl, rfl⟩
    · by_cases h3 : left < size
      · rw [show wrongE size left = 17 by simp [wrongE, h1, h2, h3]]
        go_enter Tryd.func121, Tryd.ntmps121
        go_wp2
        go_ret
        exact ⟨rfl, rfl⟩
      · rw [show wrongE size left = 0 by simp [wrongE, h1, h2, h3]]
        go_enter Tryd.func121, Tryd.ntmps121
        go_wp2
        go_ret
        exact ⟨rfl, rfl⟩

/-- a writer's cells: its bytes, where it is, its first error -/
def wcA (l : List Nat) (at_ : Nat) (e : Int) : Array Value := (u8s (pad 64 l) ++ [Value.int .i64 (at_ : Nat), Value.int .i64 e]).toArray
theorem wcA_at (l : List Nat) (a : Nat) (e : Int) (h : l.length ≤ 64) : (wcA l a e)[64]? = some (.int .i64 a) := by
  have := pad_len 64 l h
  simp [wcA, u8s, List.getElem?_append, this]
theorem wcA_e (l : List Nat) (a : Nat) (e : Int) (h : l.length ≤ 64) : (wcA l a e)[65]? = some (.int .i64 e) := by
  have := pad_len 64 l h
  simp [wcA, u8s, List.getElem?_append, this]
theorem wcA_b (l : List Nat) (a : Nat) (e : Int) (h : l.length ≤ 64) (i : Nat) (hi : i < 64) : (wcA l a e)[i]? = some (.int .u8 ((pad 64 l).getD i 0 : Nat)) := by
  have := pad_len 64 l h
  simp [wcA, u8s, List.getElem?_append, this, hi]
theorem wcA_set (l : List Nat) (a : Nat) (e : Int) (x : Nat) (h : l.length < 64) : (wcA l a e).setIfInBounds l.length (.int .u8 (x : Nat)) = wcA (l ++ [x]) a e := by
  have hp : (pad 64 l).set l.length x = pad 64 (l ++ [x]) := by
    unfold pad
    rw [show 64 - l.length = (64 - (l ++ [x]).length) + 1 by simp; omega, List.replicate_succ, List.set_append_right _ _ (Nat.le_refl _)]
    simp
  have hl := pad_len 64 l (by omega)
  unfold wcA
  rw [← hp, List.setIfInBounds_toArray, List.set_append_left _ _ (by simp [u8s, hl, h])]
  simp [u8s, List.map_set]
end Go.Proofs.YtgmjhpappamenaaDoor

/- Contracts of package field: the writer. -/
namespace Go.Proofs.YtgmjhpappamenaaDoor
open Go.RowKit

/-- byte number i of a number -/
def byteOf (n i : Nat) : Nat := n / 2 ^ (8 * i) % 256
theorem byteOf_int (n i : Nat) : (n : Int) / 2 ^ (8 * i) % 256 = ((byteOf n i : Nat) : Int) := by
  simp [byteOf]
theorem byteOf_lt (n i : Nat) : byteOf n i < 256 := Nat.mod_lt _ (by omega)

theorem Put1_any (b cn cw : Nat) (l : List Nat) (a i n : Nat) (e : Int) (w : World) (hb : Blk w b 201 (wcA l a e)) (hn : Blk w cn 3 #[.int .i64 n]) (hw : Blk w cw 167 #[.pointer (some ⟨b, 0, none⟩)])
    (hl : l.length = a + i) (h60 : l.length < 60) (hi : i < 7) (hnb : n < 72057594037927936) (hd : ¬ b = cn) (hd2 : ¬ b = cw) :
    Calls Tryd.prog 128 #[.int .i64 i, .int .i64 (8 * i : Nat), .pointer (some ⟨cn, 0, none⟩), .pointer (some ⟨cw, 0, none⟩)] w fun e' w' => e' = .returned (.tuple #[]) ∧
      Blk w' b 201 (wcA (l ++ [byteOf n i]) a e) ∧ Fr [b] w w' := by
  have c0 := hb.cell (wcA_at l a e (by omega))
  have c1 : w.cell? ⟨cn, 0, none⟩ = some (.int .i64 n) := hn.cell (i := 0) rfl
  have c2 : w.cell? ⟨cw, 0, none⟩ = some (.pointer (some ⟨b, 0, none⟩)) := hw.cell (i := 0) rfl
  have c3 := hb.cell (wcA_b l a e (by omega) (a + i) (by omega))
  have f := hb.frozen
  have hcs := wcA_set l a e (byteOf n i) (by omega)
  rw [hl] at hcs
  have HC := Lib.hid (hcs ▸ hb.set (a + i) (.int .u8 (byteOf n i : Nat)))
  have ha : a < 60 := by omega
  have hai : a + i < 60 := by omega
  clear hcs hl h60
  go_enter Tryd.func128, Tryd.ntmps128
  go_wp2
  go_region
  rw [byteOf_int]
  go_end0
  exact ⟨rfl, HC.out, ((Fr.refl _ _).setCell _ (by simp) _).drew⟩

/-- a number's bytes -/
def bytesOf (n size : Nat) : List Nat := (List.range size).map (byteOf n)
theorem bytesOf_succ (n k : Nat) : bytesOf n (k + 1) = bytesOf n k ++ [byteOf n k] := by simp [bytesOf, List.range_succ]
theorem bytesOf_len (n k : Nat) : (bytesOf n k).length = k := by simp [bytesOf]
/-- a writer at block b: its bytes, its first error -/
structure IsWriter (w : World) (b : Nat) (l : List Nat) (e : Int) : Prop where
  len : l.length ≤ 60
  blk : Blk w b 201 (wcA l l.length e)
theorem IsWriter.fr {S : List Nat} {w w' : World} {b : Nat} {l : List Nat} {e : Int} (h : IsWriter w b l e) (hf : Fr S w w') (hb : ¬ b ∈ S) : IsWriter w' b l e := ⟨h.len, h.blk.fr hf hb⟩
/-- what the first error is behind a Put -/
def putE (len : Nat) (n size : Int) : Int :=
  if wrongE size (60 - len) = 1 then 1 else if n < 0 ∨ ¬ n / 2 ^ (8 * size.toNat) = 0 then 11 else wrongE size (60 - len)
def putL (l : List Nat) (n size : Int) : List Nat := if putE l.length n size = 0 then l ++ bytesOf n.toNat size.toNat else l

theorem Put_nil (n size : Int) (w : World) :
    Calls Tryd.prog 107 #[.pointer none, .int .i64 n, .int .i64 size] w fun e w' => e = .returned (.pointer none) ∧ Fr [] w w' := by
  go_enter Tryd.func107, Tryd.ntmps107
  go_wp2
  go_ret
  exact ⟨rfl, ((Fr.refl _ _).alloc _).alloc _⟩
theorem Put_err (b : Nat) (l : List Nat) (e : Int) (n size : Int) (w : World) (h : IsWriter w b l e) (he : ¬ e = 0) :
    Calls Tryd.prog 107 #[.pointer (some ⟨b, 0, none⟩), .int .i64 n, .int .i64 size] w fun e' w' => e' = .returned (.pointer (some ⟨b, 0, none⟩)) ∧ Fr [] w w' := by
  have c1 := h.blk.cell (wcA_e l l.length e (by have := h.len; omega))
  have b0 : (e != 0) = true := bne_iff_ne.2 he
  clear he
  have hb := h.blk.lt
  go_enter Tryd.func107, Tryd.ntmps107
  go_wp2
  go_ret
  exact ⟨rfl, ((Fr.refl _ _).alloc _).alloc _⟩
end Go.Proofs.YtgmjhpappamenaaDoor

/- Contracts of package field: Put. -/
namespace Go.Proofs.YtgmjhpappamenaaDoor
open Go.RowKit

theorem wcA_setE (l : List Nat) (a : Nat) (e e' : Int) (h : l.length ≤ 64) : (wcA l a e).setIfInBounds 65 (.int .i64 e') = wcA l a e' := by
  have hp := pad_len 64 l h
  unfold wcA
  rw [List.setIfInBounds_toArray, List.set_append_right _ _ (by simp [u8s, hp])]
  simp [u8s, hp]
theorem wcA_setA (l : List Nat) (a a' : Nat) (e : Int) (h : l.length ≤ 64) : (wcA l a e).setIfInBounds 64 (.int .i64 (a' : Nat)) = wcA l a' e := by
  have hp := pad_len 64 l h
  unfold wcA
  rw [List.setIfInBounds_toArray, List.set_append_right _ _ (by simp [u8s, hp])]
  simp [u8s, hp]

set_option maxHeartbeats 400000 in
theorem Put_arg (b : Nat) (l : List Nat) (n size : Int) (w : World) (h : IsWriter w b l 0) (hs : size < 1 ∨ 7 < size) :
    Calls Tryd.prog 107 #[.pointer (some ⟨b, 0, none⟩), .int .i64 n, .int .i64 size] w fun e' w' => e' = .returned (.pointer (some ⟨b, 0, none⟩)) ∧ IsWriter w' b l 1 ∧ Fr [b] w w' := by
  have hl := h.len
  have c0 := h.blk.cell (wcA_at l l.length 0 (by omega))
  have c1 := h.blk.cell (wcA_e l l.length 0 (by omega))
  have f := h.blk.frozen
  have hb := h.blk.lt
  have HB := Lib.hid h.blk
  have he : wrongE size (60 - l.length) = 1 := by simp [wrongE, hs]
  have HE := Lib.hid he
  have HS := Lib.hid (wcA_setE l l.length 0 1 (by omega))
  clear he hs h
  obtain ⟨m, hm⟩ : ∃ m, m = l.length := ⟨_, rfl⟩
  rw [← hm] at c0 hl HE
  have HM := Lib.hid hm
  clear hm
  go_enter Tryd.func107, Tryd.ntmps107
  go_wp2_with fail
  have hw : IntKind.i64.wrap (60 - (m : Int)) = 60 - m := by rw [IntKind.wrap_i64]; omega
  go_region_with (go_at_call 121; refine (wrong_any _ _ _).mono ?_; rintro e w1 ⟨rfl, rfl⟩; rw [HE.out])
  all_goals
    clear hw
    go_wp2_with fail
    go_ret
    refine ⟨rfl, ⟨by rw [← HM.out]; exact hl, ?_⟩, ((((Fr.refl [b] w).setCell ⟨b, 65, none⟩ (.inl (by simp)) _).alloc _).alloc _).drew⟩
    have := (((HB.out.set 65 (.int .i64 1)).alloc (.cells #[.pointer (some ⟨b, 0, none⟩)] 167)).alloc (.cells #[.int .i64 n] 3)).drew
    rw [HS.out] at this
    exact this

/-- a number that does not fit -/
theorem fits_not (n s : Nat) (h : ¬ n / 2 ^ (8 * s) = 0) : ((n : Int) / 2 ^ (8 * s) != 0) = true := by
  rw [bne_iff_ne]
  intro e
  apply h
  have : (((n / 2 ^ (8 * s) : Nat) : Int)) = 0 := by simpa using e
  omega
theorem fits_so (n s : Nat) (h : n / 2 ^ (8 * s) = 0) : ((n : Int) / 2 ^ (8 * s) != 0) = false := by
  have : ((n : Int) / 2 ^ (8 * s)) = ((n / 2 ^ (8 * s) : Nat) : Int) := by simp
  rw [this, h]
  rfl
set_option maxHeartbeats 800000 in
theorem Put_over (b : Nat) (l : List Nat) (n : Int) (s : Nat) (w : World) (h : IsWriter w b l 0) (hs1 : 1 ≤ s) (hs2 : s ≤ 7) (hn : n < 0 ∨ 0 ≤ n ∧ ¬ n.toNat / 2 ^ (8 * s) = 0) :
    Calls Tryd.prog 107 #[.pointer (some ⟨b, 0, none⟩), .int .i64 n, .int .i64 s] w fun e' w' => e' = .returned (.pointer (some ⟨b, 0, none⟩)) ∧ IsWriter w' b l 11 ∧ Fr [b] w w' := by
  have hl := h.len
  have c0 := h.blk.cell (wcA_at l l.length 0 (by omega))
  have c1 := h.blk.cell (wcA_e l l.length 0 (by omega))
  have f := h.blk.frozen
  have hb := h.blk.lt
  have HB := Lib.hid h.blk
  have he : ∃ x : Int, wrongE s (60 - l.length) = x ∧ ¬ x = 1 := ⟨_, rfl, by unfold wrongE; rw [if_neg (by omega)]; split <;> omega⟩
  obtain ⟨x, he, hx⟩ := he
  have HE := Lib.hid he
  have HS := Lib.hid (wcA_setE l l.length 0 11 (by omega))
  have HS1 := Lib.hid (wcA_setE l l.length 0 x (by omega))
  have HS2 := Lib.hid (wcA_setE l l.length x 11 (by omega))
  have b0 : (x != 1) = true := bne_iff_ne.2 hx
  clear he h hx
  obtain ⟨m, hm⟩ : ∃ m, m = l.length := ⟨_, rfl⟩
  rw [← hm] at c0 hl HE
  have HM := Lib.hid hm
  clear hm
  by_cases hn0 : n < 0
  · clear hn
    go_enter Tryd.func107, Tryd.ntmps107
    go_wp2_with fail
    have hw : IntKind.i64.wrap (60 - (m : Int)) = 60 - m := by rw [IntKind.wrap_i64]; omega
    go_region_with (go_at_call 121; refine (wrong_any _ _ _).mono ?_; rintro e w1 ⟨rfl, rfl⟩; rw [HE.out])
    all_goals
      clear hw
      go_wp2_with fail
      go_ret
      refine ⟨rfl, ⟨by rw [← HM.out]; exact hl, ?_⟩, (((((Fr.refl [b] w).setCell ⟨b, 65, none⟩ (.inl (by simp)) _).setCell ⟨b, 65, none⟩ (.inl (by simp)) _).alloc _).alloc _).drew⟩
      have := ((((HB.out.set 65 (.int .i64 x)).set 65 (.int .i64 11)).alloc (.cells #[.pointer (some ⟨b, 0, none⟩)] 167)).alloc (.cells #[.int .i64 n] 3)).drew
      rw [HS1.out, HS2.out] at this
      exact this
  · obtain ⟨k, rfl⟩ := Int.eq_ofNat_of_zero_le (show 0 ≤ n by omega)
    have hk : ¬ k / 2 ^ (8 * s) = 0 := by rcases hn with h | h; exact absurd h hn0; exact h.2
    have b1 := fits_not k s hk
    clear hn hn0 hk
    go_enter Tryd.func107, Tryd.ntmps107
    go_wp2_with fail
    have hw : IntKind.i64.wrap (60 - (m : Int)) = 60 - m := by rw [IntKind.wrap_i64]; omega
    go_region_with (go_at_call 121; refine (wrong_any _ _ _).mono ?_; rintro e w1 ⟨rfl, rfl⟩; rw [HE.out])
    all_goals
      clear hw
      go_wp2_with fail
      go_ret
      refine ⟨rfl, ⟨by rw [← HM.out]; exact hl, ?_⟩, (((((Fr.refl [b] w).setCell ⟨b, 65, none⟩ (.inl (by simp)) _).setCell ⟨b, 65, none⟩ (.inl (by simp)) _).alloc _).alloc _).drew⟩
      have := ((((HB.out.set 65 (.int .i64 x)).set 65 (.int .i64 11)).alloc (.cells #[.pointer (some ⟨b, 0, none⟩)] 167)).alloc (.cells #[.int .i64 k] 3)).drew
      rw [HS1.out, HS2.out] at this
      exact this

set_option maxHeartbeats 800000 in
theorem Put_full (b : Nat) (l : List Nat) (k : Nat) (s : Nat) (w : World) (h : IsWriter w b l 0) (hs1 : 1 ≤ s) (hs2 : s ≤ 7) (hn : k / 2 ^ (8 * s) = 0) (hfull : 60 < l.length + s) :
    Calls Tryd.prog 107 #[.pointer (some ⟨b, 0, none⟩), .int .i64 k, .int .i64 s] w fun e' w' => e' = .returned (.pointer (some ⟨b, 0, none⟩)) ∧ IsWriter w' b l 17 ∧ Fr [b] w w' := by
  have hl := h.len
  have c0 := h.blk.cell (wcA_at l l.length 0 (by omega))
  have c1 := h.blk.cell (wcA_e l l.length 0 (by omega))
  have f := h.blk.frozen
  have hb := h.blk.lt
  have HB := Lib.hid h.blk
  have he : wrongE s (60 - l.length) = 17 := by unfold wrongE; rw [if_neg (by omega), if_pos (by omega)]
  have HE := Lib.hid he
  have HS := Lib.hid (wcA_setE l l.length 0 17 (by omega))
  have b1 := fits_so k s hn
  clear he h hn hfull
  obtain ⟨m, hm⟩ : ∃ m, m = l.length := ⟨_, rfl⟩
  rw [← hm] at c0 hl HE
  have HM := Lib.hid hm
  clear hm
  go_enter Tryd.func107, Tryd.ntmps107
  go_wp2_with fail
  have hw : IntKind.i64.wrap (60 - (m : Int)) = 60 - m := by rw [IntKind.wrap_i64]; omega
  go_region_with (go_at_call 121; refine (wrong_any _ _ _).mono ?_; rintro e w1 ⟨rfl, rfl⟩; rw [HE.out])
  all_goals
    clear hw
    go_wp2_with fail
    go_ret
    refine ⟨rfl, ⟨by rw [← HM.out]; exact hl, ?_⟩, ((((Fr.refl [b] w).setCell ⟨b, 65, none⟩ (.inl (by simp)) _).alloc _).alloc _).drew⟩
    have := (((HB.out.set 65 (.int .i64 17)).alloc (.cells #[.pointer (some ⟨b, 0, none⟩)] 167)).alloc (.cells #[.int .i64 k] 3)).drew
    rw [HS.out] at this
    exact this

end Go.Proofs.YtgmjhpappamenaaDoor
