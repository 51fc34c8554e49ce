/- The law package's own watch: awake. -/
import Derived.Test.YtgmjhpappamenaaDoorFieldJ
namespace Go.Proofs.YtgmjhpappamenaaDoor
open Go.RowKit Go.Shelf

theorem sealed_len (l : List Nat) (h : l.length ≤ 60) : (sealed l).length = 64 := by simp [sealed, bytesOf_len, pad_len 60 l h]
theorem sealed_take (l : List Nat) (h : l.length ≤ 60) : (sealed l).take 60 = pad 60 l := List.take_left' (pad_len 60 l h)
theorem sealed_drop (l : List Nat) (h : l.length ≤ 60) : (sealed l).drop 60 = bytesOf (crc (pad 60 l)) 4 := List.drop_left' (pad_len 60 l h)
theorem isSealed_sealed (l : List Nat) (h : l.length ≤ 60) : isSealed (sealed l) = true := by
  unfold isSealed
  rw [sealed_take l h, sealed_drop l h]
  simp
theorem bytesOf_mem (n k x : Nat) (h : x ∈ bytesOf n k) : x < 256 := by
  simp only [bytesOf, List.mem_map] at h
  obtain ⟨i, _, rfl⟩ := h
  exact byteOf_lt n i
theorem pad_mem (n : Nat) (l : List Nat) (hl : ∀ x, x ∈ l → x < 256) : ∀ x, x ∈ pad n l → x < 256 := by
  intro x hx
  simp only [pad, List.mem_append, List.mem_replicate] at hx
  rcases hx with hx | ⟨_, rfl⟩
  · exact hl x hx
  · omega
theorem sealed_mem (l : List Nat) (hl : ∀ x, x ∈ l → x < 256) : ∀ x, x ∈ sealed l → x < 256 := by
  intro x hx
  rcases List.mem_append.1 hx with h | h
  · exact pad_mem 60 l hl x h
  · exact bytesOf_mem _ _ x h
theorem putL_mem (l : List Nat) (n size : Int) (hl : ∀ x, x ∈ l → x < 256) : ∀ x, x ∈ putL l n size → x < 256 := by
  intro x hx
  unfold putL at hx
  split at hx
  · rcases List.mem_append.1 hx with h | h
    · exact hl x h
    · exact bytesOf_mem _ _ x h
  · exact hl x hx

end Go.Proofs.YtgmjhpappamenaaDoor

/- FieldNil: the walk. -/
namespace Go.Proofs.YtgmjhpappamenaaDoor
open Go.RowKit Go.Shelf

theorem eql_blocks (A B : List Nat) (hA : A.length = 64) (hB : B.length = 64) (w : World) : (binOp .eql 88 (.agg (bv A)) (.agg (bv B))).run Tryd.prog w = .ok (.bool (decide (A = B))) w := by
  obtain ⟨i, hi⟩ : ∃ i, Tryd.prog.info? 5 = some i := Option.isSome_iff_exists.1 (by kernel_rfl)
  exact run_eql_bytes (P := Tryd.prog) Tryd.underlying88 Tryd.underlying5 (by kernel_rfl) hi (by kernel_rfl) A B hA hB w
theorem neq_blocks (A B : List Nat) (hA : A.length = 64) (hB : B.length = 64) (w : World) : (binOp .neq 88 (.agg (bv A)) (.agg (bv B))).run Tryd.prog w = .ok (.bool (!decide (A = B))) w := by
  obtain ⟨i, hi⟩ : ∃ i, Tryd.prog.info? 5 = some i := Option.isSome_iff_exists.1 (by kernel_rfl)
  exact run_neq_bytes (P := Tryd.prog) Tryd.underlying88 Tryd.underlying5 (by kernel_rfl) hi (by kernel_rfl) A B hA hB w
theorem guard_eql_blocks (x y : Operand) (A B : Array Value) (w : World) : (eqGuard .eql 88 x y (.agg A) (.agg B)).run Tryd.prog w = .ok () w := run_guard_eql w (by kernel_rfl)
theorem guard_neq_blocks (x y : Operand) (A B : Array Value) (w : World) : (eqGuard .neq 88 x y (.agg A) (.agg B)).run Tryd.prog w = .ok () w := run_guard_neq w (by kernel_rfl)

end Go.Proofs.YtgmjhpappamenaaDoor

/- Contracts of package field in one for each function; numbers and bytes; the plain law of putting and taking. -/
namespace Go.Proofs.YtgmjhpappamenaaDoor
open Go.RowKit Go.Shelf

/-- a writer's state behind a Put -/
def putS (s : List Nat × Int) (n size : Int) : List Nat × Int := if s.2 = 0 then (putL s.1 n size, putE s.1.length n size) else s
theorem Put_all (b : Nat) (s : List Nat × Int) (n size : Int) (w : World) (h : IsWriter w b s.1 s.2) :
    Calls Tryd.prog 107 #[.pointer (some ⟨b, 0, none⟩), .int .i64 n, .int .i64 size] w fun e' w' => e' = .returned (.pointer (some ⟨b, 0, none⟩)) ∧ IsWriter w' b (putS s n size).1 (putS s n size).2 ∧ Fr [b] w w' := by
  unfold putS
  by_cases he : s.2 = 0
  · rw [if_pos he]
    rw [he] at h
    exact Put_any b s.1 n size w h
  · rw [if_neg he]
    refine (Put_err b s.1 s.2 n size w h he).mono ?_
    rintro e w' ⟨rfl, hF⟩
    exact ⟨rfl, h.fr hF (by simp), hF.sub (by simp)⟩
def sealV (s : List Nat × Int) : List Nat := if s.2 = 0 then sealed s.1 else zeros64
theorem Seal_all (b : Nat) (s : List Nat × Int) (w : World) (h : IsWriter w b s.1 s.2) (hH : Halves w) (hl : ∀ x, x ∈ s.1 → x < 256) :
    Calls Tryd.prog 108 #[.pointer (some ⟨b, 0, none⟩)] w fun e' w' => e' = .returned (.tuple #[.agg (bv (sealV s)), .int .i64 s.2]) ∧ Fr [] w w' := by
  unfold sealV
  by_cases he : s.2 = 0
  · rw [if_pos he, he]
    rw [he] at h
    exact Seal_ok b s.1 w h hH hl
  · rw [if_neg he]
    exact Seal_err b s.1 s.2 w h he
theorem sealV_len (s : List Nat × Int) (h : s.1.length ≤ 60) : (sealV s).length = 64 := by
  unfold sealV
  split
  · exact sealed_len _ h
  · rfl
theorem sealV_mem (s : List Nat × Int) (hl : ∀ x, x ∈ s.1 → x < 256) : ∀ x, x ∈ sealV s → x < 256 := by
  intro x hx
  unfold sealV at hx
  split at hx
  · exact sealed_mem _ hl x hx
  · simp [zeros64] at hx; omega
theorem putS_mem (s : List Nat × Int) (n size : Int) (hl : ∀ x, x ∈ s.1 → x < 256) : ∀ x, x ∈ (putS s n size).1 → x < 256 := by
  intro x hx
  unfold putS at hx
  split at hx
  · exact putL_mem _ _ _ hl x hx
  · exact hl x hx

/-- a reader's state behind a Take -/
def takeS (r : Nat × Int) (size : Int) : Nat × Int := if r.2 = 0 then (if wrongE size (60 - r.1) = 0 then r.1 + size.toNat else r.1, wrongE size (60 - r.1)) else r
def takeV (l : List Nat) (r : Nat × Int) (size : Int) : Int := if r.2 = 0 then (if wrongE size (60 - r.1) = 0 then (numOf (nextBytes l r.1 size.toNat) : Nat) else 0) else 0
theorem Take_all (b : Nat) (l : List Nat) (r : Nat × Int) (size : Int) (w : World) (h : IsReader w b l r.1 r.2) :
    Calls Tryd.prog 96 #[.pointer (some ⟨b, 0, none⟩), .int .i64 size] w fun e' w' => e' = .returned (.int .i64 (takeV l r size)) ∧ IsReader w' b l (takeS r size).1 (takeS r size).2 ∧ Fr [b] w w' := by
  unfold takeS takeV
  by_cases he : r.2 = 0
  · rw [if_pos he, if_pos he]
    rw [he] at h
    exact Take_any b l r.1 size w h
  · rw [if_neg he, if_neg he]
    refine (Take_err b l r.1 r.2 size w h he).mono ?_
    rintro e w' ⟨rfl, hF⟩
    exact ⟨rfl, h.fr hF (by simp), hF.sub (by simp)⟩
def endV (l : List Nat) (r : Nat × Int) : Int := if r.2 = 0 then endE l r.1 else r.2
theorem End_all (b : Nat) (l : List Nat) (r : Nat × Int) (w : World) (h : IsReader w b l r.1 r.2) :
    Calls Tryd.prog 97 #[.pointer (some ⟨b, 0, none⟩)] w fun e' w' => e' = .returned (.int .i64 (endV l r)) ∧ Fr [] w w' := by
  unfold endV
  by_cases he : r.2 = 0
  · rw [if_pos he]
    rw [he] at h
    exact End_ok b l r.1 w h
  · rw [if_neg he]
    exact End_err b l r.1 r.2 w h he

/-! numbers and their bytes -/
theorem byteOf_succ (n i : Nat) : byteOf n (i + 1) = byteOf (n / 256) i := by
  unfold byteOf
  rw [Nat.div_div_eq_div_mul, show 8 * (i + 1) = 8 + 8 * i by omega, Nat.pow_add]
theorem bytesOf_cons (n k : Nat) : bytesOf n (k + 1) = (n % 256) :: bytesOf (n / 256) k := by
  unfold bytesOf
  rw [List.range_succ_eq_map, List.map_cons, List.map_map]
  congr 1
  · simp [byteOf]
  · apply List.map_congr_left
    intro i _
    exact byteOf_succ n i
theorem numOf_bytesOf (k : Nat) : ∀ n, numOf (bytesOf n k) = n % 2 ^ (8 * k) := by
  induction k with
  | zero => intro n; simp [bytesOf, numOf, Nat.mod_one]
  | succ k ih =>
    intro n
    rw [bytesOf_cons, numOf, ih, show 8 * (k + 1) = 8 + 8 * k by omega, Nat.pow_add, show (2 : Nat) ^ 8 = 256 from rfl, Nat.mod_mul]
theorem bytesOf_numOf : ∀ (l : List Nat), (∀ x, x ∈ l → x < 256) → bytesOf (numOf l) l.length = l := by
  intro l
  induction l with
  | nil => intro _; rfl
  | cons x r ih =>
    intro h
    have hx := h x List.mem_cons_self
    rw [List.length_cons, bytesOf_cons, numOf]
    rw [show (x + 256 * numOf r) % 256 = x by omega, show (x + 256 * numOf r) / 256 = numOf r by omega, ih (fun y hy => h y (List.mem_cons_of_mem _ hy))]

/-! what is put is taken -/
theorem putS_zero (s : List Nat × Int) (n size : Int) (h : (putS s n size).2 = 0) :
    s.2 = 0 ∧ 1 ≤ size ∧ size ≤ 7 ∧ 0 ≤ n ∧ n.toNat / 2 ^ (8 * size.toNat) = 0 ∧ (s.1.length : Int) + size ≤ 60 ∧ (putS s n size).1 = s.1 ++ bytesOf n.toNat size.toNat := by
  unfold putS at h ⊢
  by_cases he : s.2 = 0
  · rw [if_pos he] at h ⊢
    simp only at h ⊢
    have hl : putL s.1 n size = s.1 ++ bytesOf n.toNat size.toNat := by rw [putL, if_pos h]
    unfold putE at h
    split at h
    · omega
    · split at h
      · omega
      · rename_i h1 h2
        have h3 : ¬ n < 0 := fun e => h2 (.inl e)
        have h4 : n / 2 ^ (8 * size.toNat) = 0 := by
          by_cases e : n / 2 ^ (8 * size.toNat) = 0
          · exact e
          · exact absurd (.inr e) h2
        unfold wrongE at h
        split at h
        · omega
        · split at h
          · omega
          · refine ⟨he, by omega, by omega, by omega, ?_, by omega, hl⟩
            obtain ⟨k, rfl⟩ := Int.eq_ofNat_of_zero_le (show 0 ≤ n by omega)
            have : (((k / 2 ^ (8 * size.toNat) : Nat) : Int)) = 0 := by simpa using h4
            simp only [Int.toNat_natCast]
            omega
  · rw [if_neg he] at h
    exact absurd h he
/-- the states of a writer behind some Puts -/
def putN (ps : List (Int × Int)) (k : Nat) : List Nat × Int := (ps.take k).foldl (fun s p => putS s p.1 p.2) ([], 0)
theorem putN_succ (ps : List (Int × Int)) (k : Nat) (h : k < ps.length) : putN ps (k + 1) = putS (putN ps k) ps[k].1 ps[k].2 := by
  unfold putN
  rw [List.take_succ_eq_append_getElem h, List.foldl_append]
  rfl
theorem putN_mem (ps : List (Int × Int)) : ∀ k, k ≤ ps.length → ∀ x, x ∈ (putN ps k).1 → x < 256 := by
  intro k
  induction k with
  | zero => intro _ x hx; simp [putN] at hx
  | succ k ih =>
    intro h
    rw [putN_succ ps k (by omega)]
    exact putS_mem _ _ _ (ih (by omega))
theorem putN_zero (ps : List (Int × Int)) (m : Nat) : ∀ (d k : Nat), m = k + d → m ≤ ps.length → (putN ps m).2 = 0 → (putN ps k).2 = 0 ∧ ∃ r, (putN ps m).1 = (putN ps k).1 ++ r := by
  intro d
  induction d with
  | zero => intro k hk _ h0; subst hk; exact ⟨h0, [], by simp⟩
  | succ d ih =>
    intro k hk hm h0
    obtain ⟨h1, r, h2⟩ := ih (k + 1) (by omega) hm h0
    rw [putN_succ ps k (by omega)] at h1 h2
    have h3 := putS_zero _ _ _ h1
    exact ⟨h3.1, _, by rw [h2, h3.2.2.2.2.2.2, List.append_assoc]⟩
/-- the number that is taken where one was put -/
theorem take_back (ps : List (Int × Int)) (k : Nat) (hk : k < ps.length) (h0 : (putN ps ps.length).2 = 0) :
    takeV (sealed (putN ps ps.length).1) ((putN ps k).1.length, 0) ps[k].2 = ps[k].1 ∧ takeS ((putN ps k).1.length, 0) ps[k].2 = ((putN ps (k + 1)).1.length, 0) := by
  obtain ⟨h1, r, h2⟩ := putN_zero ps ps.length (ps.length - (k + 1)) (k + 1) (by omega) (Nat.le_refl _) h0
  have hs := putN_succ ps k hk
  rw [hs] at h1
  obtain ⟨g1, g2, g3, g4, g5, g6, g7⟩ := putS_zero _ _ _ h1
  rw [← hs] at g7
  have hw : wrongE ps[k].2 (60 - ((putN ps k).1.length : Int)) = 0 := by unfold wrongE; rw [if_neg (by omega), if_neg (by omega)]
  have hlen : (putN ps (k + 1)).1.length = (putN ps k).1.length + ps[k].2.toNat := by rw [g7, List.length_append, bytesOf_len]
  constructor
  · unfold takeV
    rw [if_pos rfl, if_pos hw]
    have hn : nextBytes (sealed (putN ps ps.length).1) (putN ps k).1.length ps[k].2.toNat = bytesOf ps[k].1.toNat ps[k].2.toNat := by
      unfold nextBytes sealed pad
      rw [h2, g7]
      simp only [List.append_assoc]
      rw [List.drop_left' rfl, List.take_left' (bytesOf_len _ _)]
    rw [hn, numOf_bytesOf, Nat.mod_eq_of_lt ((Nat.div_eq_zero_iff_lt (Nat.two_pow_pos _)).1 g5)]
    omega
  · unfold takeS
    rw [if_pos rfl, hw, if_pos rfl, hlen]
theorem end_back (B : List Nat) (h : B.length ≤ 60) : endV (sealed B) (B.length, 0) = 0 := by
  unfold endV
  rw [if_pos rfl]
  unfold endE
  have hn : nextBytes (sealed B) B.length (60 - B.length) = List.replicate (60 - B.length) 0 := by
    unfold nextBytes sealed pad
    rw [List.append_assoc, List.drop_left' rfl, List.take_left' (by simp)]
  rw [hn, if_pos (by simp)]

/-! what is taken is put -/
theorem step_again (l : List Nat) (r : Nat × Int) (s : List Nat × Int) (size : Int) (hl : l.length = 64) (hb : ∀ x, x ∈ l → x < 256) (hR : r.2 = 0 → r.1 ≤ 60 ∧ s = (l.take r.1, 0)) (h0 : (takeS r size).2 = 0) :
    (takeS r size).1 ≤ 60 ∧ putS s (takeV l r size) size = (l.take (takeS r size).1, 0) := by
  by_cases he : r.2 = 0
  · obtain ⟨h60, rfl⟩ := hR he
    unfold takeS at h0 ⊢
    rw [if_pos he] at h0 ⊢
    simp only at h0 ⊢
    have hw := h0
    unfold wrongE at h0
    split at h0
    · omega
    · split at h0
      · omega
      · obtain ⟨k, rfl⟩ := Int.eq_ofNat_of_zero_le (show 0 ≤ size by omega)
        rw [if_pos hw]
        unfold takeV
        rw [if_pos he, if_pos hw]
        simp only [Int.toNat_natCast]
        have hlen : (nextBytes l r.1 k).length = k := nextBytes_len _ _ _ (by omega)
        have hlt := numOf_lt (nextBytes l r.1 k) (fun x hx => hb x (nextBytes_mem _ _ _ x hx))
        rw [hlen] at hlt
        have htl : (l.take r.1).length = r.1 := by simp; omega
        have hE : putE (l.take r.1).length ((numOf (nextBytes l r.1 k) : Nat) : Int) k = 0 := by
          unfold putE
          rw [htl, hw, if_neg (by omega), if_neg]
          rintro (h | h)
          · omega
          · apply h
            simp only [Int.toNat_natCast]
            have : numOf (nextBytes l r.1 k) / 2 ^ (8 * k) = 0 := Nat.div_eq_of_lt hlt
            have e : (((numOf (nextBytes l r.1 k) / 2 ^ (8 * k) : Nat)) : Int) = 0 := by omega
            simpa using e
        refine ⟨by omega, ?_⟩
        unfold putS
        rw [if_pos rfl]
        simp only [hE, Prod.mk.injEq, and_true]
        rw [putL, if_pos hE]
        simp only [Int.toNat_natCast]
        have hbn := bytesOf_numOf (nextBytes l r.1 k) (fun x hx => hb x (nextBytes_mem _ _ _ x hx))
        rw [hlen] at hbn
        rw [hbn, nextBytes, List.take_add]
  · unfold takeS at h0
    rw [if_neg he] at h0
    exact absurd h0 he
theorem back_again (l : List Nat) (a : Nat) (hl : l.length = 64) (ha : a ≤ 60) (hE : endE l a = 0) (hS : isSealed l = true) : sealed (l.take a) = l := by
  have hz : ∀ j, j < 60 - a → l.getD (a + j) 0 = 0 := by
    unfold endE at hE
    split at hE
    · rename_i h
      exact (nextBytes_all l a (60 - a) (by omega)).1 h
    · omega
  have hp : pad 60 (l.take a) = l.take 60 := by
    have htl : (l.take a).length = a := by simp; omega
    apply List.ext_getElem?
    intro j
    unfold pad
    rw [htl, List.getElem?_append, htl]
    split
    · rename_i hj
      rw [List.getElem?_take, List.getElem?_take, if_pos hj, if_pos (by omega)]
    · rename_i hj
      rw [List.getElem?_take]
      by_cases h6 : j < 60
      · rw [if_pos h6, List.getElem?_replicate, if_pos (by omega)]
        have := hz (j - a) (by omega)
        rw [show a + (j - a) = j by omega, List.getD_eq_getElem?_getD, List.getElem?_eq_getElem (by omega), Option.getD_some] at this
        rw [List.getElem?_eq_getElem (by omega), this]
      · rw [if_neg h6, List.getElem?_eq_none (by simp; omega)]
  unfold isSealed at hS
  have hS' := of_decide_eq_true hS
  unfold sealed
  rw [hp, hS']
  exact List.take_append_drop 60 l
end Go.Proofs.YtgmjhpappamenaaDoor
