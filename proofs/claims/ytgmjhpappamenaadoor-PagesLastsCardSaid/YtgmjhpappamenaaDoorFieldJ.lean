/- Contracts of package field: End, Sealed. -/
import Derived.Test.YtgmjhpappamenaaDoorFieldI
import Derived.Deep.RegionHeld3
import Derived.Laws.Cover3
namespace Go.Proofs.YtgmjhpappamenaaDoor
open Go.RowKit Go.Shelf

theorem Take_any (b : Nat) (l : List Nat) (a : Nat) (size : Int) (w : World) (h : IsReader w b l a 0) :
    Calls Tryd.prog 96 #[.pointer (some ⟨b, 0, none⟩), .int .i64 size] w fun e' w' =>
      e' = .returned (.int .i64 (if wrongE size (60 - a) = 0 then (numOf (nextBytes l a size.toNat) : Nat) else 0)) ∧ IsReader w' b l (if wrongE size (60 - a) = 0 then a + size.toNat else a) (wrongE size (60 - a)) ∧ Fr [b] w w' := by
  have ha := h.at60
  by_cases he : wrongE size (60 - a) = 0
  · rw [if_pos he, if_pos he, he]
    unfold wrongE at he
    split at he
    · omega
    · split at he
      · omega
      · obtain ⟨s, rfl⟩ := Int.eq_ofNat_of_zero_le (show 0 ≤ size by omega)
        exact Take_ok b l a s w h (by omega) (by omega) (by omega)
  · rw [if_neg he, if_neg he]
    exact Take_no b l a size w h he

/-- what End says of the rest -/
def endE (l : List Nat) (a : Nat) : Int := if (nextBytes l a (60 - a)).all (· == 0) then 0 else 12
theorem nextBytes_all (l : List Nat) (a : Nat) : ∀ n, a + n ≤ l.length → ((nextBytes l a n).all (· == 0) = true ↔ ∀ j, j < n → l.getD (a + j) 0 = 0) := by
  intro n
  induction n with
  | zero => intro _; simp [nextBytes]
  | succ n ih =>
    intro h
    rw [nextBytes_succ l a n (by omega), List.all_append, Bool.and_eq_true, ih (by omega)]
    simp only [List.all_cons, List.all_nil, Bool.and_true, beq_iff_eq]
    constructor
    · rintro ⟨h1, h2⟩ j hj
      by_cases e : j = n
      · subst e; exact h2
      · exact h1 j (by omega)
    · intro h1
      exact ⟨fun j hj => h1 j (by omega), h1 n (by omega)⟩
theorem endE_so (l : List Nat) (a : Nat) (hl : l.length = 64) (ha : a ≤ 60) (h : ∀ j, j < 60 - a → l.getD (a + j) 0 = 0) : endE l a = 0 := by
  unfold endE
  rw [if_pos ((nextBytes_all l a (60 - a) (by omega)).2 h)]
theorem endE_not (l : List Nat) (a : Nat) (hl : l.length = 64) (ha : a ≤ 60) (j : Nat) (hj : j < 60 - a) (h : ¬ l.getD (a + j) 0 = 0) : endE l a = 12 := by
  unfold endE
  rw [if_neg (fun e => h ((nextBytes_all l a (60 - a) (by omega)).1 e j hj))]
theorem End_ok (b : Nat) (l : List Nat) (a : Nat) (w : World) (h : IsReader w b l a 0) :
    Calls Tryd.prog 97 #[.pointer (some ⟨b, 0, none⟩)] w fun e' w' => e' = .returned (.int .i64 (endE l a)) ∧ Fr [] w w' := by
  have hl := h.len
  have ha := h.at60
  have c0 := h.blk.cell (wcA_at l a 0 (by omega))
  have c1 := h.blk.cell (wcA_e l a 0 (by omega))
  have hb := h.blk.lt
  have HB := Lib.hid h.blk
  have hp : pad 64 l = l := by simp [pad, hl]
  have hc : ∀ i, i < 64 → w.cell? ⟨b, i, none⟩ = some (.int .u8 (l.getD i 0 : Nat)) := fun i hi => by
    have := h.blk.cell (wcA_b l a 0 (by omega) i hi)
    rwa [hp] at this
  have HC := Lib.hid hc
  clear h hc hp
  have hai : (a : Int) ≤ 60 := by omega
  go_enter Tryd.func97, Tryd.ntmps97
  go_wp2_with fail
  go_region
  go_wp2_with fail
  go_loopw [27] (fun i wr => ∃ k : Nat, k ≤ 60 - a ∧ i = .int .i64 k ∧ wr = w.drew ∧ ∀ j, j < k → l.getD (a + j) 0 = 0) (fun i _ => 60 - (intOf i).toNat)
  case atStart => exact ⟨0, Nat.zero_le _, rfl, rfl, fun j hj => absurd hj (Nat.not_lt_zero _)⟩
  case round =>
    obtain ⟨k, hk, rfl, rfl, hz⟩ := hrel
    have HZ := Lib.hid hz
    clear hz
    by_cases hlt : k < 60 - a
    · have b0 : ((k : Int) < ((60 - a : Nat) : Int)) := by omega
      have c5 := HC.out (a + k) (by omega)
      by_cases hx : l.getD (a + k) 0 = 0
      · rw [hx] at c5
        go_wp2_with fail
        go_roundw
        case rel => 
          refine ⟨k + 1, by omega, by go_num, trivial, ?_⟩
          intro j hj
          by_cases e : j = k
          · subst e; exact hx
          · exact HZ.out j (by omega)
        case measure => simp [intOf]; omega
      · have b1 : (((l.getD (a + k) 0 : Nat) : Int) != 0) = true := bne_iff_ne.2 (by omega)
        have he := Lib.hid (endE_not l a hl ha k hlt hx)
        clear hx
        generalize l.getD (a + k) 0 = x at c5 b1
        go_wp2_with fail
        go_ret
        exact ⟨by rw [he.out]; rfl, (Fr.refl _ _).drew⟩
    · obtain rfl : k = 60 - a := by omega
      go_wp2_with fail
      go_ret
      exact ⟨by rw [endE_so l a hl ha HZ.out]; rfl, (Fr.refl _ _).drew⟩

theorem Fr.range {S : List Nat} {a b : World} (h : Fr S a b) {k o : Nat} {cs : List Value} (hr : a.rangeAt k o cs) (hk : k < a.heap.size) (hs : ¬ k ∈ S) : b.rangeAt k o cs :=
  fun j v hj => (h.cell ⟨k, o + j, none⟩ hk hs).trans (hr j v hj)

/-- a sector is sealed -/
def isSealed (l : List Nat) : Bool := decide (bytesOf (crc (l.take 60)) 4 = l.drop 60)
set_option maxRecDepth 100000 in
theorem Sealed_any (l : List Nat) (w : World) (hH : Halves w) (hl : l.length = 64) (hb : ∀ x, x ∈ l → x < 256) :
    Calls Tryd.prog 94 #[.agg (bv l)] w fun e w' => e = .returned (.int .i64 (if isSealed l then 0 else 13)) ∧ Fr [] w w' := by
  have HH := Lib.hid hH
  have HL := Lib.hid hl
  obtain ⟨x0, x1, x2, x3, hd⟩ : ∃ x0 x1 x2 x3, l.drop 60 = [x0, x1, x2, x3] := by
    have h4 : (l.drop 60).length = 4 := by simp [hl]
    match hm : l.drop 60, h4 with
    | [a, b, c, d], _ => exact ⟨a, b, c, d, rfl⟩
  have hget : ∀ j (hj : j < 4), (bv l)[60 + j]? = some (.int .u8 (([x0, x1, x2, x3] : List Nat)[j] : Nat)) := by
    intro j hj
    have e : l[60 + j]? = ([x0, x1, x2, x3] : List Nat)[j]? := by rw [← hd, List.getElem?_drop]
    have e' : ([x0, x1, x2, x3] : List Nat)[j]? = some ([x0, x1, x2, x3] : List Nat)[j] := List.getElem?_eq_getElem (by simpa using hj)
    rw [e'] at e
    simp only [bv, u8s, List.getElem?_toArray, List.getElem?_map, e, Option.map_some]
  have hu := Tryd.underlying88
  have hi : (Tryd.prog.info? 88).map (·.size) = some (u8s l).length := by rw [show (u8s l).length = 64 by simp [u8s, hl]]; kernel_rfl
  have hn : (u8s l).length = 64 := by simp [u8s, hl]
  have ho : ∀ v ∈ u8s l, v.oneCell' = true := by simp [u8s, Value.oneCell']
  have hB := Blk.new w (bv l) 88
  have hr : (w.alloc (.cells (bv l) 88)).rangeAt w.heap.size 0 (u8s l) := range_bv hB
  have e0 : ((w.alloc (.cells (bv l) 88)).drew).cell? ⟨w.heap.size, 60, none⟩ = some (.int .u8 (x0 : Nat)) := hB.cell (hget 0 (by omega))
  have e1 : ((w.alloc (.cells (bv l) 88)).drew).cell? ⟨w.heap.size, 61, none⟩ = some (.int .u8 (x1 : Nat)) := hB.cell (hget 1 (by omega))
  have e2 : ((w.alloc (.cells (bv l) 88)).drew).cell? ⟨w.heap.size, 62, none⟩ = some (.int .u8 (x2 : Nat)) := hB.cell (hget 2 (by omega))
  have e3 : ((w.alloc (.cells (bv l) 88)).drew).cell? ⟨w.heap.size, 63, none⟩ = some (.int .u8 (x3 : Nat)) := hB.cell (hget 3 (by omega))
  have hneq : ∀ w, (binOp .neq 186 (.agg (bv (bytesOf (crc (l.take 60)) 4))) (.agg #[.int .u8 (x0 : Nat), .int .u8 (x1 : Nat), .int .u8 (x2 : Nat), .int .u8 (x3 : Nat)])).run Tryd.prog w = .ok (.bool (!isSealed l)) w := fun w => by
    obtain ⟨i, hi⟩ : ∃ i, Tryd.prog.info? 5 = some i := Option.isSome_iff_exists.1 (by kernel_rfl)
    have := run_neq_bytes (P := Tryd.prog) Tryd.underlying186 Tryd.underlying5 (by kernel_rfl) hi (by kernel_rfl) (bytesOf (crc (l.take 60)) 4) (l.drop 60) (bytesOf_len _ _) (by simp [hd]) w
    unfold isSealed
    rw [hd] at this ⊢
    exact this
  have hgd : ∀ x y w, (eqGuard .neq 186 x y (.agg (bv (bytesOf (crc (l.take 60)) 4))) (.agg #[.int .u8 (x0 : Nat), .int .u8 (x1 : Nat), .int .u8 (x2 : Nat), .int .u8 (x3 : Nat)])).run Tryd.prog w = .ok () w := fun x y w => run_guard_neq w (by kernel_rfl)
  have hat : ∀ w0, (Instr.arrayAt 186 (.slice (some ⟨w.heap.size, 60, none⟩) 4 4)).run Tryd.prog w0 = .ok (.pointer (some ⟨w.heap.size, 60, none⟩)) w0 := fun w0 => run_arrayAt w0 _ _ 4 _ 4 4 Tryd.underlying186 (by omega)
  generalize hsl : isSealed l = sl at hneq
  have HSL := Lib.hid hsl
  have HHS := Lib.hid hneq
  clear hH hl hB hget hd hsl
  go_enter Tryd.func94, Tryd.ntmps94
  go_wp2_with fail
  go_region_held3 (fun w' => w'.rangeAt w.heap.size 0 (u8s l) ∧ w'.cell? ⟨w.heap.size, 60, none⟩ = some (.int .u8 (x0 : Nat)) ∧ w'.cell? ⟨w.heap.size, 61, none⟩ = some (.int .u8 (x1 : Nat)) ∧ w'.cell? ⟨w.heap.size, 62, none⟩ = some (.int .u8 (x2 : Nat)) ∧ w'.cell? ⟨w.heap.size, 63, none⟩ = some (.int .u8 (x3 : Nat)))
    (first | go_keep_ranges | exact ⟨hr, e0, e1, e2, e3⟩ | exact ⟨hr1, k0, k1, k2, k3⟩)
    (first
      | (go_at_call 120; refine (sum_any l _ (HH.out.keep (((Fr.refl [] w).alloc _).drew) (by simp)) HL.out hb).mono ?_; rintro e w1 ⟨rfl, hF⟩; have hr1 := hF.range (k := w.heap.size) (o := 0) (cs := u8s l) hr (by simp) (by simp); have k0 := (hF.cell ⟨w.heap.size, 60, none⟩ (by simp) (by simp)).trans e0; have k1 := (hF.cell ⟨w.heap.size, 61, none⟩ (by simp) (by simp)).trans e1; have k2 := (hF.cell ⟨w.heap.size, 62, none⟩ (by simp) (by simp)).trans e2; have k3 := (hF.cell ⟨w.heap.size, 63, none⟩ (by simp) (by simp)).trans e3))
  all_goals
    cases sl <;>
    · go_wp2_with fail
      go_ret
      exact ⟨rfl, (((Fr.refl [] w).alloc _).drew).comp hF (by simp)⟩
end Go.Proofs.YtgmjhpappamenaaDoor
