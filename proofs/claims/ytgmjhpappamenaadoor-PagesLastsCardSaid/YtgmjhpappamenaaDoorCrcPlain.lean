/- Plain mathematics of the sum (CRC-32C). Nothing here names the program. -/
import Derived.Test.YtgmjhpappamenaaDoorKit
namespace Go.Proofs.YtgmjhpappamenaaDoor

def poly : Nat := 2197175160
def all32 : Nat := 4294967295
def stepB (s : Nat) : Nat := if s % 2 = 1 then (s / 2) ^^^ poly else s / 2
def steps : Nat → Nat → Nat
  | 0, s => s
  | k + 1, s => steps k (stepB s)
def halvesL : List Nat := [0x00000000, 0x105ec76f, 0x20bd8ede, 0x30e349b1, 0x417b1dbc, 0x5125dad3, 0x61c69362, 0x7198540d, 0x82f63b78, 0x92a8fc17, 0xa24bb5a6, 0xb21572c9, 0xc38d26c4, 0xd3d3e1ab, 0xe330a81a, 0xf36e6f75]
def nib (s : Nat) : Nat := halvesL.getD (s % 16) 0 ^^^ (s / 16)
def nextB (s x : Nat) : Nat := nib (nib (s ^^^ x))
def crcF (s : Nat) (l : List Nat) : Nat := l.foldl nextB s
def crc (l : List Nat) : Nat := crcF all32 l ^^^ all32

theorem xor_mod2 (a b : Nat) : (a ^^^ b) % 2 = (a % 2 + b % 2) % 2 := by
  have h := Nat.xor_mod_two_pow (a := a) (b := b) (n := 1)
  rw [Nat.pow_one] at h
  rw [h]
  rcases Nat.mod_two_eq_zero_or_one a with ha | ha <;> rcases Nat.mod_two_eq_zero_or_one b with hb | hb <;> rw [ha, hb] <;> rfl
theorem xor_div2 (a b : Nat) : (a ^^^ b) / 2 = a / 2 ^^^ b / 2 := by
  have h := Nat.xor_div_two_pow (a := a) (b := b) (n := 1)
  rwa [Nat.pow_one] at h
theorem stepB_xor (a b : Nat) : stepB (a ^^^ b) = stepB a ^^^ stepB b := by
  unfold stepB
  rw [xor_mod2, xor_div2]
  rcases Nat.mod_two_eq_zero_or_one a with ha | ha <;> rcases Nat.mod_two_eq_zero_or_one b with hb | hb <;> rw [ha, hb] <;> simp
  · rw [Nat.xor_assoc]
  · rw [Nat.xor_assoc, Nat.xor_assoc, Nat.xor_comm poly]
  · rw [Nat.xor_assoc, ← Nat.xor_assoc poly, Nat.xor_comm poly, Nat.xor_assoc, Nat.xor_self, Nat.xor_zero]
theorem stepB_two (m : Nat) : stepB (2 * m) = m := by
  unfold stepB
  rw [if_neg (by omega)]; omega
theorem steps_xor (k a b : Nat) : steps k (a ^^^ b) = steps k a ^^^ steps k b := by
  induction k generalizing a b with
  | zero => rfl
  | succ k ih => simp only [steps, stepB_xor, ih]
theorem split16 (s : Nat) : s = (s % 16) ^^^ (16 * (s / 16)) := by
  apply Nat.eq_of_testBit_eq
  intro i
  rw [Nat.testBit_xor]
  have h1 : (s % 16).testBit i = (decide (i < 4) && s.testBit i) := Nat.testBit_mod_two_pow s 4 i
  have h2 : (16 * (s / 16)).testBit i = (decide (4 ≤ i) && s.testBit i) := by
    have h3 : (2 ^ 4 * (s / 2 ^ 4)).testBit i = (decide (i ≥ 4) && (s / 2 ^ 4).testBit (i - 4)) := Nat.testBit_two_pow_mul
    rw [show 16 * (s / 16) = 2 ^ 4 * (s / 2 ^ 4) from rfl, h3]
    by_cases h : 4 ≤ i
    · rw [Nat.testBit_div_two_pow]
      simp [h]
    · simp [h]
  rw [h1, h2]
  by_cases h : i < 4
  · have : ¬ 4 ≤ i := by omega
    simp [h, this]
  · have : 4 ≤ i := by omega
    simp [h, this]
theorem nib_steps (s : Nat) : nib s = steps 4 s := by
  have h1 : steps 4 s = steps 4 (s % 16) ^^^ steps 4 (16 * (s / 16)) := by rw [← steps_xor, ← split16]
  have h2 : ∀ t, steps 4 (16 * t) = t := fun t => by
    simp only [steps]
    rw [show 16 * t = 2 * (2 * (2 * (2 * t))) by omega, stepB_two, stepB_two, stepB_two, stepB_two]
  have h3 : ∀ k, k < 16 → halvesL.getD k 0 = steps 4 k := by decide
  rw [h1, h2]
  unfold nib
  rw [h3 _ (Nat.mod_lt _ (by omega))]
theorem steps_add (a b s : Nat) : steps (a + b) s = steps b (steps a s) := by
  induction a generalizing s with
  | zero => simp [steps]
  | succ a ih => rw [show a + 1 + b = (a + b) + 1 by omega]; simp only [steps]; exact ih _
theorem nextB_steps (s x : Nat) : nextB s x = steps 8 (s ^^^ x) := by
  unfold nextB
  rw [nib_steps, nib_steps, ← steps_add]
theorem stepB_lt (s : Nat) (h : s < 4294967296) : stepB s < 4294967296 := by
  unfold stepB
  split
  · have h1 : s / 2 < 2 ^ 32 := by omega
    have h2 : poly < 2 ^ 32 := by decide
    exact Nat.xor_lt_two_pow h1 h2
  · omega
theorem steps_lt (k s : Nat) (h : s < 4294967296) : steps k s < 4294967296 := by
  induction k generalizing s with
  | zero => exact h
  | succ k ih => exact ih _ (stepB_lt s h)
theorem nextB_lt (s x : Nat) (h : s < 4294967296) (hx : x < 256) : nextB s x < 4294967296 := by
  rw [nextB_steps]
  exact steps_lt _ _ (Nat.xor_lt_two_pow (n := 32) (by simpa using h) (by omega))
theorem crcF_lt (l : List Nat) : ∀ s, s < 4294967296 → (∀ x, x ∈ l → x < 256) → crcF s l < 4294967296 := by
  induction l with
  | nil => intro s h _; exact h
  | cons x l ih =>
    intro s h hx
    exact ih _ (nextB_lt s x h (hx x List.mem_cons_self)) (fun y hy => hx y (List.mem_cons_of_mem _ hy))
theorem crcF_append (s : Nat) (a b : List Nat) : crcF s (a ++ b) = crcF (crcF s a) b := by simp [crcF, List.foldl_append]
theorem crcF_snoc (s : Nat) (a : List Nat) (x : Nat) : crcF s (a ++ [x]) = nextB (crcF s a) x := by simp [crcF]
theorem all_xor (x : Nat) (h : x < 4294967296) : x ^^^ all32 = all32 - x := by
  apply Nat.eq_of_testBit_eq
  intro i
  rw [Nat.testBit_xor]
  have h1 : all32.testBit i = decide (i < 32) := Nat.testBit_two_pow_sub_one 32 i
  have h2 : (all32 - x).testBit i = (decide (i < 32) && !x.testBit i) := by
    have : all32 - x = 2 ^ 32 - (x + 1) := by unfold all32; omega
    rw [this]
    exact Nat.testBit_two_pow_sub_succ (by simpa using h) i
  rw [h1, h2]
  by_cases hi : i < 32
  · simp [hi]
  · have : x.testBit i = false := Nat.testBit_lt_two_pow (Nat.lt_of_lt_of_le (show x < 2 ^ 32 by simpa using h) (Nat.pow_le_pow_right (by omega) (by omega)))
    simp [hi, this]
theorem crc_eq (l : List Nat) (h : ∀ x, x ∈ l → x < 256) : crc l = all32 - crcF all32 l := all_xor _ (crcF_lt l _ (by decide) h)
theorem crc_lt (l : List Nat) (h : ∀ x, x ∈ l → x < 256) : crc l < 4294967296 := by rw [crc_eq l h]; unfold all32; omega

/-- the reference: bit by bit -/
def refStep (s b : Nat) : Nat := if (s % 2 + b) % 2 = 1 then (s / 2) ^^^ poly else s / 2
def refBits : Nat → Nat → Nat → Nat
  | 0, s, _ => s
  | k + 1, s, n => refBits k (refStep s (n % 2)) (n / 2)
theorem refStep_eq (s b : Nat) (h : b < 2) : refStep s b = stepB (s ^^^ b) := by
  unfold refStep stepB
  rw [xor_mod2, xor_div2]
  have h0 : b / 2 = 0 := by omega
  have h1 : b % 2 = b := by omega
  rw [h0, h1, Nat.xor_zero]
theorem split2 (n : Nat) : n = (n % 2) ^^^ (2 * (n / 2)) := by
  apply Nat.eq_of_testBit_eq
  intro i
  cases i with
  | zero => rw [Nat.testBit_xor]; simp [Nat.testBit_zero]
  | succ i =>
    rw [Nat.testBit_xor, Nat.testBit_succ, Nat.testBit_succ, Nat.testBit_succ]
    have h1 : n % 2 / 2 = 0 := by omega
    have h2 : 2 * (n / 2) / 2 = n / 2 := by omega
    rw [h1, h2]; simp
theorem refBits_eq (k : Nat) : ∀ s n, n < 2 ^ k → refBits k s n = steps k (s ^^^ n) := by
  induction k with
  | zero =>
    intro s n h
    obtain rfl : n = 0 := by simpa using h
    simp [refBits, steps]
  | succ k ih =>
    intro s n h
    simp only [refBits, steps]
    rw [ih _ _ (by rw [Nat.pow_succ] at h; omega), refStep_eq _ _ (Nat.mod_lt _ (by omega))]
    congr 1
    have h1 : s ^^^ n = (s ^^^ n % 2) ^^^ (2 * (n / 2)) := by rw [Nat.xor_assoc, ← split2]
    rw [h1, stepB_xor (s ^^^ n % 2), stepB_two]

theorem stepB_inj (a b : Nat) (ha : a < 4294967296) (hb : b < 4294967296) (h : stepB a = stepB b) : a = b := by
  have hp : ∀ s, s < 4294967296 → (stepB s).testBit 31 = decide (s % 2 = 1) := by
    intro s hs
    have h1 : (s / 2).testBit 31 = false := Nat.testBit_lt_two_pow (by omega)
    unfold stepB
    split
    · rename_i hm; rw [Nat.testBit_xor, h1, hm]; decide
    · rename_i hm; rw [h1]; simp [hm]
  have h2 : (decide (a % 2 = 1)) = decide (b % 2 = 1) := by rw [← hp a ha, ← hp b hb, h]
  unfold stepB at h
  by_cases h3 : a % 2 = 1
  · have h4 : b % 2 = 1 := by simpa [h3] using h2.symm
    rw [if_pos h3, if_pos h4] at h
    have h5 : a / 2 = b / 2 := by
      have := congrArg (· ^^^ poly) h
      simpa [Nat.xor_assoc] using this
    omega
  · have h4 : ¬ b % 2 = 1 := by simpa [h3] using h2.symm
    rw [if_neg h3, if_neg h4] at h
    omega
theorem steps_inj (k a b : Nat) (ha : a < 4294967296) (hb : b < 4294967296) (h : steps k a = steps k b) : a = b := by
  induction k generalizing a b with
  | zero => exact h
  | succ k ih => exact stepB_inj a b ha hb (ih _ _ (stepB_lt a ha) (stepB_lt b hb) h)
theorem xor_lt32 (s x : Nat) (h : s < 4294967296) (hx : x < 256) : s ^^^ x < 4294967296 := Nat.xor_lt_two_pow (n := 32) (by simpa using h) (by omega)
theorem nextB_inj_s (s t x : Nat) (hs : s < 4294967296) (ht : t < 4294967296) (hx : x < 256) (h : nextB s x = nextB t x) : s = t := by
  rw [nextB_steps, nextB_steps] at h
  have := congrArg (· ^^^ x) (steps_inj 8 _ _ (xor_lt32 s x hs hx) (xor_lt32 t x ht hx) h)
  simpa [Nat.xor_assoc] using this
theorem nextB_inj_x (s x y : Nat) (hs : s < 4294967296) (hx : x < 256) (hy : y < 256) (h : nextB s x = nextB s y) : x = y := by
  rw [nextB_steps, nextB_steps] at h
  have := congrArg (s ^^^ ·) (steps_inj 8 _ _ (xor_lt32 s x hs hx) (xor_lt32 s y hs hy) h)
  simpa [← Nat.xor_assoc] using this
theorem crcF_inj (l : List Nat) (hl : ∀ x, x ∈ l → x < 256) : ∀ s t, s < 4294967296 → t < 4294967296 → crcF s l = crcF t l → s = t := by
  induction l with
  | nil => intro s t _ _ h; exact h
  | cons x l ih =>
    intro s t hs ht h
    have hx := hl x List.mem_cons_self
    exact nextB_inj_s s t x hs ht hx (ih (fun y hy => hl y (List.mem_cons_of_mem _ hy)) _ _ (nextB_lt s x hs hx) (nextB_lt t x ht hx) h)
/-- a row of bytes one of which is another one has another sum -/
theorem crc_set (l : List Nat) (i y : Nat) (hl : ∀ x, x ∈ l → x < 256) (hi : i < l.length) (hy : y < 256) (h : crc (l.set i y) = crc l) : y = l[i] := by
  have e1 : l = l.take i ++ l[i] :: l.drop (i + 1) := by rw [List.getElem_cons_drop, List.take_append_drop]
  have e2 : l.set i y = l.take i ++ y :: l.drop (i + 1) := by rw [List.set_eq_take_append_cons_drop, if_pos hi]
  have ht : ∀ x, x ∈ l.take i → x < 256 := fun x hx => hl x (List.mem_of_mem_take hx)
  have hd : ∀ x, x ∈ l.drop (i + 1) → x < 256 := fun x hx => hl x (List.mem_of_mem_drop hx)
  have hli := hl l[i] (List.getElem_mem hi)
  have hs := crcF_lt _ _ (show all32 < 4294967296 by decide) ht
  have h1 : crcF all32 (l.set i y) = crcF all32 l := by
    have := congrArg (· ^^^ all32) h
    simpa [crc, Nat.xor_assoc] using this
  rw [e2, e1] at h1
  rw [crcF_append, crcF_append] at h1
  have h2 := crcF_inj _ hd _ _ (nextB_lt _ y hs hy) (nextB_lt _ _ hs hli) (show crcF (nextB (crcF all32 (l.take i)) y) _ = crcF (nextB (crcF all32 (l.take i)) l[i]) _ from by
    have h3 := h1
    simp only [crcF, List.foldl_cons] at h3 ⊢
    simpa using h3)
  exact nextB_inj_x _ _ _ hs hy hli h2
end Go.Proofs.YtgmjhpappamenaaDoor
