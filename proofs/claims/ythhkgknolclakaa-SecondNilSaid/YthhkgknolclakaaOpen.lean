/- Arguments of flat types (integers, bools, arrays and structs of these; slices of them) as cells. Nothing here names the program. -/
import Derived.ProofKit
import Derived.OpenShut
import Derived.Deep.Slices
import Derived.Test.YthhkgknolclakaaKit
namespace Go.Proofs.Ythhkgknolclakaa
open Go Go.ChangeShapes Go.WideShapes Go.ChangeAt Go.WideMaps Go.WideElems Go.RowKit Go.Deep

/-- a cell's kind: a bool, or an integer -/
def isK (k : Option IntKind) (v : Value) : Prop :=
  match k with
  | none => ∃ b, v = .bool b
  | some k => ∃ n, v = .int k n ∧ (Lit.int k n).wf = true

def flatFs (g : TypeId → Option (List (Option IntKind))) : List Field → Nat → Option (List (Option IntKind))
  | [], _ => some []
  | f :: r, o => if f.offset = o then (g f.type).bind fun l => (flatFs g r (o + l.length)).map (l ++ ·) else none
/-- the kinds of a flat type's cells -/
def flat (P : Program) : Nat → TypeId → Option (List (Option IntKind))
  | 0, _ => none
  | f + 1, t =>
    (match P.underlying t with
      | some .bool => some [none]
      | some (.int k) => some [some k]
      | some (.array n e) => (flat P f e).map fun l => (List.replicate n l).flatten
      | some (.struct fs) => flatFs (flat P f) fs.toList 0
      | _ => none).bind fun ks => if P.cellsOf t = ks.length then some ks else none

theorem flat_len {P : Program} {f : Nat} {t : TypeId} {ks : List (Option IntKind)} (h : flat P f t = some ks) : P.cellsOf t = ks.length := by
  cases f with
  | zero => simp [flat] at h
  | succ f =>
    unfold flat at h
    obtain ⟨ks', _, h2⟩ := Option.bind_eq_some_iff.1 h
    split at h2
    · cases h2; assumption
    · cases h2

theorem flatten_rep_get {α : Type} (l : List α) : ∀ (n i j : Nat), i < n → j < l.length → ((List.replicate n l).flatten)[i * l.length + j]? = l[j]? := by
  intro n
  induction n with
  | zero => intro i j h; omega
  | succ n ih =>
    intro i j hi hj
    rw [List.replicate_succ, List.flatten_cons]
    cases i with
    | zero => rw [List.getElem?_append_left (by omega)]; simp
    | succ i =>
      rw [List.getElem?_append_right (by rw [Nat.succ_mul]; omega)]
      rw [show (i + 1) * l.length + j - l.length = i * l.length + j by rw [Nat.succ_mul]; omega]
      exact ih i j (by omega) hj

section
variable {H : Type} {enc : TypeId × Value → H} {P : Program} {w : World} {base : Nat} {spare : Nat → Bool} {held : Bool}
theorem flatFs_ok (g : TypeId → Option (List (Option IntKind))) (n : Nat) (cs : List Value)
    (hg : ∀ t cs x ks, DataW.trod enc P w base spare held n t cs = some x → g t = some ks → P.cellsOf t = ks.length ∧ x.2 = [] ∧ ∀ (i : Nat) (k : Option IntKind), ks[i]? = some k → ∃ v, cs[i]? = some v ∧ isK k v) :
    ∀ (fs : List Field) (o : Nat) (ks : List (Option IntKind)) (xs : List (DataW H × List MemPlace)), flatFs g fs o = some ks → xs.length = fs.length →
      (∀ (i : Nat) (f : Field), fs[i]? = some f → DataW.trod enc P w base spare held n f.type ((cs.drop f.offset).take (P.cellsOf f.type)) = xs[i]?) →
      xs.flatMap (·.2) = [] ∧ ∀ (i : Nat) (k : Option IntKind), ks[i]? = some k → ∃ v, cs[o + i]? = some v ∧ isK k v := by
  intro fs
  induction fs with
  | nil =>
    intro o ks xs h hl _
    simp only [flatFs, Option.some.injEq] at h
    subst h
    obtain rfl : xs = [] := List.eq_nil_of_length_eq_zero (by simpa using hl)
    exact ⟨rfl, fun i k hk => by simp at hk⟩
  | cons f r ih =>
    intro o ks xs h hl hx
    unfold flatFs at h
    split at h
    · rename_i ho
      obtain ⟨l, hl1, hl2⟩ := Option.bind_eq_some_iff.1 h
      obtain ⟨ks', hk1, rfl⟩ := Option.map_eq_some_iff.1 hl2
      cases xs with
      | nil => simp at hl
      | cons x xs =>
        have h0 := hx 0 f rfl
        simp only [List.getElem?_cons_zero] at h0
        obtain ⟨hc, hp, hi⟩ := hg _ _ _ _ h0 hl1
        obtain ⟨hps, his⟩ := ih (o + l.length) ks' xs hk1 (by simpa using hl) (fun i f' hf' => by have := hx (i + 1) f' (by simpa using hf'); simpa using this)
        refine ⟨by simp [hp, hps], fun i k hk => ?_⟩
        rw [List.getElem?_append] at hk
        split at hk
        · rename_i hil
          obtain ⟨v, hv, hkv⟩ := hi i k hk
          refine ⟨v, ?_, hkv⟩
          rw [List.getElem?_take, ho, List.getElem?_drop] at hv
          split at hv
          · exact hv
          · cases hv
        · rename_i hil
          obtain ⟨v, hv, hkv⟩ := his (i - l.length) k hk
          refine ⟨v, ?_, hkv⟩
          rw [← hv]; congr 1; omega
    · cases h

theorem flat_ok : ∀ (f n : Nat) (t : TypeId) (cs : List Value) (x : DataW H × List MemPlace) (ks : List (Option IntKind)), DataW.trod enc P w base spare held n t cs = some x → flat P f t = some ks →
    P.cellsOf t = ks.length ∧ x.2 = [] ∧ ∀ (i : Nat) (k : Option IntKind), ks[i]? = some k → ∃ v, cs[i]? = some v ∧ isK k v := by
  intro f
  induction f with
  | zero => intro n t cs x ks _ h; simp [flat] at h
  | succ f ih =>
    intro n t cs x ks h hf
    refine ⟨flat_len hf, ?_⟩
    unfold flat at hf
    obtain ⟨ks', hk, h2⟩ := Option.bind_eq_some_iff.1 hf
    obtain rfl : ks' = ks := by
      split at h2
      · simpa using h2
      · cases h2
    clear h2
    split at hk
    · rename_i ht
      cases hk
      obtain ⟨b, rfl, rfl⟩ := DataW.trod_bool ht h
      refine ⟨rfl, fun i k hk => ?_⟩
      match i, hk with
      | 0, hk => simp at hk; subst hk; exact ⟨_, rfl, b, rfl⟩
    · rename_i k ht
      cases hk
      obtain ⟨m, rfl, rfl, hw⟩ := DataW.trod_int ht h
      refine ⟨rfl, fun i k hk => ?_⟩
      match i, hk with
      | 0, hk => simp at hk; subst hk; exact ⟨_, rfl, m, rfl, hw⟩
    · rename_i m e ht
      obtain ⟨l, hl, rfl⟩ := Option.map_eq_some_iff.1 hk
      obtain ⟨xs, n', rfl, rfl, hlen, hxl, hel⟩ := DataW.trod_array ht h
      have hce := flat_len hl
      have hx : ∀ i, i < m → ∃ y, xs[i]? = some y ∧ y.2 = [] ∧ ∀ j k, l[j]? = some k → ∃ v, cs[i * l.length + j]? = some v ∧ isK k v := by
        intro i hi
        have h1 := hel i hi
        have hi' : i < xs.length := by omega
        rw [List.getElem?_eq_getElem hi'] at h1
        obtain ⟨_, hp, hv⟩ := ih _ _ _ _ _ h1 hl
        refine ⟨_, List.getElem?_eq_getElem hi', hp, fun j k hk => ?_⟩
        obtain ⟨v, hv1, hv2⟩ := hv j k hk
        refine ⟨v, ?_, hv2⟩
        rw [hce, List.getElem?_take, List.getElem?_drop] at hv1
        split at hv1
        · exact hv1
        · cases hv1
      refine ⟨?_, fun i k hk => ?_⟩
      · simp only [List.flatMap_eq_nil_iff]
        intro y hy
        obtain ⟨i, hi, rfl⟩ := List.getElem_of_mem hy
        obtain ⟨y, hy1, hy2, _⟩ := hx i (by omega)
        rw [List.getElem?_eq_getElem hi] at hy1
        cases hy1
        exact hy2
      · by_cases hl0 : l.length = 0
        · have : l = [] := List.eq_nil_of_length_eq_zero hl0
          subst this
          simp at hk
        · have hlt : i < m * l.length := by
            have := (List.getElem?_eq_some_iff.1 hk).1
            simpa [List.length_flatten] using this
          have hd : i / l.length < m := Nat.div_lt_of_lt_mul (by rw [Nat.mul_comm]; exact hlt)
          have hm : i % l.length < l.length := Nat.mod_lt _ (by omega)
          have he : i = i / l.length * l.length + i % l.length := by rw [Nat.mul_comm]; exact (Nat.div_add_mod i l.length).symm
          rw [he, flatten_rep_get l m _ _ hd hm] at hk
          obtain ⟨_, _, _, h3⟩ := hx _ hd
          obtain ⟨v, hv1, hv2⟩ := h3 _ k hk
          exact ⟨v, by rw [he]; exact hv1, hv2⟩
    · rename_i fs ht
      obtain ⟨xs, n', rfl, rfl, hlen, hxl, hel⟩ := DataW.trod_struct ht h
      have := flatFs_ok (flat P f) n' cs (fun t cs x ks h1 h2 => ih n' t cs x ks h1 h2) fs.toList 0 _ xs hk (by simpa using hxl) (fun i f hf => hel i f (by simpa using hf))
      simpa using this
    · cases hk

/-- a slice of a flat type, as cells -/
theorem open_flats {t e : TypeId} {v : Value} {d : DataW H} {p : List MemPlace} {f : Nat} {ks : List (Option IntKind)} (ht : P.underlying t = some (.slice e)) (hk : flat P f e = some ks) (hk0 : 0 < ks.length)
    (hv : ∃ (a : Option Addr) (len cap : Nat), v = .slice a len cap) (h : DataW.Trod enc P w base spare held t v d p) :
    ∃ (oa : Option Addr) (len cap : Nat), v = .slice oa len cap ∧ len ≤ maxLen ∧ ∀ i, i < len → ∃ b off, oa = some ⟨b, off, none⟩ ∧ ∀ (j : Nat) (k : Option IntKind), ks[j]? = some k → ∃ u, w.cell? ⟨b, off + i * ks.length + j, none⟩ = some u ∧ isK k u := by
  obtain ⟨oa0, len0, cap0, rfl⟩ := hv
  obtain ⟨n, hn⟩ := h
  rcases open_slice ht hn with ⟨hcs, hx⟩ | ⟨a, len, cap, m, n', D, Pl, hcs, hb, hl, hm, hmm, hx, hi⟩
  · simp only [Value.cells, List.cons.injEq, Value.slice.injEq, and_true] at hcs
    obtain ⟨rfl, rfl, rfl⟩ := hcs
    exact ⟨none, 0, 0, rfl, Nat.zero_le _, fun i h => by omega⟩
  · simp only [Value.cells, List.cons.injEq, Value.slice.injEq, and_true] at hcs
    obtain ⟨rfl, rfl, rfl⟩ := hcs
    refine ⟨some a, len0, cap0, rfl, by omega, fun i hil => ?_⟩
    have him : i < m := by rw [hmm]; split <;> omega
    obtain ⟨cs', hc, htr⟩ := hi i him
    obtain ⟨_, hlen, hat⟩ := World.cells?_some hc
    obtain ⟨hce, _, hcell⟩ := flat_ok _ _ _ _ _ _ htr hk
    have hnone : a.spot = none := by
      obtain ⟨cs0, hc0, htr0⟩ := hi 0 (by omega)
      obtain ⟨_, _, hat0⟩ := World.cells?_some hc0
      obtain ⟨hce0, _, hcell0⟩ := flat_ok _ _ _ _ _ _ htr0 hk
      obtain ⟨u, hu, _⟩ := hcell0 0 _ (List.getElem?_eq_getElem hk0)
      have h0 := hat0 0 (by omega)
      rw [hu] at h0
      cases hs : a.spot with
      | none => rfl
      | some s =>
        exfalso
        simp only [Nat.zero_mul, Addr.add, if_true] at h0
        unfold World.cell? at h0
        rw [hs] at h0
        split at h0 <;> simp at h0
    obtain ⟨ab, ao, as⟩ := a
    simp only at hnone
    subst hnone
    refine ⟨ab, ao, rfl, fun j k hj => ?_⟩
    obtain ⟨u, hu, hku⟩ := hcell j k hj
    refine ⟨u, ?_, hku⟩
    have hjl : j < ks.length := (List.getElem?_eq_some_iff.1 hj).1
    have h1 := hat j (by omega)
    rw [hu] at h1
    rw [← h1, hce]
    congr 1
    unfold Addr.add
    split <;> split <;> simp_all <;> omega
end
end Go.Proofs.Ythhkgknolclakaa
