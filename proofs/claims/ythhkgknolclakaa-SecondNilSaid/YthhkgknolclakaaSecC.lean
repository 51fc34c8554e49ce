/- second: what a clock's map is. -/
import Derived.Maps.OwnSet
import Derived.Maps.Keyed
import Derived.Test.YthhkgknolclakaaSecA
import Derived.Test.YthhkgknolclakaaSecB
namespace Go.Proofs.Ythhkgknolclakaa
open Go Go.RowKit Go.Shelf Go.Maps

theorem lawI : Keyed Try.prog 3 := int_keyed Try.underlying3
theorem zeroI (w : World) : (zeroValue 3).run Try.prog w = .ok (.int .i64 0) w := by kernel_rfl
def kofs (L : List (Int × Bool)) : List Int := L.map (·.1)
theorem askOf_mem {L : List (Int × Bool)} (hn : (kofs L).Nodup) {k : Int} {a : Bool} (h : (k, a) ∈ L) : askOf L k = a := by
  induction L with
  | nil => cases h
  | cons p r ih =>
    unfold kofs at hn ih
    rw [List.map_cons, List.nodup_cons] at hn
    unfold askOf
    rcases List.mem_cons.1 h with rfl | h
    · simp
    · rw [if_neg (fun e : p.1 = k => hn.1 (by rw [e]; exact List.mem_map_of_mem (f := (·.1)) h)), ih hn.2 h]
theorem mem_kofs {L : List (Int × Bool)} {k : Int} : k ∈ kofs L ↔ ∃ a, (k, a) ∈ L := by
  constructor
  · intro h
    obtain ⟨p, hp, rfl⟩ := List.mem_map.1 h
    exact ⟨p.2, hp⟩
  · rintro ⟨a, h⟩
    exact List.mem_map_of_mem (f := (·.1)) h
/-- a map has these keys, and tells of each whether it was asked for -/
structure MapIs (D : DataW Unit) (L : List (Int × Bool)) : Prop where
  has : ∀ k, Maps.has D (.int .i64 k) = true ↔ k ∈ kofs L
  at_ : ∀ k a, (k, a) ∈ L → D.atKey (.int .i64 k) (.lit (.int .i64 0)) = .lit (.int .i64 (if a = true then 1 else 0))
def bitOf (a : Bool) : DataW Unit := .lit (.int .i64 (if a = true then 1 else 0))
theorem keyLit (k : Int) : WideAt.IsKeyLit (.int .i64 k) := trivial
theorem key_ne {k k' : Int} (h : ¬ k' = k) : (Lit.int .i64 k') ≠ .int .i64 k := fun e => h (by injection e)
theorem MapIs.nil : MapIs (.map []) [] := ⟨fun k => by simp [Maps.has, kofs], fun k a h => by cases h⟩
theorem MapIs.hasB {D : DataW Unit} {L : List (Int × Bool)} (h : MapIs D L) (k : Int) : Maps.has D (.int .i64 k) = (kofs L).contains k := by
  rw [Bool.eq_iff_iff, h.has]
  simp
theorem MapIs.perm {D : DataW Unit} {L L' : List (Int × Bool)} (h : MapIs D L) (hp : ∀ p, p ∈ L ↔ p ∈ L') : MapIs D L' :=
  ⟨fun k => (h.has k).trans (by simp only [mem_kofs, hp]), fun k a ha => h.at_ k a ((hp _).2 ha)⟩
theorem MapIs.add {D : DataW Unit} {L : List (Int × Bool)} (h : MapIs D L) (hD : IsMap D) {k : Int} (hk : ¬ k ∈ kofs L) (a : Bool) : MapIs (D.put (.int .i64 k) (bitOf a)) (L ++ [(k, a)]) := by
  refine ⟨fun k' => ?_, fun k' a' ha => ?_⟩
  · by_cases e : k' = k
    · subst e
      rw [has_put_same hD (keyLit _)]
      simp [kofs]
    · rw [has_put_other (key_ne e), h.has]
      simp [kofs, e]
  · rcases List.mem_append.1 ha with ha | ha
    · have e : ¬ k' = k := fun e => hk (mem_kofs.2 ⟨a', e ▸ ha⟩)
      rw [atKey_put_other (key_ne e)]
      exact h.at_ k' a' ha
    · simp only [List.mem_singleton, Prod.mk.injEq] at ha
      obtain ⟨rfl, rfl⟩ := ha
      exact atKey_put_same hD (keyLit _) _ _
theorem kofs_setAsk (L : List (Int × Bool)) (k : Int) (a : Bool) : kofs (setAsk L k a) = kofs L := by
  unfold kofs setAsk
  rw [List.map_map]
  refine List.map_congr_left fun p _ => ?_
  simp only [Function.comp]
  split
  · rename_i e; exact e.symm
  · rfl
theorem MapIs.set {D : DataW Unit} {L : List (Int × Bool)} (h : MapIs D L) (hD : IsMap D) {k : Int} (hk : k ∈ kofs L) (a : Bool) : MapIs (D.put (.int .i64 k) (bitOf a)) (setAsk L k a) := by
  refine ⟨fun k' => ?_, fun k' a' ha => ?_⟩
  · rw [kofs_setAsk]
    by_cases e : k' = k
    · subst e
      rw [has_put_same hD (keyLit _)]
      simp [hk]
    · rw [has_put_other (key_ne e), h.has]
  · unfold setAsk at ha
    obtain ⟨p, hp, he⟩ := List.mem_map.1 ha
    by_cases e : p.1 = k
    · rw [if_pos e] at he
      cases he
      exact atKey_put_same hD (keyLit _) _ _
    · rw [if_neg e] at he
      subst he
      rw [atKey_put_other (key_ne e)]
      exact h.at_ _ _ hp
theorem mem_dropK {L : List (Int × Bool)} {k : Int} {p : Int × Bool} : p ∈ dropK L k ↔ p ∈ L ∧ ¬ p.1 = k := by simp [dropK]
theorem MapIs.del {D : DataW Unit} {L : List (Int × Bool)} (h : MapIs D L) (k : Int) : MapIs (D.del (.int .i64 k)) (dropK L k) := by
  refine ⟨fun k' => ?_, fun k' a' ha => ?_⟩
  · by_cases e : k' = k
    · subst e
      rw [has_del_same, mem_kofs]
      simp [mem_dropK]
    · rw [has_del_other (key_ne e), h.has, mem_kofs, mem_kofs]
      simp [mem_dropK, e]
  · obtain ⟨hp, he⟩ := mem_dropK.1 ha
    rw [atKey_del_other (key_ne he)]
    exact h.at_ _ _ hp
/-- a block is a clock's map -/
def MapAt (w : World) (b : Nat) (L : List (Int × Bool)) : Prop := ∃ D : DataW Unit, w.ownsMap Try.prog 3 (plainElem Try.prog 3) b L.length D ∧ MapIs D L
theorem owns_map_fr {H : Type} {S : List Nat} {w w' : World} {k : TypeId} {R : Value → Option (DataW H × List MemPlace)} {b n : Nat} {D : DataW H} (h : w.ownsMap Try.prog k R b n D) (hF : Fr S w w') (hs : ¬ b ∈ S) : w'.ownsMap Try.prog k R b n D := by
  have hlt := h.lt
  obtain ⟨es, clock, hb, r⟩ := h
  exact ⟨es, clock, (hF.block b hlt hs).trans hb, r⟩
theorem owns_map_low {H : Type} {w : World} {k : TypeId} {R : Value → Option (DataW H × List MemPlace)} {b n m : Nat} {D : DataW H} (h : w.ownsMap Try.prog k R b n D) (hm : Maps.size D ≤ m) : w.ownsMap Try.prog k R b m D := by
  obtain ⟨es, clock, hb, F, hs, rfl⟩ := h
  refine ⟨es, clock, hb, F, ?_, rfl⟩
  simpa [Maps.size, length_sorted] using hm
theorem MapAt.fr {S : List Nat} {w w' : World} {b : Nat} {L : List (Int × Bool)} (h : MapAt w b L) (hF : Fr S w w') (hs : ¬ b ∈ S) : MapAt w' b L := by
  obtain ⟨D, hD, hi⟩ := h
  exact ⟨D, owns_map_fr hD hF hs, hi⟩
theorem MapAt.lt {w : World} {b : Nat} {L : List (Int × Bool)} (h : MapAt w b L) : b < w.heap.size := h.elim fun _ h => h.1.lt
theorem MapAt.perm {w : World} {b : Nat} {L L' : List (Int × Bool)} (h : MapAt w b L) (hp : ∀ p, p ∈ L ↔ p ∈ L') (hl : L.length = L'.length) : MapAt w b L' := by
  obtain ⟨D, hD, hi⟩ := h
  exact ⟨D, hl ▸ hD, hi.perm hp⟩
theorem MapAt.made (w : World) : MapAt (w.alloc (.map #[] 0)) w.heap.size [] := ⟨_, World.ownsMap_made _ _ _ _, MapIs.nil⟩
/-- what is stored under a key that is there -/
theorem map_set {w w' : World} {b n : Nat} {D : DataW Unit} {L : List (Int × Bool)} (hi : MapIs D L) (h0 : w.ownsMap Try.prog 3 (plainElem Try.prog 3) b L.length D) {k : Int} (hk : k ∈ kofs L) (a : Bool)
    (h : w'.ownsMap Try.prog 3 (plainElem Try.prog 3) b n (D.put (.int .i64 k) (bitOf a))) : MapAt w' b (setAsk L k a) := by
  refine ⟨_, owns_map_low h ?_, hi.set h0.isMap hk a⟩
  rw [size_put (h0.tidy lawI), (hi.has k).2 hk]
  have := h0.size_le
  simpa [setAsk] using this
theorem map_add {w w' : World} {b n : Nat} {D : DataW Unit} {L : List (Int × Bool)} (hi : MapIs D L) (h0 : w.ownsMap Try.prog 3 (plainElem Try.prog 3) b L.length D) {k : Int} (hk : ¬ k ∈ kofs L) (a : Bool)
    (h : w'.ownsMap Try.prog 3 (plainElem Try.prog 3) b n (D.put (.int .i64 k) (bitOf a))) : MapAt w' b (L ++ [(k, a)]) := by
  refine ⟨_, owns_map_low h ?_, hi.add h0.isMap hk a⟩
  rw [size_put (h0.tidy lawI)]
  have := h0.size_le
  split <;> simp <;> omega
theorem map_del {w w' : World} {b n : Nat} {D : DataW Unit} {L : List (Int × Bool)} (hi : MapIs D L) (h0 : w.ownsMap Try.prog 3 (plainElem Try.prog 3) b L.length D) {k : Int} (hk : k ∈ kofs L) (hn : (dropK L k).length + 1 = L.length)
    (h : w'.ownsMap Try.prog 3 (plainElem Try.prog 3) b n (D.del (.int .i64 k))) : MapAt w' b (dropK L k) := by
  refine ⟨_, owns_map_low h ?_, hi.del k⟩
  have h1 := size_del (h0.tidy lawI) (k := .int .i64 k)
  rw [(hi.has k).2 hk] at h1
  have := h0.size_le
  simp at h1
  omega
end Go.Proofs.Ythhkgknolclakaa
