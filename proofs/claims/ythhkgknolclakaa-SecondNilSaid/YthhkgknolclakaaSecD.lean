/- second: the library's functions over slices of numbers that are held by cells; parts of such slices. -/
import Derived.Test.YthhkgknolclakaaSecC
namespace Go.Proofs.Ythhkgknolclakaa
open Go Go.RowKit Go.Shelf

theorem idxFrom_in (x : Int) : ∀ (zs : List Int) (i : Nat), x ∈ zs → ∃ k, k < zs.length ∧ Lib.idxFrom zs x i = ((i + k : Nat) : Int) ∧ zs.eraseIdx k = zs.erase x
  | [], _, h => by cases h
  | z :: zs, i, h => by
    by_cases e : z = x
    · exact ⟨0, by simp, by simp [Lib.idxFrom, e], by simp [e]⟩
    · have hx : x ∈ zs := by
        rcases List.mem_cons.1 h with rfl | h
        · exact absurd rfl e
        · exact h
      obtain ⟨k, hk, h1, h2⟩ := idxFrom_in x zs (i + 1) hx
      refine ⟨k + 1, by simpa using hk, ?_, ?_⟩
      · rw [Lib.idxFrom, if_neg e, h1]
        congr 1
        omega
      · rw [List.eraseIdx_cons_succ, h2, List.erase_cons_tail (by simpa using e)]
theorem idx_in {x : Int} {zs : List Int} (h : x ∈ zs) : ∃ k : Nat, k < zs.length ∧ Lib.idxOf zs x = (k : Int) ∧ zs.eraseIdx k = zs.erase x := by
  obtain ⟨k, h1, h2, h3⟩ := idxFrom_in x zs 0 h
  exact ⟨k, h1, by rw [Lib.idxOf, h2, Nat.zero_add], h3⟩
theorem idxFrom_out (x : Int) : ∀ (zs : List Int) (i : Nat), ¬ x ∈ zs → Lib.idxFrom zs x i = -1
  | [], _, _ => rfl
  | z :: zs, i, h => by
    rw [Lib.idxFrom, if_neg (fun e => h (by simp [e])), idxFrom_out x zs (i + 1) (fun e => h (by simp [e]))]
theorem idx_out {x : Int} {zs : List Int} (h : ¬ x ∈ zs) : Lib.idxOf zs x = -1 := idxFrom_out x zs 0 h

theorem plan_nil (w : World) : PlanAt w (.slice none 0 0) [] := ⟨none, 0, rfl, Nat.le_refl _, Nat.zero_le _, fun h => absurd h (by omega)⟩
theorem plan_form {w : World} {v : Value} {l : List Int} (h : PlanAt w v l) : ∃ oa cap, v = .slice oa l.length cap := by
  obtain ⟨oa, cap, h, _⟩ := h
  exact ⟨oa, cap, h⟩
theorem getD_get {l : List Int} {j : Nat} (h : j < l.length) : l.getD j 0 = l[j] := by simp [List.getD, h]

theorem index_any {w : World} {v : Value} {l : List Int} (h : PlanAt w v l) (k : Int) :
    Calls Try.prog 31 #[v, .int .i64 k] w fun e w' => e = .returned (.int .i64 (Lib.idxOf l k)) ∧ w' = w := by
  obtain ⟨oa, cap, rfl, h1, h2, h3⟩ := h
  by_cases h0 : l = []
  · subst h0
    exact Any.slices_Index_int_empty layIndex oa cap k w
  · have hp : 0 < l.length := List.length_pos_iff.2 h0
    obtain ⟨pb, off, rfl, _, hc⟩ := h3 (by omega)
    have := Any.slices_Index_int layIndex pb off l.length cap l k w (Nat.le_refl _) (by unfold maxLen at h2; omega) (fun j hj => by rw [getD_get hj]; exact hc j hj)
    rwa [List.take_length] at this
theorem contains_any {w : World} {v : Value} {l : List Int} (h : PlanAt w v l) (k : Int) :
    Calls Try.prog 30 #[v, .int .i64 k] w fun e w' => e = .returned (.bool (l.contains k)) ∧ w' = w := by
  obtain ⟨oa, cap, rfl, h1, h2, h3⟩ := h
  by_cases h0 : l = []
  · subst h0
    exact Any.slices_Contains_int_empty layContains oa cap k w
  · have hp : 0 < l.length := List.length_pos_iff.2 h0
    obtain ⟨pb, off, rfl, _, hc⟩ := h3 (by omega)
    have := Any.slices_Contains_int layContains pb off l.length cap l k w (Nat.le_refl _) (by unfold maxLen at h2; omega) (fun j hj => by rw [getD_get hj]; exact hc j hj)
    rwa [List.take_length] at this
/-- one element is deleted, in place -/
theorem delete_any {w : World} {v : Value} {l : List Int} (h : PlanAt w v l) {i : Nat} (hi : i < l.length) :
    Calls Try.prog 32 #[v, .int .i64 i, .int .i64 (i + 1 : Nat)] w fun e w' => ∃ v', e = .returned v' ∧ PlanAt w' v' (l.eraseIdx i) ∧ Fr v.ownBlock.toList w w' ∧ v'.ownBlock = v.ownBlock := by
  obtain ⟨oa, cap, rfl, h1, h2, h3⟩ := h
  obtain ⟨pb, off, rfl, hR, hc⟩ := h3 (by omega)
  have := Any.slices_Delete_int_cells layDelete pb off l.length cap i (i + 1) l w (Nat.le_refl _) h1 (by unfold maxLen at h2; omega) (by omega) (by omega) (fun j hj => by rw [getD_get hj]; exact hc j hj)
    (fun j hj => (hR.2 j (by omega)).2)
  refine this.mono ?_
  rintro e w' ⟨rfl, q, rfl⟩
  rw [List.take_length]
  have hl : (l.eraseIdx i).length = l.length - (i + 1 - i) := by rw [List.length_eraseIdx_of_lt hi]; omega
  have he : l.take i ++ l.drop (i + 1) = l.eraseIdx i := (List.eraseIdx_eq_take_drop_succ l i).symm
  rw [show (i + 1 - i) = 1 by omega, he]
  generalize hcs : (l.eraseIdx i ++ List.replicate 1 0).map (Value.int .i64) = cs
  have hcl : cs.length = l.length := by rw [← hcs]; simp; omega
  have hF : Fr [pb] w ((w.drewN q).setCells pb off cs) := Fr.setCells (.inl (by simp)) _ _ _ ((Fr.refl _ _).drewN q)
  have hin := World.cell?_setCells_in pb cs off (w.drewN q) (fun j hj => (hR.2 j (by omega)).1)
  refine ⟨_, rfl, ⟨some ⟨pb, off, none⟩, cap, by rw [hl, show i + 1 - i = 1 by omega], by omega, h2, fun _ => ⟨pb, off, rfl, ⟨Nat.lt_of_lt_of_le hR.1 hF.size, fun j hj => ⟨?_, ?_⟩⟩, fun j hj => ?_⟩⟩, hF.sub (by simp [Value.ownBlock]), rfl⟩
  · by_cases hj2 : j < l.length
    · rw [hin j (by omega)]; rfl
    · rw [World.cell?_setCells_out pb _ _ _ _ (fun _ _ => by rw [hcl]; show off + j < off ∨ off + l.length ≤ off + j; omega)]
      exact (hR.2 j hj).1
  · rw [World.frozen?_setCells]
    exact (hR.2 j hj).2
  · rw [hin j (by omega), Option.some.injEq]
    subst hcs
    rw [List.getElem_map, List.getElem_append_left hj]
/-- a copy of a slice -/
theorem cloneI_any {w : World} {v : Value} {l : List Int} (h : PlanAt w v l) (hl : l.length ≤ 1099511627776) :
    Calls Try.prog 44 #[v] w fun e w' => ∃ v', e = .returned v' ∧ w'.ownsRow w.heap.size 3 1 v' l.length (intC l) ∧ Fr [] w w' := by
  obtain ⟨oa, cap, rfl, h1, h2, h3⟩ := h
  by_cases h0 : l = []
  · subst h0
    cases oa with
    | none =>
      refine (Any.slices_Clone_int_nil layCloneI 0 cap w).mono ?_
      rintro e w' ⟨rfl, rfl⟩
      exact ⟨_, rfl, World.ownsRow_nil _ _ _ _, Fr.refl _ _⟩
    | some a =>
      refine (Any.slices_Clone_int_zero layCloneI a cap w).mono ?_
      rintro e w' ⟨v', rfl, ho, _, hb⟩
      exact ⟨v', rfl, ho, Fr.of_below hb⟩
  · have hp : 0 < l.length := List.length_pos_iff.2 h0
    obtain ⟨pb, off, rfl, _, hc⟩ := h3 (by omega)
    have := Any.slices_Clone_int layCloneI pb off l.length cap l w (Nat.le_refl _) (by omega) (fun j hj => by rw [getD_get hj]; exact hc j hj)
    refine this.mono ?_
    rintro e w' ⟨v', rfl, ho, _, hb⟩
    rw [List.take_length] at ho
    exact ⟨v', rfl, ho, Fr.of_below hb⟩

theorem run_slice_from (w : World) (a : Option Addr) (m k cap : Nat) (hk : k + m ≤ cap) :
    (Instr.slice 31 (.slice a (k + m) cap) (some (.int .i64 m)) none none).run Try.prog w = .ok (.slice (if cap = m then a else a.map (·.add m)) k (cap - m)) w := by
  unfold Instr.slice Instr.sliceBounds Instr.sliceBound
  go_simp
theorem plan_drop {w : World} {a : Option Addr} {m k cap : Nat} {l : List Int} (h : PlanAt w (.slice a (k + m) cap) l) :
    PlanAt w (.slice (if cap = m then a else a.map (·.add m)) k (cap - m)) (l.drop m) ∧ k + m ≤ cap := by
  obtain ⟨oa, c2, he, h1, h2, h3⟩ := h
  simp only [Value.slice.injEq] at he
  obtain ⟨rfl, hl, rfl⟩ := he
  refine ⟨⟨_, _, by rw [List.length_drop, ← hl, Nat.add_sub_cancel], by rw [List.length_drop, ← hl]; omega, by omega, fun hc0 => ?_⟩, by omega⟩
  obtain ⟨pb, off, rfl, hR, hc⟩ := h3 (by omega)
  rw [if_neg (by omega)]
  refine ⟨pb, off + m, by rw [Option.map_some, Addr.add_lit], ⟨hR.1, fun j hj => ?_⟩, fun i hi => ?_⟩
  · have := hR.2 (m + j) (by omega)
    rwa [← Nat.add_assoc] at this
  · rw [List.length_drop] at hi
    have := hc (m + i) (by omega)
    rw [List.getElem_drop, Nat.add_assoc]
    exact this
theorem drop_own (a : Option Addr) (m n k cap c2 : Nat) : (Value.slice (if cap = m then a else a.map (·.add m)) k c2).ownBlock = (Value.slice a n cap).ownBlock := by
  split
  · cases a <;> simp [Value.ownBlock]
  · cases a with
    | none => rfl
    | some v => simp only [Option.map_some, Value.ownBlock, Addr.add]; split <;> rfl
end Go.Proofs.Ythhkgknolclakaa
