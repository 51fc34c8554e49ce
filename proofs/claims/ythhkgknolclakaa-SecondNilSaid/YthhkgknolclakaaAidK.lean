/- Small aids for walks: an operation by its run equation, copies of cells. -/
import Derived.Test.YthhkgknolclakaaDrawn
import Derived.Test.YthhkgknolclakaaRange
namespace Go.Proofs.Ythhkgknolclakaa
open Go.RowKit Go.Shelf

section
variable {P : Program} {ops : Array Oper} {Q : Exit → Act → World → Prop} {rest : List Oper} {op : Oper} {a : Act} {w w' : World}
/-- an operation by its run equation -/
theorem wpList_do {v : Value} (hrun : (execOp a.eval op).run P w = .ok (.value v) w') (hgd : op.guard = none) (h : wpList P ops Q rest (a.put op.dst v) w') : wpList P ops Q (op :: rest) a w := by
  refine wpList_plain hgd fun K hK => ?_
  unfold Oper.wp
  rw [hrun, Oper.upon_value]
  exact hK _ _ h
theorem wpList_skip (hrun : (execOp a.eval op).run P w = .ok .skip w') (hgd : op.guard = none) (h : wpList P ops Q rest (a.put op.dst undef) w') : wpList P ops Q (op :: rest) a w := by
  refine wpList_plain hgd fun K hK => ?_
  unfold Oper.wp
  rw [hrun, Oper.upon_skip]
  exact hK _ _ h
end
section
variable {P : Program} {ops : Array Oper} {Q : Exit → Act → World → Prop} {rest : List Oper} {op : Oper} {a : Act} {w w' : World} {ty : TypeId} {x y : Operand} {b o i : Nat} {T : TypeId}
theorem wp_store_end (ho : op.op = .store ty x y) {p : Addr} {cs : Array Value} (hx : a.eval x = .pointer (some p)) (hy : (a.eval y).cells = cs) (hi : (P.info? ty).map (·.size) = some cs.size)
    (hst : (storeCells p cs.toList).run P w = .ok () w') (hgd : op.guard = none) (h : wpList P ops Q rest (a.put op.dst undef) w') : wpList P ops Q (op :: rest) a w := by
  refine wpList_skip (w' := w') ?_ hgd h
  cases hq : P.info? ty with
  | none => simp [hq] at hi
  | some j =>
    have hj : j.size = cs.size := by simpa [hq] using hi
    unfold execOp
    simp only [ho]
    simp [Instr.storeAt, Instr.sureAddr, storeVar, hx, hy, sizeOf, typeInfo, hq, hj, hst]
/-- cells are stored into a block: the world behind it gets a name of its own -/
theorem wpList_sto (ho : op.op = .store ty x y) (hgd : op.guard = none) {c : Array Value} {cs : List Value} (hB : Blk w b T c) (hx : a.eval x = .pointer (some ⟨b, o, none⟩)) (hy : (a.eval y).cells = cs.toArray)
    (hi : (P.info? ty).map (·.size) = some cs.length) (hroom : o + cs.length ≤ c.size) (h1 : ∀ v, v ∈ cs → v.oneCell' = true)
    (h : ∀ W1, Blk W1 b T (c.toList.take o ++ cs ++ c.toList.drop (o + cs.length)).toArray → Fr [b] w W1 → W1.heap.size = w.heap.size → wpList P ops Q rest (a.put op.dst undef) W1) : wpList P ops Q (op :: rest) a w := by
  have ht := hB.there o cs.length hroom
  have := run_storeCells_cells (P := P) b o cs 0 w (fun j hj => by simpa using (ht j hj).1) (fun j hj => by simpa using (ht j hj).2) h1
  simp only [Nat.add_zero] at this
  exact wp_store_end ho hx hy (by simpa using hi) (by simpa using this) hgd (h _ (Blk.setCells cs o w c hB hroom) (Fr.setCells (by simp) _ _ _ (Fr.refl _ _)) (setCells_size _ _ _ _))
/-- a whole block is stored -/
theorem wpList_stoAll (ho : op.op = .store ty x y) (hgd : op.guard = none) {c : Array Value} {cs : List Value} (hB : Blk w b T c) (hx : a.eval x = .pointer (some ⟨b, 0, none⟩)) (hy : (a.eval y).cells = cs.toArray)
    (hi : (P.info? ty).map (·.size) = some cs.length) (hroom : cs.length = c.size) (h1 : ∀ v, v ∈ cs → v.oneCell' = true)
    (h : ∀ W1, Blk W1 b T cs.toArray → Fr [b] w W1 → W1.heap.size = w.heap.size → wpList P ops Q rest (a.put op.dst undef) W1) : wpList P ops Q (op :: rest) a w :=
  wpList_sto ho hgd hB hx hy hi (by omega) h1 fun W1 hB1 hF hs => h W1 (by
    rw [List.drop_of_length_le (by simp; omega)] at hB1
    simpa using hB1) hF hs
/-- one cell is stored -/
theorem wpList_put (ho : op.op = .store ty x y) (hgd : op.guard = none) {c : Array Value} {v : Value} (hB : Blk w b T c) (hx : a.eval x = .pointer (some ⟨b, i, none⟩)) (hy : a.eval y = v) (h1 : v.oneCell' = true)
    (hi : (P.info? ty).map (·.size) = some 1) (hroom : i < c.size)
    (h : ∀ W1, Blk W1 b T (c.setIfInBounds i v) → Fr [b] w W1 → W1.heap.size = w.heap.size → wpList P ops Q rest (a.put op.dst undef) W1) : wpList P ops Q (op :: rest) a w := by
  have hv : v.cells = #[v] := by cases v <;> first | rfl | cases h1
  refine wpList_sto (cs := [v]) ho hgd hB hx (by rw [hy, hv]) hi (by simp; omega) (by simpa using h1) fun W1 hB1 hF hs => h W1 ?_ hF hs
  have e : c.toList.take i ++ [v] ++ c.toList.drop (i + [v].length) = (c.setIfInBounds i v).toList := by
    rw [Array.toList_setIfInBounds, List.set_eq_take_append_cons_drop, if_pos (by simpa using hroom)]
    simp
  rw [e] at hB1
  exact hB1
/-- a guarded load of a whole block -/
theorem wpList_load_allg (hw : Region.wanted op (yielded ops a.tmps) = true) (ty : TypeId) (x : Operand) (ho : op.op = .load ty x) {b : Nat} {T : TypeId} {c : Array Value} (hB : Blk w b T c)
    (hx : a.eval x = .pointer (some ⟨b, 0, none⟩)) (h1 : rowTy P ty = some c.size) (h : wpList P ops Q rest (a.put op.dst (.agg c)) w) : wpList P ops Q (op :: rest) a w :=
  wpList_step fun K hK => by
    rw [if_pos hw]
    obtain ⟨d, hu, hd, hi⟩ := rowTy_spec h1
    exact wp_load_mid ty x ho b 0 hx c.toList d (hB.range 0 c.toList (fun j v hj => by simpa using hj)) hu hd (by simpa using hi) (by simpa using hK _ _ h)
end
/-- cells are stored over a whole block -/
theorem store_list {P : Program} {w : World} {b T : Nat} {c : Array Value} (h : Blk w b T c) (A : List Value) (hA : A.length = c.size) (h1 : ∀ v, v ∈ A → v.oneCell' = true) :
    ∃ W1, (storeCells ⟨b, 0, none⟩ A).run P w = .ok () W1 ∧ Blk W1 b T A.toArray ∧ Fr [b] w W1 ∧ W1.heap.size = w.heap.size := by
  have ht := h.there 0 c.size (by omega)
  have := run_storeCells_cells (P := P) b 0 A 0 w (fun j hj => by simpa using (ht j (by omega)).1) (fun j hj => by simpa using (ht j (by omega)).2) h1
  simp only [Nat.add_zero] at this
  exact ⟨_, this, h.setAll A hA, Fr.setCells (by simp) _ _ _ (Fr.refl _ _), setCells_size _ _ _ _⟩
/-- cells are stored within a block -/
theorem store_mid {P : Program} {w : World} {b T o : Nat} {c : Array Value} (h : Blk w b T c) (A : List Value) (hA : o + A.length ≤ c.size) (h1 : ∀ v, v ∈ A → v.oneCell' = true) :
    ∃ W1, (storeCells ⟨b, o, none⟩ A).run P w = .ok () W1 ∧ Blk W1 b T (c.toList.take o ++ A ++ c.toList.drop (o + A.length)).toArray ∧ Fr [b] w W1 ∧ W1.heap.size = w.heap.size := by
  have ht := h.there o A.length hA
  have := run_storeCells_cells (P := P) b o A 0 w (fun j hj => by simpa using (ht j hj).1) (fun j hj => by simpa using (ht j hj).2) h1
  simp only [Nat.add_zero] at this
  exact ⟨_, this, Blk.setCells A o w c h hA, Fr.setCells (by simp) _ _ _ (Fr.refl _ _), setCells_size _ _ _ _⟩
/-- a variable of one cell is loaded -/
theorem load_one {P : Program} {w : World} {ty : TypeId} {p : Addr} {v : Value} (h1 : oneTy P ty = true) (hc : w.cell? p = some v) : (loadVar ty p).run P w = .ok v w := by
  have hagg : (isAgg ty).run P w = .ok false w := by
    unfold oneTy at h1
    unfold isAgg
    rw [Sem.run_bind]
    cases hu : P.underlying ty with
    | none => rw [hu] at h1; cases h1
    | some d =>
      rw [run_underlying hu w]
      rw [hu] at h1
      cases d <;> simp_all
  simp only [loadVar, Sem.run_bind, hagg]
  simp [hc]
/-- three results that lie in cells -/
theorem res_cells3 {P : Program} {w : World} {fn : Func} {p q r : Tmp} {t1 t2 t3 : TypeId} (h : fn.results = #[.cell p t1, .cell q t2, .cell r t3]) {tmps : Array Value} {a1 a2 a3 : Addr} {v1 v2 v3 : Value}
    (hp : tmps.getD p undef = .pointer (some a1)) (hq : tmps.getD q undef = .pointer (some a2)) (hr : tmps.getD r undef = .pointer (some a3))
    (l1 : (loadVar t1 a1).run P w = .ok v1 w) (l2 : (loadVar t2 a2).run P w = .ok v2 w) (l3 : (loadVar t3 a3).run P w = .ok v3 w) : (results fn tmps).run P w = .ok (.tuple #[v1, v2, v3]) w := by
  have e : ∀ a : Addr, (asAddr (.pointer (some a))).run P w = .ok a w := fun _ => rfl
  simp only [results, h]
  simp only [Array.getD_eq_getD_getElem?] at hp hq hr
  simp [Sem.run_bind, Result.andThen, hp, hq, hr, e, l1, l2, l3]
/-- where an owned row lies -/
theorem owns_range {w : World} {base e size g n cap : Nat} {xs : List Value} (h : w.ownsRow base e size (.slice (some ⟨g, 0, none⟩) n cap) n xs) : w.rangeAt g 0 xs := by
  obtain ⟨h1, ⟨h2, _⟩ | ⟨g', cap', cur, hv, hg, hh, hn, hc, hs, ht⟩⟩ := h
  · cases h2
  · simp only [Value.slice.injEq, Option.some.injEq, Addr.mk.injEq, true_and, and_true] at hv
    obtain ⟨rfl, rfl⟩ := hv
    have hb : Blk w g e cur := hh
    exact hb.range 0 xs (fun j v hj => by rw [Nat.zero_add]; exact take_get ht hj)
theorem range_part {w : World} {g o : Nat} {xs ys : List Value} (k : Nat) (h : w.rangeAt g o xs) (hs : ∀ (j : Nat) (v : Value), ys[j]? = some v → xs[k + j]? = some v) : w.rangeAt g (o + k) ys :=
  fun j v hj => by rw [Nat.add_assoc]; exact h _ _ (hs j v hj)
/-- a whole block is loaded -/
theorem load_all {P : Program} {w : World} {b T : Nat} {c : Array Value} {ty : TypeId} (hB : Blk w b T c) (h1 : rowTy P ty = some c.size) : (loadVar ty ⟨b, 0, none⟩).run P w = .ok (.agg c) w := by
  obtain ⟨d, hu, hd, hi⟩ := rowTy_spec h1
  have := run_loadVar_mid w b 0 ty c.toList d (hB.range 0 c.toList (fun j v hj => by simpa using hj)) hu hd (by simpa using hi)
  simpa using this
end Go.Proofs.Ythhkgknolclakaa
