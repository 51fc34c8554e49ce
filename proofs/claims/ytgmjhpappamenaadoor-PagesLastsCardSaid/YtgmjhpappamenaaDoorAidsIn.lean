/- Small aids for walks inside a fence: loads and stores of blocks. -/
import Derived.Test.YtgmjhpappamenaaDoorAids
import Derived.Test.YtgmjhpappamenaaDoorRange
namespace Go.Proofs.YtgmjhpappamenaaDoor
open Go.RowKit Go.Shelf

section
variable {P : Program} {ops : Array Oper} {Q : Exit → Act → World → Prop} {F : Fence} {n : Nat} {rest : List Oper} {op : Oper} {a : Act} {w w' : World} {ty : TypeId} {x y : Operand} {b o i : Nat} {T : TypeId}
theorem wpListIn_val {v : Value} (hno : ∀ c, op.op ≠ .defer c) (hab : ∀ f, Oper.about P w a.eval op = some f → F.fn f) (hrun : (execOp a.eval op).run P w = .ok (.value v) w') (hgd : op.guard = none)
    (h : wpListIn F n P ops Q rest (a.put op.dst v) w') : wpListIn F n P ops Q (op :: rest) a w := by
  refine wpListIn_plain hgd fun K hK => ?_
  refine ⟨fun f hf => hab f hf, ?_⟩
  rw [Oper.semAt_plain F a.eval op hno, hrun, Oper.uponIn_value]
  exact hK _ _ h
theorem wpListIn_skp (hno : ∀ c, op.op ≠ .defer c) (hab : ∀ f, Oper.about P w a.eval op = some f → F.fn f) (hrun : (execOp a.eval op).run P w = .ok .skip w') (hgd : op.guard = none)
    (h : wpListIn F n P ops Q rest (a.put op.dst undef) w') : wpListIn F n P ops Q (op :: rest) a w := by
  refine wpListIn_plain hgd fun K hK => ?_
  refine ⟨fun f hf => hab f hf, ?_⟩
  rw [Oper.semAt_plain F a.eval op hno, hrun, Oper.uponIn_skip]
  exact hK _ _ h
theorem run_store_end (ho : op.op = .store ty x y) {p : Addr} {cs : Array Value} (hx : a.eval x = .pointer (some p)) (hy : (a.eval y).cells = cs) (hi : (P.info? ty).map (·.size) = some cs.size)
    (hst : (storeCells p cs.toList).run P w = .ok () w') : (execOp a.eval op).run P w = .ok .skip w' := by
  cases hq : P.info? ty with
  | none => simp [hq] at hi
  | some j =>
    have hj : j.size = cs.size := by simpa [hq] using hi
    unfold execOp
    simp only [ho]
    simp [Instr.storeAt, Instr.sureAddr, storeVar, hx, hy, sizeOf, typeInfo, hq, hj, hst]
/-- cells are stored into a block: the world behind it gets a name of its own -/
theorem wpListIn_sto (ho : op.op = .store ty x y) (hgd : op.guard = none) {c : Array Value} {cs : List Value} (hB : Blk w b T c) (hx : a.eval x = .pointer (some ⟨b, o, none⟩)) (hy : (a.eval y).cells = cs.toArray)
    (hi : (P.info? ty).map (·.size) = some cs.length) (hroom : o + cs.length ≤ c.size) (h1 : ∀ v, v ∈ cs → v.oneCell' = true)
    (h : ∀ W1, Blk W1 b T (c.toList.take o ++ cs ++ c.toList.drop (o + cs.length)).toArray → Fr [b] w W1 → W1.heap.size = w.heap.size → wpListIn F n P ops Q rest (a.put op.dst undef) W1) : wpListIn F n P ops Q (op :: rest) a w := by
  have ht := hB.there o cs.length hroom
  have := run_storeCells_cells (P := P) b o cs 0 w (fun j hj => by simpa using (ht j hj).1) (fun j hj => by simpa using (ht j hj).2) h1
  simp only [Nat.add_zero] at this
  exact wpListIn_skp (fun c h => by rw [ho] at h; cases h) (fun f hf => by unfold Oper.about at hf; rw [ho] at hf; cases hf) (run_store_end ho hx hy (by simpa using hi) (by simpa using this)) hgd
    (h _ (Blk.setCells cs o w c hB hroom) (Fr.setCells (by simp) _ _ _ (Fr.refl _ _)) (setCells_size _ _ _ _))
theorem wpListIn_stoAll (ho : op.op = .store ty x y) (hgd : op.guard = none) {c : Array Value} {cs : List Value} (hB : Blk w b T c) (hx : a.eval x = .pointer (some ⟨b, 0, none⟩)) (hy : (a.eval y).cells = cs.toArray)
    (hi : (P.info? ty).map (·.size) = some cs.length) (hroom : cs.length = c.size) (h1 : ∀ v, v ∈ cs → v.oneCell' = true)
    (h : ∀ W1, Blk W1 b T cs.toArray → Fr [b] w W1 → W1.heap.size = w.heap.size → wpListIn F n P ops Q rest (a.put op.dst undef) W1) : wpListIn F n P ops Q (op :: rest) a w :=
  wpListIn_sto ho hgd hB hx hy hi (by omega) h1 fun W1 hB1 hF hs => h W1 (by
    rw [List.drop_of_length_le (by simp; omega)] at hB1
    simpa using hB1) hF hs
/-- one cell is stored -/
theorem wpListIn_put (ho : op.op = .store ty x y) (hgd : op.guard = none) {c : Array Value} {v : Value} (hB : Blk w b T c) (hx : a.eval x = .pointer (some ⟨b, i, none⟩)) (hy : a.eval y = v) (h1 : v.oneCell' = true)
    (hi : (P.info? ty).map (·.size) = some 1) (hroom : i < c.size)
    (h : ∀ W1, Blk W1 b T (c.setIfInBounds i v) → Fr [b] w W1 → W1.heap.size = w.heap.size → wpListIn F n P ops Q rest (a.put op.dst undef) W1) : wpListIn F n P ops Q (op :: rest) a w := by
  have hv : v.cells = #[v] := by cases v <;> first | rfl | cases h1
  refine wpListIn_sto (cs := [v]) ho hgd hB hx (by rw [hy, hv]) hi (by simp; omega) (by simpa using h1) fun W1 hB1 hF hs => h W1 ?_ hF hs
  have e : c.toList.take i ++ [v] ++ c.toList.drop (i + [v].length) = (c.setIfInBounds i v).toList := by
    rw [Array.toList_setIfInBounds, List.set_eq_take_append_cons_drop, if_pos (by simpa using hroom)]
    simp
  rw [e] at hB1
  exact hB1
/-- a whole block is loaded -/
theorem wpListIn_load_all (hgd : op.guard = none) (ty : TypeId) (x : Operand) (ho : op.op = .load ty x) {c : Array Value} (hB : Blk w b T c)
    (hx : a.eval x = .pointer (some ⟨b, 0, none⟩)) (h1 : rowTy P ty = some c.size) (h : wpListIn F n P ops Q rest (a.put op.dst (.agg c)) w) : wpListIn F n P ops Q (op :: rest) a w := by
  obtain ⟨d, hu, hd, hi⟩ := rowTy_spec h1
  refine wpListIn_val (fun c h => by rw [ho] at h; cases h) (fun f hf => by unfold Oper.about at hf; rw [ho] at hf; cases hf) ?_ hgd h
  unfold execOp
  have := run_loadAt_mid w b 0 ty c.toList d (hB.range 0 c.toList (fun j v hj => by simpa using hj)) hu hd (by simpa using hi)
  simp only [Array.toArray_toList] at this
  simp only [ho, hx, Sem.run_bind, this, Result.andThen_ok, Sem.run_pure]
/-- a composite value is built -/
theorem wpListIn_build {t : TypeId} {parts : Array (Nat × Operand)} {v : Value} (ho : op.op = .build t parts) (hrun : (execOp a.eval op).run P w = .ok (.value v) w) (hgd : op.guard = none)
    (h : wpListIn F n P ops Q rest (a.put op.dst v) w) : wpListIn F n P ops Q (op :: rest) a w :=
  wpListIn_val (fun c h => by rw [ho] at h; cases h) (fun f hf => by unfold Oper.about at hf; rw [ho] at hf; cases hf) hrun hgd h
theorem wpListIn_slice {t : TypeId} {m : Nat} {parts : Array (Nat × Operand)} {v : Value} (ho : op.op = .buildSlice t m parts) (hrun : (execOp a.eval op).run P w = .ok (.value v) w') (hgd : op.guard = none)
    (h : wpListIn F n P ops Q rest (a.put op.dst v) w') : wpListIn F n P ops Q (op :: rest) a w :=
  wpListIn_val (fun c h => by rw [ho] at h; cases h) (fun f hf => by unfold Oper.about at hf; rw [ho] at hf; cases hf) hrun hgd h
end
end Go.Proofs.YtgmjhpappamenaaDoor
