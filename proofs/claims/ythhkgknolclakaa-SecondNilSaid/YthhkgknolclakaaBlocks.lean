/- Long arrays: stores of many cells, blocks compared. -/
import Derived.Test.YthhkgknolclakaaKit
import Derived.Deep.MidRow
import Derived.ChangeKeysEq
import Derived.Laws.ResultCell
namespace Go.Proofs.Ythhkgknolclakaa
open Go.RowKit

theorem Blk.setCells {b : Nat} {T : TypeId} : ∀ (vs : List Value) (o : Nat) (w : World) (c : Array Value), Blk w b T c → o + vs.length ≤ c.size →
    Blk (w.setCells b o vs) b T (c.toList.take o ++ vs ++ c.toList.drop (o + vs.length)).toArray := by
  intro vs
  induction vs with
  | nil =>
    intro o w c h hl
    simp only [World.setCells, List.append_nil, List.length_nil, Nat.add_zero, List.take_append_drop]
    exact h
  | cons v r ih =>
    intro o w c h hl
    simp only [List.length_cons] at hl
    have h1 := ih (o + 1) _ _ (h.set o v) (by simp; omega)
    simp only [World.setCells]
    have hol : o < c.toList.length := by simp; omega
    have e : ((c.setIfInBounds o v).toList.take (o + 1) ++ r ++ (c.setIfInBounds o v).toList.drop (o + 1 + r.length)) = (c.toList.take o ++ (v :: r) ++ c.toList.drop (o + (v :: r).length)) := by
      simp only [Array.toList_setIfInBounds, List.length_cons]
      rw [List.take_set, List.drop_set_of_lt (by omega), List.take_succ_eq_append_getElem hol, List.set_append_right _ _ (by simp; omega)]
      have : o - (List.take o c.toList).length = 0 := by simp at hol; simp; omega
      rw [this]
      simp [show o + 1 + r.length = o + (r.length + 1) by omega]
    rw [e] at h1
    exact h1
theorem Blk.setAll {w : World} {b : Nat} {T : TypeId} {c : Array Value} (h : Blk w b T c) (vs : List Value) (hl : vs.length = c.size) : Blk (w.setCells b 0 vs) b T vs.toArray := by
  have := Blk.setCells vs 0 w c h (by omega)
  have e : c.toList.drop (0 + vs.length) = [] := List.drop_eq_nil_of_le (by simp [hl])
  rw [e] at this
  simpa using this
theorem Fr.setCells {S : List Nat} {a : World} {b : Nat} (hb : b ∈ S ∨ a.heap.size ≤ b) : ∀ (vs : List Value) (o : Nat) (w : World), Fr S a w → Fr S a (w.setCells b o vs) := by
  intro vs
  induction vs with
  | nil => intro o w h; exact h
  | cons v r ih => intro o w h; exact ih (o + 1) _ (h.setCell ⟨b, o, none⟩ hb v)
theorem Blk.setCells_ne {b b' : Nat} {T : TypeId} {c : Array Value} (hn : ¬ b = b') : ∀ (vs : List Value) (o : Nat) (w : World), Blk w b' T c → Blk (w.setCells b o vs) b' T c := by
  intro vs
  induction vs with
  | nil => intro o w h; exact h
  | cons v r ih => intro o w h; exact ih (o + 1) _ (h.set_ne ⟨b, o, none⟩ v hn)
theorem setCells_size (b : Nat) : ∀ (vs : List Value) (o : Nat) (w : World), (w.setCells b o vs).heap.size = w.heap.size := by
  intro vs
  induction vs with
  | nil => intro o w; rfl
  | cons v r ih => intro o w; simp only [World.setCells]; rw [ih]; simp [World.setCell]
theorem Blk.range {w : World} {b : Nat} {T : TypeId} {c : Array Value} (h : Blk w b T c) (o : Nat) (cs : List Value) (hc : ∀ (j : Nat) (v : Value), cs[j]? = some v → c[o + j]? = some v) : w.rangeAt b o cs :=
  fun j v hj => h.cell (hc j v hj)
theorem Blk.all {w : World} {b : Nat} {T : TypeId} {cs : List Value} (h : Blk w b T cs.toArray) : w.rangeAt b 0 cs :=
  h.range 0 cs (fun j v hj => by simpa using hj)
theorem Blk.there {w : World} {b : Nat} {T : TypeId} {c : Array Value} (h : Blk w b T c) (o n : Nat) (hn : o + n ≤ c.size) : w.there b o n := by
  intro j hj
  refine ⟨?_, h.frozen _⟩
  rw [h.cell (Array.getElem?_eq_getElem (show o + j < c.size by omega))]
  rfl

def u8s (l : List Nat) : List Value := l.map fun x => .int .u8 (x : Nat)
def pad (n : Nat) (l : List Nat) : List Nat := l ++ List.replicate (n - l.length) 0
theorem pad_len (n : Nat) (l : List Nat) (h : l.length ≤ n) : (pad n l).length = n := by simp [pad]; omega
/-- the value of an array of bytes -/
def bv (l : List Nat) : Array Value := (u8s l).toArray
theorem bv_size (l : List Nat) : (bv l).size = l.length := by simp [bv, u8s]
theorem bv_get (l : List Nat) (i : Nat) (h : i < l.length) : (bv l)[i]? = some (.int .u8 (l[i] : Nat)) := by simp [bv, u8s, h]
theorem bv_one (l : List Nat) : (bv l).all (·.oneCell') = true := by
  refine all_oneCell_toArray ?_
  simp [u8s, Value.oneCell']

section
variable {P : Program}
/-- a whole block of bytes is stored over another one -/
theorem store_all {w : World} {b T : Nat} {c : Array Value} (h : Blk w b T c) (A : List Nat) (hA : A.length = c.size) :
    ∃ W1, (storeCells ⟨b, 0, none⟩ (bv A).toList).run P w = .ok () W1 ∧ Blk W1 b T (bv A) ∧ Fr [b] w W1 ∧ W1.heap.size = w.heap.size := by
  have ht := h.there 0 c.size (by omega)
  have hlen : (u8s A).length = c.size := by simp [u8s, hA]
  have := run_storeCells_cells (P := P) b 0 (u8s A) 0 w (fun j hj => by simpa using (ht j (by omega)).1) (fun j hj => by simpa using (ht j (by omega)).2) (by simp [u8s, Value.oneCell'])
  simp only [Nat.add_zero] at this
  exact ⟨_, this, h.setAll (u8s A) hlen, Fr.setCells (by simp) _ _ _ (Fr.refl _ _), setCells_size _ _ _ _⟩
/-- a whole block of bytes is loaded -/
theorem load_at {w : World} {b T o n : Nat} {c : Array Value} {ty e : TypeId} (h : Blk w b T c) (A : List Nat) (hc : ∀ (j : Nat) (v : Value), (u8s A)[j]? = some v → c[o + j]? = some v) (hu : P.underlying ty = some (.array n e))
    (hi : (P.info? ty).map (·.size) = some n) (hA : A.length = n) : (Instr.loadAt ty (.pointer (some ⟨b, o, none⟩))).run P w = .ok (.agg (bv A)) w :=
  run_loadAt_mid w b o ty (u8s A) _ (h.range o _ hc) hu rfl (by simpa [u8s, hA] using hi)
theorem load_var {w : World} {b T o n : Nat} {c : Array Value} {ty e : TypeId} (h : Blk w b T c) (A : List Nat) (hc : ∀ (j : Nat) (v : Value), (u8s A)[j]? = some v → c[o + j]? = some v) (hu : P.underlying ty = some (.array n e))
    (hi : (P.info? ty).map (·.size) = some n) (hA : A.length = n) : (loadVar ty ⟨b, o, none⟩).run P w = .ok (.agg (bv A)) w :=
  run_loadVar_mid w b o ty (u8s A) _ (h.range o _ hc) hu rfl (by simpa [u8s, hA] using hi)
theorem wpList_load_bv {ops : Array Oper} {rest : List Oper} {op : Oper} {a : Act} {w : World} {Q : Exit → Act → World → Prop} (hgd : op.guard = none) (ty : TypeId) (x : Operand) (ho : op.op = .load ty x)
    (b o : Nat) (hx : a.eval x = .pointer (some ⟨b, o, none⟩)) (A : List Nat) (hc : w.rangeAt b o (u8s A)) {n e : Nat} (hu : P.underlying ty = some (.array n e)) (hi : (P.info? ty).map (·.size) = some n) (hA : A.length = n)
    (h : wpList P ops Q rest (a.put op.dst (.agg (bv A))) w) : wpList P ops Q (op :: rest) a w :=
  wpList_load_mid hgd ty x ho b o hx (u8s A) _ hc hu rfl (by simpa [u8s, hA] using hi) h
/-- the same at a guarded load -/
theorem wpList_load_bvg {ops : Array Oper} {rest : List Oper} {op : Oper} {a : Act} {w : World} {Q : Exit → Act → World → Prop} (hw : Region.wanted op (yielded ops a.tmps) = true) (ty : TypeId) (x : Operand) (ho : op.op = .load ty x)
    (b o : Nat) (hx : a.eval x = .pointer (some ⟨b, o, none⟩)) (A : List Nat) (hc : w.rangeAt b o (u8s A)) {n e : Nat} (hu : P.underlying ty = some (.array n e)) (hi : (P.info? ty).map (·.size) = some n) (hA : A.length = n)
    (h : wpList P ops Q rest (a.put op.dst (.agg (bv A))) w) : wpList P ops Q (op :: rest) a w :=
  wpList_step fun K hK => by
    rw [if_pos hw]
    exact wp_load_mid ty x ho b o hx (u8s A) _ hc hu rfl (by simpa [u8s, hA] using hi) (hK _ _ h)
theorem range_bv {w : World} {b T : Nat} {A : List Nat} (h : Blk w b T (bv A)) : w.rangeAt b 0 (u8s A) := h.range 0 _ (fun j v hj => by simpa [bv] using hj)
theorem bv_self (A : List Nat) : ∀ (j : Nat) (v : Value), (u8s A)[j]? = some v → (bv A)[0 + j]? = some v := by
  intro j v h
  simpa [bv] using h
theorem res_cell_tmp {fn : Func} {p u : Tmp} {ty : TypeId} (h : fn.results = #[.cell p ty, .tmp u]) {tmps : Array Value} {w : World} {a : Addr} {v : Value} (ht : tmps.getD p undef = .pointer (some a))
    (hl : (loadVar ty a).run P w = .ok v w) : (results fn tmps).run P w = .ok (.tuple #[v, tmps.getD u undef]) w := by
  rw [results_cell_tmp h, ht]
  have : (asAddr (.pointer (some a))).run P w = .ok a w := rfl
  rw [this]
  simp only [Result.andThen]
  rw [hl]
theorem res_cell {fn : Func} {p : Tmp} {ty : TypeId} (h : fn.results = #[.cell p ty]) {tmps : Array Value} {w : World} {a : Addr} {v : Value} (ht : tmps.getD p undef = .pointer (some a))
    (hl : (loadVar ty a).run P w = .ok v w) : (results fn tmps).run P w = .ok v w := by
  have h1 : (asAddr (.pointer (some a))).run P w = .ok a w := rfl
  simp only [results, h]
  simp [Sem.run_bind, Result.andThen]
  rw [show tmps[p]?.getD undef = .pointer (some a) by simpa using ht, h1]
  exact hl
/-- '==' of two bytes -/
theorem run_eq_byte {e : TypeId} (he : P.underlying e = some (.int .u8)) (d : Nat) (x y : Nat) (w : World) :
    (Op.equalIn (d + 1) e (.int .u8 (x : Int)) (.int .u8 (y : Int))).run P w = .ok (decide (x = y)) w := by
  simp only [Op.equalIn]
  simp [run_underlying he]
  by_cases h : x = y
  · simp [h]
  · simp [h]; omega
theorem run_items_bytes {e : TypeId} (he : P.underlying e = some (.int .u8)) (hp : P.plainKey e = true) (d : Nat) (A B : List Nat) (w : World) :
    ∀ is : List Nat, (∀ i, i ∈ is → i < A.length ∧ i < B.length) → (Op.eqItems (d + 1) e 1 (bv A) (bv B) is).run P w = .ok (decide (∀ i, i ∈ is → A[i]? = B[i]?)) w := by
  intro is
  induction is with
  | nil => intro _; simp [Op.eqItems]
  | cons i is ih =>
    intro h
    obtain ⟨ha, hb⟩ := h i List.mem_cons_self
    simp only [Op.eqItems, Nat.mul_one, Sem.run_bind]
    rw [run_part_plain w hp (bv_get A i ha), Result.andThen_ok, run_part_plain w hp (bv_get B i hb), Result.andThen_ok, run_eq_byte he, Result.andThen_ok]
    by_cases hab : A[i] = B[i]
    · simp only [hab, decide_true, Bool.not_true, Bool.false_eq_true, if_false]
      rw [ih (fun j hj => h j (List.mem_cons_of_mem _ hj))]
      congr 1
      simp [ha, hb, hab]
    · simp [hab, ha, hb]
theorem run_eql_bytes {t e : TypeId} {n : Nat} {i : TypeInfo} (ht : P.underlying t = some (.array n e)) (he : P.underlying e = some (.int .u8)) (hp : P.plainKey e = true) (hi : P.info? e = some i) (hc : P.cellsOf e = 1)
    (A B : List Nat) (hA : A.length = n) (hB : B.length = n) (w : World) : (binOp .eql t (.agg (bv A)) (.agg (bv B))).run P w = .ok (.bool (decide (A = B))) w := by
  have hk : (Op.equalIn (9999 + 1) t (.agg (bv A)) (.agg (bv B))).run P w = .ok (decide (A = B)) w := by
    rw [run_equalIn_array w 9999 (bv A) (bv B) ht hi, hc, run_items_bytes he hp 9998 A B w (List.range n) (fun j hj => by simp at hj; omega)]
    congr 1
    simp only [decide_eq_decide, List.mem_range]
    constructor
    · intro h
      apply List.ext_getElem?
      intro j
      by_cases hj : j < n
      · exact h j hj
      · rw [List.getElem?_eq_none (by omega), List.getElem?_eq_none (by omega)]
    · intro h j _; rw [h]
  simp only [binOp]
  simp [Op.equal, Op.maxDepth, hk]
theorem run_neq_bytes {t e : TypeId} {n : Nat} {i : TypeInfo} (ht : P.underlying t = some (.array n e)) (he : P.underlying e = some (.int .u8)) (hp : P.plainKey e = true) (hi : P.info? e = some i) (hc : P.cellsOf e = 1)
    (A B : List Nat) (hA : A.length = n) (hB : B.length = n) (w : World) : (binOp .neq t (.agg (bv A)) (.agg (bv B))).run P w = .ok (.bool (!decide (A = B))) w := by
  have h := run_eql_bytes ht he hp hi hc A B hA hB w
  simp only [binOp, Sem.run_bind] at h ⊢
  cases hr : (Op.equal t (.agg (bv A)) (.agg (bv B))).run P w with
  | ok r w1 => rw [hr] at h; simp at h ⊢; obtain ⟨h1, h2⟩ := h; subst h1; subst h2; simp
  | halt x w1 => rw [hr] at h; simp [Result.andThen] at h
theorem run_guard_eql {t : TypeId} {x y : Operand} {a b : Array Value} (w : World) (h : P.eqGuardType P.depth t = false) : (eqGuard .eql t x y (.agg a) (.agg b)).run P w = .ok () w := by
  simp only [eqGuard]
  simp [h]
theorem run_guard_neq {t : TypeId} {x y : Operand} {a b : Array Value} (w : World) (h : P.eqGuardType P.depth t = false) : (eqGuard .neq t x y (.agg a) (.agg b)).run P w = .ok () w := by
  simp only [eqGuard]
  simp [h]
end
end Go.Proofs.Ythhkgknolclakaa
