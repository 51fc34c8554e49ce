/- forms: pages: which may be. -/
import Derived.Test.YtgmjhpappamenaaDoorFormG
import Derived.Laws.IdiomCopy
namespace Go.Proofs.YtgmjhpappamenaaDoor
open Go.RowKit Go.Shelf

structure En where
  b : Int
  s : Int
  d : Bool
  m : Int
def enC (e : En) : List Value := [.int .i64 e.b, .int .i64 e.s, .bool e.d, .int .i64 e.m]
def ensC (es : List En) : List Value := es.flatMap enC
def en0 : En := ⟨0, 0, false, 0⟩
def eqEn (x y : En) : Bool := x.b == y.b && (x.s == y.s && (x.d == y.d && x.m == y.m))
theorem eqEn_iff {x y : En} : eqEn x y = true ↔ x = y := by
  cases x; cases y
  simp [eqEn]
theorem run_eq_en (x y : En) (w : World) : (Op.equalIn 9999 83 (.agg (enC x).toArray) (.agg (enC y).toArray)).run Tryd.prog w = .ok (eqEn x y) w := by
  obtain ⟨b, s, d, m⟩ := x
  obtain ⟨b', s', d', m'⟩ := y
  simp only [enC, eqEn]
  go_simp
  by_cases h1 : b = b' <;> by_cases h2 : s = s' <;> by_cases h3 : d = d' <;> by_cases h4 : m = m' <;> simp [h1, h2, h3, h4]
theorem run_part_en (x0 x1 x2 x3 : En) (i : Nat) (hi : i < 4) (w : World) : (part 83 (ensC [x0, x1, x2, x3]).toArray (i * 4)).run Tryd.prog w = .ok (.agg (enC ([x0, x1, x2, x3].getD i en0)).toArray) w := by
  have h0 : (part 83 (ensC [x0, x1, x2, x3]).toArray (0 * 4)).run Tryd.prog w = .ok (.agg (enC x0).toArray) w := by kernel_rfl
  have h1 : (part 83 (ensC [x0, x1, x2, x3]).toArray (1 * 4)).run Tryd.prog w = .ok (.agg (enC x1).toArray) w := by kernel_rfl
  have h2 : (part 83 (ensC [x0, x1, x2, x3]).toArray (2 * 4)).run Tryd.prog w = .ok (.agg (enC x2).toArray) w := by kernel_rfl
  have h3 : (part 83 (ensC [x0, x1, x2, x3]).toArray (3 * 4)).run Tryd.prog w = .ok (.agg (enC x3).toArray) w := by kernel_rfl
  match i, hi with
  | 0, _ => exact h0
  | 1, _ => exact h1
  | 2, _ => exact h2
  | 3, _ => exact h3
theorem run_eq_ens (x0 x1 x2 x3 y0 y1 y2 y3 : En) (w : World) :
    (binOp .eql 127 (.agg (ensC [x0, x1, x2, x3]).toArray) (.agg (ensC [y0, y1, y2, y3]).toArray)).run Tryd.prog w = .ok (.bool (eqEn x0 y0 && (eqEn x1 y1 && (eqEn x2 y2 && eqEn x3 y3)))) w := by
  obtain ⟨i, hi⟩ : ∃ i, Tryd.prog.info? 83 = some i := Option.isSome_iff_exists.1 (by kernel_rfl)
  have hc : Tryd.prog.cellsOf 83 = 4 := by kernel_rfl
  have hk : (Op.equalIn (9999 + 1) 127 (.agg (ensC [x0, x1, x2, x3]).toArray) (.agg (ensC [y0, y1, y2, y3]).toArray)).run Tryd.prog w = .ok (eqEn x0 y0 && (eqEn x1 y1 && (eqEn x2 y2 && eqEn x3 y3))) w := by
    rw [run_equalIn_array w 9999 _ _ Tryd.underlying127 hi, hc, show List.range 4 = [0, 1, 2, 3] from rfl]
    simp only [Op.eqItems, Sem.run_bind]
    rw [run_part_en x0 x1 x2 x3 0 (by omega), Result.andThen_ok, run_part_en y0 y1 y2 y3 0 (by omega), Result.andThen_ok]
    simp only [List.getD_cons_zero, List.getD_cons_succ]
    rw [run_eq_en, Result.andThen_ok]
    cases eqEn x0 y0
    · rfl
    · simp only [Bool.not_true, Bool.false_eq_true, if_false]
      rw [Sem.run_bind, run_part_en x0 x1 x2 x3 1 (by omega), Result.andThen_ok, Sem.run_bind, run_part_en y0 y1 y2 y3 1 (by omega), Result.andThen_ok]
      simp only [List.getD_cons_zero, List.getD_cons_succ]
      rw [Sem.run_bind, run_eq_en, Result.andThen_ok]
      cases eqEn x1 y1
      · rfl
      · simp only [Bool.not_true, Bool.false_eq_true, if_false]
        rw [Sem.run_bind, run_part_en x0 x1 x2 x3 2 (by omega), Result.andThen_ok, Sem.run_bind, run_part_en y0 y1 y2 y3 2 (by omega), Result.andThen_ok]
        simp only [List.getD_cons_zero, List.getD_cons_succ]
        rw [Sem.run_bind, run_eq_en, Result.andThen_ok]
        cases eqEn x2 y2
        · rfl
        · simp only [Bool.not_true, Bool.false_eq_true, if_false]
          rw [Sem.run_bind, run_part_en x0 x1 x2 x3 3 (by omega), Result.andThen_ok, Sem.run_bind, run_part_en y0 y1 y2 y3 3 (by omega), Result.andThen_ok]
          simp only [List.getD_cons_zero, List.getD_cons_succ]
          rw [Sem.run_bind, run_eq_en, Result.andThen_ok]
          cases eqEn x3 y3 <;> rfl
  simp only [binOp]
  simp [Op.equal, Op.maxDepth, hk]
/-- copy of elements of more than one cell -/
theorem run_copy_at {P : Program} (w : World) (dT sT ty elem : TypeId) (b o dLen dCap : Nat) (a : Addr) (sLen sCap sz : Nat) (cs : List Value)
    (hu : P.underlying dT = some (.slice elem)) (hs : (P.info? elem).map (·.size) = some sz) (hn : cs.length = Nat.min sLen dLen * sz)
    (hsrc : ∀ j v, cs[j]? = some v → w.cell? (a.add j) = some v) (hc : ∀ j, j < cs.length → (w.cell? ⟨b, o + j, none⟩).isSome = true) (hf : ∀ j, j < cs.length → w.frozen? ⟨b, o + j, none⟩ = false) (h1 : ∀ v ∈ cs, v.oneCell' = true) :
    (Builtin.copy_ #[dT, sT] ty #[.slice (some ⟨b, o, none⟩) dLen dCap, .slice (some a) sLen sCap]).run P w = .ok (goInt (Nat.min sLen dLen)) (w.setCells b o cs) := by
  have hl := run_loadCells_list (P := P) w a cs hsrc
  have hst := run_storeCells_cells (P := P) b o cs 0 w (by simpa using hc) (by simpa using hf) h1
  cases hq : P.info? elem with
  | none => simp [hq] at hs
  | some i =>
    have hi : i.size = sz := by simpa [hq] using hs
    simp [Builtin.copy_, run_underlying hu, Builtin.lenOf, Builtin.firstCells, sizeOf, typeInfo, hq, hi, ← hn, hl, hst]
end Go.Proofs.YtgmjhpappamenaaDoor
