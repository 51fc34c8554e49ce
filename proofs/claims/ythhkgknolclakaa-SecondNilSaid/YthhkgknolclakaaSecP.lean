/- second: arguments as numbers and calls. -/
import Derived.Test.YthhkgknolclakaaSecO
import Derived.Test.YthhkgknolclakaaOpen
import Derived.Test.YthhkgknolclakaaFrame
namespace Go.Proofs.Ythhkgknolclakaa
open Go Go.ChangeShapes Go.WideShapes Go.ChangeAt Go.WideMaps Go.WideElems Go.RowKit Go.Deep

theorem own : ownKnob Try.prog.godebug = none := by kernel_rfl
def intAt (w : World) (a : Addr) : Int := match w.cell? a with
  | some (.int _ n) => n
  | _ => 0
theorem ints_of {w : World} {oa : Option Addr} {len : Nat}
    (h : ∀ i, i < len → ∃ b off, oa = some ⟨b, off, none⟩ ∧ ∀ (j : Nat) (k : Option IntKind), [some IntKind.i64][j]? = some k → ∃ u, w.cell? ⟨b, off + i * [some IntKind.i64].length + j, none⟩ = some u ∧ isK k u) :
    ∃ ns : List Int, len = ns.length ∧ IsInts w oa ns ∧ ∀ k, k ∈ ns → (Lit.int .i64 k).wf = true := by
  have key : ∀ i, i < len → ∃ b off x, oa = some ⟨b, off, none⟩ ∧ w.cell? ⟨b, off + i, none⟩ = some (.int .i64 x) ∧ (Lit.int .i64 x).wf = true := by
    intro i hi
    obtain ⟨b, off, rfl, hc⟩ := h i hi
    obtain ⟨u0, h0, x0, rfl, hw⟩ := hc 0 (some .i64) rfl
    simp only [List.length_cons, List.length_nil, Nat.reduceAdd, Nat.add_zero, Nat.mul_one, Nat.zero_add] at h0
    exact ⟨b, off, x0, rfl, h0, hw⟩
  refine ⟨(List.range len).map fun i => intAt w ⟨(oa.getD ⟨0, 0, none⟩).block, (oa.getD ⟨0, 0, none⟩).off + i, none⟩, by simp, fun i hi => ?_, fun k hk => ?_⟩
  · obtain ⟨b, off, x, rfl, h0, _⟩ := key i (by simpa using hi)
    refine ⟨b, off, rfl, ?_⟩
    rw [h0]; simp [intAt, h0]
  · obtain ⟨i, hi, rfl⟩ := List.mem_map.1 hk
    obtain ⟨b, off, x, rfl, h0, hw⟩ := key i (by simpa using hi)
    simpa [intAt, h0] using hw
/-- calls that lie behind a slice -/
def IsOps (w : World) (oa : Option Addr) (ops : List (Int × Int)) : Prop :=
  ∀ (i : Nat) (h : i < ops.length), ∃ b off, oa = some ⟨b, off, none⟩ ∧ w.cell? ⟨b, off + i * 2, none⟩ = some (.int .i64 ops[i].1) ∧ w.cell? ⟨b, off + i * 2 + 1, none⟩ = some (.int .i64 ops[i].2)
theorem ops_of {w : World} {oa : Option Addr} {len : Nat}
    (h : ∀ i, i < len → ∃ b off, oa = some ⟨b, off, none⟩ ∧ ∀ (j : Nat) (k : Option IntKind), [some IntKind.i64, some IntKind.i64][j]? = some k → ∃ u, w.cell? ⟨b, off + i * [some IntKind.i64, some IntKind.i64].length + j, none⟩ = some u ∧ isK k u) :
    ∃ ops : List (Int × Int), len = ops.length ∧ IsOps w oa ops ∧ ∀ k, k ∈ ops → (Lit.int .i64 k.2).wf = true := by
  have key : ∀ i, i < len → ∃ b off x y, oa = some ⟨b, off, none⟩ ∧ w.cell? ⟨b, off + i * 2, none⟩ = some (.int .i64 x) ∧ w.cell? ⟨b, off + i * 2 + 1, none⟩ = some (.int .i64 y) ∧ (Lit.int .i64 y).wf = true := by
    intro i hi
    obtain ⟨b, off, rfl, hc⟩ := h i hi
    obtain ⟨u0, h0, x0, rfl, _⟩ := hc 0 (some .i64) rfl
    obtain ⟨u1, h1, x1, rfl, hw⟩ := hc 1 (some .i64) rfl
    simp only [List.length_cons, List.length_nil, Nat.reduceAdd, Nat.add_zero, Nat.zero_add] at h0 h1
    exact ⟨b, off, x0, x1, rfl, h0, h1, hw⟩
  refine ⟨(List.range len).map fun i => (intAt w ⟨(oa.getD ⟨0, 0, none⟩).block, (oa.getD ⟨0, 0, none⟩).off + i * 2, none⟩, intAt w ⟨(oa.getD ⟨0, 0, none⟩).block, (oa.getD ⟨0, 0, none⟩).off + i * 2 + 1, none⟩), by simp, fun i hi => ?_, fun k hk => ?_⟩
  · obtain ⟨b, off, x, y, rfl, h0, h1, _⟩ := key i (by simpa using hi)
    refine ⟨b, off, rfl, ?_, ?_⟩
    · rw [h0]; simp [intAt, h0]
    · rw [h1]; simp [intAt, h1]
  · obtain ⟨i, hi, rfl⟩ := List.mem_map.1 hk
    obtain ⟨b, off, x, y, rfl, h0, h1, hw⟩ := key i (by simpa using hi)
    simpa [intAt, h1] using hw
end Go.Proofs.Ythhkgknolclakaa
