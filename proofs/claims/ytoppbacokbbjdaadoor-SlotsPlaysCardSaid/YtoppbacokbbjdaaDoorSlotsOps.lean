/- The calls that an argument holds, as a list. -/
import Derived.Test.YtoppbacokbbjdaaDoorSlotsL
import Derived.Test.YtoppbacokbbjdaaDoorOpen
namespace Go.Proofs.YtoppbacokbbjdaaDoor
open Go.RowKit

def boolAt (w : World) (a : Addr) : Bool := match w.cell? a with | some (.bool b) => b | _ => false
def intAt (w : World) (a : Addr) : Int := match w.cell? a with | some (.int _ n) => n | _ => 0
theorem ops_of {w : World} {oa : Option Addr} {len : Nat}
    (h : ∀ i, i < len → ∃ b off, oa = some ⟨b, off, none⟩ ∧ ∀ (j : Nat) (k : Option IntKind), [none, some IntKind.i64, some IntKind.i64][j]? = some k → ∃ u, w.cell? ⟨b, off + i * [none, some IntKind.i64, some IntKind.i64].length + j, none⟩ = some u ∧ isK k u) :
    ∃ ops : List (Bool × Int × Int), len = ops.length ∧ IsOps w oa ops := by
  refine ⟨(List.range len).map fun i => (boolAt w ⟨(oa.getD ⟨0, 0, none⟩).block, (oa.getD ⟨0, 0, none⟩).off + i * 3, none⟩,
    intAt w ⟨(oa.getD ⟨0, 0, none⟩).block, (oa.getD ⟨0, 0, none⟩).off + i * 3 + 1, none⟩, intAt w ⟨(oa.getD ⟨0, 0, none⟩).block, (oa.getD ⟨0, 0, none⟩).off + i * 3 + 2, none⟩), by simp, fun i hi => ?_⟩
  obtain ⟨b, off, rfl, hc⟩ := h i (by simpa using hi)
  obtain ⟨u0, h0, x0, rfl⟩ := hc 0 none rfl
  obtain ⟨u1, h1, x1, rfl, _⟩ := hc 1 (some .i64) rfl
  obtain ⟨u2, h2, x2, rfl, _⟩ := hc 2 (some .i64) rfl
  simp only [List.length_cons, List.length_nil, Nat.reduceAdd, Nat.add_zero] at h0 h1 h2
  refine ⟨b, off, rfl, ?_, ?_, ?_⟩
  · rw [h0]; simp [boolAt, h0]
  · rw [h1]; simp [intAt, h1]
  · rw [h2]; simp [intAt, h2]
end Go.Proofs.YtoppbacokbbjdaaDoor
