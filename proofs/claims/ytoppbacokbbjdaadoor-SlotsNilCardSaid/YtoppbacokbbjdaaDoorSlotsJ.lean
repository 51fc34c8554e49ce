/- The seat's frame of a proof: the listed variable opened. -/
import Derived.Test.YtoppbacokbbjdaaDoorSlotsI
import Derived.Test.YtoppbacokbbjdaaDoorRows
import Derived.Test.YtoppbacokbbjdaaDoorTie
import Derived.Test.YtoppbacokbbjdaaDoorCards
import Derived.Test.YtoppbacokbbjdaaDoorFrame
import Derived.ProofKit
import Derived.LaidMore
import Derived.OpenShut
import Derived.Stop.Joined
import Derived.SevenTiedAt
namespace Go.Proofs.YtoppbacokbbjdaaDoor
open Go Go.ChangeShapes Go.WideShapes Go.ChangeAt Go.WideMaps Go.WideElems Go.RowKit

theorem own : ownKnob Tryd.prog.godebug = none := by kernel_rfl
theorem gTurns : Tryd.prog.globalNamed "lavabo/slots.turns" = some 0 := by kernel_rfl
theorem tTurns : (Tryd.prog.globals[0]?).map (·.type) = some 48 := by kernel_rfl
abbrev laidS {H : Type} : List (String × DataW H) := [("lavabo/slots.turns", Rows.laid_lavabo_slots_turns)]

theorem tab2 {H : Type} {enc : TypeId × Value → H} {P : Program} {W : World} {base : Nat} {spare : Nat → Bool} {held : Bool} {f t u v : Nat} {cs : List Value} {D : List (DataW H)} {p : List MemPlace}
    (ht : P.underlying t = some (.array 5 u)) (hu : P.underlying u = some (.array 5 v)) (hv : P.underlying v = some .bool) (h5 : P.cellsOf u = 5) (h1 : P.cellsOf v = 1)
    (h : DataW.trod enc P W base spare held f t cs = some (.agg D, p)) :
    ∀ i j, i < 5 → j < 5 → ∃ row b, D[i]? = some (.agg row) ∧ row[j]? = some (.lit (.bool b)) ∧ cs[i * 5 + j]? = some (.bool b) := by
  intro i j hi hj
  obtain ⟨xs, m, rfl, hx, hlen, hxl, hel⟩ := DataW.trod_array ht h
  have hi' : i < xs.length := by omega
  have h2 := hel i hi
  rw [List.getElem?_eq_getElem hi', h5] at h2
  obtain ⟨ys, m2, rfl, hy, hlen2, hyl, hel2⟩ := DataW.trod_array hu h2
  have hj' : j < ys.length := by omega
  have h3 := hel2 j hj
  rw [List.getElem?_eq_getElem hj', h1] at h3
  obtain ⟨b, hb, hyb⟩ := DataW.trod_bool hv h3
  simp only [Prod.mk.injEq, DataW.agg.injEq] at hx
  refine ⟨ys.map (·.1), b, ?_, ?_, ?_⟩
  · rw [hx.1]; simp [hi', hy]
  · simp [hj', hyb]
  · have h4 : ((List.drop (j * 1) (List.take 5 (List.drop (i * 5) cs))).take 1)[0]? = some (.bool b) := by rw [hb]; rfl
    rw [List.getElem?_take, if_pos (by omega), List.getElem?_drop, List.getElem?_take, if_pos (by omega), List.getElem?_drop] at h4
    rw [← h4]; congr 1; omega

theorem of_laid {W : World} (h : laidMetH Tryd.prog laidS W) : Turns W := by
  rw [MakeChecks.laidMetH_plain _ _ _ (by kernel_rfl)] at h
  obtain ⟨ps, ⟨g0, t0, cs0, f0, p0, q0, hg0, ht0, hv0, hd0, _⟩, _, _⟩ := h
  obtain rfl := Option.some.inj (gTurns.symm.trans hg0)
  obtain rfl := Option.some.inj (tTurns.symm.trans ht0)
  intro i j hi hj
  have hT := tab2 Tryd.underlying48 Tryd.underlying47 Tryd.underlying4 (by kernel_rfl) (by kernel_rfl) hd0
  obtain ⟨row, b, h1, h2, h3⟩ := hT i j hi hj
  rw [World.var?_cell hg0 hv0]
  rw [show cs0[i * 5 + j]? = cs0.toList[i * 5 + j]? by simp, h3]
  have hi' : i = 0 ∨ i = 1 ∨ i = 2 ∨ i = 3 ∨ i = 4 := by omega
  have hj' : j = 0 ∨ j = 1 ∨ j = 2 ∨ j = 3 ∨ j = 4 := by omega
  rcases hi' with rfl | rfl | rfl | rfl | rfl <;> simp at h1 <;> subst h1 <;> rcases hj' with rfl | rfl | rfl | rfl | rfl <;> simp at h2 <;> subst h2 <;> rfl
end Go.Proofs.YtoppbacokbbjdaaDoor
