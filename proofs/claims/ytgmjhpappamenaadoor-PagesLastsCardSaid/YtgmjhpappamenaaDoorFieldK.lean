/- The seat's frame of a proof: the listed variable opened. -/
import Derived.Test.YtgmjhpappamenaaDoorCrcA
import Derived.Test.YtgmjhpappamenaaDoorRows
import Derived.Test.YtgmjhpappamenaaDoorTie
import Derived.Test.YtgmjhpappamenaaDoorCards
import Derived.Test.YtgmjhpappamenaaDoorFrame
import Derived.Test.YtgmjhpappamenaaDoorOpen
import Derived.ProofKit
import Derived.LaidMore
import Derived.OpenShut
import Derived.Stop.Joined
import Derived.SevenTiedAt
namespace Go.Proofs.YtgmjhpappamenaaDoor
open Go Go.ChangeShapes Go.WideShapes Go.ChangeAt Go.WideMaps Go.WideElems Go.RowKit

theorem own : ownKnob Tryd.prog.godebug = none := by kernel_rfl
theorem gHalves : Tryd.prog.globalNamed "lavabo/crc.halves" = some 0 := by kernel_rfl
theorem tHalves : (Tryd.prog.globals[0]?).map (·.type) = some 219 := by kernel_rfl
abbrev laidS {H : Type} : List (String × DataW H) := [("lavabo/crc.halves", Rows.laid_lavabo_crc_halves)]

theorem of_laid {W : World} (h : laidMetH Tryd.prog laidS W) : Halves W := by
  rw [MakeChecks.laidMetH_plain _ _ _ (by kernel_rfl)] at h
  obtain ⟨ps, ⟨g0, t0, cs0, f0, p0, q0, hg0, ht0, hv0, hd0, _⟩, _, _⟩ := h
  obtain rfl := Option.some.inj (gHalves.symm.trans hg0)
  obtain rfl := Option.some.inj (tHalves.symm.trans ht0)
  intro i hi
  obtain ⟨xs, m, rfl, hx, hlen, hxl, hel⟩ := DataW.trod_array Tryd.underlying219 hd0
  have hi' : i < xs.length := by omega
  have h2 := hel i hi
  rw [List.getElem?_eq_getElem hi', show Tryd.prog.cellsOf 3 = 1 by kernel_rfl] at h2
  obtain ⟨n, hn, hyb⟩ := DataW.trod_int Tryd.underlying3 h2
  simp only [Prod.mk.injEq] at hx
  have hL := DataW.agg.inj hx.1
  have h3 : (xs.map (·.1))[i]? = some (.lit (.int .i64 n)) := by simp [hi', hyb.1]
  rw [← hL] at h3
  have h4 : cs0.toList[i]? = some (.int .i64 n) := by
    have := congrArg (·[0]?) hn
    simpa [List.getElem?_take, List.getElem?_drop] using this
  rw [World.var?_cell hg0 hv0, show cs0[i]? = cs0.toList[i]? by simp, h4]
  clear hx hyb hL hn h4 hd0 hel h2
  have hi2 : i = 0 ∨ i = 1 ∨ i = 2 ∨ i = 3 ∨ i = 4 ∨ i = 5 ∨ i = 6 ∨ i = 7 ∨ i = 8 ∨ i = 9 ∨ i = 10 ∨ i = 11 ∨ i = 12 ∨ i = 13 ∨ i = 14 ∨ i = 15 := by omega
  rcases hi2 with rfl | rfl | rfl | rfl | rfl | rfl | rfl | rfl | rfl | rfl | rfl | rfl | rfl | rfl | rfl | rfl <;> simp at h3 <;> subst h3 <;> rfl
end Go.Proofs.YtgmjhpappamenaaDoor
