/- The arguments of the forms' laws: pages. -/
import Derived.Test.YtifafnmbcmhlcaaDoorFieldO
import Derived.Test.YtifafnmbcmhlcaaDoorFormO
namespace Go.Proofs.YtifafnmbcmhlcaaDoor
open Go Go.ChangeShapes Go.WideShapes Go.ChangeAt Go.WideMaps Go.WideElems Go.RowKit Go.Deep

section
variable {H : Type} {enc : TypeId × Value → H} {P : Program} {w : World} {base : Nat} {spare : Nat → Bool} {held : Bool} {t : TypeId} {v : Value} {d : DataW H} {p : List MemPlace}
theorem page_of {f : Nat} (hk : flat P f t = some [some .i64, some .i64, some .i64, some .i64, some .i64, some .i64, none, some .i64, some .i64, some .i64, none, some .i64, some .i64, some .i64, none, some .i64, some .i64, some .i64, none, some .i64]) (hv : ∃ cs, v = .agg cs ∧ cs.size = P.cellsOf t) (h : DataW.Trod enc P w base spare held t v d p) :
    ∃ (q n o m : Int) (e0 e1 e2 e3 : En), v = .agg (pageL q n o m (ensC [e0, e1, e2, e3])).toArray := by
  obtain ⟨cs, rfl, hs, hc⟩ := open_agg hk hv h
  obtain ⟨u0, h0, x0, rfl, _⟩ := hc 0 (some .i64) rfl
  obtain ⟨u1, h1, x1, rfl, _⟩ := hc 1 (some .i64) rfl
  obtain ⟨u2, h2, x2, rfl, _⟩ := hc 2 (some .i64) rfl
  obtain ⟨u3, h3, x3, rfl, _⟩ := hc 3 (some .i64) rfl
  obtain ⟨u4, h4, x4, rfl, _⟩ := hc 4 (some .i64) rfl
  obtain ⟨u5, h5, x5, rfl, _⟩ := hc 5 (some .i64) rfl
  obtain ⟨u6, h6, x6, rfl⟩ := hc 6 none rfl
  obtain ⟨u7, h7, x7, rfl, _⟩ := hc 7 (some .i64) rfl
  obtain ⟨u8, h8, x8, rfl, _⟩ := hc 8 (some .i64) rfl
  obtain ⟨u9, h9, x9, rfl, _⟩ := hc 9 (some .i64) rfl
  obtain ⟨u10, h10, x10, rfl⟩ := hc 10 none rfl
  obtain ⟨u11, h11, x11, rfl, _⟩ := hc 11 (some .i64) rfl
  obtain ⟨u12, h12, x12, rfl, _⟩ := hc 12 (some .i64) rfl
  obtain ⟨u13, h13, x13, rfl, _⟩ := hc 13 (some .i64) rfl
  obtain ⟨u14, h14, x14, rfl⟩ := hc 14 none rfl
  obtain ⟨u15, h15, x15, rfl, _⟩ := hc 15 (some .i64) rfl
  obtain ⟨u16, h16, x16, rfl, _⟩ := hc 16 (some .i64) rfl
  obtain ⟨u17, h17, x17, rfl, _⟩ := hc 17 (some .i64) rfl
  obtain ⟨u18, h18, x18, rfl⟩ := hc 18 none rfl
  obtain ⟨u19, h19, x19, rfl, _⟩ := hc 19 (some .i64) rfl
  refine ⟨x0, x1, x2, x3, ⟨x4, x5, x6, x7⟩, ⟨x8, x9, x10, x11⟩, ⟨x12, x13, x14, x15⟩, ⟨x16, x17, x18, x19⟩, ?_⟩
  congr 1
  apply Array.ext_getElem?
  intro i
  match i with
  | 0 => exact h0
  | 1 => exact h1
  | 2 => exact h2
  | 3 => exact h3
  | 4 => exact h4
  | 5 => exact h5
  | 6 => exact h6
  | 7 => exact h7
  | 8 => exact h8
  | 9 => exact h9
  | 10 => exact h10
  | 11 => exact h11
  | 12 => exact h12
  | 13 => exact h13
  | 14 => exact h14
  | 15 => exact h15
  | 16 => exact h16
  | 17 => exact h17
  | 18 => exact h18
  | 19 => exact h19
  | i + 20 =>
    simp only [List.length_cons, List.length_nil] at hs
    rw [Array.getElem?_eq_none (by omega), Array.getElem?_eq_none (by simp [pageL, ensC, enC])]
end
end Go.Proofs.YtifafnmbcmhlcaaDoor
