/- The arguments of the forms' laws: superblocks, records. -/
import Derived.Test.YtifafnmbcmhlcaaDoorFieldO
import Derived.Test.YtifafnmbcmhlcaaDoorFormB
namespace Go.Proofs.YtifafnmbcmhlcaaDoor
open Go Go.ChangeShapes Go.WideShapes Go.ChangeAt Go.WideMaps Go.WideElems Go.RowKit Go.Deep

section
variable {H : Type} {enc : TypeId × Value → H} {P : Program} {w : World} {base : Nat} {spare : Nat → Bool} {held : Bool} {t : TypeId} {v : Value} {d : DataW H} {p : List MemPlace}
theorem super_of {f : Nat} (hk : flat P f t = some [some .i64, some .i64, some .i64, some .i64, some .i64, some .i64, some .i64]) (hv : ∃ cs, v = .agg cs ∧ cs.size = P.cellsOf t) (h : DataW.Trod enc P w base spare held t v d p) :
    ∃ x0 x1 x2 x3 x4 x5 x6 : Int, v = superV x0 x1 x2 x3 x4 x5 x6 := by
  obtain ⟨cs, rfl, hs, hc⟩ := open_agg hk hv h
  obtain ⟨u0, h0, x0, rfl, _⟩ := hc 0 (some .i64) rfl
  obtain ⟨u1, h1, x1, rfl, _⟩ := hc 1 (some .i64) rfl
  obtain ⟨u2, h2, x2, rfl, _⟩ := hc 2 (some .i64) rfl
  obtain ⟨u3, h3, x3, rfl, _⟩ := hc 3 (some .i64) rfl
  obtain ⟨u4, h4, x4, rfl, _⟩ := hc 4 (some .i64) rfl
  obtain ⟨u5, h5, x5, rfl, _⟩ := hc 5 (some .i64) rfl
  obtain ⟨u6, h6, x6, rfl, _⟩ := hc 6 (some .i64) rfl
  refine ⟨x0, x1, x2, x3, x4, x5, x6, ?_⟩
  unfold superV
  congr 1
  apply Array.ext_getElem?
  intro i
  match i with
  | 0 => simpa using h0
  | 1 => simpa using h1
  | 2 => simpa using h2
  | 3 => simpa using h3
  | 4 => simpa using h4
  | 5 => simpa using h5
  | 6 => simpa using h6
  | i + 7 =>
    simp only [List.length_cons, List.length_nil] at hs
    rw [Array.getElem?_eq_none (by omega), Array.getElem?_eq_none (by simp)]
theorem record_of {f : Nat} (hk : flat P f t = some [some .i64, some .i64, some .i64, some .i64, some .i64, none, some .i64]) (hv : ∃ cs, v = .agg cs ∧ cs.size = P.cellsOf t) (h : DataW.Trod enc P w base spare held t v d p) :
    ∃ (q l o b s : Int) (e : Bool) (m : Int), v = .agg (recV q l o b s e m) := by
  obtain ⟨cs, rfl, hs, hc⟩ := open_agg hk hv h
  obtain ⟨u0, h0, x0, rfl, _⟩ := hc 0 (some .i64) rfl
  obtain ⟨u1, h1, x1, rfl, _⟩ := hc 1 (some .i64) rfl
  obtain ⟨u2, h2, x2, rfl, _⟩ := hc 2 (some .i64) rfl
  obtain ⟨u3, h3, x3, rfl, _⟩ := hc 3 (some .i64) rfl
  obtain ⟨u4, h4, x4, rfl, _⟩ := hc 4 (some .i64) rfl
  obtain ⟨u5, h5, x5, rfl⟩ := hc 5 none rfl
  obtain ⟨u6, h6, x6, rfl, _⟩ := hc 6 (some .i64) rfl
  refine ⟨x0, x1, x2, x3, x4, x5, x6, ?_⟩
  unfold recV
  congr 1
  apply Array.ext_getElem?
  intro i
  match i with
  | 0 => simpa using h0
  | 1 => simpa using h1
  | 2 => simpa using h2
  | 3 => simpa using h3
  | 4 => simpa using h4
  | 5 => simpa using h5
  | 6 => simpa using h6
  | i + 7 =>
    simp only [List.length_cons, List.length_nil] at hs
    rw [Array.getElem?_eq_none (by omega), Array.getElem?_eq_none (by simp)]
end
end Go.Proofs.YtifafnmbcmhlcaaDoor
