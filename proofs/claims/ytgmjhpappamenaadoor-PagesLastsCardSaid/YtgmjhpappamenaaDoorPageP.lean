/- The arguments of the page laws: rows of entries, two of them, rows of rows. -/
import Derived.Test.YtgmjhpappamenaaDoorPageN
import Derived.Test.YtgmjhpappamenaaDoorFrame
namespace Go.Proofs.YtgmjhpappamenaaDoor
open Go Go.ChangeShapes Go.WideShapes Go.ChangeAt Go.WideMaps Go.WideElems Go.RowKit Go.Deep

def intAt2 (w : World) (a : Addr) : Int := match w.cell? a with | some (.int _ n) => n | _ => 0
def boolAt2 (w : World) (a : Addr) : Bool := match w.cell? a with | some (.bool b) => b | _ => false
theorem mod4 (l : List En) (j : Nat) (h : j < l.length * 4) : (ensC l)[j]? = (enC (l.getD (j / 4) en0))[j % 4]? := by
  have hk : j / 4 < l.length := by omega
  have h1 := ensC_drop l (j / 4)
  rw [List.drop_eq_getElem_cons hk] at h1
  have h2 : (ensC l)[j / 4 * 4 + j % 4]? = ((ensC l).drop (j / 4 * 4))[j % 4]? := by rw [List.getElem?_drop]
  rw [show j / 4 * 4 + j % 4 = j by omega] at h2
  rw [h2, h1, List.getD_eq_getElem?_getD, List.getElem?_eq_getElem hk]
  simp only [ensC, List.flatMap_cons, Option.getD_some]
  rw [List.getElem?_append_left (by simp [enC]; omega)]
theorem ens_of {w : World} {oa : Option Addr} {len : Nat}
    (h : ∀ i, i < len → ∃ b off, oa = some ⟨b, off, none⟩ ∧ ∀ (j : Nat) (k : Option IntKind), [some IntKind.i64, some IntKind.i64, none, some IntKind.i64][j]? = some k → ∃ u, w.cell? ⟨b, off + i * [some IntKind.i64, some IntKind.i64, none, some IntKind.i64].length + j, none⟩ = some u ∧ isK k u) :
    ∃ l : List En, len = l.length ∧ IsRow w oa (ensC l) := by
  refine ⟨(List.range len).map fun i => ⟨intAt2 w ⟨(oa.getD ⟨0, 0, none⟩).block, (oa.getD ⟨0, 0, none⟩).off + i * 4, none⟩, intAt2 w ⟨(oa.getD ⟨0, 0, none⟩).block, (oa.getD ⟨0, 0, none⟩).off + i * 4 + 1, none⟩,
    boolAt2 w ⟨(oa.getD ⟨0, 0, none⟩).block, (oa.getD ⟨0, 0, none⟩).off + i * 4 + 2, none⟩, intAt2 w ⟨(oa.getD ⟨0, 0, none⟩).block, (oa.getD ⟨0, 0, none⟩).off + i * 4 + 3, none⟩⟩, by simp, fun j v hj => ?_⟩
  have hjl := (List.getElem?_eq_some_iff.1 hj).1
  rw [ensC_len] at hjl
  have hjl' : j < len * 4 := by simpa using hjl
  rw [mod4 _ _ hjl] at hj
  have hi : j / 4 < len := by omega
  obtain ⟨b, off, rfl, hc⟩ := h (j / 4) hi
  refine ⟨b, off, rfl, ?_⟩
  rw [List.getD_eq_getElem?_getD, List.getElem?_map, List.getElem?_range hi] at hj
  simp only [Option.map_some, Option.getD_some] at hj
  obtain ⟨u0, h0, x0, rfl, _⟩ := hc 0 (some .i64) rfl
  obtain ⟨u1, h1, x1, rfl, _⟩ := hc 1 (some .i64) rfl
  obtain ⟨u2, h2, x2, rfl⟩ := hc 2 none rfl
  obtain ⟨u3, h3, x3, rfl, _⟩ := hc 3 (some .i64) rfl
  simp only [List.length_cons, List.length_nil, Nat.reduceAdd, Nat.add_zero] at h0 h1 h2 h3
  have e : off + j = off + j / 4 * 4 + j % 4 := by omega
  rw [e]
  simp only [intAt2, boolAt2, h0, h1, h2, h3, enC] at hj
  have hm : j % 4 = 0 ∨ j % 4 = 1 ∨ j % 4 = 2 ∨ j % 4 = 3 := by omega
  rcases hm with hm | hm | hm | hm <;> rw [hm] at hj ⊢ <;> simp at hj <;> subst hj
  · exact h0
  · exact h1
  · exact h2
  · exact h3
section
variable {H : Type} {enc : TypeId × Value → H} {P : Program} {w : World} {base : Nat} {spare : Nat → Bool} {held : Bool} {t e : TypeId} {v : Value} {d : DataW H} {p : List MemPlace}
/-- a row of entries -/
theorem ents_of {f : Nat} (ht : P.underlying t = some (.slice e)) (hk : flat P f e = some [some .i64, some .i64, none, some .i64]) {n : Nat} {cs : Value} {x : DataW H × List MemPlace} (h : DataW.trod enc P w base spare held n t [cs] = some x) :
    ∃ (oa : Option Addr) (cap : Nat) (l : List En), cs = .slice oa l.length cap ∧ l.length ≤ cap ∧ cap ≤ maxLen ∧ IsRow w oa (ensC l) := by
  have hshape : ∃ (a : Option Addr) (len cap : Nat), cs = .slice a len cap ∧ len ≤ cap ∧ cap ≤ maxLen := by
    rcases open_slice ht h with ⟨hcs, _⟩ | ⟨a, len, cap, m, n', D, Pl, hcs, _, hl, hm, _⟩
    · exact ⟨none, 0, 0, by simpa using hcs, Nat.le_refl _, Nat.zero_le _⟩
    · exact ⟨_, _, _, by simpa using hcs, hl, hm⟩
  obtain ⟨oa, len, cap, rfl, hl, hm⟩ := hshape
  obtain ⟨oa', len', cap', he, _, hc⟩ := open_flats ht hk (by decide) ⟨_, _, _, rfl⟩ ⟨n, h⟩
  cases he
  obtain ⟨l, rfl, hR⟩ := ens_of hc
  exact ⟨oa, cap, l, rfl, hl, hm, hR⟩
/-- two rows of entries -/
theorem twoEnts_of {f : Nat} (hta : P.underlying t = some (.array 2 e)) {e2 : TypeId} (hts : P.underlying e = some (.slice e2)) (hk : flat P f e2 = some [some .i64, some .i64, none, some .i64]) (hc1 : P.cellsOf e = 1) (hct : P.cellsOf t = 2)
    (hv : ∃ cs, v = .agg cs ∧ cs.size = P.cellsOf t) (h : DataW.Trod enc P w base spare held t v d p) :
    ∃ (oa0 : Option Addr) (cap0 : Nat) (l0 : List En) (oa1 : Option Addr) (cap1 : Nat) (l1 : List En), v = .agg #[.slice oa0 l0.length cap0, .slice oa1 l1.length cap1] ∧ (l0.length ≤ cap0 ∧ IsRow w oa0 (ensC l0)) ∧ (l1.length ≤ cap1 ∧ IsRow w oa1 (ensC l1)) := by
  obtain ⟨cs, rfl, hs⟩ := hv
  rw [hct] at hs
  obtain ⟨n, hn⟩ := h
  obtain ⟨xs, m, rfl, hx, hlen, hxl, hel⟩ := DataW.trod_array hta hn
  obtain ⟨c0, c1, hcs⟩ : ∃ c0 c1, cs.toList = [c0, c1] := by
    have : cs.toList.length = 2 := by simpa using hs
    match hq : cs.toList, this with
    | [a, b], _ => exact ⟨a, b, rfl⟩
  have e0 := hel 0 (by omega)
  have e1 := hel 1 (by omega)
  simp only [Value.cells, hcs, hc1] at e0 e1
  rw [List.getElem?_eq_getElem (by omega)] at e0 e1
  obtain ⟨oa0, cap0, l0, h0, hl0, _, hr0⟩ := ents_of hts hk (cs := c0) e0
  obtain ⟨oa1, cap1, l1, h1, hl1, _, hr1⟩ := ents_of hts hk (cs := c1) e1
  refine ⟨oa0, cap0, l0, oa1, cap1, l1, ?_, ⟨hl0, hr0⟩, ⟨hl1, hr1⟩⟩
  rw [← h0, ← h1]
  congr 1
  apply Array.toList_inj.1
  exact hcs
/-- rows of entries, in a row -/
theorem rowsEnts_of {f : Nat} (ht : P.underlying t = some (.slice e)) {e2 : TypeId} (hts : P.underlying e = some (.slice e2)) (hk : flat P f e2 = some [some .i64, some .i64, none, some .i64]) (hc1 : P.cellsOf e = 1)
    (hv : ∃ (a : Option Addr) (len cap : Nat), v = .slice a len cap) (h : DataW.Trod enc P w base spare held t v d p) :
    ∃ (oa : Option Addr) (cap : Nat) (rs : List (Option Addr × Nat × List En)), v = .slice oa rs.length cap ∧ rs.length ≤ maxLen ∧
      ∀ (i : Nat) (h : i < rs.length), ∃ b off, oa = some ⟨b, off, none⟩ ∧ w.cell? ⟨b, off + i, none⟩ = some (.slice rs[i].1 rs[i].2.2.length rs[i].2.1) ∧ rs[i].2.2.length ≤ rs[i].2.1 ∧ IsRow w rs[i].1 (ensC rs[i].2.2) := by
  obtain ⟨oa0, len0, cap0, rfl⟩ := hv
  obtain ⟨n, hn⟩ := h
  rcases open_slice1 ht hc1 hn with ⟨hcs, hx⟩ | ⟨a, len, cap, m, n', V, D, Pl, hcs, hb, hl, hm, hmm, hx, hi⟩
  · simp only [Value.cells, List.cons.injEq, Value.slice.injEq, and_true] at hcs
    obtain ⟨rfl, rfl, rfl⟩ := hcs
    exact ⟨none, 0, [], rfl, Nat.zero_le _, fun i h => by simp at h⟩
  · simp only [Value.cells, List.cons.injEq, Value.slice.injEq, and_true] at hcs
    obtain ⟨rfl, rfl, rfl⟩ := hcs
    have each : ∀ i, i < len0 → ∃ q : Option Addr × Nat × List En, w.cell? (a.add i) = some (.slice q.1 q.2.2.length q.2.1) ∧ q.2.2.length ≤ q.2.1 ∧ IsRow w q.1 (ensC q.2.2) := by
      intro i hil
      have him : i < m := by rw [hmm]; split <;> omega
      obtain ⟨hc, htr⟩ := hi i him
      obtain ⟨oa, cap, l, hV, hlc, _, hr⟩ := ents_of hts hk htr
      exact ⟨(oa, cap, l), by rw [hc, hV], hlc, hr⟩
    have pick : ∀ n, n ≤ len0 → ∃ rs : List (Option Addr × Nat × List En), rs.length = n ∧ ∀ (i : Nat) (h : i < rs.length), w.cell? (a.add i) = some (.slice rs[i].1 rs[i].2.2.length rs[i].2.1) ∧ rs[i].2.2.length ≤ rs[i].2.1 ∧ IsRow w rs[i].1 (ensC rs[i].2.2) := by
      intro n
      induction n with
      | zero => intro _; exact ⟨[], rfl, fun i h => by simp at h⟩
      | succ n ih =>
        intro hn
        obtain ⟨rs, hrl, hrs⟩ := ih (by omega)
        obtain ⟨q, hq⟩ := each n (by omega)
        refine ⟨rs ++ [q], by simp [hrl], fun i h => ?_⟩
        by_cases hin : i < rs.length
        · rw [List.getElem_append_left hin]
          exact hrs i hin
        · have hi2 : i = rs.length := by simp at h; omega
          subst hi2
          rw [List.getElem_append_right (Nat.le_refl _)]
          simp only [Nat.sub_self, List.getElem_cons_zero]
          rw [hrl]
          exact hq
    obtain ⟨rs, hrl, hrs⟩ := pick len0 (Nat.le_refl _)
    refine ⟨some a, cap0, rs, by rw [hrl], by omega, fun i h => ?_⟩
    obtain ⟨h1, h2, h3⟩ := hrs i h
    have hnone : a.spot = none := by
      cases hs : a.spot with
      | none => rfl
      | some s =>
        exfalso
        have h0 := (hrs 0 (by omega)).1
        simp only [Addr.add, if_true] at h0
        unfold World.cell? at h0
        rw [hs] at h0
        split at h0 <;> simp at h0
    obtain ⟨ab, ao, sp⟩ := a
    obtain rfl : sp = none := hnone
    exact ⟨ab, ao, rfl, by rw [← Addr.add_mid]; exact h1, h2, h3⟩
end
end Go.Proofs.YtgmjhpappamenaaDoor
