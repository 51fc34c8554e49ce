/- The arguments of the field laws: pairs of numbers, sectors, sizes. -/
import Derived.Test.YtgmjhpappamenaaDoorFieldN
import Derived.Test.YtgmjhpappamenaaDoorOpen
namespace Go.Proofs.YtgmjhpappamenaaDoor
open Go Go.ChangeShapes Go.WideShapes Go.ChangeAt Go.WideMaps Go.WideElems Go.RowKit Go.Deep

def intAt (w : World) (a : Addr) : Int := match w.cell? a with | some (.int _ n) => n | _ => 0
/-- pairs of numbers that lie behind a slice -/
def IsPairs (w : World) (oa : Option Addr) (ps : List (Int × Int)) : Prop :=
  ∀ (i : Nat) (h : i < ps.length), ∃ b off, oa = some ⟨b, off, none⟩ ∧ w.cell? ⟨b, off + i * 2, none⟩ = some (.int .i64 ps[i].1) ∧ w.cell? ⟨b, off + i * 2 + 1, none⟩ = some (.int .i64 ps[i].2)
theorem pairs_of {w : World} {oa : Option Addr} {len : Nat}
    (h : ∀ i, i < len → ∃ b off, oa = some ⟨b, off, none⟩ ∧ ∀ (j : Nat) (k : Option IntKind), [some IntKind.i64, some IntKind.i64][j]? = some k → ∃ u, w.cell? ⟨b, off + i * [some IntKind.i64, some IntKind.i64].length + j, none⟩ = some u ∧ isK k u) :
    ∃ ps : List (Int × Int), len = ps.length ∧ IsPairs w oa ps := by
  refine ⟨(List.range len).map fun i => (intAt w ⟨(oa.getD ⟨0, 0, none⟩).block, (oa.getD ⟨0, 0, none⟩).off + i * 2, none⟩, intAt w ⟨(oa.getD ⟨0, 0, none⟩).block, (oa.getD ⟨0, 0, none⟩).off + i * 2 + 1, none⟩), by simp, fun i hi => ?_⟩
  obtain ⟨b, off, rfl, hc⟩ := h i (by simpa using hi)
  obtain ⟨u0, h0, x0, rfl, _⟩ := hc 0 (some .i64) rfl
  obtain ⟨u1, h1, x1, rfl, _⟩ := hc 1 (some .i64) rfl
  simp only [List.length_cons, List.length_nil, Nat.reduceAdd, Nat.add_zero] at h0 h1
  refine ⟨b, off, rfl, ?_, ?_⟩
  · rw [h0]; simp [intAt, h0]
  · rw [h1]; simp [intAt, h1]
/-- numbers that lie behind a slice -/
def IsInts (w : World) (oa : Option Addr) (ns : List Int) : Prop :=
  ∀ (i : Nat) (h : i < ns.length), ∃ b off, oa = some ⟨b, off, none⟩ ∧ w.cell? ⟨b, off + i, none⟩ = some (.int .i64 ns[i])
theorem ints_of {w : World} {oa : Option Addr} {len : Nat}
    (h : ∀ i, i < len → ∃ b off, oa = some ⟨b, off, none⟩ ∧ ∀ (j : Nat) (k : Option IntKind), [some IntKind.i64][j]? = some k → ∃ u, w.cell? ⟨b, off + i * [some IntKind.i64].length + j, none⟩ = some u ∧ isK k u) :
    ∃ ns : List Int, len = ns.length ∧ IsInts w oa ns := by
  refine ⟨(List.range len).map fun i => intAt w ⟨(oa.getD ⟨0, 0, none⟩).block, (oa.getD ⟨0, 0, none⟩).off + i, none⟩, by simp, fun i hi => ?_⟩
  obtain ⟨b, off, rfl, hc⟩ := h i (by simpa using hi)
  obtain ⟨u0, h0, x0, rfl, _⟩ := hc 0 (some .i64) rfl
  simp only [List.length_cons, List.length_nil, Nat.reduceAdd, Nat.add_zero, Nat.mul_one, Nat.zero_add] at h0
  refine ⟨b, off, rfl, ?_⟩
  rw [h0]; simp [intAt, h0]

section
variable {H : Type} {enc : TypeId × Value → H} {P : Program} {w : World} {base : Nat} {spare : Nat → Bool} {held : Bool} {t : TypeId} {v : Value} {d : DataW H} {p : List MemPlace}
theorem okWide_array {n e : Nat} {r : Reach} (ht : P.underlying t = some (.array n e)) (h : Value.okWide P w r base t v) : ∃ cs, v = .agg cs ∧ cs.size = P.cellsOf t := by
  simp only [Value.okWide, ht] at h
  obtain ⟨cs, h1, h2, _⟩ := h
  exact ⟨cs, h1, h2⟩
theorem open_agg {f : Nat} {ks : List (Option IntKind)} (hk : flat P f t = some ks) (hv : ∃ cs, v = .agg cs ∧ cs.size = P.cellsOf t) (h : DataW.Trod enc P w base spare held t v d p) :
    ∃ cs : Array Value, v = .agg cs ∧ cs.size = ks.length ∧ ∀ (i : Nat) (k : Option IntKind), ks[i]? = some k → ∃ u, cs[i]? = some u ∧ isK k u := by
  obtain ⟨cs, rfl, hs⟩ := hv
  obtain ⟨n, hn⟩ := h
  obtain ⟨h1, _, h3⟩ := flat_ok _ _ _ _ _ _ hn hk
  exact ⟨cs, rfl, by omega, fun i k hi => by simpa [Value.cells] using h3 i k hi⟩
theorem bytes_of (cs : List Value) (n : Nat) (hn : cs.length = n) (h : ∀ i, i < n → ∃ u, cs[i]? = some u ∧ isK (some .u8) u) : ∃ l : List Nat, cs = u8s l ∧ l.length = n ∧ ∀ x, x ∈ l → x < 256 := by
  induction cs generalizing n with
  | nil => exact ⟨[], rfl, by simpa using hn, fun x hx => by simp at hx⟩
  | cons c r ih =>
    simp only [List.length_cons] at hn
    subst hn
    obtain ⟨u, hu, m, rfl, hwf⟩ := h 0 (by omega)
    simp only [List.getElem?_cons_zero, Option.some.injEq] at hu
    subst hu
    obtain ⟨l, rfl, hl, hb⟩ := ih r.length rfl (fun i hi => by simpa using h (i + 1) (by omega))
    have hm : 0 ≤ m ∧ m < 256 := by
      simp [Lit.wf, IntKind.min, IntKind.max, IntKind.signed, IntKind.bits] at hwf
      omega
    obtain ⟨x, rfl⟩ := Int.eq_ofNat_of_zero_le hm.1
    refine ⟨x :: l, rfl, by simp [hl], ?_⟩
    intro y hy
    rcases List.mem_cons.1 hy with rfl | hy
    · omega
    · exact hb y hy
theorem block_of {f : Nat} (hk : flat P f t = some (List.replicate 64 (some .u8))) (hv : ∃ cs, v = .agg cs ∧ cs.size = P.cellsOf t) (h : DataW.Trod enc P w base spare held t v d p) :
    ∃ l : List Nat, v = .agg (bv l) ∧ l.length = 64 ∧ ∀ x, x ∈ l → x < 256 := by
  obtain ⟨cs, rfl, hs, hc⟩ := open_agg hk hv h
  simp only [List.length_replicate] at hs
  obtain ⟨l, h1, h2, h3⟩ := bytes_of cs.toList 64 (by simpa using hs) (fun i hi => by
    obtain ⟨u, hu, hk⟩ := hc i (some .u8) (by rw [List.getElem?_replicate, if_pos hi])
    exact ⟨u, by simpa using hu, hk⟩)
  exact ⟨l, by rw [bv, ← h1], h2, h3⟩
theorem two_of {f : Nat} (hk : flat P f t = some [some .i64, some .i64]) (hv : ∃ cs, v = .agg cs ∧ cs.size = P.cellsOf t) (h : DataW.Trod enc P w base spare held t v d p) :
    ∃ x y : Int, v = .agg #[.int .i64 x, .int .i64 y] ∧ (Lit.int .i64 x).wf = true ∧ (Lit.int .i64 y).wf = true := by
  obtain ⟨cs, rfl, hs, hc⟩ := open_agg hk hv h
  obtain ⟨u0, h0, x, rfl, wx⟩ := hc 0 (some .i64) rfl
  obtain ⟨u1, h1, y, rfl, wy⟩ := hc 1 (some .i64) rfl
  refine ⟨x, y, ?_, wx, wy⟩
  congr 1
  apply Array.ext_getElem?
  intro i
  match i with
  | 0 => simpa using h0
  | 1 => simpa using h1
  | i + 2 => 
    simp only [List.length_cons, List.length_nil] at hs
    rw [Array.getElem?_eq_none (by omega), Array.getElem?_eq_none (by simp)]
/-- a sector and sizes -/
def threeV (l : List Nat) (sl : Value) : Array Value := (u8s l ++ [sl]).toArray
theorem three_of {f0 f1 : Field} {e : TypeId} {f : Nat} (ht : P.underlying t = some (.struct #[f0, f1])) (ho0 : f0.offset = 0) (ho1 : f1.offset = 64) (hc0 : P.cellsOf f0.type = 64) (hc1 : P.cellsOf f1.type = 1) (hct : P.cellsOf t = 65)
    (hk : flat P f f0.type = some (List.replicate 64 (some .u8))) (ht1 : P.underlying f1.type = some (.slice e)) (hke : flat P f e = some [some .i64])
    (hv : ∃ cs, v = .agg cs ∧ cs.size = P.cellsOf t) (h : DataW.Trod enc P w base spare held t v d p) :
    ∃ (l : List Nat) (oa : Option Addr) (len cap : Nat) (ns : List Int), v = .agg (threeV l (.slice oa len cap)) ∧ l.length = 64 ∧ (∀ x, x ∈ l → x < 256) ∧ len = ns.length ∧ IsInts w oa ns := by
  obtain ⟨cs, rfl, hs⟩ := hv
  obtain ⟨n, hn⟩ := h
  obtain ⟨xs, m, rfl, hx, hlen, hxl, hel⟩ := DataW.trod_struct ht hn
  have e0 := hel 0 f0 rfl
  have e1 := hel 1 f1 rfl
  have hxl2 : xs.length = 2 := by simpa using hxl
  rw [ho0, hc0, List.getElem?_eq_getElem (by omega)] at e0
  rw [ho1, hc1, List.getElem?_eq_getElem (by omega)] at e1
  simp only [Value.cells, List.drop_zero] at e0 e1
  rw [hct] at hs
  obtain ⟨_, _, h3⟩ := flat_ok _ _ _ _ _ _ e0 hk
  obtain ⟨l, h1, h2, hb⟩ := bytes_of (cs.toList.take 64) 64 (by simp; omega) (fun i hi => h3 i (some .u8) (by rw [List.getElem?_replicate, if_pos hi]))
  have h65 : (cs.toList.drop 64).length = 1 := by simp; omega
  obtain ⟨sl, hsl⟩ : ∃ sl, cs.toList.drop 64 = [sl] := List.length_eq_one_iff.1 h65
  rw [hsl, show List.take 1 [sl] = [sl] from rfl] at e1
  have hshape : ∃ (a : Option Addr) (len cap : Nat), sl = .slice a len cap := by
    rcases open_slice ht1 e1 with ⟨hcs, _⟩ | ⟨a, len, cap, m, n', D, Pl, hcs, _⟩
    · exact ⟨none, 0, 0, by simpa using hcs⟩
    · exact ⟨_, _, _, by simpa using hcs⟩
  have hcell : sl.cells.toList = [sl] := by
    obtain ⟨a, len, cap, rfl⟩ := hshape
    rfl
  obtain ⟨oa, len, cap, rfl, _, hc⟩ := open_flats ht1 hke (by decide) hshape ⟨_, by rw [hcell]; exact e1⟩
  obtain ⟨ns, hns, hI⟩ := ints_of hc
  refine ⟨l, oa, len, cap, ns, ?_, h2, hb, hns, hI⟩
  congr 1
  unfold threeV
  rw [← h1, ← hsl, List.take_append_drop]
end
end Go.Proofs.YtgmjhpappamenaaDoor
