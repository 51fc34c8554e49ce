/- Plain lemmas on worlds: frames, blocks, owned rows. Nothing here names the program. -/
import Derived.WalkKit
import Derived.RegionTactic
import Derived.ChangeAlike
import Derived.Outline
import Derived.Lib.Hide
import Derived.Deep.Draws
import Derived.OwnWalk
import Derived.Deep.RegionHeld3
import Derived.Deep.DeepCutAuto
import Derived.WalkSpells
import Derived.BigQuiet
import Derived.Deep.QuietTactic
namespace Go.Proofs.Ythhkgknolclakaa
open Go.RowKit

/-- the world w' is as w was, but for the blocks in S, and for new ones -/
structure Fr (S : List Nat) (w w' : World) : Prop where
  os : w'.os = w.os
  tape : w'.tape = w.tape
  output : w'.output = w.output
  size : w.heap.size ≤ w'.heap.size
  block : ∀ k, k < w.heap.size → ¬ k ∈ S → w'.heap[k]? = w.heap[k]?
theorem Fr.refl (S : List Nat) (w : World) : Fr S w w := ⟨rfl, rfl, rfl, Nat.le_refl _, fun _ _ _ => rfl⟩
theorem Fr.comp {S T : List Nat} {a b c : World} (h : Fr S a b) (k : Fr T b c) (hT : ∀ i, i ∈ T → i ∈ S ∨ a.heap.size ≤ i) : Fr S a c :=
  ⟨k.os.trans h.os, k.tape.trans h.tape, k.output.trans h.output, Nat.le_trans h.size k.size, fun i hi hs =>
    (k.block i (Nat.lt_of_lt_of_le hi h.size) (fun ht => (hT i ht).elim hs (fun hle => by omega))).trans (h.block i hi hs)⟩
theorem Fr.trans {S : List Nat} {a b c : World} (h : Fr S a b) (k : Fr S b c) : Fr S a c := h.comp k fun _ => .inl
theorem Fr.sub {S T : List Nat} {a b : World} (h : Fr S a b) (hT : ∀ i, i ∈ S → i ∈ T ∨ a.heap.size ≤ i) : Fr T a b :=
  (Fr.refl T a).comp h hT
theorem Fr.alloc {S : List Nat} {a b : World} (h : Fr S a b) (o : Obj) : Fr S a (b.alloc o) :=
  h.trans ⟨rfl, rfl, rfl, by simp, fun k hk _ => Below.heap_alloc _ _ _ hk⟩
theorem Fr.setCell {S : List Nat} {a b : World} (h : Fr S a b) (p : Addr) (hp : p.block ∈ S ∨ a.heap.size ≤ p.block) (u : Value) : Fr S a (b.setCell p u) :=
  h.comp (T := [p.block]) ⟨rfl, rfl, rfl, by simp [World.setCell], fun k _ hs => Below.heap_setCell _ _ _ _ (by simpa using hs)⟩ (by
    intro i hi
    obtain rfl : i = p.block := by simpa using hi
    exact hp)
theorem Fr.drew {S : List Nat} {a b : World} (h : Fr S a b) : Fr S a b.drew := ⟨h.os, h.tape, h.output, h.size, h.block⟩
theorem Fr.drewN {S : List Nat} {a b : World} (h : Fr S a b) (n : Nat) : Fr S a (b.drewN n) := ⟨h.os, h.tape, h.output, h.size, h.block⟩
theorem Fr.grown {S : List Nat} {a b c : World} {row : Option Nat} (h : Fr S a b) (hg : b.grownBy c row) (hr : ∀ k, row = some k → k ∈ S ∨ a.heap.size ≤ k) : Fr S a c :=
  h.comp (T := row.toList) ⟨hg.os, hg.tape, hg.output, hg.size, fun k hk hs => hg.block k hk (fun e => hs (by simp [e]))⟩ (fun i hi => hr i (by simpa using hi))
theorem Fr.below {B : Nat} {S : List Nat} {a b : World} (h : Fr S a b) (hB : B ≤ a.heap.size) (hS : ∀ i, i ∈ S → B ≤ i) : Below B a b :=
  ⟨h.os, h.tape, h.output, h.size, fun k hk => h.block k (by omega) (fun hs => by have := hS k hs; omega)⟩
theorem Fr.of_below {S : List Nat} {a b : World} (h : Below a.heap.size a b) : Fr S a b := ⟨h.os, h.tape, h.output, h.size, fun k hk _ => h.block k hk⟩
theorem Fr.cell {S : List Nat} {a b : World} (h : Fr S a b) (p : Addr) (hp : p.block < a.heap.size) (hs : ¬ p.block ∈ S) : b.cell? p = a.cell? p :=
  World.cell?_of_block (w := a) (h.block p.block hp hs)
theorem Fr.frozen {S : List Nat} {a b : World} (h : Fr S a b) (p : Addr) (hp : p.block < a.heap.size) (hs : ¬ p.block ∈ S) : b.frozen? p = a.frozen? p :=
  World.frozen?_of_block (w := a) (h.block p.block hp hs)

/-- block b is the row of cells c, of element type T -/
def Blk (w : World) (b : Nat) (T : TypeId) (c : Array Value) : Prop := w.heap[b]? = some (.cells c T (0, 0))
theorem Blk.lt {w : World} {b : Nat} {T : TypeId} {c : Array Value} (h : Blk w b T c) : b < w.heap.size := by
  unfold Blk at h
  exact (Array.getElem?_eq_some_iff.1 h).1
theorem Blk.cell {w : World} {b : Nat} {T : TypeId} {c : Array Value} (h : Blk w b T c) {i : Nat} {v : Value} (hc : c[i]? = some v) : w.cell? ⟨b, i, none⟩ = some v := by
  unfold Blk at h
  simp [World.cell?, h, hc]
theorem Blk.frozen {w : World} {b : Nat} {T : TypeId} {c : Array Value} (h : Blk w b T c) (i : Nat) : w.frozen? ⟨b, i, none⟩ = false := by
  unfold Blk at h
  simp [World.frozen?, h]
theorem Blk.fr {S : List Nat} {w w' : World} {b : Nat} {T : TypeId} {c : Array Value} (h : Blk w b T c) (hf : Fr S w w') (hs : ¬ b ∈ S) : Blk w' b T c :=
  (hf.block b h.lt hs).trans h
theorem Blk.below {B : Nat} {w w' : World} {b : Nat} {T : TypeId} {c : Array Value} (h : Blk w b T c) (hf : Below B w w') (hs : b < B) : Blk w' b T c :=
  (hf.block b hs).trans h
theorem Blk.set {w : World} {b : Nat} {T : TypeId} {c : Array Value} (h : Blk w b T c) (i : Nat) (v : Value) : Blk (w.setCell ⟨b, i, none⟩ v) b T (c.setIfInBounds i v) := by
  unfold Blk at h ⊢
  simp [World.setCell, Array.getElem?_modify, h]
theorem Blk.set_ne {w : World} {b : Nat} {T : TypeId} {c : Array Value} (h : Blk w b T c) (a : Addr) (v : Value) (hn : ¬ a.block = b) : Blk (w.setCell a v) b T c := by
  unfold Blk at h ⊢
  rw [Below.heap_setCell _ _ _ _ (fun e => hn e.symm)]; exact h
theorem Blk.drew {w : World} {b : Nat} {T : TypeId} {c : Array Value} (h : Blk w b T c) : Blk w.drew b T c := h
theorem Blk.drewN {w : World} {b : Nat} {T : TypeId} {c : Array Value} (h : Blk w b T c) (n : Nat) : Blk (w.drewN n) b T c := h
theorem Blk.alloc {w : World} {b : Nat} {T : TypeId} {c : Array Value} (h : Blk w b T c) (o : Obj) : Blk (w.alloc o) b T c := by
  have hl := h.lt
  unfold Blk at h ⊢
  rw [Below.heap_alloc _ _ _ hl]; exact h
theorem Blk.new (w : World) (c : Array Value) (T : TypeId) : Blk (w.alloc (.cells c T)) w.heap.size T c := by
  show (w.heap.push _)[w.heap.size]? = _
  simp
theorem Blk.inj {w : World} {b : Nat} {T T' : TypeId} {c c' : Array Value} (h : Blk w b T c) (h' : Blk w b T' c') : c = c' := by
  unfold Blk at h h'
  rw [h] at h'
  cases h'
  rfl

/-- a slice value that is nil, or a row of cells from its beginning on, within block number base or behind it -/
theorem owns_cases {w : World} {base e : Nat} {v : Value} {n : Nat} {xs : List Value} (h : w.ownsRow base e 1 v n xs) :
    xs.length = n ∧ ((v = .slice none 0 0 ∧ n = 0 ∧ xs = []) ∨ ∃ g cap cur, v = .slice (some ⟨g, 0, none⟩) n cap ∧ base ≤ g ∧ Blk w g e cur ∧ n ≤ cap ∧ cap ≤ maxLen ∧ cur.size = cap ∧ cur.toList.take n = xs) := by
  obtain ⟨h1, h2⟩ := h
  simp only [Nat.mul_one] at h1 h2
  refine ⟨h1, ?_⟩
  rcases h2 with ⟨rfl, rfl⟩ | ⟨g, cap, cur, hv, hg, hh, hn, hc, hs, ht⟩
  · exact .inl ⟨rfl, rfl, List.eq_nil_of_length_eq_zero h1⟩
  · exact .inr ⟨g, cap, cur, hv, hg, hh, hn, hc, by simpa using hs, by simpa using ht⟩
theorem take_get {cur : Array Value} {n : Nat} {xs : List Value} (h : cur.toList.take n = xs) {i : Nat} {v : Value} (hi : xs[i]? = some v) : cur[i]? = some v := by
  subst h
  rw [List.getElem?_take] at hi
  split at hi
  · simpa using hi
  · cases hi
theorem owns_blk {w : World} {base e g : Nat} {n cap : Nat} {xs : List Value} (h : w.ownsRow base e 1 (.slice (some ⟨g, 0, none⟩) n cap) n xs) :
    ∃ cur, Blk w g e cur ∧ base ≤ g ∧ n ≤ cap ∧ cap ≤ maxLen ∧ cur.size = cap ∧ xs.length = n ∧ ∀ (i : Nat) (v : Value), xs[i]? = some v → cur[i]? = some v := by
  obtain ⟨h1, h2⟩ := owns_cases h
  rcases h2 with ⟨h2, _⟩ | ⟨g', cap', cur, hv, hg, hh, hn, hc, hs, ht⟩
  · simp at h2
  · simp only [Value.slice.injEq, Option.some.injEq, Addr.mk.injEq, true_and, and_true] at hv
    obtain ⟨rfl, rfl⟩ := hv
    exact ⟨cur, hh, hg, hn, hc, hs, h1, fun i v hi => take_get ht hi⟩
theorem owns_alloc {w : World} {base e size : Nat} {v : Value} {n : Nat} {xs : List Value} (h : w.ownsRow base e size v n xs) (o : Obj) : (w.alloc o).ownsRow base e size v n xs := h.alloc o
/-- an owned row stays, where its block does -/
theorem owns_fr {S : List Nat} {w w' : World} {base e size : Nat} {v : Value} {n : Nat} {xs : List Value} (h : w.ownsRow base e size v n xs) (hf : Fr S w w')
    (hS : ∀ g, v.ownBlock = some g → ¬ g ∈ S) : w'.ownsRow base e size v n xs := by
  obtain ⟨h1, h2⟩ := h
  refine ⟨h1, ?_⟩
  rcases h2 with h2 | ⟨g, cap, cur, rfl, hg, hh, r⟩
  · exact .inl h2
  · exact .inr ⟨g, cap, cur, rfl, hg, (hf.block g (Array.getElem?_eq_some_iff.1 hh).1 (hS g rfl)).trans hh, r⟩
theorem owns_base {w : World} {base base' e size : Nat} {v : Value} {n : Nat} {xs : List Value} (h : w.ownsRow base e size v n xs) (hb : base' ≤ base) : w.ownsRow base' e size v n xs := by
  obtain ⟨h1, h2⟩ := h
  refine ⟨h1, ?_⟩
  rcases h2 with h2 | ⟨g, cap, cur, hv, hg, r⟩
  · exact .inl h2
  · exact .inr ⟨g, cap, cur, hv, Nat.le_trans hb hg, r⟩
/-- a row of cells that owns, as a slice's value with its cells -/
theorem owns_at {w : World} {base e : Nat} {v : Value} {n : Nat} {xs : List Value} (h : w.ownsRow base e 1 v n xs) :
    ∃ oa c, v = .slice oa n c ∧ ∀ (j : Nat) (u : Value), xs[j]? = some u → ∃ g cur, oa = some ⟨g, 0, none⟩ ∧ base ≤ g ∧ Blk w g e cur ∧ cur[j]? = some u := by
  obtain ⟨hl, ⟨rfl, rfl, rfl⟩ | ⟨g, cap, cur, rfl, hg, hb, _, _, _, ht⟩⟩ := owns_cases h
  · exact ⟨none, 0, rfl, by simp⟩
  · exact ⟨_, _, rfl, fun j u hj => ⟨g, cur, rfl, hg, hb, take_get ht hj⟩⟩
theorem owns_ge {w : World} {base e size : Nat} {v : Value} {n : Nat} {xs : List Value} (h : w.ownsRow base e size v n xs) : ∀ g, v.ownBlock = some g → base ≤ g := by
  intro g hg
  obtain ⟨h1, ⟨rfl, _⟩ | ⟨g', cap, cur, rfl, hb, _⟩⟩ := h
  · cases hg
  · cases hg; exact hb
theorem new_cells (w : World) (v : Value) (T : TypeId) (ad : Addr) (had : ad = ⟨w.heap.size, 0, none⟩) : ∀ (j : Nat) (u : Value), [v][j]? = some u → (w.alloc (.cells #[v] T)).cell? (ad.add j) = some u := by
  subst had
  intro j u hu
  match j, hu with
  | 0, hu =>
    simp only [List.getElem?_cons_zero, Option.some.injEq] at hu
    subst hu
    exact (Blk.new w #[v] T).cell rfl
theorem run_equalIn_func_nil {P : Program} (w : World) (d : Nat) (t : TypeId) (fn : Fn) (x y : Array Value) {a b : Array TypeId} {c : Bool} (h : P.underlying t = some (.func a b c)) :
    (Op.equalIn (d + 1) t (.func fn x y) .nilFunc).run P w = .ok false w := by
  simp [Op.equalIn, run_underlying h]
theorem run_eql_func_nil {P : Program} (w : World) (t : TypeId) (fn : Fn) (x y : Array Value) {a b : Array TypeId} {c : Bool} (h : P.underlying t = some (.func a b c)) :
    (binOp .eql t (.func fn x y) .nilFunc).run P w = .ok (.bool false) w := by
  simp only [binOp]
  simp [Op.equal, Op.maxDepth, run_equalIn_func_nil w 9999 t fn x y h]
theorem madeCells_one (v : Value) (n : Nat) : (madeCells #[v] n).toList = List.replicate n v := by
  apply List.ext_getElem
  · simp [madeCells]
  · intro i h1 h2
    simp only [List.length_replicate] at h2
    simp [madeCells, Nat.mod_one]
end Go.Proofs.Ythhkgknolclakaa
