/- A range over an iterator of the library's over a slice of ints: the iterator's contract, and what an invariant of such a loop has to bear. -/
import Derived.RangeFuncNested
import Derived.RangeFuncBound
import Derived.RangeFuncCalls
import Derived.RangeFuncLeaves
import Derived.Shelf.Abstract
import Derived.Shelf.RegionOpen
import Derived.OwnWalkIn
import Derived.TacticsInMore
import Derived.LoopNIn
import Derived.LoopIn
import Derived.Test.YtgmjhpappamenaaDoorProg
import Derived.Test.YtgmjhpappamenaaDoorKit
namespace Go.Proofs.YtgmjhpappamenaaDoor
open Go.RowKit Go.Shelf
attribute [local go_sem] Oper.semAt_some

/-- what holds its ground where blocks turn that are no cells, and lie at or beyond B -/
def Stable (B : Nat) (I : World → Prop) : Prop :=
  ∀ W W' : World, ∀ T : List Nat, I W → Fr T W W' → (∀ r, r ∈ T → B ≤ r ∧ ∃ o : Obj, W.heap[r]? = some o ∧ o.isCells = false) → I W'
theorem Stable.own {α : Type} {B : Nat} {I : List α → World → Prop} (h : ∀ s, Stable B (I s)) : OwnFrom B I := by
  intro s W W' row hs hg hr
  exact h s W W' row.toList hs ((Fr.refl _ W).grown hg (fun k hk => .inl (by simp [hk]))) (fun r hrr => hr r (by simpa using hrr))
theorem Stable.and {B : Nat} {I J : World → Prop} (h : Stable B I) (k : Stable B J) : Stable B (fun W => I W ∧ J W) :=
  fun W W' T ⟨a, b⟩ hf hr => ⟨h W W' T a hf hr, k W W' T b hf hr⟩
theorem Stable.pure (B : Nat) (p : Prop) : Stable B (fun _ => p) := fun _ _ _ h _ _ => h
theorem Stable.ex {β : Type} {B : Nat} {I : β → World → Prop} (h : ∀ x, Stable B (I x)) : Stable B (fun W => ∃ x, I x W) :=
  fun W W' T ⟨x, a⟩ hf hr => ⟨x, h x W W' T a hf hr⟩
theorem Stable.fr {B : Nat} (S : List Nat) (w : World) (hB : w.heap.size ≤ B) : Stable B (fun W => Fr S w W) :=
  fun _ _ _ h hf hr => h.comp hf (fun i hi => .inr (by have := (hr i hi).1; omega))
theorem Stable.blk (B b T : Nat) (c : Array Value) : Stable B (fun W => Blk W b T c) := by
  intro W W' S h hf hr
  refine h.fr hf (fun hb => ?_)
  obtain ⟨_, o, ho, hc⟩ := hr b hb
  unfold Blk at h
  rw [h] at ho
  cases ho
  cases hc
theorem Stable.owns (B base e size : Nat) (v : Value) (n : Nat) (xs : List Value) : Stable B (fun W => W.ownsRow base e size v n xs) := by
  intro W W' S h hf hr
  refine owns_fr h hf (fun g hg hb => ?_)
  obtain ⟨_, o, ho, hc⟩ := hr g hb
  obtain ⟨h1, ⟨rfl, _⟩ | ⟨g', cap, cur, rfl, _, hh, _⟩⟩ := h
  · cases hg
  · cases hg
    rw [hh] at ho
    cases ho
    cases hc
theorem Stable.lt {B b : Nat} {I : World → Prop} (hb : b < B) (h : ∀ W W' S, I W → Fr S W W' → ¬ b ∈ S → I W') : Stable B I :=
  fun W W' S hI hf hr => h W W' S hI hf (fun hs => by have := (hr b hs).1; omega)
theorem Stable.fr2 {B : Nat} {S : List Nat} {I : World → Prop} (hS : ∀ b, b ∈ S → b < B) (h : ∀ W W' T, I W → Fr T W W' → (∀ b, b ∈ S → ¬ b ∈ T) → I W') : Stable B I :=
  fun W W' T hI hf hr => h W W' T hI hf (fun b hb ht => by have := (hr b ht).1; have := hS b hb; omega)
/-- a body that keeps a frame keeps what is no cells -/
theorem Fr.keeps {B : Nat} {S : List Nat} {W W' : World} (h : Fr S W W') (hS : ∀ r, r ∈ S → r < B ∨ W.heap.size ≤ r ∨ ∃ T c, Blk W r T c) : KeepsFrom B W W' :=
  ⟨h.size, fun k o hk hko hc => (h.block k (Array.getElem?_eq_some_iff.1 hko).1 (fun hs => by
    rcases hS k hs with h1 | h1 | ⟨T, c, h1⟩
    · omega
    · have := (Array.getElem?_eq_some_iff.1 hko).1; omega
    · unfold Blk at h1
      rw [h1] at hko
      cases hko
      cases hc)).trans hko⟩

/-- the blocks of K lie as they lay -/
structure KpL (K : List Nat) (W W' : World) : Prop where
  size : W.heap.size ≤ W'.heap.size
  block : ∀ k, k ∈ K → k < W.heap.size → W'.heap[k]? = W.heap[k]?
theorem KpL.refl (K : List Nat) (W : World) : KpL K W W := ⟨Nat.le_refl _, fun _ _ _ => rfl⟩
theorem KpL.trans {K : List Nat} {A B C : World} (h : KpL K A B) (k : KpL K B C) : KpL K A C :=
  ⟨Nat.le_trans h.size k.size, fun i hi hl => (k.block i hi (Nat.lt_of_lt_of_le hl h.size)).trans (h.block i hi hl)⟩
theorem KpL.put {K : List Nat} {w : World} (hK : ∀ k, k ∈ K → k < w.heap.size) (W : World) (l : Nat) (o o' : Obj) (hl : w.heap.size ≤ l) (_ : W.heap[l]? = some o) (_ : o.isCells = false) (_ : o.isWalk = false) : KpL K W (W.putObj l o') :=
  ⟨by simp [World.putObj], fun k hk _ => World.putObj_heap_other (by have := hK k hk; omega)⟩
theorem KpL.of_fr {K S : List Nat} {W W' : World} (h : Fr S W W') (hd : ∀ k, k ∈ K → ¬ k ∈ S) : KpL K W W' := ⟨h.size, fun k hk hl => h.block k hl (hd k hk)⟩
theorem Blk.kp {K : List Nat} {w w' : World} {b : Nat} {T : TypeId} {c : Array Value} (h : Blk w b T c) (hf : KpL K w w') (hs : b ∈ K) : Blk w' b T c :=
  (hf.block b hs h.lt).trans h

theorem Fr.put {S : List Nat} {a b : World} (h : Fr S a b) (l : Nat) (hl : a.heap.size ≤ l) (o : Obj) : Fr S a (b.putObj l o) :=
  h.comp (T := [l]) ⟨rfl, rfl, rfl, by simp [World.putObj], fun k _ hk => World.putObj_heap_other (by simpa using hk)⟩ (fun i hi => .inr (by simp at hi; omega))

theorem Fr.put' {S : List Nat} {a b : World} (h : Fr S a b) (l : Nat) (hl : l ∈ S) (o : Obj) : Fr S a (b.putObj l o) :=
  h.comp (T := [l]) ⟨rfl, rfl, rfl, by simp [World.putObj], fun k _ hk => World.putObj_heap_other (by simpa using hk)⟩ (fun i hi => .inl (by simp at hi; subst hi; exact hl))

section scope
variable {P : Program} {b : Frame} {a : Act} {k : List Item} {cs : List Frame} {w : World} {Q : Exit → Act → World → Prop} {F : Fence} {n : Nat}
theorem stepR_scope {c : Code} : step P (lone (b.atR a (.code (.scope c) :: k)) cs w) = .next (lone (b.atR a (.code c :: .inScope c :: k)) cs w) :=
  step_lone_go (by simp [stepG, stepG.exec, Frame.atR])
theorem stepR_inScope {c : Code} : step P (lone (b.atR a (.inScope c :: k)) cs w) = .next (lone (b.atR a k) cs w) :=
  step_lone_go (by simp [stepG, stepG.exec, Frame.atR])
/-- a body that holds labels, to which no goto jumps -/
theorem wpIn_scope_straight {c : Code} (h : c.wpIn F n P (Exit.noGoto Q) a w) : (Code.scope c).wpIn F n P Q a w := by
  intro b k cs hro hb hr
  have h0 : (lone (b.atR a (.code (.scope c) :: k)) cs w).fenced P F := fenced_calm hb hr rfl
  obtain ⟨e, a₁, w₁, hq, harr⟩ := h b (.inScope c :: k) cs hro hb hr
  cases e with
  | normal => exact ⟨.normal, a₁, w₁, hq, .head h0 stepR_scope (StepsIn.trans harr (.one (fenced_calm hb hr rfl) stepR_inScope))⟩
  | exit id' =>
    have hx : exitTo id' (.inScope c :: k) = exitTo id' k := by simp [exitTo]
    exact ⟨.exit id', a₁, w₁, hq, fun k' hk => .head h0 stepR_scope (harr.1 k' (by rw [hx]; exact hk)),
      fun hr' hk => let ⟨k₁, h1, h2⟩ := harr.2 hr' (by rw [hx]; exact hk); ⟨k₁, h1, .head h0 stepR_scope h2⟩⟩
  | goto l => exact hq.elim
  | ret => exact ⟨_, a₁, w₁, hq, .of_steps (.one h0 stepR_scope) harr⟩
  | panic ch => exact ⟨_, a₁, w₁, hq, .of_steps (.one h0 stepR_scope) harr⟩
  | outgrown => exact ⟨_, a₁, w₁, hq, .of_steps (.one h0 stepR_scope) harr⟩
end scope

/-- what has come when k rounds are over -/
def upto {α : Type} (f : Nat → α) (k : Nat) : List α := (List.range k).map f
theorem upto_succ {α : Type} (f : Nat → α) (k : Nat) : upto f (k + 1) = upto f k ++ [f k] := by simp [upto, List.range_succ]
theorem upto_length {α : Type} (f : Nat → α) (k : Nat) : (upto f k).length = k := by simp [upto]
theorem upto_all {α : Type} (d : α) (zs : List α) : upto (fun j => zs[j]?.getD d) zs.length = zs := by
  apply List.ext_getElem
  · simp [upto]
  · intro i h1 h2
    simp [upto, h2]
theorem upto_take {α : Type} (d : α) (zs : List α) {k : Nat} (hk : k ≤ zs.length) : upto (fun j => zs[j]?.getD d) k = zs.take k := by
  apply List.ext_getElem
  · simp [upto, hk]
  · intro i h1 h2
    have : i < zs.length := by simp [upto] at h1; omega
    simp [upto, this]

theorem owns_is_blk {w : World} {base e size : Nat} {v : Value} {n : Nat} {xs : List Value} (h : w.ownsRow base e size v n xs) : ∀ g, g ∈ v.ownBlock.toList → ∃ c, Blk w g e c := by
  intro g hg
  obtain ⟨h1, ⟨rfl, _⟩ | ⟨g', cap, cur, rfl, hb, hh, _⟩⟩ := h
  · simp [Value.ownBlock] at hg
  · simp [Value.ownBlock] at hg; subst hg; exact ⟨_, hh⟩
theorem owns_block_lt {w : World} {base e size : Nat} {v : Value} {n : Nat} {xs : List Value} (h : w.ownsRow base e size v n xs) : ∀ g, g ∈ v.ownBlock.toList → g < w.heap.size := by
  intro g hg
  obtain ⟨h1, ⟨rfl, _⟩ | ⟨g', cap, cur, rfl, hb, hh, _⟩⟩ := h
  · simp [Value.ownBlock] at hg
  · simp [Value.ownBlock] at hg; subst hg; exact (Array.getElem?_eq_some_iff.1 hh).1
end Go.Proofs.YtgmjhpappamenaaDoor
