/- A range over an iterator of the library's over a slice of ints: the iterator's contract, and what an invariant of such a loop has to bear. -/
import Derived.RangeFuncNested
import Derived.RangeFuncBound
import Derived.RangeFuncCalls
import Derived.RangeFuncLeaves
import Derived.Shelf.Abstract
import Derived.Shelf.RegionOpen
import Derived.OwnWalkIn
import Derived.TacticsInMore
import Derived.LoopNIn
import Derived.LoopIn
import Derived.Test.YthhkgknolclakaaProg
import Derived.Test.YthhkgknolclakaaKit
namespace Go.Proofs.Ythhkgknolclakaa
open Go.RowKit Go.Shelf
attribute [local go_sem] Oper.semAt_some

/-- what holds its ground where blocks turn that are no cells, and lie at or beyond B -/
def Stable (B : Nat) (I : World → Prop) : Prop :=
  ∀ W W' : World, ∀ T : List Nat, I W → Fr T W W' → (∀ r, r ∈ T → B ≤ r ∧ ∃ o : Obj, W.heap[r]? = some o ∧ o.isCells = false) → I W'
theorem Stable.own {α : Type} {B : Nat} {I : List α → World → Prop} (h : ∀ s, Stable B (I s)) : OwnFrom B I := by
  intro s W W' row hs hg hr
  exact h s W W' row.toList hs ((Fr.refl _ W).grown hg (fun k hk => .inl (by simp [hk]))) (fun r hrr => hr r (by simpa using hrr))
theorem Stable.and {B : Nat} {I J : World → Prop} (h : Stable B I) (k : Stable B J) : Stable B (fun W => I W ∧ J W) :=
  fun W W' T ⟨a, b⟩ hf hr => ⟨h W W' T a hf hr, k W W' T b hf hr⟩
theorem Stable.pure (B : Nat) (p : Prop) : Stable B (fun _ => p) := fun _ _ _ h _ _ => h
theorem Stable.ex {β : Type} {B : Nat} {I : β → World → Prop} (h : ∀ x, Stable B (I x)) : Stable B (fun W => ∃ x, I x W) :=
  fun W W' T ⟨x, a⟩ hf hr => ⟨x, h x W W' T a hf hr⟩
theorem Stable.fr {B : Nat} (S : List Nat) (w : World) (hB : w.heap.size ≤ B) : Stable B (fun W => Fr S w W) :=
  fun _ _ _ h hf hr => h.comp hf (fun i hi => .inr (by have := (hr i hi).1; omega))
theorem Stable.blk (B b T : Nat) (c : Array Value) : Stable B (fun W => Blk W b T c) := by
  intro W W' S h hf hr
  refine h.fr hf (fun hb => ?_)
  obtain ⟨_, o, ho, hc⟩ := hr b hb
  unfold Blk at h
  rw [h] at ho
  cases ho
  cases hc
theorem Stable.owns (B base e size : Nat) (v : Value) (n : Nat) (xs : List Value) : Stable B (fun W => W.ownsRow base e size v n xs) := by
  intro W W' S h hf hr
  refine owns_fr h hf (fun g hg hb => ?_)
  obtain ⟨_, o, ho, hc⟩ := hr g hb
  obtain ⟨h1, ⟨rfl, _⟩ | ⟨g', cap, cur, rfl, _, hh, _⟩⟩ := h
  · cases hg
  · cases hg
    rw [hh] at ho
    cases ho
    cases hc
theorem Stable.lt {B b : Nat} {I : World → Prop} (hb : b < B) (h : ∀ W W' S, I W → Fr S W W' → ¬ b ∈ S → I W') : Stable B I :=
  fun W W' S hI hf hr => h W W' S hI hf (fun hs => by have := (hr b hs).1; omega)
theorem Stable.fr2 {B : Nat} {S : List Nat} {I : World → Prop} (hS : ∀ b, b ∈ S → b < B) (h : ∀ W W' T, I W → Fr T W W' → (∀ b, b ∈ S → ¬ b ∈ T) → I W') : Stable B I :=
  fun W W' T hI hf hr => h W W' T hI hf (fun b hb ht => by have := (hr b ht).1; have := hS b hb; omega)
/-- a body that keeps a frame keeps what is no cells -/
theorem Fr.keeps {B : Nat} {S : List Nat} {W W' : World} (h : Fr S W W') (hS : ∀ r, r ∈ S → r < B ∨ W.heap.size ≤ r ∨ ∃ T c, Blk W r T c) : KeepsFrom B W W' :=
  ⟨h.size, fun k o hk hko hc => (h.block k (Array.getElem?_eq_some_iff.1 hko).1 (fun hs => by
    rcases hS k hs with h1 | h1 | ⟨T, c, h1⟩
    · omega
    · have := (Array.getElem?_eq_some_iff.1 hko).1; omega
    · unfold Blk at h1
      rw [h1] at hko
      cases hko
      cases hc)).trans hko⟩

/-- the blocks of K lie as they lay -/
structure KpL (K : List Nat) (W W' : World) : Prop where
  size : W.heap.size ≤ W'.heap.size
  block : ∀ k, k ∈ K → k < W.heap.size → W'.heap[k]? = W.heap[k]?
theorem KpL.refl (K : List Nat) (W : World) : KpL K W W := ⟨Nat.le_refl _, fun _ _ _ => rfl⟩
theorem KpL.trans {K : List Nat} {A B C : World} (h : KpL K A B) (k : KpL K B C) : KpL K A C :=
  ⟨Nat.le_trans h.size k.size, fun i hi hl => (k.block i hi (Nat.lt_of_lt_of_le hl h.size)).trans (h.block i hi hl)⟩
theorem KpL.put {K : List Nat} {w : World} (hK : ∀ k, k ∈ K → k < w.heap.size) (W : World) (l : Nat) (o o' : Obj) (hl : w.heap.size ≤ l) (_ : W.heap[l]? = some o) (_ : o.isCells = false) (_ : o.isWalk = false) : KpL K W (W.putObj l o') :=
  ⟨by simp [World.putObj], fun k hk _ => World.putObj_heap_other (by have := hK k hk; omega)⟩
theorem KpL.of_fr {K S : List Nat} {W W' : World} (h : Fr S W W') (hd : ∀ k, k ∈ K → ¬ k ∈ S) : KpL K W W' := ⟨h.size, fun k hk hl => h.block k hl (hd k hk)⟩
theorem Blk.kp {K : List Nat} {w w' : World} {b : Nat} {T : TypeId} {c : Array Value} (h : Blk w b T c) (hf : KpL K w w') (hs : b ∈ K) : Blk w' b T c :=
  (hf.block b hs h.lt).trans h

theorem Fr.put {S : List Nat} {a b : World} (h : Fr S a b) (l : Nat) (hl : a.heap.size ≤ l) (o : Obj) : Fr S a (b.putObj l o) :=
  h.comp (T := [l]) ⟨rfl, rfl, rfl, by simp [World.putObj], fun k _ hk => World.putObj_heap_other (by simpa using hk)⟩ (fun i hi => .inr (by simp at hi; omega))

theorem Fr.put' {S : List Nat} {a b : World} (h : Fr S a b) (l : Nat) (hl : l ∈ S) (o : Obj) : Fr S a (b.putObj l o) :=
  h.comp (T := [l]) ⟨rfl, rfl, rfl, by simp [World.putObj], fun k _ hk => World.putObj_heap_other (by simpa using hk)⟩ (fun i hi => .inl (by simp at hi; subst hi; exact hl))

section scope
variable {P : Program} {b : Frame} {a : Act} {k : List Item} {cs : List Frame} {w : World} {Q : Exit → Act → World → Prop} {F : Fence} {n : Nat}
theorem stepR_scope {c : Code} : step P (lone (b.atR a (.code (.scope c) :: k)) cs w) = .next (lone (b.atR a (.code c :: .inScope c :: k)) cs w) :=
  step_lone_go (by simp [stepG, stepG.exec, Frame.atR])
theorem stepR_inScope {c : Code} : step P (lone (b.atR a (.inScope c :: k)) cs w) = .next (lone (b.atR a k) cs w) :=
  step_lone_go (by simp [stepG, stepG.exec, Frame.atR])
/-- a body that holds labels, to which no goto jumps -/
theorem wpIn_scope_straight {c : Code} (h : c.wpIn F n P (Exit.noGoto Q) a w) : (Code.scope c).wpIn F n P Q a w := by
  intro b k cs hro hb hr
  have h0 : (lone (b.atR a (.code (.scope c) :: k)) cs w).fenced P F := fenced_calm hb hr rfl
  obtain ⟨e, a₁, w₁, hq, harr⟩ := h b (.inScope c :: k) cs hro hb hr
  cases e with
  | normal => exact ⟨.normal, a₁, w₁, hq, .head h0 stepR_scope (StepsIn.trans harr (.one (fenced_calm hb hr rfl) stepR_inScope))⟩
  | exit id' =>
    have hx : exitTo id' (.inScope c :: k) = exitTo id' k := by simp [exitTo]
    exact ⟨.exit id', a₁, w₁, hq, fun k' hk => .head h0 stepR_scope (harr.1 k' (by rw [hx]; exact hk)),
      fun hr' hk => let ⟨k₁, h1, h2⟩ := harr.2 hr' (by rw [hx]; exact hk); ⟨k₁, h1, .head h0 stepR_scope h2⟩⟩
  | goto l => exact hq.elim
  | ret => exact ⟨_, a₁, w₁, hq, .of_steps (.one h0 stepR_scope) harr⟩
  | panic ch => exact ⟨_, a₁, w₁, hq, .of_steps (.one h0 stepR_scope) harr⟩
  | outgrown => exact ⟨_, a₁, w₁, hq, .of_steps (.one h0 stepR_scope) harr⟩
end scope

/-- what has come when k rounds are over -/
def upto {α : Type} (f : Nat → α) (k : Nat) : List α := (List.range k).map f
theorem upto_succ {α : Type} (f : Nat → α) (k : Nat) : upto f (k + 1) = upto f k ++ [f k] := by simp [upto, List.range_succ]
theorem upto_length {α : Type} (f : Nat → α) (k : Nat) : (upto f k).length = k := by simp [upto]
theorem upto_all {α : Type} (d : α) (zs : List α) : upto (fun j => zs[j]?.getD d) zs.length = zs := by
  apply List.ext_getElem
  · simp [upto]
  · intro i h1 h2
    simp [upto, h2]
theorem upto_take {α : Type} (d : α) (zs : List α) {k : Nat} (hk : k ≤ zs.length) : upto (fun j => zs[j]?.getD d) k = zs.take k := by
  apply List.ext_getElem
  · simp [upto, hk]
  · intro i h1 h2
    have : i < zs.length := by simp [upto] at h1; omega
    simp [upto, this]

set_option maxRecDepth 100000 in
set_option maxHeartbeats 2000000 in
theorem values1_in (F : Fence) (n : Nat) (h7 : F.fn 46) (hro : F.round = none) (hn : 1 ≤ n) (l Bs b len cap : Nat) (zs : List Nat) (hreach : len * 8 ≤ 140737488351232) (J Jx : List Nat → World → Prop)
    (hY : ∀ pre x W, J pre W → pre.length < len → YieldAt F (n - 1) Try.prog l #[.int .i64 (x : Nat)] W fun e W' =>
      (e = .returned (.bool true) ∧ J (pre ++ [x]) W' ∧ KpL [b] W W') ∨ (e = .returned (.bool false) ∧ Jx (pre ++ [x]) W'))
    (W : World) (hBs : W.cell? ⟨Bs, 0, none⟩ = some (.slice (some ⟨b, 0, none⟩) len cap)) (cur : Array Value) (hb : Blk W b 3 cur) (hc : ∀ j, j < len → cur[j]? = some (.int .i64 (zs[j]?.getD 0 : Nat))) (h0 : J [] W) :
    CallsIn F n Try.prog 46 #[.func (.yield l) #[] #[], .pointer (some ⟨Bs, 0, none⟩)] W fun e W' => (∃ v, e = .returned v) ∧
      ((∃ ys, ys = upto (fun j => zs[j]?.getD 0) len ∧ J ys W') ∨ (∃ pre, (∃ k, k ≤ len ∧ pre = upto (fun j => zs[j]?.getD 0) k) ∧ Jx pre W')) := by
  refine callsIn_of_wp Try.func46 rfl h7 ?_ hro
  simp only [Try.ntmps46, List.size_toArray, List.length_cons, List.length_nil, Nat.reduceAdd, Nat.reduceSub, Array.replicate_succ, Array.replicate_zero, List.push_toArray, List.append_toArray, List.nil_append, List.cons_append]
  gi_wp2
  gi_loopw [7] (fun i wr => ∃ k : Nat, k ≤ len ∧ i = .int .i64 k ∧ J (upto (fun j => zs[j]?.getD 0) k) wr ∧ KpL [b] W wr)
    (fun i _ => len - (intOf i).toNat)
  case atStart => exact ⟨0, Nat.zero_le _, rfl, h0, KpL.refl _ _⟩
  case round =>
    obtain ⟨k, hk, rfl, hJs, hnx⟩ := hrel
    have hcx : k < len → wr.cell? ⟨b, k, none⟩ = some (.int .i64 (zs[k]?.getD 0 : Nat)) := fun h => (hb.kp hnx (by simp)).cell (hc k h)
    by_cases hlt : k < len
    · obtain ⟨fn, tmps, assign, body, hy, hR⟩ := hY _ (zs[k]?.getD 0) wr hJs (by rw [upto_length]; exact hlt)
      have hcx' := hcx hlt
      gi_wp2
      refine hR.mono ?_
      rintro e W3 (⟨rfl, hJ3, hk3⟩ | ⟨rfl, hJx3⟩)
      · gi_wp2
        go_roundw
        case rel => exact ⟨k + 1, by omega, by simp, by rw [upto_succ]; exact hJ3, hnx.trans hk3⟩
        case measure => simp [intOf]; omega
      · gi_wp2
        refine bodyPost_ret (results_none rfl _ _ _) rfl ?_
        exact ⟨⟨_, rfl⟩, .inr ⟨_, ⟨k + 1, by omega, (upto_succ _ _).symm⟩, hJx3⟩⟩
    · obtain rfl : k = len := by omega
      gi_wp2
      go_end0
      exact ⟨⟨_, rfl⟩, .inl ⟨_, rfl, hJs⟩⟩
set_option maxRecDepth 100000 in
set_option maxHeartbeats 1000000 in
theorem values1_nil_in (F : Fence) (n : Nat) (h7 : F.fn 46) (hro : F.round = none) (l Bs : Nat) (J : List Nat → World → Prop) (W : World) (hBs : W.cell? ⟨Bs, 0, none⟩ = some (.slice none 0 0)) (h0 : J [] W) :
    CallsIn F n Try.prog 46 #[.func (.yield l) #[] #[], .pointer (some ⟨Bs, 0, none⟩)] W fun e W' => (∃ v, e = .returned v) ∧ J [] W' := by
  refine callsIn_of_wp Try.func46 rfl h7 ?_ hro
  simp only [Try.ntmps46, List.size_toArray, List.length_cons, List.length_nil, Nat.reduceAdd, Nat.reduceSub, Array.replicate_succ, Array.replicate_zero, List.push_toArray, List.append_toArray, List.nil_append, List.cons_append]
  gi_wp2
  gi_loopw [7] (fun i wr => i = .int .i64 0 ∧ J [] wr) (fun _ _ => 0)
  case atStart => exact ⟨rfl, h0⟩
  case round =>
    obtain ⟨rfl, hJs⟩ := hrel
    gi_wp2
    go_end0
    exact ⟨⟨_, rfl⟩, hJs⟩

/-- the closure of slices.Values over a box of an owned row of ints gives them all, in order, or the first ones -/
theorem values_stops (F : Fence) (n : Nat) (h7 : F.fn 46) (hro : F.round = none) (hn : 1 ≤ n) (Bs base : Nat) (sv : Value) (zs : List Nat) (hreach : zs.length * 8 ≤ 140737488351232) (w : World)
    (hc : Blk w Bs 31 #[sv]) (hI : w.ownsRow base 3 1 sv zs.length (zs.map fun (j : Nat) => .int .i64 j)) :
    SeqStopsK F n Try.prog 46 #[.pointer (some ⟨Bs, 0, none⟩)] (fun x : Nat => #[Value.int .i64 x]) (KpL sv.ownBlock.toList) (fun ys => ys = zs) (fun pre => pre <+: zs) zs.length w := fun l J Jx W hW _ _ hY h0 => by
  have hc' : W.cell? ⟨Bs, 0, none⟩ = some sv := (hc.below hW hc.lt).cell rfl
  obtain ⟨_, ⟨rfl, hz, _⟩ | ⟨g, cap, cur, rfl, _, hb, _, _, _, ht⟩⟩ := owns_cases hI
  · obtain rfl : zs = [] := List.eq_nil_of_length_eq_zero hz
    exact (values1_nil_in F n h7 hro l Bs J W hc' h0).mono fun e W' ⟨he, hj⟩ => ⟨he, .inl ⟨_, rfl, hj⟩⟩
  · refine (values1_in F n h7 hro hn l Bs g zs.length cap zs hreach J Jx hY W hc' cur (hb.below hW hb.lt) ?_ h0).mono ?_
    · intro j hj
      exact take_get ht (by simp [hj])
    · rintro e W' ⟨he, ⟨ys, rfl, hj⟩ | ⟨pre, ⟨k, hk, rfl⟩, hj⟩⟩
      · exact ⟨he, .inl ⟨_, upto_all 0 zs, hj⟩⟩
      · exact ⟨he, .inr ⟨_, by rw [upto_take 0 zs hk]; exact List.take_prefix _ _, hj⟩⟩
theorem owns_is_blk {w : World} {base e size : Nat} {v : Value} {n : Nat} {xs : List Value} (h : w.ownsRow base e size v n xs) : ∀ g, g ∈ v.ownBlock.toList → ∃ c, Blk w g e c := by
  intro g hg
  obtain ⟨h1, ⟨rfl, _⟩ | ⟨g', cap, cur, rfl, hb, hh, _⟩⟩ := h
  · simp [Value.ownBlock] at hg
  · simp [Value.ownBlock] at hg; subst hg; exact ⟨_, hh⟩
theorem owns_block_lt {w : World} {base e size : Nat} {v : Value} {n : Nat} {xs : List Value} (h : w.ownsRow base e size v n xs) : ∀ g, g ∈ v.ownBlock.toList → g < w.heap.size := by
  intro g hg
  obtain ⟨h1, ⟨rfl, _⟩ | ⟨g', cap, cur, rfl, hb, hh, _⟩⟩ := h
  · simp [Value.ownBlock] at hg
  · simp [Value.ownBlock] at hg; subst hg; exact (Array.getElem?_eq_some_iff.1 hh).1
end Go.Proofs.Ythhkgknolclakaa
