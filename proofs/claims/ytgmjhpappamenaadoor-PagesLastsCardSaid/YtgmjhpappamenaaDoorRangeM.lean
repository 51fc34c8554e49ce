/- A range over a function of the program's own that turns cells between its rounds: what holds at each round's head, when yield is called, and behind the statement. -/
import Derived.Test.YtgmjhpappamenaaDoorRange
namespace Go.Proofs.YtgmjhpappamenaaDoor
open Go.RowKit Go.Shelf

/-- how a round's body is left -/
def mvPost {α : Type} (B : Nat) (I : List α → World → Prop) (Ix : Code → List α → World → Prop) (xs : List α) (W : World) : Exit → Act → World → Prop
  | .normal, _, W' => KeepsFrom B W W' ∧ I xs W'
  | .ret, _, W' => KeepsFrom B W W' ∧ Ix .ret xs W'
  | .exit id, _, W' => KeepsFrom B W W' ∧ Ix (.exit id) xs W'
  | .goto t, _, W' => KeepsFrom B W W' ∧ Ix (.goto t) xs W'
  | .panic _, _, _ => False
  | .outgrown, _, _ => False
theorem Stable.putObj {B : Nat} {I : World → Prop} (h : Stable B I) {W : World} {l : Nat} {o o' : Obj} (hi : I W) (hB : B ≤ l) (hl : W.heap[l]? = some o) (ho : o.isCells = false) : I (W.putObj l o') :=
  h W _ [l] hi ((Fr.refl [l] W).put' l (by simp) o') (fun r hr => by obtain rfl : r = l := by simpa using hr
                                                                     exact ⟨hB, o, hl, ho⟩)
theorem Stable.alloc {B : Nat} {I : World → Prop} (h : Stable B I) {W : World} (o : Obj) (hi : I W) : I (W.alloc o) :=
  h W _ [] hi ((Fr.refl [] W).alloc o) (fun r hr => by cases hr)
theorem Stable.ex2 {β : Type} {B : Nat} {I : β → World → Prop} (h : ∀ x, Stable B (I x)) : Stable B (fun W => ∃ x, I x W) := Stable.ex h
section
variable {F : Fence} {n : Nat} {P : Program}
theorem range_mv {α : Type} {g : Operand} {ps : Array Tmp} {assign body : Code} {Q : Exit → Act → World → Prop} {a : Act} {w : World} (hro : F.round = none) (h1 : 1 ≤ n)
    {gf : Nat} {lb : Array Value} (hg : a.eval g = .func (.func gf) #[] lb) (hFg : F.fn gf) (eg : ∀ args w, (callFunc gf args).run P w = .ok (.enter gf args) w)
    {encs : α → Array Value} (hps : ∀ x, (encs x).size = ps.size) (S : List α → Prop)
    (I : List α → World → Prop) (IY : List α → α → World → Prop) (IA : List α → α → Act → World → Prop) (Ix : Code → List α → World → Prop)
    (hI : ∀ s, Stable w.heap.size (I s)) (hIA : ∀ s x a', Stable w.heap.size (IA s x a')) (hIx : ∀ c s, Stable w.heap.size (Ix c s)) (h0 : I [] w)
    (hseq : ∀ (l : Nat) (Bk : World → Prop) (Bx : Code → World → Prop), w.heap.size ≤ l → (∀ W W', Bk W → KeepsFrom w.heap.size W W' → Bk W') →
      (∀ pre x W, IY pre x W → Bk W → YieldAt F (n - 1 - 1) P l (encs x) W fun e W' => (e = .returned (.bool true) ∧ I (pre ++ [x]) W' ∧ Bk W') ∨ (e = .returned (.bool false) ∧ ∃ c, Ix c (pre ++ [x]) W' ∧ Bx c W')) →
      ∀ W, I [] W → Bk W → CallsIn F (n - 1) P gf (#[.func (.yield l) #[] #[]] ++ lb) W fun e W' => (∃ v, e = .returned v) ∧ ((∃ xs, S xs ∧ I xs W' ∧ Bk W') ∨ (∃ c pre, Ix c pre W' ∧ Bx c W')))
    (hassign : ∀ (l : Nat) (pre : List α) (x : α) (W : World) (K : Act → World → Prop), IY pre x W → (∀ a' W', KeepsFrom w.heap.size W W' → IA pre x a' W' → K a' W') →
      assign.wpIn (F.inRound l) (n - 1 - 1) P (Exit.then K (fun _ _ _ => False)) { tmps := (ps.zip (encs x)).foldl (fun t (p, v) => t.setIfInBounds p v) a.tmps, defers := [] } W)
    (hbody : ∀ (l : Nat) (pre : List α) (x : α) (a' : Act) (W : World), w.heap.size ≤ l → IA pre x a' W → body.wpIn (F.inRound l) (n - 1 - 1) P (mvPost w.heap.size I Ix (pre ++ [x]) W) a' W)
    (hdone : ∀ (D : Nat) (xs : List α) (W : World), w.heap.size ≤ D → S xs → I xs W → W.heap[D]? = some (.deferred (some [])) → Q .normal { a with defers := { target := .collected D, args := #[] } :: a.defers } W)
    (hstop : ∀ (D : Nat) (c : Code) (pre : List α) (W : World), w.heap.size ≤ D → Ix c pre W → W.heap[D]? = some (.deferred (some [])) → c.wpIn F n P Q { a with defers := { target := .collected D, args := #[] } :: a.defers } W) :
    (Code.rangeFunc g ps assign body).wpIn F n P Q a w := by
  refine wpIn_rangeFunc fun fn hfn => ?_
  rw [hro]
  let rc : LoopState → Option Code → Loop := fun st pe => { state := st, pending := pe, fn := fn, tmps := a.tmps, params := ps, assign := assign, body := body, defers := w.heap.size }
  let U : World := (w.alloc (.deferred (some []))).alloc (.loop (rc .ready none))
  have uL : U.heap[w.heap.size + 1]? = some (.loop (rc .ready none)) := by
    have h := World.alloc_heap_new (w.alloc (.deferred (some []))) (.loop (rc .ready none))
    rwa [World.size_alloc] at h
  have uD : U.heap[w.heap.size]? = some (.deferred (some [])) := (Below.heap_alloc _ _ _ (by simp)).trans (World.alloc_heap_new w _)
  let Bk : World → Prop := fun W => W.heap[w.heap.size + 1]? = some (.loop (rc .ready none)) ∧ W.heap[w.heap.size]? = some (.deferred (some []))
  let Bx : Code → World → Prop := fun c W => W.heap[w.heap.size + 1]? = some (.loop (rc .done (some c))) ∧ W.heap[w.heap.size]? = some (.deferred (some []))
  refine ⟨w.heap.size + 1, [{ target := .collected w.heap.size, args := #[] }], U, { target := .fn (.func gf) lb, args := #[.func (.yield (w.heap.size + 1)) #[] #[]] }, U, gf,
    #[.func (.yield (w.heap.size + 1)) #[] #[]] ++ lb, U, run_enterLoop_outer _ _ _ _ _, ?_, ?_, ?_, fun _ => h1, ?_⟩
  · simp only [resolve, hg]
    simp [go_sem]
  · intro f' hf'
    simp [Target.leads] at hf'
    subst hf'
    exact hFg
  · simp [invoke, go_sem, eg]
  · refine (hseq (w.heap.size + 1) Bk Bx (by omega) (fun W W' hb hk => ⟨hk.same _ _ (by omega) hb.1 rfl, hk.same _ _ (Nat.le_refl _) hb.2 rfl⟩) ?_ U ((hI _).alloc _ ((hI _).alloc _ h0)) ⟨uL, uD⟩).mono ?_
    · intro pre x W hy hb
      refine ⟨fn, _, assign, body, run_yield (P := P) (args := encs x) hb.1 (hps x), roundIn_of_wpIn hfn (hassign _ pre x W _ hy ?_)⟩
      intro a' V hk hia
      have vL : V.heap[w.heap.size + 1]? = some (.loop (rc .ready none)) := hk.same _ _ (by omega) hb.1 rfl
      have vD : V.heap[w.heap.size]? = some (.deferred (some [])) := hk.same _ _ (Nat.le_refl _) hb.2 rfl
      have vlt : w.heap.size + 1 < V.heap.size := (Array.getElem?_eq_some_iff.1 vL).1
      refine ⟨_, run_beginRound vL rfl, ?_⟩
      have bL : (V.putObj (w.heap.size + 1) (.loop { rc .ready none with state := .busy })).heap[w.heap.size + 1]? = some (.loop { rc .ready none with state := .busy }) := World.putObj_heap_same vlt
      have bD : (V.putObj (w.heap.size + 1) (.loop { rc .ready none with state := .busy })).heap[w.heap.size]? = some (.deferred (some [])) := (World.putObj_heap_other (by omega)).trans vD
      refine wpIn_mono (hbody _ pre x a' _ (by omega) ((hIA pre x a').putObj hia (by omega) vL rfl)) ?_
      have last : ∀ (j : Option Code) (X : World), KeepsFrom w.heap.size (V.putObj (w.heap.size + 1) (.loop { rc .ready none with state := .busy })) X →
          ∃ X', (Instr.endRound (w.heap.size + 1) j).run P X = .ok (.bool j.isNone) X' ∧ X' = X.putObj (w.heap.size + 1) (.loop (rc (if j.isNone then .ready else .done) j)) ∧
            X.heap[w.heap.size + 1]? = some (.loop { rc .ready none with state := .busy }) ∧ X'.heap[w.heap.size + 1]? = some (.loop (rc (if j.isNone then .ready else .done) j)) ∧ X'.heap[w.heap.size]? = some (.deferred (some [])) := by
        intro j X hX
        have xL := hX.same _ _ (by omega) bL rfl
        exact ⟨_, run_endRound (P := P) j xL, rfl, xL, World.putObj_heap_same (Array.getElem?_eq_some_iff.1 xL).1, (World.putObj_heap_other (by omega)).trans (hX.same _ _ (Nat.le_refl _) bD rfl)⟩
      intro e b X hp
      cases e with
      | normal =>
        obtain ⟨X', hr, rfl, xL, yL, yD⟩ := last none X hp.1
        exact ⟨_, _, hr, .inl ⟨rfl, (hI _).putObj hp.2 (by omega) xL rfl, yL, yD⟩⟩
      | ret =>
        obtain ⟨X', hr, rfl, xL, yL, yD⟩ := last (some .ret) X hp.1
        exact ⟨_, _, hr, .inr ⟨rfl, .ret, (hIx _ _).putObj hp.2 (by omega) xL rfl, yL, yD⟩⟩
      | exit id =>
        obtain ⟨X', hr, rfl, xL, yL, yD⟩ := last (some (.exit id)) X hp.1
        exact ⟨_, _, hr, .inr ⟨rfl, .exit id, (hIx _ _).putObj hp.2 (by omega) xL rfl, yL, yD⟩⟩
      | goto t =>
        obtain ⟨X', hr, rfl, xL, yL, yD⟩ := last (some (.goto t)) X hp.1
        exact ⟨_, _, hr, .inr ⟨rfl, .goto t, (hIx _ _).putObj hp.2 (by omega) xL rfl, yL, yD⟩⟩
      | panic c => exact hp.elim
      | outgrown => exact hp.elim
    · rintro e X ⟨⟨v, rfl⟩, ⟨xs, hS, hi, hb⟩ | ⟨c, pre, hi, hb⟩⟩
      · exact ⟨none, _, run_endLoop (P := P) hb.1 (by simp [rc]), hdone _ xs _ (Nat.le_refl _) hS ((hI _).putObj hi (by omega) hb.1 rfl) ((World.putObj_heap_other (by omega)).trans hb.2)⟩
      · exact ⟨some c, _, run_endLoop (P := P) hb.1 (by simp [rc]), hstop _ c pre _ (Nat.le_refl _) ((hIx c pre).putObj hi (by omega) hb.1 rfl) ((World.putObj_heap_other (by omega)).trans hb.2)⟩
end
end Go.Proofs.YtgmjhpappamenaaDoor
