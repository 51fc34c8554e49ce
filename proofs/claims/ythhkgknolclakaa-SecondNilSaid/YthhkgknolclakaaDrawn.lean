/- Drawn regions: an order of the operations is chosen (what only reads comes as early as it may), checked once by the kernel, and walked; what is read stays as the world grows (Fr). -/
import Derived.Test.YthhkgknolclakaaKit
import Derived.Test.YthhkgknolclakaaBlocks
import Derived.Deep.AppendLies
namespace Go.Proofs.Ythhkgknolclakaa
open Go.RowKit

theorem blk_new {S : List Nat} {a b : World} (_ : Fr S a b) (c : Array Value) (T : TypeId) : Blk (b.alloc (.cells c T)) b.heap.size T c := Blk.new b c T
theorem blk_at (w : World) (c : Array Value) (T : TypeId) (b : Nat) (hb : b = w.heap.size) : Blk (w.alloc (.cells c T)) b T c := by subst hb; exact Blk.new w c T
theorem Blk.grown {w w' : World} {b : Nat} {T : TypeId} {c : Array Value} {row : Option Nat} (h : Blk w b T c) (hg : w.grownBy w' row) (hn : ¬ row = some b) : Blk w' b T c :=
  (hg.block b h.lt (fun e => hn e.symm)).trans h
section
variable {P : Program} {ops : Array Oper} {Q : Exit → Act → World → Prop} {md : Region.Mode} {R : World → World → Prop} {N : List Nat}

/-- whatever order is picked from here on; each operation that is carried out, but for those of N, leads from a world to one that R relates to it -/
def wpAnyR (P : Program) (md : Region.Mode) (ops : Array Oper) (Q : Exit → Act → World → Prop) (R : World → World → Prop) (N : List Nat) : Nat → Array Bool → Act → World → Prop
  | 0, listed, a, w => Region.ready md ops listed = [] ∧ Q .normal a w
  | fuel + 1, listed, a, w =>
    (Region.ready md ops listed = [] → Q .normal a w) ∧
    ∀ i ∈ Region.ready md ops listed, wpOp P ops Q i (fun a' w' => (i ∈ N ∨ R w w') ∧ wpAnyR P md ops Q R N fuel (listed.setIfInBounds i true) a' w') a w

theorem wpAny_of_R : ∀ (fuel : Nat) (listed : Array Bool) (a : Act) (w : World), wpAnyR P md ops Q R N fuel listed a w → wpAny P md ops Q fuel listed a w
  | 0, _, _, _, h => h
  | fuel + 1, _, _, _, h => ⟨h.1, fun i hi => wpOp_mono (fun a' w' h' => wpAny_of_R fuel _ a' w' h'.2) (h.2 i hi)⟩

theorem yieldsIf_weaken {S T : World → Prop} {o : Oper} {v : Value} {a : Act} (h : YieldsIf P ops S o v a) (hST : ∀ w, T w → S w) : YieldsIf P ops T o v a :=
  h.imp (fun ⟨hw, hv⟩ => ⟨hw, fun w hT => hv w (hST w hT)⟩) id

/-- what an operation waits for, one behind the other -/
def reaches (md : Region.Mode) (ops : Array Oper) : Nat → Nat → Nat → Bool
  | 0, _, _ => false
  | n + 1, j, i => match ops[j]? with
    | some oj => oj.after.any fun e => Region.binds md e && (e.on == i || reaches md ops n e.on i)
    | none => false
/-- what is listed waits for nothing that is not -/
def Cl (md : Region.Mode) (ops : Array Oper) (listed : Array Bool) : Prop :=
  ∀ k ok, ops[k]? = some ok → listed.getD k false = true → ∀ e ∈ ok.after, Region.binds md e = true → listed.getD e.on false = true
theorem reaches_listed {listed : Array Bool} (hC : Cl md ops listed) {i : Nat} : ∀ (n j : Nat), listed.getD j false = true → reaches md ops n j i = true → listed.getD i false = true
  | 0, _, _, h => by simp [reaches] at h
  | n + 1, j, hj, h => by
    unfold reaches at h
    split at h
    · rename_i oj hoj
      obtain ⟨e, he, hb⟩ := Array.any_eq_true'.1 h
      simp only [Bool.and_eq_true, Bool.or_eq_true, beq_iff_eq] at hb
      have h1 := hC j oj hoj hj e he hb.1
      rcases hb.2 with e1 | e1
      · exact e1 ▸ h1
      · exact reaches_listed hC n _ h1 e1
    · cases h
theorem reaches_ready {listed : Array Bool} (hC : Cl md ops listed) {i j n : Nat} (hj : j ∈ Region.ready md ops listed) (h : reaches md ops n j i = true) : listed.getD i false = true := by
  obtain ⟨_, oj, hoj, hall⟩ := mem_ready.1 hj
  cases n with
  | zero => simp [reaches] at h
  | succ n =>
    unfold reaches at h
    rw [hoj] at h
    obtain ⟨e, he, hb⟩ := Array.any_eq_true'.1 h
    simp only [Bool.and_eq_true, Bool.or_eq_true, beq_iff_eq] at hb
    have h1 := hall e he hb.1
    rcases hb.2 with e1 | e1
    · exact e1 ▸ h1
    · exact reaches_listed hC n _ h1 e1
theorem Cl.none (md : Region.Mode) (ops : Array Oper) (n : Nat) : Cl md ops (Array.replicate n false) := by
  intro k ok _ hl
  rcases Nat.lt_or_ge k n with h | h
  · simp [h] at hl
  · simp [Array.getElem?_eq_none (xs := Array.replicate n false) (by simpa using h)] at hl
theorem Cl.set {listed : Array Bool} (hC : Cl md ops listed) {j : Nat} (hj : j ∈ Region.ready md ops listed) : Cl md ops (listed.setIfInBounds j true) := by
  have up : ∀ k, listed.getD k false = true → (listed.setIfInBounds j true).getD k false = true := by
    intro k hk
    rcases Nat.lt_or_ge k listed.size with hl | hl
    · by_cases e : j = k
      · subst e; simp [hl]
      · simp only [Array.getD_eq_getD_getElem?] at hk ⊢
        rw [Array.getElem?_setIfInBounds_ne e]
        exact hk
    · simp [Array.getElem?_eq_none hl] at hk
  intro k ok hk hl e he hb
  by_cases e1 : j = k
  · subst e1
    obtain ⟨_, oj, hoj, hall⟩ := mem_ready.1 hj
    rw [hk] at hoj
    cases hoj
    exact up _ (hall e he hb)
  · refine up _ (hC k ok hk ?_ e he hb)
    simp only [Array.getD_eq_getD_getElem?] at hl ⊢
    rwa [Array.getElem?_setIfInBounds_ne e1] at hl
theorem wpAnyR_first (hrefl : ∀ w, R w w) (htrans : ∀ a b c, R a b → R b c → R a c) {i : Nat} {oi : Oper} {v : Value} (hi : ops[i]? = some oi)
    (hsel : ∀ (j : Nat) (o : Oper) cs b, ops[j]? = some o → o.op ≠ .select cs b) (hQ : ∀ c a w, Q (.panic c) (a.put oi.dst v) w → Q (.panic c) a w) (hN : ∀ j, j ∈ N → ∃ n, reaches md ops n j i = true) :
    ∀ (fuel : Nat) (listed : Array Bool) (a : Act) (w : World), Cl md ops listed →
      (∀ j oj, ops[j]? = some oj → j ≠ i → listed.getD j true = false → (∀ e ∈ oj.after, Region.binds md e = true → e.on ≠ i) → oi.apart ops oj = true) →
      i ∈ Region.ready md ops listed → YieldsIf P ops (R w) oi v a →
      wpAnyR P md ops Q R N fuel (listed.setIfInBounds i true) (a.put oi.dst v) w → wpAnyR P md ops Q R N (fuel + 1) listed a w := by
  intro fuel
  induction fuel with
  | zero =>
    intro listed a w _ _ hr hy H
    refine ⟨fun h => (by rw [h] at hr; cases hr), fun j hj => ?_⟩
    by_cases hji : j = i
    · subst hji; exact hy.wpOp hi (hrefl w) ⟨.inr (hrefl w), H⟩
    · have := ready_mono hj hji
      rw [H.1] at this
      cases this
  | succ fuel ih =>
    intro listed a w hC hfree hr hy H
    refine ⟨fun h => (by rw [h] at hr; cases hr), fun j hj => ?_⟩
    by_cases hji : j = i
    · subst hji; exact hy.wpOp hi (hrefl w) ⟨.inr (hrefl w), H⟩
    · have h1 := H.2 j (ready_mono hj hji)
      obtain ⟨hjun, oj, hoj, hall⟩ := mem_ready.1 hj
      have hnot : ∀ e ∈ oj.after, Region.binds md e = true → e.on ≠ i := fun e he hb heq => by
        have h1 := hall e he hb
        have h0 := (mem_ready.1 hr).1
        rw [heq] at h1
        rcases Nat.lt_or_ge i listed.size with h' | h'
        · simp [h'] at h0 h1; rw [h0] at h1; cases h1
        · simp [Array.getElem?_eq_none h'] at h1
      have h2 := wpOp_putIf hoj (hfree j oj hoj hji hjun hnot) (fun cs b => hsel i oi cs b hi) (fun cs b => hsel j oj cs b hoj) hQ hy h1
      have hfree' : ∀ k ok, ops[k]? = some ok → k ≠ i → (listed.setIfInBounds j true).getD k true = false →
          (∀ e ∈ ok.after, Region.binds md e = true → e.on ≠ i) → oi.apart ops ok = true := fun k ok hk hki hun hno => by
        refine hfree k ok hk hki ?_ hno
        by_cases hjk : j = k
        · subst hjk; exact hjun
        · rw [getD_set_ne true hjk] at hun; exact hun
      have hjN : ¬ j ∈ N := fun hjN => by
        obtain ⟨n, hn⟩ := hN j hjN
        have h1 := reaches_ready hC hj hn
        have h0 := (mem_ready.1 hr).1
        rcases Nat.lt_or_ge i listed.size with h' | h'
        · simp [h'] at h0 h1; rw [h0] at h1; cases h1
        · simp [Array.getElem?_eq_none h'] at h1
      refine wpOp_mono (fun a' w' h3 => ⟨h3.2.1, ih (listed.setIfInBounds j true) a' w' (hC.set hj) hfree' (ready_mono hr (Ne.symm hji)) (yieldsIf_weaken h3.1 fun x hx => htrans _ _ _ (h3.2.1.resolve_left hjN) hx) ?_⟩) h2
      rw [Array.setIfInBounds_comm _ _ hji]
      exact h3.2.2

/-- an order: take: is taken first; pick: may come up, and is carried out (with what else may come up there) -/
inductive Ord (α : Type) where
  | done
  | none
  | take (x : α) (r : Ord α)
  | pick (x : α) (r more : Ord α)
  | last (x : α) (r : Ord α)
def Ord.picks : Ord Nat → List Nat
  | .pick i _ m => i :: m.picks
  | _ => []
def Ord.map {α β : Type} (f : α → β) : Ord α → Ord β
  | .done => .done
  | .none => .none
  | .take x r => .take (f x) (r.map f)
  | .pick x r m => .pick (f x) (r.map f) (m.map f)
  | .last x r => .last (f x) (r.map f)
def waits (md : Region.Mode) (ops : Array Oper) (N : List Nat) (i : Nat) : Bool := N.all fun j => reaches md ops ops.size j i
theorem waits_spec {i : Nat} (h : waits md ops N i = true) : ∀ j, j ∈ N → ∃ n, reaches md ops n j i = true := fun j hj => ⟨_, List.all_eq_true.1 h j hj⟩
def ordOk (md : Region.Mode) (ops : Array Oper) (N : List Nat) : Ord Nat → Nat → Bool → Array Bool → Bool
  | .done, _, fst, listed => fst && (Region.ready md ops listed).isEmpty
  | .none, _, fst, _ => !fst
  | .take i r, n, fst, listed => fst && decide (i < ops.size) && decide (0 < n) && Region.free md ops listed i && (Region.ready md ops listed).contains i && waits md ops N i && ordOk md ops N r (n - 1) true (listed.setIfInBounds i true)
  | .last i r, n, fst, listed => fst && Region.ready md ops listed == [i] && N.contains i && decide (i < ops.size) && decide (0 < n) && ordOk md ops N r (n - 1) true (listed.setIfInBounds i true)
  | .pick i r m, n, fst, listed => (!fst || Region.ready md ops listed == i :: m.picks) && decide (i < ops.size) && decide (0 < n) && ordOk md ops N r (n - 1) true (listed.setIfInBounds i true) && ordOk md ops N m n false listed
def ordGo (ops : Array Oper) (l : Ord Nat) (N : List Nat := []) : Bool := Region.noSelect ops && ordOk .any ops N l ops.size true (Array.replicate ops.size false)

def wpOrd (P : Program) (ops : Array Oper) (Q : Exit → Act → World → Prop) (R : World → World → Prop) : Ord Oper → Act → World → Prop
  | .done, a, w => Q .normal a w
  | .none, _, _ => True
  | .pick o r m, a, w => (if Region.wanted o (yielded ops a.tmps) then o.wp P a w (fun a' w' => R w w' ∧ wpOrd P ops Q R r a' w') Q ∨ (o.asks P a w ∧ LetsOut Q) else wpOrd P ops Q R r (a.put o.dst undef) w) ∧ wpOrd P ops Q R m a w
  | .take o r, a, w => ∃ v, YieldsIf P ops (R w) o v a ∧ wpOrd P ops Q R r (a.put o.dst v) w
  | .last o r, a, w => if Region.wanted o (yielded ops a.tmps) then o.wp P a w (wpOrd P ops Q R r) Q ∨ (o.asks P a w ∧ LetsOut Q) else wpOrd P ops Q R r (a.put o.dst undef) w

def ordList (ops : List Oper) (l : Ord Nat) : Ord Oper := l.map fun i => ops.getD i default

theorem wpAnyR_of_ord (hrefl : ∀ w, R w w) (htrans : ∀ a b c, R a b → R b c → R a c) (hs : Region.noSelect ops = true) (hQ : ∀ c (a : Act) d v w, Q (.panic c) (a.put d v) w → Q (.panic c) a w) :
    ∀ (l : Ord Nat) (fst : Bool) (fuel : Nat) (listed : Array Bool) (a : Act) (w : World), Cl md ops listed → (fst = false → ∀ i ∈ l.picks, i ∈ Region.ready md ops listed) → ordOk md ops N l fuel fst listed = true →
      wpOrd P ops Q R (ordList ops.toList l) a w →
      if fst then wpAnyR P md ops Q R N fuel listed a w else ∃ n, (l.picks ≠ [] → fuel = n + 1) ∧ ∀ i ∈ l.picks, wpOp P ops Q i (fun a' w' => (i ∈ N ∨ R w w') ∧ wpAnyR P md ops Q R N n (listed.setIfInBounds i true) a' w') a w := by
  intro l
  induction l with
  | done =>
    intro fst fuel listed a w hC hpk hc h
    simp only [ordOk, Bool.and_eq_true] at hc
    rw [hc.1, if_pos rfl]
    have hr : Region.ready md ops listed = [] := by simpa using hc.2
    cases fuel with
    | zero => exact ⟨hr, h⟩
    | succ n => exact ⟨fun _ => h, by rw [hr]; simp⟩
  | none =>
    intro fst fuel listed a w hC hpk hc h
    cases fst with
    | true => simp [ordOk] at hc
    | false =>
      rw [if_neg (by simp)]
      exact ⟨0, fun hn => absurd rfl hn, fun i hi => by cases hi⟩
  | take i r ih =>
    intro fst fuel listed a w hC hpk hc h
    simp only [ordOk, Bool.and_eq_true, decide_eq_true_eq] at hc
    obtain ⟨⟨⟨⟨⟨⟨h1, hlt⟩, hn⟩, hf⟩, hr⟩, hwt⟩, hc⟩ := hc
    rw [h1, if_pos rfl]
    obtain ⟨n, rfl⟩ : ∃ n, fuel = n + 1 := ⟨fuel - 1, by omega⟩
    have hget : ops.toList.getD i default = ops[i] := by simp [List.getD, hlt]
    have hi : ops[i]? = some ops[i] := Array.getElem?_eq_getElem hlt
    simp only [ordList, Ord.map, wpOrd, hget] at h
    obtain ⟨v, hy, h⟩ := h
    have := ih true n _ _ w (hC.set (by simpa using hr)) (by simp) (by simpa using hc) h
    rw [if_pos rfl] at this
    exact wpAnyR_first hrefl htrans hi (Region.noSelect_spec hs) (fun c a w => hQ c a _ v w) (waits_spec hwt) n listed a w hC (Region.free_spec hi hf) (by simpa using hr) hy this
  | pick i r m ih ihm =>
    intro fst fuel listed a w hC hpk hc h
    simp only [ordOk, Bool.and_eq_true, decide_eq_true_eq] at hc
    obtain ⟨⟨⟨⟨h1, hlt⟩, hn⟩, hc⟩, hm⟩ := hc
    obtain ⟨n, rfl⟩ : ∃ n, fuel = n + 1 := ⟨fuel - 1, by omega⟩
    have hget : ops.toList.getD i default = ops[i] := by simp [List.getD, hlt]
    have hi : ops[i]? = some ops[i] := Array.getElem?_eq_getElem hlt
    simp only [ordList, Ord.map, wpOrd, hget] at h
    obtain ⟨h, hM⟩ := h
    have hir : i ∈ Region.ready md ops listed := by
      cases fst with
      | false => exact hpk rfl i (by simp [Ord.picks])
      | true =>
        simp only [Bool.not_true, Bool.false_or, beq_iff_eq] at h1
        rw [h1]; simp
    have hmr : ∀ j ∈ m.picks, j ∈ Region.ready md ops listed := by
      intro j hj
      cases fst with
      | false => exact hpk rfl j (by simp [Ord.picks, hj])
      | true =>
        simp only [Bool.not_true, Bool.false_or, beq_iff_eq] at h1
        rw [h1]; simp [hj]
    have hone : wpOp P ops Q i (fun a' w' => (i ∈ N ∨ R w w') ∧ wpAnyR P md ops Q R N n (listed.setIfInBounds i true) a' w') a w := by
      unfold wpOp
      rw [hi]
      show if Region.wanted ops[i] (yielded ops a.tmps) = true then _ else _
      split
      · rename_i hw
        rw [if_pos hw] at h
        refine h.imp (Oper.wp_mono fun a' w' h' => ⟨.inr h'.1, ?_⟩) id
        have := ih true n _ a' w' (hC.set hir) (by simp) (by simpa using hc) h'.2
        rwa [if_pos rfl] at this
      · rename_i hw
        rw [if_neg hw] at h
        have := ih true n _ _ w (hC.set hir) (by simp) (by simpa using hc) h
        rw [if_pos rfl] at this
        exact ⟨.inr (hrefl w), this⟩
    have hall := ihm false (n + 1) listed a w hC (fun _ => hmr) hm hM
    rw [if_neg (by simp)] at hall
    obtain ⟨k, hk, hall⟩ := hall
    have hpick : ∀ j ∈ (Ord.pick i r m).picks, wpOp P ops Q j (fun a' w' => (j ∈ N ∨ R w w') ∧ wpAnyR P md ops Q R N n (listed.setIfInBounds j true) a' w') a w := by
      intro j hj
      simp only [Ord.picks] at hj
      rcases List.mem_cons.1 hj with rfl | hj
      · exact hone
      · have hne : m.picks ≠ [] := fun e => by rw [e] at hj; cases hj
        have := hk hne
        obtain rfl : k = n := by omega
        exact hall j hj
    cases fst with
    | false => exact ⟨n, fun _ => rfl, hpick⟩
    | true =>
      rw [if_pos rfl]
      simp only [Bool.not_true, Bool.false_or, beq_iff_eq] at h1
      refine ⟨fun h0 => (by rw [h1] at h0; cases h0), fun j hj => hpick j (by rw [h1] at hj; exact hj)⟩
  | last i r ih =>
    intro fst fuel listed a w hC hpk hc h
    simp only [ordOk, Bool.and_eq_true, decide_eq_true_eq, beq_iff_eq] at hc
    obtain ⟨⟨⟨⟨⟨h1, hr⟩, hin⟩, hlt⟩, hn⟩, hc⟩ := hc
    have hin' : i ∈ N := by simpa using hin
    rw [h1, if_pos rfl]
    obtain ⟨n, rfl⟩ : ∃ n, fuel = n + 1 := ⟨fuel - 1, by omega⟩
    have hget : ops.toList.getD i default = ops[i] := by simp [List.getD, hlt]
    have hi : ops[i]? = some ops[i] := Array.getElem?_eq_getElem hlt
    simp only [ordList, Ord.map, wpOrd, hget] at h
    refine ⟨fun h0 => (by rw [hr] at h0; cases h0), fun j hj => ?_⟩
    rw [hr] at hj
    obtain rfl : j = i := by simpa using hj
    unfold wpOp
    rw [hi]
    show if Region.wanted ops[j] (yielded ops a.tmps) = true then _ else _
    split
    · rename_i hw
      rw [if_pos hw] at h
      refine h.imp (Oper.wp_mono fun a' w' h' => ⟨.inl hin', ?_⟩) id
      have := ih true n _ a' w' (hC.set (j := j) (by rw [hr]; simp)) (by simp) (by simpa using hc) h'
      rwa [if_pos rfl] at this
    · rename_i hw
      rw [if_neg hw] at h
      have := ih true n _ _ w (hC.set (j := j) (by rw [hr]; simp)) (by simp) (by simpa using hc) h
      rw [if_pos rfl] at this
      exact ⟨.inl hin', this⟩

/-- the last operations (N) may write what was loaded -/
theorem region_tail {id : Nat} {a : Act} {w : World} (N S : List Nat) (l : Ord Nat) {lo : List Oper} (hm : P.follows .mixedOrders = true) (hc : ordGo lo.toArray l N = true)
    (h : wpOrd P lo.toArray (NoPanic Q) (Fr S) (ordList lo l) a w.drew) : (Code.region id lo.toArray true).wp P Q a w := by
  simp only [ordGo, Bool.and_eq_true] at hc
  have := wpAnyR_of_ord (R := Fr S) (N := N) (Q := NoPanic Q) (Fr.refl S) (fun _ _ _ h k => h.trans k) hc.1 (fun _ _ _ _ _ h => h) l true _ _ a w.drew (Cl.none _ _ _) (by simp) hc.2 (by simpa using h)
  rw [if_pos rfl] at this
  exact wp_region_noPanic (wp_region_any hm (wpAny_of_R _ _ _ _ this))
theorem region_ord {id : Nat} {a : Act} {w : World} (S : List Nat) (l : Ord Nat) {lo : List Oper} (hm : P.follows .mixedOrders = true) (hc : ordGo lo.toArray l = true)
    (h : wpOrd P lo.toArray (NoPanic Q) (Fr S) (ordList lo l) a w.drew) : (Code.region id lo.toArray true).wp P Q a w := by
  simp only [ordGo, Bool.and_eq_true] at hc
  have := wpAnyR_of_ord (R := Fr S) (N := []) (Q := NoPanic Q) (Fr.refl S) (fun _ _ _ h k => h.trans k) hc.1 (fun _ _ _ _ _ h => h) l true _ _ a w.drew (Cl.none _ _ _) (by simp) hc.2 (by simpa using h)
  rw [if_pos rfl] at this
  exact wp_region_noPanic (wp_region_any hm (wpAny_of_R _ _ _ _ this))

/-- the same where nothing is loaded -/
theorem region_free {id : Nat} {a : Act} {w : World} (l : Ord Nat) {lo : List Oper} (hm : P.follows .mixedOrders = true) (hc : ordGo lo.toArray l = true)
    (h : wpOrd P lo.toArray (NoPanic Q) (fun _ _ => True) (ordList lo l) a w.drew) : (Code.region id lo.toArray true).wp P Q a w := by
  simp only [ordGo, Bool.and_eq_true] at hc
  have := wpAnyR_of_ord (R := fun _ _ => True) (N := []) (Q := NoPanic Q) (fun _ => trivial) (fun _ _ _ _ _ => trivial) hc.1 (fun _ _ _ _ _ h => h) l true _ _ a w.drew (Cl.none _ _ _) (by simp) hc.2 (by simpa using h)
  rw [if_pos rfl] at this
  exact wp_region_noPanic (wp_region_any hm (wpAny_of_R _ _ _ _ this))

/-- the blocks below B stay, but for those in S -/
def Old (B : Nat) (S : List Nat) (w w' : World) : Prop := w.heap.size ≤ w'.heap.size ∧ ∀ k, k < B → ¬ k ∈ S → w'.heap[k]? = w.heap[k]?
theorem old_fr {B : Nat} {S T : List Nat} {w w' : World} (h : Fr T w w') (hB : B ≤ w.heap.size) (hT : ∀ i, i ∈ T → i ∈ S ∨ B ≤ i) : Old B S w w' :=
  ⟨h.size, fun k hk hs => h.block k (by omega) (fun ht => (hT k ht).elim hs (fun hle => by omega))⟩
theorem old_grown {B : Nat} {S : List Nat} {w w' : World} {row : Option Nat} (h : w.grownBy w' row) (hB : B ≤ w.heap.size) (hT : ∀ i, row = some i → i ∈ S ∨ B ≤ i) : Old B S w w' :=
  ⟨h.size, fun k hk hs => h.block k (by omega) (fun e => (hT k e.symm).elim hs (fun hle => by omega))⟩
theorem region_old {id : Nat} {a : Act} {w : World} (B : Nat) (S : List Nat) (l : Ord Nat) {lo : List Oper} (hm : P.follows .mixedOrders = true) (hc : ordGo lo.toArray l = true)
    (h : wpOrd P lo.toArray (NoPanic Q) (Old B S) (ordList lo l) a w.drew) : (Code.region id lo.toArray true).wp P Q a w := by
  simp only [ordGo, Bool.and_eq_true] at hc
  have := wpAnyR_of_ord (R := Old B S) (N := []) (Q := NoPanic Q) (fun _ => ⟨Nat.le_refl _, fun _ _ _ => rfl⟩) (fun _ _ _ h k => ⟨Nat.le_trans h.1 k.1, fun i hi hs => (k.2 i hi hs).trans (h.2 i hi hs)⟩) hc.1 (fun _ _ _ _ _ h => h) l true _ _ a w.drew (Cl.none _ _ _) (by simp) hc.2 (by simpa using h)
  rw [if_pos rfl] at this
  exact wp_region_noPanic (wp_region_any hm (wpAny_of_R _ _ _ _ this))

variable {o : Oper} {r m : Ord Oper} {a : Act} {w : World} {S : List Nat} {B : Nat}
theorem ord_nil {a : Act} {w : World} (h : Q .normal a w) : wpOrd P ops (NoPanic Q) R .done a w := h
/-- what does not look at the world -/
theorem ord_pure {v : Value} (h : ∀ w, (execOp a.eval o).run P w = .ok (.value v) w) (hw : Region.wanted o (yielded ops a.tmps) = true) (hr : wpOrd P ops Q R r (a.put o.dst v) w) : wpOrd P ops Q R (.take o r) a w :=
  ⟨v, .inl ⟨hw, fun w' _ => h w'⟩, hr⟩
/-- a guard that is shut -/
theorem ord_shut (hw : Region.wanted o (yielded ops a.tmps) = false) (hr : wpOrd P ops Q R r (a.put o.dst undef) w) : wpOrd P ops Q R (.take o r) a w :=
  ⟨undef, .inr ⟨hw, rfl⟩, hr⟩
/-- more than one may come up -/
theorem ord_fork {x : Oper} {q n : Ord Oper} (h : wpOrd P ops Q R (.pick o r .none) a w) (hm : wpOrd P ops Q R (.pick x q n) a w) : wpOrd P ops Q R (.pick o r (.pick x q n)) a w := ⟨h.1, hm⟩
/-- a call of a Go function -/
theorem ord_call {f : FuncId} {args : Array Value} (hrun : (execOp a.eval o).run P w = .ok (.enter f args) w) (hw : Region.wanted o (yielded ops a.tmps) = true)
    (h : Calls P f args w fun e w' => ∃ v, e = .returned v ∧ R w w' ∧ wpOrd P ops Q R r (a.put o.dst v) w') : wpOrd P ops Q R (.pick o r .none) a w := by
  simp only [wpOrd]
  rw [if_pos hw]
  refine ⟨.inl ?_, trivial⟩
  unfold Oper.wp
  rw [hrun, Oper.upon_enter]
  exact h.mono fun e w' ⟨v, he, h1, h2⟩ => by subst he; exact ⟨h1, h2⟩
/-- any other operation that turns the world -/
theorem ord_do {v : Value} {w' : World} (hrun : (execOp a.eval o).run P w = .ok (.value v) w') (hR : R w w') (hw : Region.wanted o (yielded ops a.tmps) = true) (h : wpOrd P ops Q R r (a.put o.dst v) w') : wpOrd P ops Q R (.pick o r .none) a w := by
  simp only [wpOrd]
  rw [if_pos hw]
  refine ⟨.inl ?_, trivial⟩
  unfold Oper.wp
  rw [hrun, Oper.upon_value]
  exact ⟨hR, h⟩
theorem ord_skip {w' : World} (hrun : (execOp a.eval o).run P w = .ok .skip w') (hR : R w w') (hw : Region.wanted o (yielded ops a.tmps) = true) (h : wpOrd P ops Q R r (a.put o.dst undef) w') : wpOrd P ops Q R (.pick o r .none) a w := by
  simp only [wpOrd]
  rw [if_pos hw]
  refine ⟨.inl ?_, trivial⟩
  unfold Oper.wp
  rw [hrun, Oper.upon_skip]
  exact ⟨hR, h⟩

theorem ord_last_skip {w' : World} (hrun : (execOp a.eval o).run P w = .ok .skip w') (hw : Region.wanted o (yielded ops a.tmps) = true) (h : wpOrd P ops Q R r (a.put o.dst undef) w') : wpOrd P ops Q R (.last o r) a w := by
  simp only [wpOrd]
  rw [if_pos hw]
  refine .inl ?_
  unfold Oper.wp
  rw [hrun, Oper.upon_skip]
  exact h
theorem ord_last_do {v : Value} {w' : World} (hrun : (execOp a.eval o).run P w = .ok (.value v) w') (hw : Region.wanted o (yielded ops a.tmps) = true) (h : wpOrd P ops Q R r (a.put o.dst v) w') : wpOrd P ops Q R (.last o r) a w := by
  simp only [wpOrd]
  rw [if_pos hw]
  refine .inl ?_
  unfold Oper.wp
  rw [hrun, Oper.upon_value]
  exact h
theorem ord_last_pure {v : Value} (hrun : ∀ w, (execOp a.eval o).run P w = .ok (.value v) w) (hw : Region.wanted o (yielded ops a.tmps) = true) (h : wpOrd P ops Q R r (a.put o.dst v) w) : wpOrd P ops Q R (.last o r) a w := ord_last_do (hrun w) hw h
/-- what a load reads is there as the world grows -/
theorem cell_fr {w w' : World} (hF : Fr S w w') {p : Addr} (hs : ¬ p.block ∈ S) {v : Value} (h : w.cell? p = some v) : w'.cell? p = some v := by
  rw [hF.cell p (World.block_lt_of_cell? w p h) hs]; exact h

/-- a type of one cell -/
def oneTy (P : Program) (ty : TypeId) : Bool := match P.underlying ty with
  | some (.struct _) | some (.array _ _) | none => false
  | some _ => true
/-- how many cells a struct's, or an array's, type has -/
def rowTy (P : Program) (ty : TypeId) : Option Nat := match P.underlying ty with
  | some (.struct _) | some (.array _ _) => (P.info? ty).map (·.size)
  | _ => none
theorem rowTy_spec {ty : TypeId} {n : Nat} (h : rowTy P ty = some n) : ∃ d : TypeDesc, P.underlying ty = some d ∧ d.isRow = true ∧ (P.info? ty).map (·.size) = some n := by
  unfold rowTy at h
  split at h
  · rename_i x hx; exact ⟨_, hx, rfl, h⟩
  · rename_i x y hx; exact ⟨_, hx, rfl, h⟩
  · cases h
theorem run_load_one {ty : TypeId} (h1 : oneTy P ty = true) {p : Addr} {v : Value} {w : World} (hc : w.cell? p = some v) : (Instr.loadAt ty (.pointer (some p))).run P w = .ok v w := by
  have hagg : (isAgg ty).run P w = .ok false w := by
    unfold oneTy at h1
    unfold isAgg
    rw [Sem.run_bind]
    cases hu : P.underlying ty with
    | none => rw [hu] at h1; cases h1
    | some d =>
      rw [run_underlying hu w]
      rw [hu] at h1
      cases d <;> simp_all
  simp only [Instr.loadAt, Instr.sureAddr, Sem.run_bind, Sem.run_pure, Result.andThen_ok, loadVar, hagg]
  simp [hc]
/-- a load of one cell -/
theorem ord_load {v : Value} {ty : TypeId} {x : Operand} {p : Addr} (ho : o.op = .load ty x) (hx : a.eval x = .pointer (some p)) (h1 : oneTy P ty = true) (hw : Region.wanted o (yielded ops a.tmps) = true)
    (hc : w.cell? p = some v) (hs : ¬ p.block ∈ S) (hr : wpOrd P ops Q (Fr S) r (a.put o.dst v) w) : wpOrd P ops Q (Fr S) (.take o r) a w :=
  ⟨v, .inl ⟨hw, fun w' hF => by unfold execOp; simp only [ho, hx, Sem.run_bind, run_load_one h1 (cell_fr hF hs hc), Result.andThen_ok, Sem.run_pure]⟩, hr⟩
/-- a load of a struct, or of an array -/
theorem ord_row {b off : Nat} {cs : List Value} {ty : TypeId} {x : Operand} (hc : w.rangeAt b off cs) (hs : ¬ b ∈ S) (ho : o.op = .load ty x) (hx : a.eval x = .pointer (some ⟨b, off, none⟩)) (h1 : rowTy P ty = some cs.length)
    (hw : Region.wanted o (yielded ops a.tmps) = true) (hr : wpOrd P ops Q (Fr S) r (a.put o.dst (.agg cs.toArray)) w) : wpOrd P ops Q (Fr S) (.take o r) a w := by
  obtain ⟨d, hu, hd, hi⟩ := rowTy_spec h1
  exact ⟨_, .inl ⟨hw, fun w' hF => by
    unfold execOp
    simp only [ho, hx, Sem.run_bind, run_loadAt_mid w' b off ty cs d (fun j v hj => cell_fr hF hs (hc j v hj)) hu hd hi, Result.andThen_ok, Sem.run_pure]⟩, hr⟩
/-- a field of a block of fields -/
theorem ord_cell {v : Value} {ty T : TypeId} {x : Operand} {b i : Nat} {c : Array Value} (hB : Blk w b T c) (hs : ¬ b ∈ S) (ho : o.op = .load ty x) (hx : a.eval x = .pointer (some ⟨b, i, none⟩)) (h1 : oneTy P ty = true) (hw : Region.wanted o (yielded ops a.tmps) = true)
    (hv : c[i]? = some v) (hr : wpOrd P ops Q (Fr S) r (a.put o.dst v) w) : wpOrd P ops Q (Fr S) (.take o r) a w :=
  ord_load ho hx h1 hw (hB.cell hv) hs hr
/-- a whole block of fields -/
theorem ord_all {ty T : TypeId} {x : Operand} {b : Nat} {c : Array Value} (hB : Blk w b T c) (hs : ¬ b ∈ S) (ho : o.op = .load ty x) (hx : a.eval x = .pointer (some ⟨b, 0, none⟩)) (h1 : rowTy P ty = some c.size) (hw : Region.wanted o (yielded ops a.tmps) = true)
    (hr : wpOrd P ops Q (Fr S) r (a.put o.dst (.agg c)) w) : wpOrd P ops Q (Fr S) (.take o r) a w :=
  ord_row (cs := c.toList) (hB.range 0 c.toList (fun j v hj => by simpa using hj)) hs ho hx (by simpa using h1) hw (by simpa using hr)
theorem ord_bv {b off n : Nat} {A : List Nat} {ty : TypeId} {x : Operand} (hc : w.rangeAt b off (u8s A)) (hs : ¬ b ∈ S) (hA : A.length = n) (ho : o.op = .load ty x) (hx : a.eval x = .pointer (some ⟨b, off, none⟩)) (h1 : rowTy P ty = some n)
    (hw : Region.wanted o (yielded ops a.tmps) = true) (hr : wpOrd P ops Q (Fr S) r (a.put o.dst (.agg (bv A))) w) : wpOrd P ops Q (Fr S) (.take o r) a w :=
  ord_row hc hs ho hx (by rw [h1]; simp [u8s, hA]) hw hr

/-- the same of what is there below B -/
theorem cell_old {w w' : World} (hF : Old B S w w') {p : Addr} (hb : p.block < B) (hs : ¬ p.block ∈ S) {v : Value} (h : w.cell? p = some v) : w'.cell? p = some v := by
  rw [World.cell?_of_block (w := w) (hF.2 p.block hb hs)]; exact h
theorem ord_loadO {v : Value} {ty : TypeId} {x : Operand} {p : Addr} (ho : o.op = .load ty x) (hx : a.eval x = .pointer (some p)) (h1 : oneTy P ty = true) (hw : Region.wanted o (yielded ops a.tmps) = true)
    (hc : w.cell? p = some v) (hb : p.block < B) (hs : ¬ p.block ∈ S) (hr : wpOrd P ops Q (Old B S) r (a.put o.dst v) w) : wpOrd P ops Q (Old B S) (.take o r) a w :=
  ⟨v, .inl ⟨hw, fun w' hF => by unfold execOp; simp only [ho, hx, Sem.run_bind, run_load_one h1 (cell_old hF hb hs hc), Result.andThen_ok, Sem.run_pure]⟩, hr⟩
theorem ord_rowO {b off : Nat} {cs : List Value} {ty : TypeId} {x : Operand} (hc : w.rangeAt b off cs) (hb : b < B) (hs : ¬ b ∈ S) (ho : o.op = .load ty x) (hx : a.eval x = .pointer (some ⟨b, off, none⟩)) (h1 : rowTy P ty = some cs.length)
    (hw : Region.wanted o (yielded ops a.tmps) = true) (hr : wpOrd P ops Q (Old B S) r (a.put o.dst (.agg cs.toArray)) w) : wpOrd P ops Q (Old B S) (.take o r) a w := by
  obtain ⟨d, hu, hd, hi⟩ := rowTy_spec h1
  exact ⟨_, .inl ⟨hw, fun w' hF => by
    unfold execOp
    simp only [ho, hx, Sem.run_bind, run_loadAt_mid w' b off ty cs d (fun j v hj => cell_old hF hb hs (hc j v hj)) hu hd hi, Result.andThen_ok, Sem.run_pure]⟩, hr⟩
theorem ord_cellO {v : Value} {ty T : TypeId} {x : Operand} {b i : Nat} {c : Array Value} (hB : Blk w b T c) (hb : b < B) (hs : ¬ b ∈ S) (ho : o.op = .load ty x) (hx : a.eval x = .pointer (some ⟨b, i, none⟩)) (h1 : oneTy P ty = true) (hw : Region.wanted o (yielded ops a.tmps) = true)
    (hv : c[i]? = some v) (hr : wpOrd P ops Q (Old B S) r (a.put o.dst v) w) : wpOrd P ops Q (Old B S) (.take o r) a w :=
  ord_loadO ho hx h1 hw (hB.cell hv) hb hs hr
theorem ord_allO {ty T : TypeId} {x : Operand} {b : Nat} {c : Array Value} (hB : Blk w b T c) (hb : b < B) (hs : ¬ b ∈ S) (ho : o.op = .load ty x) (hx : a.eval x = .pointer (some ⟨b, 0, none⟩)) (h1 : rowTy P ty = some c.size) (hw : Region.wanted o (yielded ops a.tmps) = true)
    (hr : wpOrd P ops Q (Old B S) r (a.put o.dst (.agg c)) w) : wpOrd P ops Q (Old B S) (.take o r) a w :=
  ord_rowO (cs := c.toList) (hB.range 0 c.toList (fun j v hj => by simpa using hj)) hb hs ho hx (by simpa using h1) hw (by simpa using hr)
theorem ord_bvO {b off n : Nat} {A : List Nat} {ty : TypeId} {x : Operand} (hc : w.rangeAt b off (u8s A)) (hb : b < B) (hs : ¬ b ∈ S) (hA : A.length = n) (ho : o.op = .load ty x) (hx : a.eval x = .pointer (some ⟨b, off, none⟩)) (h1 : rowTy P ty = some n)
    (hw : Region.wanted o (yielded ops a.tmps) = true) (hr : wpOrd P ops Q (Old B S) r (a.put o.dst (.agg (bv A))) w) : wpOrd P ops Q (Old B S) (.take o r) a w :=
  ord_rowO hc hb hs ho hx (by rw [h1]; simp [u8s, hA]) hw hr
/-- append -/
theorem ord_append (hgd : o.guard = none) (s x : Operand) (t : TypeId) (ho : o.op = .call { callee := .builtin .append, args := #[s, x], argTypes := #[t, t] })
    (base : Nat) (e : TypeId) (i : TypeInfo) (z : Value) (size bytes : Nat) (ht : P.underlying t = some (.slice e)) (hi : P.info? e = some i) (hz : i.zero = some z)
    (hsize : i.size = size) (hby : i.bytes = bytes) (hzs : z.cells.size = size) (hsz : 0 < size)
    (v : Value) (n : Nat) (xs : List Value) (hs : a.eval s = v) (hown : w.ownsRow base e size v n xs)
    (ad : Addr) (m c : Nat) (news : List Value) (hx : a.eval x = .slice (some ad) m c) (hl : news.length = m * size) (hnews : ∀ j u, news[j]? = some u → w.cell? (ad.add j) = some u) (h1 : ∀ u ∈ news, u.oneCell' = true)
    (hm : 0 < m) (h63 : n + m ≤ maxLen) (hbytes : (n + m) * bytes ≤ 140737488355328) (hbase : base ≤ w.heap.size)
    (hR : ∀ w', w.grownBy w' v.ownBlock → R w w')
    (h : ∀ g cap w', w'.ownsRow base e size (.slice (some ⟨g, 0, none⟩) (n + m) cap) (n + m) (xs ++ news) → w.grownBy w' v.ownBlock → (v.ownBlock = some g ∨ g = w.heap.size) → g < w'.heap.size → wpOrd P ops Q R r (a.put o.dst (.slice (some ⟨g, 0, none⟩) (n + m) cap)) w') : wpOrd P ops Q R (.pick o r .none) a w := by
  simp only [wpOrd]
  rw [if_pos (by simp [Region.wanted, hgd])]
  refine ⟨.inl ?_, trivial⟩
  exact wp_append_lies w s x t ho base e i z size bytes ht hi hz hsize hby hzs hsz v n xs hs hown ad m c news hx hl hnews h1 hm h63 hbytes hbase _ rfl fun g cap w' h2 h3 h4 h5 => ⟨hR w' h3, h g cap w' h2 h3 h4 h5⟩
/-- a row that was made as a block of its own -/
theorem owns_blk_new {w : World} {g : Nat} {T : TypeId} {size n cap : Nat} {c : List Value} (base : Nat) (h : Blk w g T c.toArray) (hb : base ≤ g) (hc : c.length = n * size) (hn : n ≤ cap) (hcap : cap ≤ maxLen) (hs : cap = n) : w.ownsRow base T size (.slice (some ⟨g, 0, none⟩) n cap) n c := by
  subst hs
  refine ⟨hc, .inr ⟨g, cap, c.toArray, rfl, hb, h, Nat.le_refl _, hcap, by simpa using hc, ?_⟩⟩
  simp [← hc]
theorem wpList_load_all {rest : List Oper} {op : Oper} {a : Act} {w : World} {Q : Exit → Act → World → Prop} (hgd : op.guard = none) (ty : TypeId) (x : Operand) (ho : op.op = .load ty x) {b : Nat} {T : TypeId} {c : Array Value} (hB : Blk w b T c)
    (hx : a.eval x = .pointer (some ⟨b, 0, none⟩)) (h1 : rowTy P ty = some c.size) (h : wpList P ops Q rest (a.put op.dst (.agg c)) w) : wpList P ops Q (op :: rest) a w := by
  obtain ⟨d, hu, hd, hi⟩ := rowTy_spec h1
  exact wpList_load_mid hgd ty x ho b 0 hx c.toList d (hB.range 0 c.toList (fun j v hj => by simpa using hj)) hu hd (by simpa using hi) (by simpa using h)
theorem wpList_load_row {rest : List Oper} {op : Oper} {a : Act} {w : World} {Q : Exit → Act → World → Prop} (hgd : op.guard = none) (ty : TypeId) (x : Operand) (ho : op.op = .load ty x) {b off : Nat} {cs : List Value} (hc : w.rangeAt b off cs)
    (hx : a.eval x = .pointer (some ⟨b, off, none⟩)) (h1 : rowTy P ty = some cs.length) (h : wpList P ops Q rest (a.put op.dst (.agg cs.toArray)) w) : wpList P ops Q (op :: rest) a w := by
  obtain ⟨d, hu, hd, hi⟩ := rowTy_spec h1
  exact wpList_load_mid hgd ty x ho b off hx cs d hc hu hd hi h
end
end Go.Proofs.Ythhkgknolclakaa
