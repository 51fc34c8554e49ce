/- dev: what a device holds, as cells; plain facts. -/
import Derived.Test.YtgmjhpappamenaaDoorFieldN
import Derived.Test.YtgmjhpappamenaaDoorDrawn
import Derived.Test.YtgmjhpappamenaaDoorFieldO
import Derived.OwnWalk
namespace Go.Proofs.YtgmjhpappamenaaDoor
open Go.RowKit Go.Shelf

/-- sectors, as cells -/
def firmC (F : List (List Nat)) : List Value := F.flatMap u8s
def Secs (F : List (List Nat)) : Prop := ∀ b, b ∈ F → b.length = 64 ∧ ∀ x, x ∈ b → x < 256
theorem firmC_len {F : List (List Nat)} (h : Secs F) : (firmC F).length = F.length * 64 := by
  induction F with
  | nil => rfl
  | cons b r ih =>
    have h1 := (h b List.mem_cons_self).1
    have h2 := ih (fun x hx => h x (List.mem_cons_of_mem _ hx))
    simp only [firmC, List.flatMap_cons, List.length_append, List.length_cons] at h2 ⊢
    rw [h2, show (u8s b).length = 64 by simp [u8s, h1]]
    omega
theorem firmC_take {F : List (List Nat)} (h : Secs F) (k : Nat) : (firmC F).take (k * 64) = firmC (F.take k) := by
  induction F generalizing k with
  | nil => simp [firmC]
  | cons b r ih =>
    cases k with
    | zero => rfl
    | succ k =>
      have h1 : (u8s b).length = 64 := by simp [u8s, (h b List.mem_cons_self).1]
      have h2 := ih (fun x hx => h x (List.mem_cons_of_mem _ hx)) k
      simp only [firmC, List.take_succ_cons, List.flatMap_cons] at h2 ⊢
      rw [List.take_append, h1, List.take_of_length_le (by omega), show (k + 1) * 64 - 64 = k * 64 by omega, h2]
theorem firmC_drop {F : List (List Nat)} (h : Secs F) (k : Nat) : (firmC F).drop (k * 64) = firmC (F.drop k) := by
  induction F generalizing k with
  | nil => simp [firmC]
  | cons b r ih =>
    cases k with
    | zero => rfl
    | succ k =>
      have h1 : (u8s b).length = 64 := by simp [u8s, (h b List.mem_cons_self).1]
      have h2 := ih (fun x hx => h x (List.mem_cons_of_mem _ hx)) k
      simp only [firmC, List.drop_succ_cons, List.flatMap_cons] at h2 ⊢
      rw [List.drop_append, h1, List.drop_of_length_le (by omega), show (k + 1) * 64 - 64 = k * 64 by omega, h2, List.nil_append]
/-- where a sector lies -/
theorem firmC_get {F : List (List Nat)} (h : Secs F) (k : Nat) (hk : k < F.length) : ∀ (j : Nat) (v : Value), (u8s F[k])[j]? = some v → (firmC F)[k * 64 + j]? = some v := by
  intro j v hj
  have h1 : (u8s F[k]).length = 64 := by simp [u8s, (h _ (List.getElem_mem hk)).1]
  have hj' := (List.getElem?_eq_some_iff.1 hj).1
  have e := firmC_drop h k
  rw [List.drop_eq_getElem_cons hk] at e
  have : ((firmC F).drop (k * 64))[j]? = some v := by
    rw [e]
    simp only [firmC, List.flatMap_cons]
    rw [List.getElem?_append_left hj']
    exact hj
  rwa [List.getElem?_drop] at this
/-- a sector is stored -/
theorem firmC_set {F : List (List Nat)} (h : Secs F) (k : Nat) (hk : k < F.length) (b : List Nat) (hb : b.length = 64) :
    (firmC F).take (k * 64) ++ u8s b ++ (firmC F).drop (k * 64 + (u8s b).length) = firmC (F.set k b) := by
  have hl : (u8s b).length = 64 := by simp [u8s, hb]
  rw [hl, show k * 64 + 64 = (k + 1) * 64 by omega, firmC_take h, firmC_drop h, List.set_eq_take_append_cons_drop, if_pos hk]
  simp [firmC]
theorem firmZ_get {F : List (List Nat)} (Z : List Value) (h : Secs F) (k : Nat) (hk : k < F.length) (j : Nat) (v : Value) (hj : (u8s F[k])[j]? = some v) : (firmC F ++ Z).toArray[k * 64 + j]? = some v := by
  have h1 := firmC_get h k hk j v hj
  rw [List.getElem?_toArray, List.getElem?_append_left (List.getElem?_eq_some_iff.1 h1).1]
  exact h1
theorem firmZ_set {F : List (List Nat)} (Z : List Value) (h : Secs F) (k : Nat) (hk : k < F.length) (b : List Nat) (hb : b.length = 64) :
    (firmC F ++ Z).take (k * 64) ++ u8s b ++ (firmC F ++ Z).drop (k * 64 + (u8s b).length) = firmC (F.set k b) ++ Z := by
  have hl : (u8s b).length = 64 := by simp [u8s, hb]
  have hc := firmC_len h
  rw [← firmC_set h k hk b hb, List.take_append_of_le_length (by omega), List.drop_append_of_le_length (by omega)]
  simp only [List.append_assoc]
theorem secs_set {F : List (List Nat)} (h : Secs F) (k : Nat) (b : List Nat) (hb : b.length = 64) (hx : ∀ x, x ∈ b → x < 256) : Secs (F.set k b) := by
  intro c hc
  rcases List.mem_or_eq_of_mem_set hc with hc | rfl
  · exact h c hc
  · exact ⟨hb, hx⟩
/-- open writes, as cells -/
def openC (O : List (Nat × List Nat)) : List Value := O.flatMap fun p => .int .i64 (p.1 : Nat) :: u8s p.2
def Opens (n : Nat) (O : List (Nat × List Nat)) : Prop := ∀ p, p ∈ O → p.1 < n ∧ p.2.length = 64 ∧ ∀ x, x ∈ p.2 → x < 256
theorem openC_append (a b : List (Nat × List Nat)) : openC (a ++ b) = openC a ++ openC b := by simp [openC]
theorem openC_len {n : Nat} {O : List (Nat × List Nat)} (h : Opens n O) : (openC O).length = O.length * 65 := by
  induction O with
  | nil => rfl
  | cons p r ih =>
    have h1 := (h p List.mem_cons_self).2.1
    have h2 := ih (fun x hx => h x (List.mem_cons_of_mem _ hx))
    simp only [openC, List.flatMap_cons, List.length_append, List.length_cons] at h2 ⊢
    rw [h2, show (u8s p.2).length = 64 by simp [u8s, h1]]
    omega
theorem openC_get {n : Nat} : ∀ {O : List (Nat × List Nat)} (_ : Opens n O) (k : Nat) (hk : k < O.length), (openC O)[k * 65]? = some (.int .i64 (O[k].1 : Nat)) ∧ ∀ (j : Nat) (v : Value), (u8s O[k].2)[j]? = some v → (openC O)[k * 65 + 1 + j]? = some v := by
  intro O
  induction O with
  | nil => intro _ k hk; simp at hk
  | cons p r ih =>
    intro h k hk
    have h1 : (u8s p.2).length = 64 := by simp [u8s, (h p List.mem_cons_self).2.1]
    cases k with
    | zero =>
      refine ⟨rfl, fun j v hj => ?_⟩
      have hj' := (List.getElem?_eq_some_iff.1 hj).1
      simp only [openC, List.flatMap_cons, List.getElem_cons_zero] at hj hj' ⊢
      rw [show 0 * 65 + 1 + j = j + 1 by omega, List.cons_append, List.getElem?_cons_succ, List.getElem?_append_left hj']
      exact hj
    | succ k =>
      have h2 := ih (fun x hx => h x (List.mem_cons_of_mem _ hx)) k (by simpa using hk)
      have e : ∀ j, (openC (p :: r))[(k + 1) * 65 + j]? = (openC r)[k * 65 + j]? := fun j => by
        simp only [openC, List.flatMap_cons]
        rw [show (k + 1) * 65 + j = (k * 65 + j) + 65 by omega, List.getElem?_append_right (by simp [h1])]
        simp [h1]
      refine ⟨?_, fun j v hj => ?_⟩
      · have := e 0
        simp only [Nat.add_zero] at this
        rw [this]
        simpa using h2.1
      · have := e (1 + j)
        rw [← Nat.add_assoc, ← Nat.add_assoc] at this
        rw [this]
        exact h2.2 j v (by simpa using hj)
theorem openC_one (O : List (Nat × List Nat)) : ∀ u ∈ openC O, u.oneCell' = true := by
  intro u hu
  simp only [openC, List.mem_flatMap, List.mem_cons] at hu
  obtain ⟨p, _, rfl | hp⟩ := hu
  · rfl
  · simp only [u8s, List.mem_map] at hp
    obtain ⟨x, _, rfl⟩ := hp
    rfl
theorem firmC_one (F : List (List Nat)) : ∀ u ∈ firmC F, u.oneCell' = true := by
  intro u hu
  simp only [firmC, List.mem_flatMap, u8s, List.mem_map] at hu
  obtain ⟨b, _, x, _, rfl⟩ := hu
  rfl
/-- a sector as it was written last -/
def shownL (F : List (List Nat)) (O : List (Nat × List Nat)) (s : Nat) : List Nat := (O.reverse.find? fun p => p.1 == s).elim (F.getD s []) Prod.snd
/-- all that was written becomes firm -/
def flushL (F : List (List Nat)) (O : List (Nat × List Nat)) : List (List Nat) := O.foldl (fun F p => F.set p.1 p.2) F
theorem flushL_len (F : List (List Nat)) (O : List (Nat × List Nat)) : (flushL F O).length = F.length := by
  induction O generalizing F with
  | nil => rfl
  | cons p r ih => simp only [flushL, List.foldl_cons] at ih ⊢; rw [ih]; simp
theorem flushL_secs {n : Nat} {F : List (List Nat)} {O : List (Nat × List Nat)} (hF : Secs F) (hO : Opens n O) : Secs (flushL F O) := by
  induction O generalizing F with
  | nil => exact hF
  | cons p r ih =>
    simp only [flushL, List.foldl_cons] at ih ⊢
    have h1 := hO p List.mem_cons_self
    exact ih (secs_set hF p.1 p.2 h1.2.1 h1.2.2) (fun x hx => hO x (List.mem_cons_of_mem _ hx))
end Go.Proofs.YtgmjhpappamenaaDoor

/- dev: what a device is; small contracts. -/
namespace Go.Proofs.YtgmjhpappamenaaDoor
open Go.RowKit Go.Shelf

structure Dev where
  F : List (List Nat)
  O : List (Nat × List Nat)
  P : List Int
  C : Nat := 0
  Z : List Value := []
/-- cells that lie there and may be written -/
def RoomAt (w : World) (pb off cap : Nat) : Prop := pb < w.heap.size ∧ ∀ j, j < cap → (w.cell? ⟨pb, off + j, none⟩).isSome = true ∧ w.frozen? ⟨pb, off + j, none⟩ = false
theorem RoomAt.fr {S : List Nat} {w w' : World} {pb off cap : Nat} (h : RoomAt w pb off cap) (hF : Fr S w w') (hs : ¬ pb ∈ S) : RoomAt w' pb off cap := by
  have e := hF.block pb h.1 hs
  refine ⟨Nat.lt_of_lt_of_le h.1 hF.size, fun j hj => ?_⟩
  rw [World.cell?_of_block (a := ⟨pb, off + j, none⟩) e, World.frozen?_of_block (a := ⟨pb, off + j, none⟩) e]
  exact h.2 j hj
/-- what is planned: fates behind a slice -/
def PlanAt (w : World) (pv : Value) (P : List Int) : Prop := ∃ oa cap, pv = .slice oa P.length cap ∧ P.length ≤ cap ∧ cap ≤ maxLen ∧
  (0 < cap → ∃ pb off, oa = some ⟨pb, off, none⟩ ∧ RoomAt w pb off cap ∧ ∀ (i : Nat) (h : i < P.length), w.cell? ⟨pb, off + i, none⟩ = some (.int .i64 P[i]))
theorem PlanAt.ints {w : World} {pv : Value} {P : List Int} (h : PlanAt w pv P) : ∃ oa cap, pv = .slice oa P.length cap ∧ IsInts w oa P ∧ P.length ≤ cap ∧ cap ≤ maxLen := by
  obtain ⟨oa, cap, he, hl, hm, hb⟩ := h
  refine ⟨oa, cap, he, fun i hi => ?_, hl, hm⟩
  obtain ⟨pb, off, rfl, _, hc⟩ := hb (by omega)
  exact ⟨pb, off, rfl, hc i hi⟩
structure DevAt (w : World) (b bf : Nat) (ov pv : Value) (x : Dev) : Prop where
  n1 : 1 ≤ x.F.length
  n2 : x.F.length ≤ 4096
  secs : Secs x.F
  opens : Opens x.F.length x.O
  blk : Blk w b 79 #[.slice (some ⟨bf, 0, none⟩) x.F.length x.C, ov, pv]
  firm : Blk w bf 88 (firmC x.F ++ x.Z).toArray
  own : w.ownsRow 0 95 65 ov x.O.length (openC x.O)
  plan : PlanAt w pv x.P
  ne : ¬ b = bf
  no : ∀ g, ov.ownBlock = some g → ¬ g = b ∧ ¬ g = bf
  np : ∀ g, pv.ownBlock = some g → ¬ g = b ∧ ¬ g = bf ∧ ¬ ov.ownBlock = some g ∧ g < w.heap.size
/-- the blocks of a device -/
def devD (b bf : Nat) (ov pv : Value) : List Nat := [b, bf] ++ ov.ownBlock.toList ++ pv.ownBlock.toList
theorem mem_devD {b bf : Nat} {ov pv : Value} {i : Nat} : i ∈ devD b bf ov pv ↔ i = b ∨ i = bf ∨ ov.ownBlock = some i ∨ pv.ownBlock = some i := by
  simp [devD, or_assoc]
def IsDev (w : World) (b : Nat) (D : List Nat) (x : Dev) : Prop := ∃ bf ov pv, D = devD b bf ov pv ∧ DevAt w b bf ov pv x
theorem ints_fr {S : List Nat} {w w' : World} {oa : Option Addr} {ns : List Int} (h : IsInts w oa ns) (hF : Fr S w w') (hs : ∀ b off, oa = some ⟨b, off, none⟩ → ¬ b ∈ S) : IsInts w' oa ns := by
  intro i hi
  obtain ⟨b, off, he, h0⟩ := h i hi
  exact ⟨b, off, he, cell_fr hF (hs b off he) h0⟩
theorem plan_fr {S : List Nat} {w w' : World} {pv : Value} {P : List Int} (h : PlanAt w pv P) (hF : Fr S w w') (hs : ∀ g, pv.ownBlock = some g → ¬ g ∈ S) : PlanAt w' pv P := by
  obtain ⟨oa, cap, rfl, h2, h3, hb⟩ := h
  refine ⟨oa, cap, rfl, h2, h3, fun hc => ?_⟩
  obtain ⟨pb, off, rfl, hB, hcs⟩ := hb hc
  exact ⟨pb, off, rfl, hB.fr hF (hs pb rfl), fun i hi => cell_fr hF (hs pb rfl) (hcs i hi)⟩
theorem DevAt.fr {S : List Nat} {w w' : World} {b bf : Nat} {ov pv : Value} {x : Dev} (h : DevAt w b bf ov pv x) (hF : Fr S w w') (hs : ∀ i, i ∈ devD b bf ov pv → ¬ i ∈ S) : DevAt w' b bf ov pv x :=
  ⟨h.n1, h.n2, h.secs, h.opens, h.blk.fr hF (hs _ (mem_devD.2 (.inl rfl))), h.firm.fr hF (hs _ (mem_devD.2 (.inr (.inl rfl)))),
    owns_fr h.own hF (fun g hg => hs _ (mem_devD.2 (.inr (.inr (.inl hg))))), plan_fr h.plan hF (fun g hg => hs _ (mem_devD.2 (.inr (.inr (.inr hg))))), h.ne, h.no,
    fun g hg => ⟨(h.np g hg).1, (h.np g hg).2.1, (h.np g hg).2.2.1, Nat.lt_of_lt_of_le (h.np g hg).2.2.2 hF.size⟩⟩
theorem IsDev.fr {S : List Nat} {w w' : World} {b : Nat} {D : List Nat} {x : Dev} (h : IsDev w b D x) (hF : Fr S w w') (hs : ∀ i, i ∈ D → ¬ i ∈ S) : IsDev w' b D x := by
  obtain ⟨bf, ov, pv, rfl, h⟩ := h
  exact ⟨bf, ov, pv, rfl, h.fr hF hs⟩
theorem owns_lt' {w : World} {base e size : Nat} {v : Value} {n : Nat} {xs : List Value} (h : w.ownsRow base e size v n xs) : ∀ g, v.ownBlock = some g → g < w.heap.size := by
  intro g hg
  obtain ⟨h1, ⟨rfl, _⟩ | ⟨g', cap, cur, rfl, hb, hh, _⟩⟩ := h
  · cases hg
  · cases hg; exact (Array.getElem?_eq_some_iff.1 hh).1
theorem IsDev.lt {w : World} {b : Nat} {D : List Nat} {x : Dev} (h : IsDev w b D x) : ∀ i, i ∈ D → i < w.heap.size := by
  obtain ⟨bf, ov, pv, rfl, h⟩ := h
  intro i hi
  rcases mem_devD.1 hi with rfl | rfl | hi | hi
  · exact h.blk.lt
  · exact h.firm.lt
  · exact owns_lt' h.own i hi
  · exact (h.np i hi).2.2.2
theorem IsDev.mem {w : World} {b : Nat} {D : List Nat} {x : Dev} (h : IsDev w b D x) : b ∈ D := by
  obtain ⟨bf, ov, pv, rfl, h⟩ := h
  exact mem_devD.2 (.inl rfl)

theorem devSize_any (b : Nat) (D : List Nat) (x : Dev) (w : World) (h : IsDev w b D x) :
    Calls Tryd.prog 36 #[.pointer (some ⟨b, 0, none⟩)] w fun e w' => e = .returned (.int .i64 (x.F.length : Nat)) ∧ w = w' := by
  obtain ⟨bf, ov, pv, rfl, h⟩ := h
  have c0 : w.cell? ⟨b, 0, none⟩ = some (.slice (some ⟨bf, 0, none⟩) x.F.length x.C) := h.blk.cell rfl
  clear h
  go_enter Tryd.func36, Tryd.ntmps36
  go_wp2_with fail
  go_ret
  exact ⟨rfl, rfl⟩
theorem owns_form0 {w : World} {base e size : Nat} {v : Value} {n : Nat} {xs : List Value} (h : w.ownsRow base e size v n xs) : ∃ oa cap, v = .slice oa n cap := by
  obtain ⟨_, ⟨rfl, rfl⟩ | ⟨g, cap, cur, rfl, _⟩⟩ := h
  · exact ⟨none, 0, rfl⟩
  · exact ⟨_, cap, rfl⟩
theorem devOpen_any (b : Nat) (D : List Nat) (x : Dev) (w : World) (h : IsDev w b D x) :
    Calls Tryd.prog 16 #[.pointer (some ⟨b, 0, none⟩)] w fun e w' => e = .returned (.int .i64 (x.O.length : Nat)) ∧ w = w' := by
  obtain ⟨bf, ov, pv, rfl, h⟩ := h
  obtain ⟨oa, cap, rfl⟩ := owns_form0 h.own
  have c0 : w.cell? ⟨b, 1, none⟩ = some (.slice oa x.O.length cap) := h.blk.cell rfl
  clear h
  go_enter Tryd.func16, Tryd.ntmps16
  go_wp2_with fail
  go_ret
  exact ⟨rfl, rfl⟩
/-- what is wrong with a sector's number -/
def devE (x : Dev) (s : Int) : Int := if s < 0 ∨ (x.F.length : Int) ≤ s then 10 else 0
theorem devCheck_any (b : Nat) (D : List Nat) (x : Dev) (s : Int) (w : World) (h : IsDev w b D x) :
    Calls Tryd.prog 71 #[.pointer (some ⟨b, 0, none⟩), .int .i64 s] w fun e w' => e = .returned (.int .i64 (devE x s)) ∧ w = w' := by
  obtain ⟨bf, ov, pv, rfl, h⟩ := h
  have c0 : w.cell? ⟨b, 0, none⟩ = some (.slice (some ⟨bf, 0, none⟩) x.F.length x.C) := h.blk.cell rfl
  have hn := h.n2
  clear h
  unfold devE
  generalize x.F.length = n at c0 hn ⊢
  by_cases h1 : s < 0
  · go_enter Tryd.func71, Tryd.ntmps71
    go_wp2_with fail
    go_ret
    exact ⟨rfl, rfl⟩
  · by_cases h2 : (n : Int) ≤ s
    · go_enter Tryd.func71, Tryd.ntmps71
      go_wp2_with fail
      go_ret
      exact ⟨rfl, rfl⟩
    · go_enter Tryd.func71, Tryd.ntmps71
      go_wp2_with fail
      go_ret
      exact ⟨rfl, rfl⟩
end Go.Proofs.YtgmjhpappamenaaDoor

/- dev: New; what becomes of a call. -/
namespace Go.Proofs.YtgmjhpappamenaaDoor
open Go.RowKit Go.Shelf

def zero64 : List Nat := List.replicate 64 0
theorem infoBlock : (Tryd.prog.info? 88).map (fun i => (i.zero, i.size, i.bytes)) = some (some (.agg (bv zero64)), 64, 64) := by kernel_rfl
theorem u8s_zero (k : Nat) : u8s (List.replicate k 0) = List.replicate k (Value.int .u8 0) := by simp [u8s]
theorem firmC_zero (n : Nat) : firmC (List.replicate n zero64) = List.replicate (n * 64) (Value.int .u8 0) := by
  induction n with
  | zero => rfl
  | succ n ih =>
    rw [List.replicate_succ]
    simp only [firmC, List.flatMap_cons] at ih ⊢
    rw [ih, zero64, u8s_zero, List.replicate_append_replicate]
    congr 1
    omega
theorem made_rep (k m : Nat) (v : Value) (hk : 0 < k) : (madeCells (List.replicate k v).toArray m).toList = List.replicate m v := by
  apply List.ext_getElem
  · simp [madeCells]
  · intro i h1 h2
    have : i % k < k := Nat.mod_lt _ hk
    simp [madeCells, this]
theorem made_zero (n : Nat) : (madeCells (bv zero64) (n * 64)).toList = firmC (List.replicate n zero64) := by
  have hb : bv zero64 = (List.replicate 64 (Value.int .u8 0)).toArray := by unfold bv zero64; rw [u8s_zero]
  rw [firmC_zero, hb, made_rep 64 _ _ (by omega)]
theorem secs_zero (n : Nat) : Secs (List.replicate n zero64) := by
  intro b hb
  obtain ⟨_, rfl⟩ := List.mem_replicate.1 hb
  refine ⟨by simp [zero64], fun x hx => ?_⟩
  obtain ⟨_, rfl⟩ := List.mem_replicate.1 hx
  omega
theorem owns_whole {w : World} {base e size n : Nat} {g : Nat} {xs : List Value} (h : w.ownsRow base e size (.slice (some ⟨g, 0, none⟩) n n) n xs) : Blk w g e xs.toArray := by
  obtain ⟨h1, ⟨h2, _⟩ | ⟨g', cap, cur, hv, hg, hh, hn, hc, hs, ht⟩⟩ := h
  · cases h2
  · simp only [Value.slice.injEq, Option.some.injEq, Addr.mk.injEq, true_and, and_true] at hv
    obtain ⟨rfl, rfl⟩ := hv
    unfold Blk
    rw [hh]
    congr 2
    rw [← ht, List.take_of_length_le (by simp [hs])]
def devNew (n : Nat) : Dev := ⟨List.replicate n zero64, [], [], n, []⟩
theorem devNew_bad (n : Int) (w : World) (h : n < 1 ∨ 4096 < n) :
    Calls Tryd.prog 11 #[.int .i64 n] w fun e w' => e = .returned (.tuple #[.pointer none, .int .i64 24]) ∧ w = w' := by
  by_cases h1 : n < 1
  · clear h
    go_enter Tryd.func11, Tryd.ntmps11
    go_wp2_with fail
    go_ret2
    exact ⟨rfl, rfl⟩
  · have h2 : 4096 < n := by omega
    clear h
    go_enter Tryd.func11, Tryd.ntmps11
    go_wp2_with fail
    go_ret2
    exact ⟨rfl, rfl⟩
set_option maxRecDepth 100000 in
theorem devNew_any (n : Nat) (w : World) (h1 : 1 ≤ n) (h2 : n ≤ 4096) :
    Calls Tryd.prog 11 #[.int .i64 n] w fun e w' => ∃ b D, e = .returned (.tuple #[.pointer (some ⟨b, 0, none⟩), .int .i64 0]) ∧ IsDev w' b D (devNew n) ∧ (∀ i, i ∈ D → w.heap.size ≤ i) ∧ Fr [] w w' := by
  obtain ⟨i0, hi, hz0, hz1, hz2⟩ := info_parts infoBlock
  go_enter Tryd.func11, Tryd.ntmps11
  go_wp2_with (at_make; refine wpList_make_full _ rfl _ _ 76 rfl w.heap.size 88 i0 (.agg (bv zero64)) 64 Tryd.underlying76 hi hz0 hz1 .i64 .i64 n n n rfl rfl rfl rfl ?c1 ?c2 ?c3 ?_)
  case c1 => rw [hz2]; omega
  case c2 => unfold maxLen; omega
  case c3 => exact Nat.le_refl _
  intro w1 hown hgrow
  have hF1 : Fr [] w w1 := (Fr.refl [] w).grown hgrow (by simp)
  rw [made_zero] at hown
  have hB1 := owns_whole hown
  have hlt := hB1.lt
  clear hown hgrow
  go_wp2
  go_ret2
  refine ⟨w1.heap.size, devD w1.heap.size w.heap.size (.slice none 0 0) (.slice none 0 0), rfl, ⟨w.heap.size, .slice none 0 0, .slice none 0 0, rfl, ?_⟩, ?_, hF1.alloc _⟩
  · refine ⟨by simp [devNew, h1], by simp [devNew, h2], secs_zero n, fun p hp => (by cases hp), ?_, (by simpa [devNew] using hB1.alloc _), World.ownsRow_nil _ _ _ _, ⟨none, 0, rfl, Nat.le_refl _, by unfold maxLen; omega, fun h => absurd h (Nat.lt_irrefl 0)⟩, by omega, fun g hg => (by cases hg), fun g hg => (by cases hg)⟩
    have := Blk.new w1 #[.slice (some ⟨w.heap.size, 0, none⟩) n n, .slice none 0 0, .slice none 0 0] 79
    simpa [devNew] using this
  · intro i hi
    rcases mem_devD.1 hi with rfl | rfl | hi | hi
    · omega
    · exact Nat.le_refl _
    · cases hi
    · cases hi
end Go.Proofs.YtgmjhpappamenaaDoor

/- dev: what becomes of a call. -/
namespace Go.Proofs.YtgmjhpappamenaaDoor
open Go.RowKit Go.Shelf

/-- what a call answers -/
def devR (p fails : Int) : Int := if p = 1 then fails else 0
def nextP (x : Dev) : Dev := { x with P := x.P.tail }
theorem run_slice1 (w : World) (a : Option Addr) (k cap : Nat) (hk : k + 1 ≤ cap) :
    (Instr.slice 59 (.slice a (k + 1) cap) (some (.int .i64 1)) none none).run Tryd.prog w = .ok (.slice (if cap = 1 then a else a.map (·.add 1)) k (cap - 1)) w := by
  unfold Instr.slice Instr.sliceBounds Instr.sliceBound
  go_simp
  intro h
  omega
theorem call_next {w : World} {b bf : Nat} {ov : Value} {pb off cap off' cap' : Nat} {x : Dev} {p : Int} {ps : List Int} (h : DevAt w b bf ov (.slice (some ⟨pb, off, none⟩) (ps.length + 1) cap) x)
    (hP : IsInts w (some ⟨pb, off, none⟩) (p :: ps)) (hp : x.P = p :: ps) (hle : ps.length + 1 ≤ cap) (ho : (if cap = 1 then off else off + 1) = off') (hc : cap - 1 = cap') :
    DevAt (w.drew.setCell ⟨b, 2, none⟩ (.slice (some ⟨pb, off', none⟩) ps.length cap')) b bf ov (.slice (some ⟨pb, off', none⟩) ps.length cap') (nextP x) := by
  have hF : Fr [b] w (w.drew.setCell ⟨b, 2, none⟩ (.slice (some ⟨pb, off', none⟩) ps.length cap')) := ((Fr.refl _ w).drew).setCell _ (.inl (by simp)) _
  have hpb := h.np pb rfl
  have hmx : cap ≤ maxLen := by
    obtain ⟨oa2, cap2, he, _, _, hm⟩ := h.plan.ints
    simp only [Value.slice.injEq] at he
    omega
  refine ⟨h.n1, h.n2, h.secs, h.opens, ?_, h.firm.fr hF (by simpa using fun e => h.ne e.symm), owns_fr h.own hF (fun g hg => by simpa using (h.no g hg).1), ?_, h.ne, h.no, ?_⟩
  · have := (h.blk.drew).set 2 (.slice (some ⟨pb, off', none⟩) ps.length cap')
    simpa [nextP] using this
  · obtain ⟨oa2, cap2, he, hl2, hm2, hb2⟩ := h.plan
    rw [hp] at he hl2 hb2
    simp only [Value.slice.injEq, List.length_cons] at he hl2
    obtain ⟨rfl, _, rfl⟩ := he
    refine ⟨some ⟨pb, off', none⟩, cap', by simp [nextP, hp], by simp [nextP, hp]; omega, by omega, fun hc0 => ?_⟩
    obtain ⟨pb2, off2, he2, hB, hcs⟩ := hb2 (by omega)
    cases he2
    have hc1 : ¬ cap = 1 := by omega
    rw [if_neg hc1] at ho
    subst ho
    refine ⟨pb, off + 1, rfl, RoomAt.fr ⟨hB.1, fun j hj => ?_⟩ hF (by simpa using hpb.1), fun i hi => ?_⟩
    · have := hB.2 (j + 1) (by omega)
      rwa [show off + 1 + j = off + (j + 1) by omega]
    · simp only [nextP, hp, List.tail_cons] at hi ⊢
      have := hcs (i + 1) (by simpa using hi)
      rw [show off + 1 + i = off + (i + 1) by omega]
      exact cell_fr hF (by simpa using hpb.1) (by simpa using this)
  · intro g hg
    cases hg
    exact ⟨hpb.1, hpb.2.1, hpb.2.2.1, Nat.lt_of_lt_of_le hpb.2.2.2 hF.size⟩
/-- what becomes of a call: its body runs as its fate tells -/
theorem devCall_any (b : Nat) (D : List Nat) (x : Dev) (fails : Int) (f : Nat) (cs : Array Value) (w : World) (h : IsDev w b D x) (hen : ∀ args w, (callFunc f args).run Tryd.prog w = .ok (.enter f args) w)
    (Q : World → Prop)
    (hdo : x.P.headD 0 = 0 → ∀ w1 D1, IsDev w1 b D1 (nextP x) → Fr D w w1 → (∀ i, i ∈ D1 → i ∈ D) → Calls Tryd.prog f cs w1 fun e w' => e = .returned (.tuple #[]) ∧ Q w')
    (hno : ¬ x.P.headD 0 = 0 → ∀ w1 D1, IsDev w1 b D1 (nextP x) → Fr D w w1 → (∀ i, i ∈ D1 → i ∈ D) → Q w1) :
    Calls Tryd.prog 65 #[.pointer (some ⟨b, 0, none⟩), .int .i64 fails, .func (.func f) #[] cs] w fun e w' => e = .returned (.int .i64 (devR (x.P.headD 0) fails)) ∧ Q w' := by
  obtain ⟨bf, ov, pv, rfl, h⟩ := h
  obtain ⟨oa, cap, rfl, hP, hle, hmx⟩ := h.plan.ints
  cases hp : x.P with
  | nil =>
    rw [hp] at hle hP
    have hx : nextP x = x := by cases x; simp_all [nextP]
    have hD := hdo (by rw [hp]; rfl) w _ ⟨bf, ov, _, rfl, by rw [hx]; exact h⟩ (Fr.refl _ _) (fun i hi => hi)
    have c2 : w.cell? ⟨b, 2, none⟩ = some (.slice oa 0 cap) := by have := h.blk.cell (i := 2) rfl; rw [hp] at this; exact this
    have HD := Lib.hid hD
    clear hD hdo hno hP h
    rw [show devR (List.headD [] 0) fails = 0 from rfl]
    go_enter Tryd.func65, Tryd.ntmps65
    go_wp2_with fail
    refine HD.out.mono ?_
    rintro e w' ⟨rfl, hQ⟩
    go_wp2
    go_ret
    exact ⟨rfl, hQ⟩
  | cons p ps =>
    rw [hp] at hle hP
    simp only [List.length_cons] at hle hP
    obtain ⟨pb, off, rfl, hq0⟩ := hP 0 (by simp)
    simp only [List.getElem_cons_zero, Nat.add_zero] at hq0
    have hcap : (if cap = 1 then (some ⟨pb, off, none⟩ : Option Addr) else (some ⟨pb, off, none⟩ : Option Addr).map (·.add 1)) = some ⟨pb, if cap = 1 then off else off + 1, none⟩ := by
      by_cases hc : cap = 1 <;> simp [hc, Addr.add]
    have c2 : w.cell? ⟨b, 2, none⟩ = some (.slice (some ⟨pb, off, none⟩) (ps.length + 1) cap) := by have := h.blk.cell (i := 2) rfl; rw [hp] at this; exact this
    have hB := h.blk
    rw [hp] at hB
    simp only [List.length_cons] at hB
    have HSL := Lib.hid (fun w0 => run_slice1 w0 (some ⟨pb, off, none⟩) ps.length cap hle)
    have hq0' : w.cell? ⟨pb, off, none⟩ = some (.int .i64 p) := hq0
    generalize hoff : (if cap = 1 then off else off + 1) = off' at hcap
    simp only [hcap] at HSL
    generalize hcp : cap - 1 = cap' at HSL
    have HN := Lib.hid hno
    have HD := Lib.hid hdo
    have h := h
    rw [hp, List.length_cons] at h
    have HH := Lib.hid h
    have HO := Lib.hid (And.intro hoff hcp)
    have HP := Lib.hid hP
    have HL := Lib.hid hle
    clear hno hdo h hoff hcp hP hle hcap hq0 hmx
    have fz := hB.frozen 2
    have hF2 : Fr [b] w (w.drew.setCell ⟨b, 2, none⟩ (.slice (some ⟨pb, off', none⟩) ps.length cap')) := ((Fr.refl _ w).drew).setCell _ (.inl (by simp)) _
    have hF3 := hF2.sub (T := devD b bf ov (.slice (some ⟨pb, off, none⟩) (ps.length + 1) cap)) (fun i hi => .inl (by simp at hi; subst hi; exact mem_devD.2 (.inl rfl)))
    have hA2 : IsDev (w.drew.setCell ⟨b, 2, none⟩ (.slice (some ⟨pb, off', none⟩) ps.length cap')) b (devD b bf ov (.slice (some ⟨pb, off', none⟩) ps.length cap')) (nextP x) :=
      ⟨_, _, _, rfl, call_next HH.out HP.out hp HL.out HO.out.1 HO.out.2⟩
    have hm2 : ∀ i, i ∈ devD b bf ov (.slice (some ⟨pb, off', none⟩) ps.length cap') → i ∈ devD b bf ov (.slice (some ⟨pb, off, none⟩) (ps.length + 1) cap) := fun i hi => mem_devD.2 (mem_devD.1 hi)
    have HX := Lib.hid (And.intro hA2 (And.intro hF3 hm2))
    clear hF2 hF3 hA2 hm2
    by_cases h0 : p = 0
    · subst h0
      have hD := HD.out (by rw [hp]; rfl) _ _ HX.out.1 HX.out.2.1 HX.out.2.2
      have HD := Lib.hid hD
      clear hD HN
      rw [show devR (List.headD (0 :: ps) 0) fails = 0 from rfl]
      go_enter Tryd.func65, Tryd.ntmps65
      go_upto_region 3 with fail
      refine region_tail [13,14,15] [] (.take 0 (.take 1 (.take 2 (.take 3 (.take 4 (.take 5 (.take 6 (.take 7 (.take 8 (.take 9 (.take 10 (.take 11 (.take 12 (.last 13 (.last 14 (.last 15 .done)))))))))))))))) (by kernel_rfl) (by kernel_rfl) ?_
      simp only [ordList, Ord.map, List.getD_cons_zero, List.getD_cons_succ]
      refine' ord_pure (v := _) ?_ rfl ?_; rotate_left; focus (intro w; go_simp <;> (first | (with_reducible rfl) | (constructor <;> with_reducible rfl)))
      simp only [Act.put, List.setIfInBounds_toArray, List.set_cons_zero, List.set_cons_succ]
      refine' ord_pure (v := _) ?_ rfl ?_; rotate_left; focus (intro w; go_simp <;> (first | (with_reducible rfl) | (constructor <;> with_reducible rfl)))
      simp only [Act.put, List.setIfInBounds_toArray, List.set_cons_zero, List.set_cons_succ]
      refine' ord_pure (v := _) ?_ rfl ?_; rotate_left; focus (intro w; go_simp <;> (first | (with_reducible rfl) | (constructor <;> with_reducible rfl)))
      simp only [Act.put, List.setIfInBounds_toArray, List.set_cons_zero, List.set_cons_succ]
      refine' ord_pure (v := _) ?_ rfl ?_; rotate_left; focus (intro w; go_simp <;> (first | (with_reducible rfl) | (constructor <;> with_reducible rfl)))
      simp only [Act.put, List.setIfInBounds_toArray, List.set_cons_zero, List.set_cons_succ]
      refine ord_cell hB (by simp) rfl rfl (by kernel_rfl) rfl rfl ?_
      simp only [Act.put, List.getElem_toArray, List.getElem_cons_zero, List.getElem_cons_succ, List.setIfInBounds_toArray, List.set_cons_zero, List.set_cons_succ]
      refine' ord_pure (v := _) ?_ rfl ?_; rotate_left; focus (intro w; go_simp <;> (first | (with_reducible rfl) | (constructor <;> with_reducible rfl)))
      simp only [Act.put, List.setIfInBounds_toArray, List.set_cons_zero, List.set_cons_succ]
      refine ord_load rfl rfl (by kernel_rfl) rfl hq0' (by simp) ?_
      simp only [Act.put, List.setIfInBounds_toArray, List.set_cons_zero, List.set_cons_succ]
      refine' ord_pure (v := _) ?_ rfl ?_; rotate_left; focus (intro w; go_simp <;> (first | (with_reducible rfl) | (constructor <;> with_reducible rfl)))
      simp only [Act.put, List.setIfInBounds_toArray, List.set_cons_zero, List.set_cons_succ]
      refine' ord_pure (v := _) ?_ rfl ?_; rotate_left; focus (intro w; go_simp <;> (first | (with_reducible rfl) | (constructor <;> with_reducible rfl)))
      simp only [Act.put, List.setIfInBounds_toArray, List.set_cons_zero, List.set_cons_succ]
      refine' ord_pure (v := _) ?_ rfl ?_; rotate_left; focus (intro w; go_simp <;> (first | (with_reducible rfl) | (constructor <;> with_reducible rfl)))
      simp only [Act.put, List.setIfInBounds_toArray, List.set_cons_zero, List.set_cons_succ]
      refine ord_cell hB (by simp) rfl rfl (by kernel_rfl) rfl rfl ?_
      simp only [Act.put, List.getElem_toArray, List.getElem_cons_zero, List.getElem_cons_succ, List.setIfInBounds_toArray, List.set_cons_zero, List.set_cons_succ]
      -- 11: t25 := slice <[]int> t24 some(1) none none   {10}
      refine' ord_pure (v := .slice (some ⟨pb, off', none⟩) ps.length cap') (fun w0 => ?_) rfl ?_
      focus (have := HSL.out w0; go_simp)
      simp only [Act.put, List.setIfInBounds_toArray, List.set_cons_zero, List.set_cons_succ]
      refine' ord_pure (v := _) ?_ rfl ?_; rotate_left; focus (intro w; go_simp <;> (first | (with_reducible rfl) | (constructor <;> with_reducible rfl)))
      simp only [Act.put, List.setIfInBounds_toArray, List.set_cons_zero, List.set_cons_succ]
      -- 13: t26 := nilCheck t14   {0,1,2,3,4,5,6,7,8,9,10,11,12}
      refine' ord_last_pure (v := _) ?_ rfl ?_; rotate_left; focus (intro w; go_simp <;> (first | (with_reducible rfl) | (constructor <;> with_reducible rfl)))
      simp only [Act.put, List.setIfInBounds_toArray, List.set_cons_zero, List.set_cons_succ]
      -- 14: t27 := fieldAddr <dev.Device = lavabo/dev.Device> t26 2   {0,1,2,3,4,5,6,7,8,9,10,11,12,13}
      refine' ord_last_pure (v := _) ?_ rfl ?_; rotate_left; focus (intro w; go_simp <;> (first | (with_reducible rfl) | (constructor <;> with_reducible rfl)))
      simp only [Act.put, List.setIfInBounds_toArray, List.set_cons_zero, List.set_cons_succ]
      -- 15: t_ := store <[]int> t27 t25   {0,1,2,3,4,5,6,7,8,9,10,11,12,14}
      refine' ord_last_skip (w' := w.drew.setCell ⟨b, 2, none⟩ (.slice (some ⟨pb, off', none⟩) ps.length cap')) ?_ rfl ?_
      focus (go_simp)
      simp only [Act.put, List.setIfInBounds_toArray, List.set_cons_zero, List.set_cons_succ]
      refine ord_nil ?_
      go_wp2_with fail
      refine HD.out.mono ?_
      rintro e w' ⟨rfl, hQ⟩
      go_wp2
      go_ret
      exact ⟨rfl, hQ⟩
    · have hQ := HN.out (by rw [hp]; exact h0) _ _ HX.out.1 HX.out.2.1 HX.out.2.2
      have b0 : (p == 0) = false := beq_eq_false_iff_ne.2 h0
      have HQ := Lib.hid hQ
      clear hQ HD
      by_cases h1 : p = 1
      · subst h1
        rw [show devR (List.headD (1 :: ps) 0) fails = fails from rfl]
        go_enter Tryd.func65, Tryd.ntmps65
        go_upto_region 3 with fail
        refine region_tail [13,14,15] [] (.take 0 (.take 1 (.take 2 (.take 3 (.take 4 (.take 5 (.take 6 (.take 7 (.take 8 (.take 9 (.take 10 (.take 11 (.take 12 (.last 13 (.last 14 (.last 15 .done)))))))))))))))) (by kernel_rfl) (by kernel_rfl) ?_
        simp only [ordList, Ord.map, List.getD_cons_zero, List.getD_cons_succ]
        refine' ord_pure (v := _) ?_ rfl ?_; rotate_left; focus (intro w; go_simp <;> (first | (with_reducible rfl) | (constructor <;> with_reducible rfl)))
        simp only [Act.put, List.setIfInBounds_toArray, List.set_cons_zero, List.set_cons_succ]
        refine' ord_pure (v := _) ?_ rfl ?_; rotate_left; focus (intro w; go_simp <;> (first | (with_reducible rfl) | (constructor <;> with_reducible rfl)))
        simp only [Act.put, List.setIfInBounds_toArray, List.set_cons_zero, List.set_cons_succ]
        refine' ord_pure (v := _) ?_ rfl ?_; rotate_left; focus (intro w; go_simp <;> (first | (with_reducible rfl) | (constructor <;> with_reducible rfl)))
        simp only [Act.put, List.setIfInBounds_toArray, List.set_cons_zero, List.set_cons_succ]
        refine' ord_pure (v := _) ?_ rfl ?_; rotate_left; focus (intro w; go_simp <;> (first | (with_reducible rfl) | (constructor <;> with_reducible rfl)))
        simp only [Act.put, List.setIfInBounds_toArray, List.set_cons_zero, List.set_cons_succ]
        refine ord_cell hB (by simp) rfl rfl (by kernel_rfl) rfl rfl ?_
        simp only [Act.put, List.getElem_toArray, List.getElem_cons_zero, List.getElem_cons_succ, List.setIfInBounds_toArray, List.set_cons_zero, List.set_cons_succ]
        refine' ord_pure (v := _) ?_ rfl ?_; rotate_left; focus (intro w; go_simp <;> (first | (with_reducible rfl) | (constructor <;> with_reducible rfl)))
        simp only [Act.put, List.setIfInBounds_toArray, List.set_cons_zero, List.set_cons_succ]
        refine ord_load rfl rfl (by kernel_rfl) rfl hq0' (by simp) ?_
        simp only [Act.put, List.setIfInBounds_toArray, List.set_cons_zero, List.set_cons_succ]
        refine' ord_pure (v := _) ?_ rfl ?_; rotate_left; focus (intro w; go_simp <;> (first | (with_reducible rfl) | (constructor <;> with_reducible rfl)))
        simp only [Act.put, List.setIfInBounds_toArray, List.set_cons_zero, List.set_cons_succ]
        refine' ord_pure (v := _) ?_ rfl ?_; rotate_left; focus (intro w; go_simp <;> (first | (with_reducible rfl) | (constructor <;> with_reducible rfl)))
        simp only [Act.put, List.setIfInBounds_toArray, List.set_cons_zero, List.set_cons_succ]
        refine' ord_pure (v := _) ?_ rfl ?_; rotate_left; focus (intro w; go_simp <;> (first | (with_reducible rfl) | (constructor <;> with_reducible rfl)))
        simp only [Act.put, List.setIfInBounds_toArray, List.set_cons_zero, List.set_cons_succ]
        refine ord_cell hB (by simp) rfl rfl (by kernel_rfl) rfl rfl ?_
        simp only [Act.put, List.getElem_toArray, List.getElem_cons_zero, List.getElem_cons_succ, List.setIfInBounds_toArray, List.set_cons_zero, List.set_cons_succ]
        -- 11: t25 := slice <[]int> t24 some(1) none none   {10}
        refine' ord_pure (v := .slice (some ⟨pb, off', none⟩) ps.length cap') (fun w0 => ?_) rfl ?_
        focus (have := HSL.out w0; go_simp)
        simp only [Act.put, List.setIfInBounds_toArray, List.set_cons_zero, List.set_cons_succ]
        refine' ord_pure (v := _) ?_ rfl ?_; rotate_left; focus (intro w; go_simp <;> (first | (with_reducible rfl) | (constructor <;> with_reducible rfl)))
        simp only [Act.put, List.setIfInBounds_toArray, List.set_cons_zero, List.set_cons_succ]
        -- 13: t26 := nilCheck t14   {0,1,2,3,4,5,6,7,8,9,10,11,12}
        refine' ord_last_pure (v := _) ?_ rfl ?_; rotate_left; focus (intro w; go_simp <;> (first | (with_reducible rfl) | (constructor <;> with_reducible rfl)))
        simp only [Act.put, List.setIfInBounds_toArray, List.set_cons_zero, List.set_cons_succ]
        -- 14: t27 := fieldAddr <dev.Device = lavabo/dev.Device> t26 2   {0,1,2,3,4,5,6,7,8,9,10,11,12,13}
        refine' ord_last_pure (v := _) ?_ rfl ?_; rotate_left; focus (intro w; go_simp <;> (first | (with_reducible rfl) | (constructor <;> with_reducible rfl)))
        simp only [Act.put, List.setIfInBounds_toArray, List.set_cons_zero, List.set_cons_succ]
        -- 15: t_ := store <[]int> t27 t25   {0,1,2,3,4,5,6,7,8,9,10,11,12,14}
        refine' ord_last_skip (w' := w.drew.setCell ⟨b, 2, none⟩ (.slice (some ⟨pb, off', none⟩) ps.length cap')) ?_ rfl ?_
        focus (go_simp)
        simp only [Act.put, List.setIfInBounds_toArray, List.set_cons_zero, List.set_cons_succ]
        refine ord_nil ?_
        go_wp2_with fail
        go_ret
        exact ⟨rfl, HQ.out⟩
      · have b1 : (p == 1) = false := beq_eq_false_iff_ne.2 h1
        rw [show devR (List.headD (p :: ps) 0) fails = 0 from if_neg h1]
        go_enter Tryd.func65, Tryd.ntmps65
        go_upto_region 3 with fail
        refine region_tail [13,14,15] [] (.take 0 (.take 1 (.take 2 (.take 3 (.take 4 (.take 5 (.take 6 (.take 7 (.take 8 (.take 9 (.take 10 (.take 11 (.take 12 (.last 13 (.last 14 (.last 15 .done)))))))))))))))) (by kernel_rfl) (by kernel_rfl) ?_
        simp only [ordList, Ord.map, List.getD_cons_zero, List.getD_cons_succ]
        refine' ord_pure (v := _) ?_ rfl ?_; rotate_left; focus (intro w; go_simp <;> (first | (with_reducible rfl) | (constructor <;> with_reducible rfl)))
        simp only [Act.put, List.setIfInBounds_toArray, List.set_cons_zero, List.set_cons_succ]
        refine' ord_pure (v := _) ?_ rfl ?_; rotate_left; focus (intro w; go_simp <;> (first | (with_reducible rfl) | (constructor <;> with_reducible rfl)))
        simp only [Act.put, List.setIfInBounds_toArray, List.set_cons_zero, List.set_cons_succ]
        refine' ord_pure (v := _) ?_ rfl ?_; rotate_left; focus (intro w; go_simp <;> (first | (with_reducible rfl) | (constructor <;> with_reducible rfl)))
        simp only [Act.put, List.setIfInBounds_toArray, List.set_cons_zero, List.set_cons_succ]
        refine' ord_pure (v := _) ?_ rfl ?_; rotate_left; focus (intro w; go_simp <;> (first | (with_reducible rfl) | (constructor <;> with_reducible rfl)))
        simp only [Act.put, List.setIfInBounds_toArray, List.set_cons_zero, List.set_cons_succ]
        refine ord_cell hB (by simp) rfl rfl (by kernel_rfl) rfl rfl ?_
        simp only [Act.put, List.getElem_toArray, List.getElem_cons_zero, List.getElem_cons_succ, List.setIfInBounds_toArray, List.set_cons_zero, List.set_cons_succ]
        refine' ord_pure (v := _) ?_ rfl ?_; rotate_left; focus (intro w; go_simp <;> (first | (with_reducible rfl) | (constructor <;> with_reducible rfl)))
        simp only [Act.put, List.setIfInBounds_toArray, List.set_cons_zero, List.set_cons_succ]
        refine ord_load rfl rfl (by kernel_rfl) rfl hq0' (by simp) ?_
        simp only [Act.put, List.setIfInBounds_toArray, List.set_cons_zero, List.set_cons_succ]
        refine' ord_pure (v := _) ?_ rfl ?_; rotate_left; focus (intro w; go_simp <;> (first | (with_reducible rfl) | (constructor <;> with_reducible rfl)))
        simp only [Act.put, List.setIfInBounds_toArray, List.set_cons_zero, List.set_cons_succ]
        refine' ord_pure (v := _) ?_ rfl ?_; rotate_left; focus (intro w; go_simp <;> (first | (with_reducible rfl) | (constructor <;> with_reducible rfl)))
        simp only [Act.put, List.setIfInBounds_toArray, List.set_cons_zero, List.set_cons_succ]
        refine' ord_pure (v := _) ?_ rfl ?_; rotate_left; focus (intro w; go_simp <;> (first | (with_reducible rfl) | (constructor <;> with_reducible rfl)))
        simp only [Act.put, List.setIfInBounds_toArray, List.set_cons_zero, List.set_cons_succ]
        refine ord_cell hB (by simp) rfl rfl (by kernel_rfl) rfl rfl ?_
        simp only [Act.put, List.getElem_toArray, List.getElem_cons_zero, List.getElem_cons_succ, List.setIfInBounds_toArray, List.set_cons_zero, List.set_cons_succ]
        -- 11: t25 := slice <[]int> t24 some(1) none none   {10}
        refine' ord_pure (v := .slice (some ⟨pb, off', none⟩) ps.length cap') (fun w0 => ?_) rfl ?_
        focus (have := HSL.out w0; go_simp)
        simp only [Act.put, List.setIfInBounds_toArray, List.set_cons_zero, List.set_cons_succ]
        refine' ord_pure (v := _) ?_ rfl ?_; rotate_left; focus (intro w; go_simp <;> (first | (with_reducible rfl) | (constructor <;> with_reducible rfl)))
        simp only [Act.put, List.setIfInBounds_toArray, List.set_cons_zero, List.set_cons_succ]
        -- 13: t26 := nilCheck t14   {0,1,2,3,4,5,6,7,8,9,10,11,12}
        refine' ord_last_pure (v := _) ?_ rfl ?_; rotate_left; focus (intro w; go_simp <;> (first | (with_reducible rfl) | (constructor <;> with_reducible rfl)))
        simp only [Act.put, List.setIfInBounds_toArray, List.set_cons_zero, List.set_cons_succ]
        -- 14: t27 := fieldAddr <dev.Device = lavabo/dev.Device> t26 2   {0,1,2,3,4,5,6,7,8,9,10,11,12,13}
        refine' ord_last_pure (v := _) ?_ rfl ?_; rotate_left; focus (intro w; go_simp <;> (first | (with_reducible rfl) | (constructor <;> with_reducible rfl)))
        simp only [Act.put, List.setIfInBounds_toArray, List.set_cons_zero, List.set_cons_succ]
        -- 15: t_ := store <[]int> t27 t25   {0,1,2,3,4,5,6,7,8,9,10,11,12,14}
        refine' ord_last_skip (w' := w.drew.setCell ⟨b, 2, none⟩ (.slice (some ⟨pb, off', none⟩) ps.length cap')) ?_ rfl ?_
        focus (go_simp)
        simp only [Act.put, List.setIfInBounds_toArray, List.set_cons_zero, List.set_cons_succ]
        refine ord_nil ?_
        go_wp2_with fail
        go_ret
        exact ⟨rfl, HQ.out⟩
end Go.Proofs.YtgmjhpappamenaaDoor
