/- dev: Plan. -/
import Derived.Test.YtgmjhpappamenaaDoorPageA
import Derived.Deep.Upon
import Derived.Shelf.SlicesE.Clone
import Derived.Ground.SlgnProg
namespace Go.Proofs.YtgmjhpappamenaaDoor
open Go.RowKit Go.Shelf

/-- a fate that is none -/
def fateBad (f : Int) : Bool := decide (f < 0) || decide (2 < f)
theorem plan1_any (f : Int) (w : World) :
    Calls Tryd.prog 41 #[.int .i64 f] w fun e w' => e = .returned (.bool (fateBad f)) ∧ w = w' := by
  unfold fateBad
  by_cases h1 : f < 0
  · rw [show (decide (f < 0) || decide (2 < f)) = true by simp [h1]]
    go_enter Tryd.func41, Tryd.ntmps41
    go_wp2_with fail
    go_ret
    exact ⟨rfl, rfl⟩
  · rw [show (decide (f < 0) || decide (2 < f)) = decide (2 < f) by simp [h1]]
    go_enter Tryd.func41, Tryd.ntmps41
    go_wp2_with fail
    go_ret
    exact ⟨rfl, rfl⟩
theorem planIndex_any (oa : Option Addr) (cap : Nat) (fs : List Int) (w : World) (hi : IsInts w oa fs) (hm : fs.length ≤ 9223372036854775807) :
    Calls Tryd.prog 70 #[.slice oa fs.length cap, .func (.func 41) #[] #[]] w fun e w' => ∃ r : Int, e = .returned (.int .i64 r) ∧ decide (0 ≤ r) = fs.any fateBad ∧ w = w' := by
  have eg : ∀ args w, (callFunc 41 args).run Tryd.prog w = .ok (.enter 41 args) w := enters_of Tryd.func41 (by kernel_rfl) rfl
  have HI := Lib.hid hi
  clear hi
  go_enter Tryd.func70, Tryd.ntmps70
  go_wp2_with fail
  go_loopw [5, 8] (fun _ i wr => ∃ k : Nat, k ≤ fs.length ∧ i = .int .i64 k ∧ w = wr ∧ (fs.take k).any fateBad = false) (fun _ i _ => fs.length - (intOf i).toNat)
  case atStart => exact ⟨0, Nat.zero_le _, rfl, rfl, rfl⟩
  case round =>
    obtain ⟨k, hk, rfl, rfl, hn⟩ := hrel
    by_cases hlt : k < fs.length
    · obtain ⟨b, off, rfl, hc⟩ := HI.out k hlt
      have HN := Lib.hid hn
      have HLT := Lib.hid hlt
      have hcall := plan1_any fs[k] w
      have b0 : decide ((k : Int) < (fs.length : Nat)) = true := by simp; omega
      have hst : (fs.take (k + 1)).any fateBad = fateBad fs[k] := by
        rw [List.take_succ_eq_append_getElem hlt, List.any_append, hn]
        simp
        rfl
      have hany : fateBad fs[k] = true → fs.any fateBad = true := fun h => List.any_eq_true.2 ⟨fs[k], List.getElem_mem _, h⟩
      clear hn
      generalize fs[k] = x at hc hcall hst hany
      have HST := Lib.hid hst
      have HANY := Lib.hid hany
      clear hst hany
      cases hq : fateBad x with
      | true =>
        rw [hq] at hcall
        go_wp2_with (go_at_fn 41; refine hcall.mono ?_; rintro e w' ⟨rfl, rfl⟩)
        go_ret
        refine ⟨k, rfl, ?_, rfl⟩
        rw [HANY.out hq]
        simp
      | false =>
        rw [hq] at hcall
        go_wp2_with (go_at_fn 41; refine hcall.mono ?_; rintro e w' ⟨rfl, rfl⟩)
        go_round
        case rel =>
          refine ⟨k + 1, hlt, by go_num, by first | rfl | trivial, ?_⟩
          rw [HST.out, hq]
        case measure => simp [intOf]; omega
    · obtain rfl : k = fs.length := by omega
      rw [List.take_length] at hn
      have b0 : decide (((fs.length : Nat) : Int) < (fs.length : Nat)) = false := by simp
      go_wp2_with fail
      go_ret
      exact ⟨-1, rfl, by rw [hn]; rfl, rfl⟩
theorem planContains_any (oa : Option Addr) (cap : Nat) (fs : List Int) (w : World) (hi : IsInts w oa fs) (hm : fs.length ≤ 9223372036854775807) :
    Calls Tryd.prog 40 #[.slice oa fs.length cap, .func (.func 41) #[] #[]] w fun e w' => e = .returned (.bool (fs.any fateBad)) ∧ w = w' := by
  have h1 := planIndex_any oa cap fs w hi hm
  generalize fs.any fateBad = q at h1 ⊢
  go_enter Tryd.func40, Tryd.ntmps40
  go_wp2_with (go_at_call 70; refine h1.mono ?_; rintro e w' ⟨r, rfl, hr, rfl⟩)
  go_ret
  exact ⟨rfl, rfl⟩
end Go.Proofs.YtgmjhpappamenaaDoor

/- dev: Plan. -/
namespace Go.Proofs.YtgmjhpappamenaaDoor
open Go.RowKit Go.Shelf

theorem wpList_run_append {P : Program} (w : World) {ops : Array Oper} {rest : List Oper} {o : Oper} {a : Act} {Q : Exit → Act → World → Prop} (hgd : o.guard = none) (s x : Operand) (t tx : TypeId)
    (ho : o.op = .call { callee := .builtin .append, args := #[s, x], argTypes := #[t, tx] }) (sv xv : Value) (hv : a.eval s = sv) (hx : a.eval x = xv) (v' : Value) (w' : World)
    (hrun : (Builtin.append_ #[t, tx] o.type #[sv, xv]).run P w = .ok v' w') (hK : wpList P ops Q rest (a.put o.dst v') w') : wpList P ops Q (o :: rest) a w := by
  refine wpList_plain hgd fun K hK' => ?_
  unfold Oper.wp
  simp [execOp, ho, resolve, invoke, builtin, hv, hx, hrun, Result.andThen]
  exact hK' _ _ hK
/-- numbers as cells -/
def intC (l : List Int) : List Value := l.map (Value.int .i64)
theorem intC_len (l : List Int) : (intC l).length = l.length := by simp [intC]
theorem intC_get {l : List Int} {j : Nat} {u : Value} (h : (intC l)[j]? = some u) : ∃ hj : j < l.length, u = .int .i64 l[j] := by
  have hj := (List.getElem?_eq_some_iff.1 h).1
  rw [intC_len] at hj
  refine ⟨hj, ?_⟩
  simp only [intC, List.getElem?_map, List.getElem?_eq_getElem hj, Option.map_some, Option.some.injEq] at h
  exact h.symm
theorem ints_src {w : World} {oa : Option Addr} {fs : List Int} (cap : Nat) (h : IsInts w oa fs) : Src Tryd.prog 1 59 (.slice oa fs.length cap) fs.length (intC fs) w := by
  cases oa with
  | none =>
    have : fs = [] := by
      cases fs with
      | nil => rfl
      | cons y l => obtain ⟨b, off, he, _⟩ := h 0 (by simp); cases he
    subst this
    exact Src.ofNil _ Tryd.underlying59 cap
  | some a =>
    refine Src.ofSlice _ Tryd.underlying59 a _ _ _ (by rw [intC_len, Nat.mul_one]) (fun j u hj => ?_) (fun u hu => ?_)
    · obtain ⟨hlt, rfl⟩ := intC_get hj
      obtain ⟨b, off, he, hc⟩ := h j hlt
      cases he
      rw [Addr.add_lit]
      exact hc
    · obtain ⟨y, _, rfl⟩ := List.mem_map.1 hu
      rfl
theorem infoInt : ∃ i, Tryd.prog.info? 3 = some i ∧ i.zero = some (.int .i64 0) ∧ i.size = 1 ∧ i.bytes = 8 := by
  have h : (Tryd.prog.info? 3).map (fun i => (i.zero, i.size, i.bytes)) = some (some (.int .i64 0), 1, 8) := by kernel_rfl
  cases hi : Tryd.prog.info? 3 with
  | none => rw [hi] at h; cases h
  | some i =>
    rw [hi] at h
    simp only [Option.map_some, Option.some.injEq, Prod.mk.injEq] at h
    exact ⟨i, rfl, h.1, h.2.1, h.2.2⟩
/-- what is planned grows -/
theorem plan_append {w : World} {pv : Value} {P fs : List Int} (h : PlanAt w pv P) {oa : Option Addr} (cap : Nat) (hi : IsInts w oa fs) (hm : P.length + fs.length ≤ 1099511627776) :
    ∃ a' c' w', (Builtin.append_ #[59, 59] 59 #[pv, .slice oa fs.length cap]).run Tryd.prog w = .ok (.slice a' (P ++ fs).length c') w' ∧ PlanAt w' (.slice a' (P ++ fs).length c') (P ++ fs) ∧
      Fr pv.ownBlock.toList w w' ∧ ((Value.slice a' (P ++ fs).length c').ownBlock = pv.ownBlock ∨ (Value.slice a' (P ++ fs).length c').ownBlock = some w.heap.size ∧ w.heap.size < w'.heap.size) := by
  obtain ⟨pa, pc, rfl, hle, hmx, hb⟩ := h
  obtain ⟨ii, hii, hz, hsz, hby⟩ := infoInt
  have hs := ints_src cap hi
  by_cases h0 : fs.length = 0
  · obtain rfl : fs = [] := List.length_eq_zero_iff.1 h0
    have hrun := run_append_nothing (P := Tryd.prog) w 59 59 59 3 ii Tryd.underlying59 hii pa P.length pc hle _ (by rw [hsz]; exact hs)
    rw [List.append_nil]
    exact ⟨pa, pc, w, hrun, ⟨pa, pc, rfl, hle, hmx, hb⟩, Fr.refl _ _, .inl rfl⟩
  · rw [List.length_append]
    by_cases hr : P.length + fs.length ≤ pc
    · obtain ⟨pb, off, rfl, hR, hc⟩ := hb (by omega)
      have hrun := run_append_room_src (P := Tryd.prog) w 59 59 59 3 ii Tryd.underlying59 hii pb off P.length pc _ fs.length (intC fs) (by rw [hsz]; exact hs) hr
        (fun j hj => by rw [intC_len] at hj; rw [hsz, Nat.mul_one, Nat.add_assoc]; exact (hR.2 _ (by omega)).1)
        (fun j hj => by rw [intC_len] at hj; rw [hsz, Nat.mul_one, Nat.add_assoc]; exact (hR.2 _ (by omega)).2)
      rw [hsz, Nat.mul_one] at hrun
      have hF : Fr (Value.slice (some ⟨pb, off, none⟩) P.length pc).ownBlock.toList w (w.setCells pb (off + P.length) (intC fs)) := Fr.setCells (.inl (by simp [Value.ownBlock])) _ _ _ (Fr.refl _ _)
      have hin := World.cell?_setCells_in pb (intC fs) (off + P.length) w (fun j hj => by rw [intC_len] at hj; rw [Nat.add_assoc]; exact (hR.2 _ (by omega)).1)
      have hold : ∀ j, j < P.length ∨ P.length + fs.length ≤ j → (w.setCells pb (off + P.length) (intC fs)).cell? ⟨pb, off + j, none⟩ = w.cell? ⟨pb, off + j, none⟩ := fun j hj =>
        World.cell?_setCells_out pb _ _ _ _ (fun _ _ => by rw [intC_len]; show off + j < off + P.length ∨ off + P.length + fs.length ≤ off + j; omega)
      refine ⟨_, _, _, hrun, ⟨_, _, by rw [List.length_append], by rw [List.length_append]; exact hr, hmx, fun _ => ⟨pb, off, rfl, ⟨Nat.lt_of_lt_of_le hR.1 hF.size, fun j hj => ⟨?_, ?_⟩⟩, fun i hi => ?_⟩⟩, hF, .inl rfl⟩
      · by_cases hj2 : j < P.length ∨ P.length + fs.length ≤ j
        · rw [hold j hj2]; exact (hR.2 j hj).1
        · have := hin (j - P.length) (by rw [intC_len]; omega)
          rw [show off + P.length + (j - P.length) = off + j by omega] at this
          rw [this]; rfl
      · rw [World.frozen?_setCells]; exact (hR.2 j hj).2
      · rw [List.length_append] at hi
        by_cases hj2 : i < P.length
        · rw [hold i (.inl hj2), List.getElem_append_left hj2]
          exact hc i hj2
        · have := hin (i - P.length) (by rw [intC_len]; omega)
          rw [show off + P.length + (i - P.length) = off + i by omega] at this
          rw [this, List.getElem_append_right (by omega)]
          simp [intC]
    · have hfc : (Builtin.firstCells ii.size P.length (.slice pa P.length pc)).run Tryd.prog w.drew = .ok (intC P).toArray w.drew := by
        rw [hsz]
        by_cases hp : 0 < pc
        · obtain ⟨pb, off, rfl, hR, hc⟩ := hb hp
          refine run_firstCells_some w.drew 1 P.length _ P.length pc (intC P) (by rw [intC_len, Nat.mul_one]) (fun j u hj => ?_)
          obtain ⟨hlt, rfl⟩ := intC_get hj
          rw [Addr.add_lit]
          exact hc j hlt
        · obtain rfl : P = [] := List.length_eq_zero_iff.1 (by omega)
          cases pa with
          | none => exact run_firstCells_none w.drew 1 0 0 pc
          | some a' => exact run_firstCells_some w.drew 1 0 a' 0 pc [] (by simp) (by intro _ _ h'; simp at h')
      have hrun := run_append_grow_src (P := Tryd.prog) w 59 59 59 3 ii (.int .i64 0) Tryd.underlying59 hii hz pa P.length pc (intC P) hfc _ fs.length (intC fs) (by rw [hsz]; exact hs) (by omega) (by omega)
        (by rw [hby]; exact growslice_fits (by omega) (by omega))
      have hge := grownCap_ge w (P.length + fs.length) pc 3
      have hcm := grownCap_le_maxLen w (P.length + fs.length) pc 3 (by unfold maxLen; omega)
      generalize grownCap w (P.length + fs.length) pc 3 = c' at hrun hge hcm
      have hF : Fr (Value.slice pa P.length pc).ownBlock.toList w (w.drew.alloc (.cells ((intC P ++ intC fs).toArray ++ Builtin.zeroCells (Value.int .i64 0).cells (c' - (P.length + fs.length))) 3)) := ((Fr.refl _ w).drew).alloc _
      have hB := Blk.new w.drew ((intC P ++ intC fs).toArray ++ Builtin.zeroCells (Value.int .i64 0).cells (c' - (P.length + fs.length))) 3
      have hasz : ((intC P ++ intC fs).toArray ++ Builtin.zeroCells (Value.int .i64 0).cells (c' - (P.length + fs.length))).size = c' := by
        rw [Array.size_append, List.size_toArray, List.length_append, intC_len, intC_len, size_zeroCells]
        show P.length + fs.length + (c' - (P.length + fs.length)) * 1 = c'
        omega
      have hlt := hB.lt
      refine ⟨_, _, _, hrun, ⟨_, _, by rw [List.length_append], by rw [List.length_append]; exact hge, hcm, fun _ => ⟨w.heap.size, 0, rfl, ⟨hlt, fun j hj => ⟨?_, hB.frozen _⟩⟩, fun i hi => ?_⟩⟩, hF, .inr ⟨rfl, hlt⟩⟩
      · rw [Nat.zero_add]
        have := hB.cell (Array.getElem?_eq_getElem (by rw [hasz]; exact hj) : _ = some _)
        rw [show w.drew.heap.size = w.heap.size from rfl] at this
        rw [this]; rfl
      · rw [Nat.zero_add]
        refine hB.cell (i := i) ?_
        rw [List.length_append] at hi
        rw [Array.getElem?_append_left (by simp [intC_len]; omega), List.getElem?_toArray, show intC P ++ intC fs = intC (P ++ fs) by simp [intC], intC, List.getElem?_map, List.getElem?_eq_getElem (by rw [List.length_append]; exact hi)]
        rfl
end Go.Proofs.YtgmjhpappamenaaDoor

/- dev: Plan, as a call. -/
namespace Go.Proofs.YtgmjhpappamenaaDoor
open Go.RowKit Go.Shelf

/-- the fates of the next calls are told -/
def devPl (x : Dev) (fs : List Int) : Dev := if fs.any fateBad = true then x else { x with P := x.P ++ fs }
def devPlE (fs : List Int) : Int := if fs.any fateBad = true then 1 else 0
theorem planned_dev {w w' : World} {b bf : Nat} {ov pv : Value} {x : Dev} {fs : List Int} (h : DevAt w b bf ov pv x) {a' : Option Addr} {c' : Nat} (hP : PlanAt w' (.slice a' (x.P ++ fs).length c') (x.P ++ fs)) (hF : Fr pv.ownBlock.toList w w')
    (ho : (Value.slice a' (x.P ++ fs).length c').ownBlock = pv.ownBlock ∨ (Value.slice a' (x.P ++ fs).length c').ownBlock = some w.heap.size ∧ w.heap.size < w'.heap.size) :
    ∃ D', IsDev (w'.setCell ⟨b, 2, none⟩ (.slice a' (x.P ++ fs).length c')) b D' { x with P := x.P ++ fs } ∧ Fr (devD b bf ov pv) w (w'.setCell ⟨b, 2, none⟩ (.slice a' (x.P ++ fs).length c')) ∧
      ∀ i, i ∈ D' → i ∈ devD b bf ov pv ∨ w.heap.size ≤ i := by
  generalize hv : Value.slice a' (x.P ++ fs).length c' = v at *
  have hF1 : Fr [b] w' (w'.setCell ⟨b, 2, none⟩ v) := (Fr.refl _ w').setCell _ (.inl (by simp)) _
  have hF2 : Fr (b :: pv.ownBlock.toList) w (w'.setCell ⟨b, 2, none⟩ v) := (hF.sub (fun i hi => .inl (List.mem_cons_of_mem _ hi))).trans (hF1.sub (fun i hi => .inl (by simp at hi; simp [hi])))
  have hbp : ¬ b ∈ pv.ownBlock.toList := fun hm => (h.np b (by simpa using hm)).1 rfl
  have hblt := h.blk.lt
  have hflt := h.firm.lt
  have hvg : ∀ g, v.ownBlock = some g → ¬ g = b ∧ ¬ g = bf ∧ ¬ ov.ownBlock = some g ∧ g < w'.heap.size := by
    intro g hg
    rcases ho with ho | ⟨ho, hlt⟩
    · have := h.np g (by rw [← ho]; exact hg)
      exact ⟨this.1, this.2.1, this.2.2.1, Nat.lt_of_lt_of_le this.2.2.2 hF.size⟩
    · rw [hg] at ho
      cases ho
      exact ⟨by omega, by omega, fun hov => by have := owns_lt' h.own _ hov; omega, hlt⟩
  refine ⟨devD b bf ov v, ⟨bf, ov, v, rfl, h.n1, h.n2, h.secs, h.opens, ?_, ?_, owns_fr h.own hF2 ?_, ?_, h.ne, h.no, ?_⟩, hF2.sub ?_, ?_⟩
  · have := (h.blk.fr hF hbp).set 2 v
    simpa using this
  · exact h.firm.fr hF2 (by
      intro hm
      rcases List.mem_cons.1 hm with e | hm
      · exact h.ne e.symm
      · exact (h.np bf (by simpa using hm)).2.1 rfl)
  · intro g hg hm
    rcases List.mem_cons.1 hm with e | hm
    · exact (h.no g hg).1 e
    · exact (h.np g (by simpa using hm)).2.2.1 hg
  · exact plan_fr hP hF1 (fun g hg => by simpa using (hvg g hg).1)
  · intro g hg
    have := hvg g hg
    exact ⟨this.1, this.2.1, this.2.2.1, Nat.lt_of_lt_of_le this.2.2.2 hF1.size⟩
  · intro i hi
    rcases List.mem_cons.1 hi with rfl | hi
    · exact .inl (mem_devD.2 (.inl rfl))
    · exact .inl (mem_devD.2 (.inr (.inr (.inr (by simpa using hi)))))
  · intro i hi
    rcases mem_devD.1 hi with hi | hi | hi | hi
    · exact .inl (mem_devD.2 (.inl hi))
    · exact .inl (mem_devD.2 (.inr (.inl hi)))
    · exact .inl (mem_devD.2 (.inr (.inr (.inl hi))))
    · rcases ho with ho | ⟨ho, _⟩
      · exact .inl (mem_devD.2 (.inr (.inr (.inr (by rw [← ho]; exact hi)))))
      · rw [hi] at ho
        cases ho
        exact .inr (Nat.le_refl _)
theorem devPlan_any (b : Nat) (D : List Nat) (x : Dev) (oa : Option Addr) (cap : Nat) (fs : List Int) (w : World) (h : IsDev w b D x) (hi : IsInts w oa fs) (hm : x.P.length + fs.length ≤ 1099511627776) :
    Calls Tryd.prog 17 #[.pointer (some ⟨b, 0, none⟩), .slice oa fs.length cap] w fun e w' => e = .returned (.int .i64 (devPlE fs)) ∧
      ∃ D', IsDev w' b D' (devPl x fs) ∧ Fr D w w' ∧ ∀ i, i ∈ D' → i ∈ D ∨ w.heap.size ≤ i := by
  have hc := planContains_any oa cap fs w hi (by omega)
  unfold devPlE devPl
  by_cases hbad : fs.any fateBad = true
  · rw [if_pos hbad, if_pos hbad]
    rw [hbad] at hc
    have HR := Lib.hid (show ∃ D', IsDev w b D' x ∧ Fr D w w ∧ ∀ i, i ∈ D' → i ∈ D ∨ w.heap.size ≤ i from ⟨D, h, Fr.refl _ _, fun i hi => .inl hi⟩)
    clear h hi hbad
    go_enter Tryd.func17, Tryd.ntmps17
    go_wp2_with (go_at_call 40; refine hc.mono ?_; rintro e w' ⟨rfl, rfl⟩)
    go_ret
    exact ⟨rfl, HR.out⟩
  · rw [if_neg hbad, if_neg hbad]
    rw [show fs.any fateBad = false by simpa using hbad] at hc
    obtain ⟨bf, ov, pv, rfl, h⟩ := h
    obtain ⟨a', c', w1, hrun, hP, hF, ho⟩ := plan_append h.plan cap hi hm
    have HR := Lib.hid (planned_dev h hP hF ho)
    have hbp : ¬ b ∈ pv.ownBlock.toList := fun hm => (h.np b (by simpa using hm)).1 rfl
    have c0 : w.cell? ⟨b, 2, none⟩ = some pv := h.blk.cell rfl
    have c1 : w1.cell? ⟨b, 2, none⟩ = some pv := (h.blk.fr hF hbp).cell rfl
    have f1 : w1.frozen? ⟨b, 2, none⟩ = false := (h.blk.fr hF hbp).frozen 2
    have hone : pv.oneCell' = true := by
      obtain ⟨pa, pc, e, _⟩ := h.plan
      rw [e]; rfl
    obtain ⟨pa, pc, e, _⟩ := h.plan
    subst e
    clear h hi hbad hP hF ho hbp
    generalize (x.P ++ fs).length = N at hrun HR
    rename_i hq
    clear hq
    generalize x.P.length = M at c0 c1 hrun hone HR ⊢
    go_enter Tryd.func17, Tryd.ntmps17
    go_wp2_with (first | (go_at_call 40; refine hc.mono ?_; rintro e w' ⟨rfl, rfl⟩) | (at_builtin; refine wpList_run_append _ rfl _ _ _ _ rfl _ _ rfl rfl _ _ hrun ?_))
    go_ret
    exact ⟨rfl, HR.out⟩
end Go.Proofs.YtgmjhpappamenaaDoor

/- dev: Clone of sectors. -/
namespace Go.Proofs.YtgmjhpappamenaaDoor
open Go.RowKit Go.Shelf
def layClone_ren : Go.Shelf.Ren := ⟨fun | 41 => 42 | n => n, fun | 22 => 76 | 23 => 88 | 4 => 4 | n => n, fun | n => n⟩
theorem layClone : Go.Proofs.SlLaysE0.n41 Tryd.prog layClone_ren := {
  mixed := by kernel_rfl
  f41 := ⟨Tryd.f42.name, by decide, Tryd.func42.trans (congrArg some (by kernel_rfl))⟩
  t4 := Tryd.underlying4
  a4 := Tryd.isAgg4
  z4 := Tryd.sizeOf4
  v4 := Tryd.zeroValue4
  t22 := Tryd.underlying76
  a22 := Tryd.isAgg76
  z22 := Tryd.sizeOf76
  v22 := Tryd.zeroValue76 }
theorem clone_any (b off n c : Nat) (news : List Value) (w : World) (hl : news.length = n * 64) (hn : n ≤ 4096) (hc : w.rangeAt b off news) (h1 : ∀ u ∈ news, u.oneCell' = true) :
    Calls Tryd.prog 42 #[.slice (some ⟨b, off, none⟩) n c] w fun e w' => ∃ v', e = .returned v' ∧ w'.ownsRow w.heap.size 88 64 v' n news ∧ v' ≠ .slice none 0 0 ∧ Below w.heap.size w w' := by
  obtain ⟨i0, hi, hz0, hz1, hz2⟩ := info_parts infoBlock
  exact AnyE.slices_Clone layClone i0 _ 64 64 hi hz0 hz1 hz2 (by kernel_rfl) (by omega) (fun w => by kernel_rfl) b off n c news w hl (by unfold maxLen; omega) (by omega) hc h1
end Go.Proofs.YtgmjhpappamenaaDoor

/- dev: Crash. -/
namespace Go.Proofs.YtgmjhpappamenaaDoor
open Go.RowKit Go.Shelf

/-- what of the open writes is kept -/
def keptO : List (Nat × List Nat) → List Bool → List (Nat × List Nat)
  | o :: O, k :: K => (if k = true then [o] else []) ++ keptO O K
  | _, _ => []
theorem keptO_succ : ∀ (O : List (Nat × List Nat)) (K : List Bool) (k : Nat) (h : k < K.length) (h2 : k < O.length), keptO O (K.take (k + 1)) = keptO O (K.take k) ++ (if K[k] = true then [O[k]] else [])
  | [], _, _, _, h2 => by simp at h2
  | _ :: _, [], _, h, _ => by simp at h
  | o :: O, y :: K, 0, _, _ => by cases O <;> simp [keptO]
  | o :: O, y :: K, k + 1, h, h2 => by
    have := keptO_succ O K k (by simpa using h) (by simpa using h2)
    simp only [List.take_succ_cons, keptO, List.getElem_cons_succ] at this ⊢
    rw [this, List.append_assoc]
theorem keptO_mem : ∀ (O : List (Nat × List Nat)) (K : List Bool) (p : Nat × List Nat), p ∈ keptO O K → p ∈ O
  | [], _, _, h => by simp [keptO] at h
  | _ :: _, [], _, h => by simp [keptO] at h
  | o :: O, y :: K, p, h => by
    rcases List.mem_append.1 h with h | h
    · cases y <;> simp at h
      exact List.mem_cons.2 (.inl h)
    · exact List.mem_cons_of_mem _ (keptO_mem O K p h)
theorem keptO_opens {n : Nat} {O : List (Nat × List Nat)} (h : Opens n O) (K : List Bool) : Opens n (keptO O K) := fun p hp => h p (keptO_mem O K p hp)
def IsBools (w : World) (oa : Option Addr) (bs : List Bool) : Prop := ∀ (i : Nat) (h : i < bs.length), ∃ b off, oa = some ⟨b, off, none⟩ ∧ w.cell? ⟨b, off + i, none⟩ = some (.bool bs[i])
theorem isBools_fr {w w' : World} {oa : Option Addr} {bs : List Bool} (h : IsBools w oa bs) (hF : Fr [] w w') : IsBools w' oa bs := by
  intro i hi
  obtain ⟨b, off, he, h0⟩ := h i hi
  exact ⟨b, off, he, cell_fr hF (by simp) h0⟩
/-- what is firm behind a crash -/
def devCr (x : Dev) (K : List Bool) (C : Nat) (Z : List Value) : Dev := ⟨flushL x.F (keptO x.O K), [], [], C, Z⟩
theorem owns_spare {w : World} {base e size n : Nat} {v : Value} {xs : List Value} (h : w.ownsRow base e size v n xs) (h0 : 0 < n) : ∃ g c Z, v = .slice (some ⟨g, 0, none⟩) n c ∧ Blk w g e (xs ++ Z).toArray ∧ base ≤ g := by
  obtain ⟨h1, ⟨_, h2⟩ | ⟨g, cap, cur, hv, hg, hh, hn, hc, hs, ht⟩⟩ := h
  · omega
  · refine ⟨g, cap, cur.toList.drop (n * size), hv, ?_, hg⟩
    unfold Blk
    rw [hh]
    congr 2
    rw [← ht, List.take_append_drop]
theorem flushL_app (F : List (List Nat)) (O P : List (Nat × List Nat)) : flushL F (O ++ P) = flushL (flushL F O) P := by
  unfold flushL
  rw [List.foldl_append]
set_option maxRecDepth 100000 in
set_option maxHeartbeats 1000000 in
theorem devCrash_any (b : Nat) (D : List Nat) (x : Dev) (ka : Option Addr) (kc : Nat) (K : List Bool) (w : World) (h : IsDev w b D x) (hk : IsBools w ka K) (hle : K.length ≤ x.O.length) :
    Calls Tryd.prog 18 #[.pointer (some ⟨b, 0, none⟩), .slice ka K.length kc] w fun e w' => ∃ b' D' C Z, e = .returned (.tuple #[.pointer (some ⟨b', 0, none⟩), .int .i64 0]) ∧ IsDev w' b' D' (devCr x K C Z) ∧ (∀ i, i ∈ D' → w.heap.size ≤ i) ∧ Fr [] w w' := by
  obtain ⟨bf, ov, pv, rfl, h⟩ := h
  obtain ⟨oa, cap, rfl, hW⟩ := owns_wr h.opens h.own
  have hB := h.blk
  have c0 : w.cell? ⟨b, 0, none⟩ = some (.slice (some ⟨bf, 0, none⟩) x.F.length x.C) := hB.cell rfl
  have c1 : w.cell? ⟨b, 1, none⟩ = some (.slice oa x.O.length cap) := hB.cell rfl
  have hfl := firmC_len h.secs
  have hcl := clone_any bf 0 x.F.length x.C (firmC x.F) w hfl h.n2 (h.firm.range 0 _ (fun j v hj => by
    rw [Nat.zero_add, List.getElem?_toArray, List.getElem?_append_left (List.getElem?_eq_some_iff.1 hj).1]; exact hj)) (by
    intro u hu
    simp only [firmC, List.mem_flatMap, u8s, List.mem_map] at hu
    obtain ⟨_, _, y, _, rfl⟩ := hu
    rfl)
  have h1 := h.n1
  have HH := Lib.hid h
  have HW := Lib.hid hW
  have HK := Lib.hid hk
  have hmax := owns_le h.own
  have b00 : decide ((x.O.length : Int) < (K.length : Nat)) = false := by simp; omega
  clear h hW hk
  go_enter Tryd.func18, Tryd.ntmps18
  go_wp2_with (go_at_call 42; refine hcl.mono ?_; rintro e w1 ⟨v', rfl, hown, _, hbel⟩; obtain ⟨nf, nc, Z, rfl, hNB, hnf⟩ := owns_spare hown (by omega))
  have hF2 : Fr [] w (w1.alloc (.cells #[.slice (some ⟨nf, 0, none⟩) x.F.length nc, .slice none 0 0, .slice none 0 0] 79)) := (Fr.of_below hbel).alloc _
  have hD2 := Blk.new w1 #[.slice (some ⟨nf, 0, none⟩) x.F.length nc, .slice none 0 0, .slice none 0 0] 79
  have hN2 := hNB.alloc (.cells #[.slice (some ⟨nf, 0, none⟩) x.F.length nc, .slice none 0 0, .slice none 0 0] 79)
  have hnl := hNB.lt
  have hws := hbel.size
  generalize w1.alloc (.cells #[.slice (some ⟨nf, 0, none⟩) x.F.length nc, .slice none 0 0, .slice none 0 0] 79) = w2 at hF2 hD2 hN2 ⊢
  have hne : ¬ w1.heap.size = nf := by omega
  generalize w1.heap.size = nd at hD2 hne hws ⊢
  clear hown hNB hbel hnl
  go_loopw [7, 8, 30] (fun _ _ i wr => ∃ k : Nat, k ≤ K.length ∧ i = .int .i64 k ∧ Blk wr nf 88 (firmC (flushL x.F (keptO x.O (K.take k))) ++ Z).toArray ∧ Fr [nf] w2 wr) (fun _ _ i _ => K.length - (intOf i).toNat)
  case atStart => exact ⟨0, Nat.zero_le _, rfl, by simpa [keptO, flushL] using hN2, Fr.refl _ _⟩
  case round =>
    obtain ⟨k, hkl, rfl, hf, hFr⟩ := hrel
    have hFw : Fr [] w wr := hF2.comp hFr (fun i hi => by simp at hi; subst hi; exact .inr hnf)
    by_cases hlt : k < K.length
    · have hko : k < x.O.length := by omega
      obtain ⟨kb, koff, rfl, hkc⟩ := isBools_fr HK.out hFw k hlt
      have b0 : decide ((k : Int) < (K.length : Nat)) = true := by simp; omega
      have hst := keptO_succ x.O K k hlt hko
      generalize hq : K[k] = q at hkc hst
      have HQ := Lib.hid hq
      clear hq
      cases q with
      | false =>
        rw [if_neg (by simp), List.append_nil] at hst
        go_wp2_with fail
        go_roundw
        case rel => exact ⟨k + 1, hlt, by go_num, by rw [hst]; exact hf, hFr⟩
        case measure => simp [intOf]; omega
      | true =>
        rw [if_pos rfl] at hst
        have h := HH.out
        obtain ⟨g, rfl, hg, hRg⟩ := HW.out k hko
        have hp := h.opens _ (List.getElem_mem hko)
        have hfr : flushL x.F (keptO x.O (K.take (k + 1))) = (flushL x.F (keptO x.O (K.take k))).set x.O[k].1 x.O[k].2 := by
          rw [hst, flushL_app]
          rfl
        generalize hO1 : x.O[k].1 = s1 at *
        generalize hO2 : x.O[k].2 = A1 at *
        have hgl := owns_lt' h.own g hg
        have hRw : wr.rangeAt g (k * 65) (wrC s1 A1) := hFw.range hRg hgl (by simp)
        have hBw := hB.fr hFw (by simp)
        have hDw := hD2.fr hFr (by simpa using hne)
        have hsec : Secs (flushL x.F (keptO x.O (K.take k))) := flushL_secs h.secs (keptO_opens h.opens _)
        have hfl2 := flushL_len x.F (keptO x.O (K.take k))
        have hA64 : (u8s A1).length = 64 := by simp [u8s, hp.2.1]
        have hs1 : (s1 : Int) < (x.F.length : Nat) := by have := hp.1; omega
        have hc46 : wr.cell? ⟨g, k * 65, none⟩ = some (.int .i64 (s1 : Nat)) := by simpa using hRw 0 _ (by simp [wrC])
        have hRA : wr.rangeAt g (k * 65 + 1) (u8s A1) := fun j u hj => by
          have := hRw (1 + j) u (by simpa [wrC, Nat.add_comm 1 j] using hj)
          simpa [Nat.add_assoc] using this
        obtain ⟨w3, hst3, hf3, hF3, hs3⟩ := store_mid (P := Tryd.prog) (w := wr.drew) (o := s1 * 64) hf.drew (u8s A1) (by have := firmC_len hsec; simp only [List.size_toArray, List.length_append]; rw [this, hfl2, hA64]; have := hp.1; omega) (by simp [u8s, Value.oneCell'])
        rw [firmZ_set _ hsec s1 (by rw [hfl2]; exact hp.1) A1 hp.2.1, ← hfr] at hf3
        have hst3 : (storeCells ⟨nf, s1 * 64, none⟩ (bv A1).toList).run Tryd.prog wr.drew = .ok () w3 := hst3
        have hszA : (bv A1).size = 64 := by rw [bv_size, hp.2.1]
        go_wp2_with fail
        refine region_tail [21] [] (.take 0 (.take 1 (.take 2 (.take 3 (.take 4 (.take 5 (.take 6 (.take 7 (.take 8 (.take 9 (.take 10 (.take 11 (.take 12 (.take 13 (.take 14 (.take 15 (.take 16 (.take 17 (.take 18 (.take 19 (.take 20 (.last 21 .done)))))))))))))))))))))) (by kernel_rfl) (by kernel_rfl) ?_
        simp only [ordList, Ord.map, List.getD_cons_zero, List.getD_cons_succ]
        refine' ord_pure (v := _) ?_ rfl ?_; rotate_left; focus (intro w; go_simp <;> (first | (with_reducible rfl) | (constructor <;> with_reducible rfl)))
        simp only [Act.put, List.setIfInBounds_toArray, List.set_cons_zero, List.set_cons_succ]
        refine' ord_pure (v := _) ?_ rfl ?_; rotate_left; focus (intro w; go_simp <;> (first | (with_reducible rfl) | (constructor <;> with_reducible rfl)))
        simp only [Act.put, List.setIfInBounds_toArray, List.set_cons_zero, List.set_cons_succ]
        refine' ord_pure (v := _) ?_ rfl ?_; rotate_left; focus (intro w; go_simp <;> (first | (with_reducible rfl) | (constructor <;> with_reducible rfl)))
        simp only [Act.put, List.setIfInBounds_toArray, List.set_cons_zero, List.set_cons_succ]
        refine ord_cell hDw (by simp) rfl rfl (by kernel_rfl) rfl rfl ?_
        simp only [Act.put, List.getElem_toArray, List.getElem_cons_zero, List.getElem_cons_succ, List.setIfInBounds_toArray, List.set_cons_zero, List.set_cons_succ]
        refine' ord_pure (v := _) ?_ rfl ?_; rotate_left; focus (intro w; go_simp <;> (first | (with_reducible rfl) | (constructor <;> with_reducible rfl)))
        simp only [Act.put, List.setIfInBounds_toArray, List.set_cons_zero, List.set_cons_succ]
        refine' ord_pure (v := _) ?_ rfl ?_; rotate_left; focus (intro w; go_simp <;> (first | (with_reducible rfl) | (constructor <;> with_reducible rfl)))
        simp only [Act.put, List.setIfInBounds_toArray, List.set_cons_zero, List.set_cons_succ]
        refine' ord_pure (v := _) ?_ rfl ?_; rotate_left; focus (intro w; go_simp <;> (first | (with_reducible rfl) | (constructor <;> with_reducible rfl)))
        simp only [Act.put, List.setIfInBounds_toArray, List.set_cons_zero, List.set_cons_succ]
        refine ord_cell hBw (by simp) rfl rfl (by kernel_rfl) rfl rfl ?_
        simp only [Act.put, List.getElem_toArray, List.getElem_cons_zero, List.getElem_cons_succ, List.setIfInBounds_toArray, List.set_cons_zero, List.set_cons_succ]
        refine' ord_pure (v := _) ?_ rfl ?_; rotate_left; focus (intro w; go_simp <;> (first | (with_reducible rfl) | (constructor <;> with_reducible rfl)))
        simp only [Act.put, List.setIfInBounds_toArray, List.set_cons_zero, List.set_cons_succ]
        refine' ord_pure (v := _) ?_ rfl ?_; rotate_left; focus (intro w; go_simp <;> (first | (with_reducible rfl) | (constructor <;> with_reducible rfl)))
        simp only [Act.put, List.setIfInBounds_toArray, List.set_cons_zero, List.set_cons_succ]
        refine' ord_pure (v := _) ?_ rfl ?_; rotate_left; focus (intro w; go_simp <;> (first | (with_reducible rfl) | (constructor <;> with_reducible rfl)))
        simp only [Act.put, List.setIfInBounds_toArray, List.set_cons_zero, List.set_cons_succ]
        refine ord_load rfl rfl (by kernel_rfl) rfl hc46 (by simp) ?_
        simp only [Act.put, List.setIfInBounds_toArray, List.set_cons_zero, List.set_cons_succ]
        refine' ord_pure (v := _) ?_ rfl ?_; rotate_left; focus (intro w; go_simp <;> (first | (with_reducible rfl) | (constructor <;> with_reducible rfl)))
        simp only [Act.put, List.setIfInBounds_toArray, List.set_cons_zero, List.set_cons_succ]
        refine' ord_pure (v := _) ?_ rfl ?_; rotate_left; focus (intro w; go_simp <;> (first | (with_reducible rfl) | (constructor <;> with_reducible rfl)))
        simp only [Act.put, List.setIfInBounds_toArray, List.set_cons_zero, List.set_cons_succ]
        refine' ord_pure (v := _) ?_ rfl ?_; rotate_left; focus (intro w; go_simp <;> (first | (with_reducible rfl) | (constructor <;> with_reducible rfl)))
        simp only [Act.put, List.setIfInBounds_toArray, List.set_cons_zero, List.set_cons_succ]
        refine ord_cell hBw (by simp) rfl rfl (by kernel_rfl) rfl rfl ?_
        simp only [Act.put, List.getElem_toArray, List.getElem_cons_zero, List.getElem_cons_succ, List.setIfInBounds_toArray, List.set_cons_zero, List.set_cons_succ]
        refine' ord_pure (v := _) ?_ rfl ?_; rotate_left; focus (intro w; go_simp <;> (first | (with_reducible rfl) | (constructor <;> with_reducible rfl)))
        simp only [Act.put, List.setIfInBounds_toArray, List.set_cons_zero, List.set_cons_succ]
        refine' ord_pure (v := _) ?_ rfl ?_; rotate_left; focus (intro w; go_simp <;> (first | (with_reducible rfl) | (constructor <;> with_reducible rfl)))
        simp only [Act.put, List.setIfInBounds_toArray, List.set_cons_zero, List.set_cons_succ]
        refine' ord_pure (v := _) ?_ rfl ?_; rotate_left; focus (intro w; go_simp <;> (first | (with_reducible rfl) | (constructor <;> with_reducible rfl)))
        simp only [Act.put, List.setIfInBounds_toArray, List.set_cons_zero, List.set_cons_succ]
        refine ord_bv hRA (by simp) hp.2.1 rfl rfl (by kernel_rfl) rfl ?_
        simp only [Act.put, List.setIfInBounds_toArray, List.set_cons_zero, List.set_cons_succ]
        refine' ord_pure (v := _) ?_ rfl ?_; rotate_left; focus (intro w; go_simp <;> (first | (with_reducible rfl) | (constructor <;> with_reducible rfl)))
        simp only [Act.put, List.setIfInBounds_toArray, List.set_cons_zero, List.set_cons_succ]
        -- 21: t_ := store <api.Block = lavabo/api.Block> t56 t55   {0,1,2,3,4,5,6,7,8,9,10,11,12,13,14,15,16,17,18,19,20}
        refine' ord_last_skip (w' := w3) ?_ rfl ?_
        focus (go_simp; done)
        simp only [Act.put, List.setIfInBounds_toArray, List.set_cons_zero, List.set_cons_succ]
        refine ord_nil ?_
        go_wp2_with fail
        go_roundw
        case rel => exact ⟨k + 1, hlt, by go_num, hf3, (hFr.drew).comp hF3 (by simp)⟩
        case measure => simp [intOf]; omega
    · obtain rfl : k = K.length := by omega
      have b0 : decide ((K.length : Int) < (K.length : Nat)) = false := by simp
      rw [List.take_length] at hf
      go_wp2_with fail
      go_ret2
      have h := HH.out
      have hDw := hD2.fr hFr (by simpa using hne)
      refine ⟨nd, devD nd nf (.slice none 0 0) (.slice none 0 0), nc, Z, rfl, ⟨nf, .slice none 0 0, .slice none 0 0, rfl, ?_⟩, ?_, hFw⟩
      · refine ⟨by simp only [devCr, flushL_len]; exact h.n1, by simp only [devCr, flushL_len]; exact h.n2, flushL_secs h.secs (keptO_opens h.opens _), fun p hp => (by cases hp), by simpa [devCr, flushL_len] using hDw, hf, World.ownsRow_nil _ _ _ _, ⟨none, 0, rfl, Nat.le_refl _, by unfold maxLen; omega, fun h => absurd h (Nat.lt_irrefl 0)⟩, hne, fun g hg => (by cases hg), fun g hg => (by cases hg)⟩
      · intro i hi
        rcases mem_devD.1 hi with rfl | rfl | hi | hi
        · exact hws
        · exact hnf
        · cases hi
        · cases hi
end Go.Proofs.YtgmjhpappamenaaDoor
