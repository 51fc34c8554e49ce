/- second: slices of numbers, and the library's functions over them. -/
import Derived.Shelf.Slices.Turned
import Derived.Shelf.Slices.Cells
import Derived.Shelf.Slices.Clone
import Derived.Shelf.Slices.Empties
import Derived.Test.YthhkgknolclakaaRange
import Derived.Deep.Upon
import Derived.Test.YthhkgknolclakaaAidK
namespace Go.Proofs.Ythhkgknolclakaa
open Go.RowKit Go.Shelf

def layContains_ren : Go.Shelf.Ren := ⟨fun | 107 => 30 | 108 => 31 | n => n, fun | 28 => 31 | 3 => 3 | 4 => 4 | 0 => 0 | n => n, fun | n => n⟩
theorem layContains : Go.Proofs.Lays.n107 Try.prog layContains_ren := {
  mixed := by kernel_rfl
  f107 := Try.func30.trans (congrArg some (by kernel_rfl))
  f108 := Try.func31.trans (congrArg some (by kernel_rfl))
  t0 := Try.underlying0
  a0 := Try.isAgg0
  z0 := Try.sizeOf0
  v0 := Try.zeroValue0
  t3 := Try.underlying3
  a3 := Try.isAgg3
  z3 := Try.sizeOf3
  v3 := Try.zeroValue3
  t4 := Try.underlying4
  a4 := Try.isAgg4
  z4 := Try.sizeOf4
  v4 := Try.zeroValue4
  t28 := Try.underlying31
  a28 := Try.isAgg31
  z28 := Try.sizeOf31
  v28 := Try.zeroValue31 }
def layIndex_ren : Go.Shelf.Ren := ⟨fun | 108 => 31 | n => n, fun | 28 => 31 | 3 => 3 | 0 => 0 | 4 => 4 | n => n, fun | n => n⟩
theorem layIndex : Go.Proofs.Lays.n108 Try.prog layIndex_ren := {
  mixed := by kernel_rfl
  f108 := Try.func31.trans (congrArg some (by kernel_rfl))
  t0 := Try.underlying0
  a0 := Try.isAgg0
  z0 := Try.sizeOf0
  v0 := Try.zeroValue0
  t3 := Try.underlying3
  a3 := Try.isAgg3
  z3 := Try.sizeOf3
  v3 := Try.zeroValue3
  t4 := Try.underlying4
  a4 := Try.isAgg4
  z4 := Try.sizeOf4
  v4 := Try.zeroValue4
  t28 := Try.underlying31
  a28 := Try.isAgg31
  z28 := Try.sizeOf31
  v28 := Try.zeroValue31 }
def layIndexS_ren : Go.Shelf.Ren := ⟨fun | 109 => 36 | n => n, fun | 31 => 73 | 9 => 9 | 3 => 3 | 0 => 0 | 4 => 4 | n => n, fun | n => n⟩
theorem layIndexS : Go.Proofs.Lays.n109 Try.prog layIndexS_ren := {
  mixed := by kernel_rfl
  f109 := Try.func36.trans (congrArg some (by kernel_rfl))
  t0 := Try.underlying0
  a0 := Try.isAgg0
  z0 := Try.sizeOf0
  v0 := Try.zeroValue0
  t3 := Try.underlying3
  a3 := Try.isAgg3
  z3 := Try.sizeOf3
  v3 := Try.zeroValue3
  t4 := Try.underlying4
  a4 := Try.isAgg4
  z4 := Try.sizeOf4
  v4 := Try.zeroValue4
  t9 := Try.underlying9
  a9 := Try.isAgg9
  z9 := Try.sizeOf9
  v9 := Try.zeroValue9
  t31 := Try.underlying73
  a31 := Try.isAgg73
  z31 := Try.sizeOf73
  v31 := Try.zeroValue73 }
def layDelete_ren : Go.Shelf.Ren := ⟨fun | 23 => 32 | n => n, fun | 22 => 31 | 3 => 3 | 4 => 4 | 0 => 0 | n => n, fun | n => n⟩
theorem layDelete : Go.Proofs.Lays2.n23 Try.prog layDelete_ren := {
  mixed := by kernel_rfl
  f23 := Try.func32.trans (congrArg some (by kernel_rfl))
  t0 := Try.underlying0
  a0 := Try.isAgg0
  z0 := Try.sizeOf0
  v0 := Try.zeroValue0
  t3 := Try.underlying3
  a3 := Try.isAgg3
  z3 := Try.sizeOf3
  v3 := Try.zeroValue3
  t4 := Try.underlying4
  a4 := Try.isAgg4
  z4 := Try.sizeOf4
  v4 := Try.zeroValue4
  t22 := Try.underlying31
  a22 := Try.isAgg31
  z22 := Try.sizeOf31
  v22 := Try.zeroValue31
  i3 := by kernel_rfl }
def layCloneI_ren : Go.Shelf.Ren := ⟨fun | 15 => 44 | n => n, fun | 22 => 31 | 3 => 3 | 4 => 4 | n => n, fun | n => n⟩
theorem layCloneI : Go.Proofs.Lays2.n15 Try.prog layCloneI_ren := {
  mixed := by kernel_rfl
  f15 := Try.func44.trans (congrArg some (by kernel_rfl))
  t3 := Try.underlying3
  a3 := Try.isAgg3
  z3 := Try.sizeOf3
  v3 := Try.zeroValue3
  t4 := Try.underlying4
  a4 := Try.isAgg4
  z4 := Try.sizeOf4
  v4 := Try.zeroValue4
  t22 := Try.underlying31
  a22 := Try.isAgg31
  z22 := Try.sizeOf31
  v22 := Try.zeroValue31
  i3 := by kernel_rfl }
def IsInts (w : World) (oa : Option Addr) (ns : List Int) : Prop :=
  ∀ (i : Nat) (h : i < ns.length), ∃ b off, oa = some ⟨b, off, none⟩ ∧ w.cell? ⟨b, off + i, none⟩ = some (.int .i64 ns[i])
/-- cells that lie there and may be written -/
def RoomAt (w : World) (pb off cap : Nat) : Prop := pb < w.heap.size ∧ ∀ j, j < cap → (w.cell? ⟨pb, off + j, none⟩).isSome = true ∧ w.frozen? ⟨pb, off + j, none⟩ = false
theorem RoomAt.fr {S : List Nat} {w w' : World} {pb off cap : Nat} (h : RoomAt w pb off cap) (hF : Fr S w w') (hs : ¬ pb ∈ S) : RoomAt w' pb off cap := by
  have e := hF.block pb h.1 hs
  refine ⟨Nat.lt_of_lt_of_le h.1 hF.size, fun j hj => ?_⟩
  rw [World.cell?_of_block (a := ⟨pb, off + j, none⟩) e, World.frozen?_of_block (a := ⟨pb, off + j, none⟩) e]
  exact h.2 j hj
/-- what is planned: fates behind a slice -/
def PlanAt (w : World) (pv : Value) (P : List Int) : Prop := ∃ oa cap, pv = .slice oa P.length cap ∧ P.length ≤ cap ∧ cap ≤ maxLen ∧
  (0 < cap → ∃ pb off, oa = some ⟨pb, off, none⟩ ∧ RoomAt w pb off cap ∧ ∀ (i : Nat) (h : i < P.length), w.cell? ⟨pb, off + i, none⟩ = some (.int .i64 P[i]))
theorem PlanAt.ints {w : World} {pv : Value} {P : List Int} (h : PlanAt w pv P) : ∃ oa cap, pv = .slice oa P.length cap ∧ IsInts w oa P ∧ P.length ≤ cap ∧ cap ≤ maxLen := by
  obtain ⟨oa, cap, he, hl, hm, hb⟩ := h
  refine ⟨oa, cap, he, fun i hi => ?_, hl, hm⟩
  obtain ⟨pb, off, rfl, _, hc⟩ := hb (by omega)
  exact ⟨pb, off, rfl, hc i hi⟩
theorem ints_fr {S : List Nat} {w w' : World} {oa : Option Addr} {ns : List Int} (h : IsInts w oa ns) (hF : Fr S w w') (hs : ∀ b off, oa = some ⟨b, off, none⟩ → ¬ b ∈ S) : IsInts w' oa ns := by
  intro i hi
  obtain ⟨b, off, he, h0⟩ := h i hi
  exact ⟨b, off, he, cell_fr hF (hs b off he) h0⟩
theorem plan_fr {S : List Nat} {w w' : World} {pv : Value} {P : List Int} (h : PlanAt w pv P) (hF : Fr S w w') (hs : ∀ g, pv.ownBlock = some g → ¬ g ∈ S) : PlanAt w' pv P := by
  obtain ⟨oa, cap, rfl, h2, h3, hb⟩ := h
  refine ⟨oa, cap, rfl, h2, h3, fun hc => ?_⟩
  obtain ⟨pb, off, rfl, hB, hcs⟩ := hb hc
  exact ⟨pb, off, rfl, hB.fr hF (hs pb rfl), fun i hi => cell_fr hF (hs pb rfl) (hcs i hi)⟩
theorem wpList_run_append {P : Program} (w : World) {ops : Array Oper} {rest : List Oper} {o : Oper} {a : Act} {Q : Exit → Act → World → Prop} (hgd : o.guard = none) (s x : Operand) (t tx : TypeId)
    (ho : o.op = .call { callee := .builtin .append, args := #[s, x], argTypes := #[t, tx] }) (sv xv : Value) (hv : a.eval s = sv) (hx : a.eval x = xv) (v' : Value) (w' : World)
    (hrun : (Builtin.append_ #[t, tx] o.type #[sv, xv]).run P w = .ok v' w') (hK : wpList P ops Q rest (a.put o.dst v') w') : wpList P ops Q (o :: rest) a w := by
  refine wpList_plain hgd fun K hK' => ?_
  unfold Oper.wp
  simp [execOp, ho, resolve, invoke, builtin, hv, hx, hrun, Result.andThen]
  exact hK' _ _ hK
/-- numbers as cells -/
def intC (l : List Int) : List Value := l.map (Value.int .i64)
theorem intC_len (l : List Int) : (intC l).length = l.length := by simp [intC]
theorem intC_get {l : List Int} {j : Nat} {u : Value} (h : (intC l)[j]? = some u) : ∃ hj : j < l.length, u = .int .i64 l[j] := by
  have hj := (List.getElem?_eq_some_iff.1 h).1
  rw [intC_len] at hj
  refine ⟨hj, ?_⟩
  simp only [intC, List.getElem?_map, List.getElem?_eq_getElem hj, Option.map_some, Option.some.injEq] at h
  exact h.symm
theorem ints_src {w : World} {oa : Option Addr} {fs : List Int} (cap : Nat) (h : IsInts w oa fs) : Src Try.prog 1 31 (.slice oa fs.length cap) fs.length (intC fs) w := by
  cases oa with
  | none =>
    have : fs = [] := by
      cases fs with
      | nil => rfl
      | cons y l => obtain ⟨b, off, he, _⟩ := h 0 (by simp); cases he
    subst this
    exact Src.ofNil _ Try.underlying31 cap
  | some a =>
    refine Src.ofSlice _ Try.underlying31 a _ _ _ (by rw [intC_len, Nat.mul_one]) (fun j u hj => ?_) (fun u hu => ?_)
    · obtain ⟨hlt, rfl⟩ := intC_get hj
      obtain ⟨b, off, he, hc⟩ := h j hlt
      cases he
      rw [Addr.add_lit]
      exact hc
    · obtain ⟨y, _, rfl⟩ := List.mem_map.1 hu
      rfl
theorem infoInt : ∃ i, Try.prog.info? 3 = some i ∧ i.zero = some (.int .i64 0) ∧ i.size = 1 ∧ i.bytes = 8 := by
  have h : (Try.prog.info? 3).map (fun i => (i.zero, i.size, i.bytes)) = some (some (.int .i64 0), 1, 8) := by kernel_rfl
  cases hi : Try.prog.info? 3 with
  | none => rw [hi] at h; cases h
  | some i =>
    rw [hi] at h
    simp only [Option.map_some, Option.some.injEq, Prod.mk.injEq] at h
    exact ⟨i, rfl, h.1, h.2.1, h.2.2⟩
/-- what is planned grows -/
theorem plan_append {w : World} {pv : Value} {P fs : List Int} (h : PlanAt w pv P) {oa : Option Addr} (cap : Nat) (hi : IsInts w oa fs) (hm : P.length + fs.length ≤ 1099511627776) :
    ∃ a' c' w', (Builtin.append_ #[31, 31] 31 #[pv, .slice oa fs.length cap]).run Try.prog w = .ok (.slice a' (P ++ fs).length c') w' ∧ PlanAt w' (.slice a' (P ++ fs).length c') (P ++ fs) ∧
      Fr pv.ownBlock.toList w w' ∧ ((Value.slice a' (P ++ fs).length c').ownBlock = pv.ownBlock ∨ (Value.slice a' (P ++ fs).length c').ownBlock = some w.heap.size ∧ w.heap.size < w'.heap.size) := by
  obtain ⟨pa, pc, rfl, hle, hmx, hb⟩ := h
  obtain ⟨ii, hii, hz, hsz, hby⟩ := infoInt
  have hs := ints_src cap hi
  by_cases h0 : fs.length = 0
  · obtain rfl : fs = [] := List.length_eq_zero_iff.1 h0
    have hrun := run_append_nothing (P := Try.prog) w 31 31 31 3 ii Try.underlying31 hii pa P.length pc hle _ (by rw [hsz]; exact hs)
    rw [List.append_nil]
    exact ⟨pa, pc, w, hrun, ⟨pa, pc, rfl, hle, hmx, hb⟩, Fr.refl _ _, .inl rfl⟩
  · rw [List.length_append]
    by_cases hr : P.length + fs.length ≤ pc
    · obtain ⟨pb, off, rfl, hR, hc⟩ := hb (by omega)
      have hrun := run_append_room_src (P := Try.prog) w 31 31 31 3 ii Try.underlying31 hii pb off P.length pc _ fs.length (intC fs) (by rw [hsz]; exact hs) hr
        (fun j hj => by rw [intC_len] at hj; rw [hsz, Nat.mul_one, Nat.add_assoc]; exact (hR.2 _ (by omega)).1)
        (fun j hj => by rw [intC_len] at hj; rw [hsz, Nat.mul_one, Nat.add_assoc]; exact (hR.2 _ (by omega)).2)
      rw [hsz, Nat.mul_one] at hrun
      have hF : Fr (Value.slice (some ⟨pb, off, none⟩) P.length pc).ownBlock.toList w (w.setCells pb (off + P.length) (intC fs)) := Fr.setCells (.inl (by simp [Value.ownBlock])) _ _ _ (Fr.refl _ _)
      have hin := World.cell?_setCells_in pb (intC fs) (off + P.length) w (fun j hj => by rw [intC_len] at hj; rw [Nat.add_assoc]; exact (hR.2 _ (by omega)).1)
      have hold : ∀ j, j < P.length ∨ P.length + fs.length ≤ j → (w.setCells pb (off + P.length) (intC fs)).cell? ⟨pb, off + j, none⟩ = w.cell? ⟨pb, off + j, none⟩ := fun j hj =>
        World.cell?_setCells_out pb _ _ _ _ (fun _ _ => by rw [intC_len]; show off + j < off + P.length ∨ off + P.length + fs.length ≤ off + j; omega)
      refine ⟨_, _, _, hrun, ⟨_, _, by rw [List.length_append], by rw [List.length_append]; exact hr, hmx, fun _ => ⟨pb, off, rfl, ⟨Nat.lt_of_lt_of_le hR.1 hF.size, fun j hj => ⟨?_, ?_⟩⟩, fun i hi => ?_⟩⟩, hF, .inl rfl⟩
      · by_cases hj2 : j < P.length ∨ P.length + fs.length ≤ j
        · rw [hold j hj2]; exact (hR.2 j hj).1
        · have := hin (j - P.length) (by rw [intC_len]; omega)
          rw [show off + P.length + (j - P.length) = off + j by omega] at this
          rw [this]; rfl
      · rw [World.frozen?_setCells]; exact (hR.2 j hj).2
      · rw [List.length_append] at hi
        by_cases hj2 : i < P.length
        · rw [hold i (.inl hj2), List.getElem_append_left hj2]
          exact hc i hj2
        · have := hin (i - P.length) (by rw [intC_len]; omega)
          rw [show off + P.length + (i - P.length) = off + i by omega] at this
          rw [this, List.getElem_append_right (by omega)]
          simp [intC]
    · have hfc : (Builtin.firstCells ii.size P.length (.slice pa P.length pc)).run Try.prog w.drew = .ok (intC P).toArray w.drew := by
        rw [hsz]
        by_cases hp : 0 < pc
        · obtain ⟨pb, off, rfl, hR, hc⟩ := hb hp
          refine run_firstCells_some w.drew 1 P.length _ P.length pc (intC P) (by rw [intC_len, Nat.mul_one]) (fun j u hj => ?_)
          obtain ⟨hlt, rfl⟩ := intC_get hj
          rw [Addr.add_lit]
          exact hc j hlt
        · obtain rfl : P = [] := List.length_eq_zero_iff.1 (by omega)
          cases pa with
          | none => exact run_firstCells_none w.drew 1 0 0 pc
          | some a' => exact run_firstCells_some w.drew 1 0 a' 0 pc [] (by simp) (by intro _ _ h'; simp at h')
      have hrun := run_append_grow_src (P := Try.prog) w 31 31 31 3 ii (.int .i64 0) Try.underlying31 hii hz pa P.length pc (intC P) hfc _ fs.length (intC fs) (by rw [hsz]; exact hs) (by omega) (by omega)
        (by rw [hby]; exact growslice_fits (by omega) (by omega))
      have hge := grownCap_ge w (P.length + fs.length) pc 3
      have hcm := grownCap_le_maxLen w (P.length + fs.length) pc 3 (by unfold maxLen; omega)
      generalize grownCap w (P.length + fs.length) pc 3 = c' at hrun hge hcm
      have hF : Fr (Value.slice pa P.length pc).ownBlock.toList w (w.drew.alloc (.cells ((intC P ++ intC fs).toArray ++ Builtin.zeroCells (Value.int .i64 0).cells (c' - (P.length + fs.length))) 3)) := ((Fr.refl _ w).drew).alloc _
      have hB := Blk.new w.drew ((intC P ++ intC fs).toArray ++ Builtin.zeroCells (Value.int .i64 0).cells (c' - (P.length + fs.length))) 3
      have hasz : ((intC P ++ intC fs).toArray ++ Builtin.zeroCells (Value.int .i64 0).cells (c' - (P.length + fs.length))).size = c' := by
        rw [Array.size_append, List.size_toArray, List.length_append, intC_len, intC_len, size_zeroCells]
        show P.length + fs.length + (c' - (P.length + fs.length)) * 1 = c'
        omega
      have hlt := hB.lt
      refine ⟨_, _, _, hrun, ⟨_, _, by rw [List.length_append], by rw [List.length_append]; exact hge, hcm, fun _ => ⟨w.heap.size, 0, rfl, ⟨hlt, fun j hj => ⟨?_, hB.frozen _⟩⟩, fun i hi => ?_⟩⟩, hF, .inr ⟨rfl, hlt⟩⟩
      · rw [Nat.zero_add]
        have := hB.cell (Array.getElem?_eq_getElem (by rw [hasz]; exact hj) : _ = some _)
        rw [show w.drew.heap.size = w.heap.size from rfl] at this
        rw [this]; rfl
      · rw [Nat.zero_add]
        refine hB.cell (i := i) ?_
        rw [List.length_append] at hi
        rw [Array.getElem?_append_left (by simp [intC_len]; omega), List.getElem?_toArray, show intC P ++ intC fs = intC (P ++ fs) by simp [intC], intC, List.getElem?_map, List.getElem?_eq_getElem (by rw [List.length_append]; exact hi)]
        rfl
end Go.Proofs.Ythhkgknolclakaa
