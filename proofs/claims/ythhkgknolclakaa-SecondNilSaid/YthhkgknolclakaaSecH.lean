/- second: the hand goes on. -/
import Derived.Test.YthhkgknolclakaaSecG
namespace Go.Proofs.Ythhkgknolclakaa
open Go Go.RowKit Go.Shelf Go.Maps

section
variable {P : Program} {ops : Array Oper} {Q : Exit → Act → World → Prop} {R : World → World → Prop} {o : Oper} {r : Ord Oper} {a : Act} {w : World}
theorem ord_load_now {v : Value} {ty : TypeId} {x : Operand} {p : Addr} (hc : w.cell? p = some v) (hR : R w w) (ho : o.op = .load ty x) (hx : a.eval x = .pointer (some p)) (h1 : oneTy P ty = true) (hw : Region.wanted o (yielded ops a.tmps) = true)
    (hr : wpOrd P ops Q R r (a.put o.dst v) w) : wpOrd P ops Q R (.pick o r .none) a w :=
  ord_do (by unfold execOp; simp only [ho, hx, Sem.run_bind, run_load_one h1 hc, Result.andThen_ok, Sem.run_pure]) hR hw hr
theorem ord_slice {x lo : Operand} {ty : TypeId} {sv lv v : Value} (hrun : ∀ w, (Instr.sliceAt ty sv (some lv) none none).run P w = .ok v w) (ho : o.op = .slice ty x (some lo) none none) (hx : a.eval x = sv) (hl : a.eval lo = lv)
    (hw : Region.wanted o (yielded ops a.tmps) = true) (hr : wpOrd P ops Q R r (a.put o.dst v) w) : wpOrd P ops Q R (.take o r) a w :=
  ord_pure (fun w => by unfold execOp; simp only [ho, hx, hl, Option.map_some, Option.map_none, Sem.run_bind, hrun, Result.andThen_ok, Sem.run_pure]) hw hr
theorem ord_run_append {s x : Operand} {t tx : TypeId} {sv xv v' : Value} {w' : World} (hrun : (Builtin.append_ #[t, tx] o.type #[sv, xv]).run P w = .ok v' w') (hR : R w w')
    (ho : o.op = .call { callee := .builtin .append, args := #[s, x], argTypes := #[t, tx] }) (hv : a.eval s = sv) (hx : a.eval x = xv) (hw : Region.wanted o (yielded ops a.tmps) = true)
    (hr : wpOrd P ops Q R r (a.put o.dst v') w') : wpOrd P ops Q R (.pick o r .none) a w :=
  ord_do (by simp [execOp, ho, resolve, invoke, builtin, hv, hx, hrun, Result.andThen]) hR hw hr
end
theorem pass_any {w : World} {b : Nat} {D : List Nat} {x : Clk} (h : IsClk w b D x) {p : Int × Bool} {r : List (Int × Bool)} (hx : x.L = p :: r) :
    Calls Try.prog 35 #[.pointer (some ⟨b, 0, none⟩)] w fun e w' => e = .returned (.tuple #[]) ∧ ∃ D', Turn w w' b D { x with L := r ++ [p] } D' := by
  obtain ⟨mb, lv, gv, rfl, h0⟩ := h
  have h := h0.fr (Fr.refl [] w).drew (by simp)
  have hks : x.ks = p.1 :: r.map (·.1) := by simp [Clk.ks, hx]
  have hl := h.l
  obtain ⟨oa, cap, hv⟩ := plan_form hl
  have hlen : x.ks.length = r.length + 1 := by rw [hks]; simp
  rw [hlen] at hv
  subst hv
  obtain ⟨hdrop, hle⟩ := plan_drop hl
  have hdr : x.ks.drop 1 = r.map (·.1) := by rw [hks]; rfl
  rw [hdr] at hdrop
  obtain ⟨a', c', w1, hrun, hP1, hF1, hO1⟩ := append_one' hdrop (by
    have h1 := h.ok.most
    have h2 := h.most
    rw [hx] at h1
    simp at h1 ⊢
    omega) p.1
  have hrl : (r.map (·.1)).length = r.length := by simp
  rw [hrl] at hrun hP1 hO1
  obtain ⟨pb, off, hoa, hc⟩ : ∃ pb off, oa = some ⟨pb, off, none⟩ ∧ w.drew.cell? ⟨pb, off, none⟩ = some (.int .i64 p.1) := by
    obtain ⟨oa2, c2, he, h1, h2, h3⟩ := hl
    simp only [Value.slice.injEq] at he
    obtain ⟨rfl, _, rfl⟩ := he
    obtain ⟨pb, off, rfl, _, hc⟩ := h3 (by omega)
    refine ⟨pb, off, rfl, ?_⟩
    have := hc 0 (by omega)
    simpa [hks] using this
  subst hoa
  have hsl := fun w0 => run_slice_from w0 (some ⟨pb, off, none⟩) 1 r.length cap hle
  have hown := drop_own (some ⟨pb, off, none⟩) 1 (r.length + 1) r.length cap (cap - 1)
  have HSL := Lib.hid (show ∀ w0 : World, (Instr.sliceAt 31 (.slice (some ⟨pb, off, none⟩) (r.length + 1) cap) (some (.int .i64 1)) none none).run Try.prog w0 = _ from hsl)
  clear hsl
  generalize hov : Value.slice (if cap = 1 then some ⟨pb, off, none⟩ else Option.map (fun x : Addr => x.add 1) (some ⟨pb, off, none⟩)) r.length (cap - 1) = ov at *
  have hB := h0.blk
  have hob : ov.ownBlock.toList = [pb] := by rw [hown]; rfl
  have hpb := h.nl pb rfl
  have hS : ¬ b ∈ ov.ownBlock.toList := by rw [hob]; simpa using fun e => hpb.1 e.symm
  have hFA : Fr [] w.drew (w.drew.alloc (.cells #[.int .i64 p.1] 3)) := (Fr.refl _ _).alloc _
  have hB1 := (h.blk.fr hFA (by simp)).fr hF1 hS
  have cb := hB1.cell (i := 0) rfl
  have fb := hB1.frozen 0
  have HH := Lib.hid h
  have HX := Lib.hid hx
  have HP := Lib.hid hP1
  have HZ := Lib.hid h0
  have HF := Lib.hid hF1
  have HO := Lib.hid hO1
  have HW := Lib.hid hown
  have HR := Lib.hid hrun
  have HV := Lib.hid hov
  have h1 : 0 < r.length + 1 := by omega
  clear h0 h hx hP1 hF1 hO1 hown hrun hov hks hl hlen hdrop hdr hrl
  go_enter Try.func35, Try.ntmps35
  refine region_tail [14,15,16] ov.ownBlock.toList (.take 0 (.take 1 (.take 2 (.take 3 (.take 4 (.take 5 (.take 6 (.take 7 (.take 8 (.take 9 (.take 10 (.pick 11 (.pick 12 (.pick 13 (.last 14 (.last 15 (.last 16 .done))) .none) .none) .none)))))))))))) (by kernel_rfl) (by kernel_rfl) ?_
  simp only [ordList, Ord.map, List.getD_cons_zero, List.getD_cons_succ]
  refine' ord_pure (v := _) ?_ rfl ?_; rotate_left; focus (intro w; go_simp <;> (first | (with_reducible rfl) | (constructor <;> with_reducible rfl)))
  simp only [Act.put, List.setIfInBounds_toArray, List.set_cons_zero, List.set_cons_succ]
  refine' ord_pure (v := _) ?_ rfl ?_; rotate_left; focus (intro w; go_simp <;> (first | (with_reducible rfl) | (constructor <;> with_reducible rfl)))
  simp only [Act.put, List.setIfInBounds_toArray, List.set_cons_zero, List.set_cons_succ]
  refine' ord_pure (v := _) ?_ rfl ?_; rotate_left; focus (intro w; go_simp <;> (first | (with_reducible rfl) | (constructor <;> with_reducible rfl)))
  simp only [Act.put, List.setIfInBounds_toArray, List.set_cons_zero, List.set_cons_succ]
  refine' ord_pure (v := _) ?_ rfl ?_; rotate_left; focus (intro w; go_simp <;> (first | (with_reducible rfl) | (constructor <;> with_reducible rfl)))
  simp only [Act.put, List.setIfInBounds_toArray, List.set_cons_zero, List.set_cons_succ]
  refine ord_cell hB hS rfl rfl (by kernel_rfl) rfl rfl ?_
  simp only [Act.put, List.getElem_toArray, List.getElem_cons_zero, List.getElem_cons_succ, List.setIfInBounds_toArray, List.set_cons_zero, List.set_cons_succ]
  -- 5: t7 := slice <[]int> t6 some(1) none none   {4}
  refine ord_slice HSL.out rfl rfl rfl rfl ?_
  simp only [Act.put, List.setIfInBounds_toArray, List.set_cons_zero, List.set_cons_succ]
  refine' ord_pure (v := _) ?_ rfl ?_; rotate_left; focus (intro w; go_simp <;> (first | (with_reducible rfl) | (constructor <;> with_reducible rfl)))
  simp only [Act.put, List.setIfInBounds_toArray, List.set_cons_zero, List.set_cons_succ]
  refine' ord_pure (v := _) ?_ rfl ?_; rotate_left; focus (intro w; go_simp <;> (first | (with_reducible rfl) | (constructor <;> with_reducible rfl)))
  simp only [Act.put, List.setIfInBounds_toArray, List.set_cons_zero, List.set_cons_succ]
  refine' ord_pure (v := _) ?_ rfl ?_; rotate_left; focus (intro w; go_simp <;> (first | (with_reducible rfl) | (constructor <;> with_reducible rfl)))
  simp only [Act.put, List.setIfInBounds_toArray, List.set_cons_zero, List.set_cons_succ]
  refine ord_cell hB hS rfl rfl (by kernel_rfl) rfl rfl ?_
  simp only [Act.put, List.getElem_toArray, List.getElem_cons_zero, List.getElem_cons_succ, List.setIfInBounds_toArray, List.set_cons_zero, List.set_cons_succ]
  refine' ord_pure (v := _) ?_ rfl ?_; rotate_left; focus (intro w; go_simp <;> (first | (with_reducible rfl) | (constructor <;> with_reducible rfl)))
  simp only [Act.put, List.setIfInBounds_toArray, List.set_cons_zero, List.set_cons_succ]
  -- 11: t13 := load <int> t12   {10}
  refine ord_load_now hc (Fr.refl _ _) rfl rfl (by kernel_rfl) rfl ?_
  simp only [Act.put, List.setIfInBounds_toArray, List.set_cons_zero, List.set_cons_succ]
  -- 12: t14 := buildSlice <[]int> 1 [(0,t13)]   {11}
  refine' ord_do (v := _) (w' := _) ?_ ?_ rfl ?_; rotate_left 2; focus (go_simp <;> (first | (with_reducible rfl) | (constructor <;> with_reducible rfl)))
  focus (exact (Fr.refl _ _).alloc _)
  simp only [Act.put, List.setIfInBounds_toArray, List.set_cons_zero, List.set_cons_succ]
  -- 13: t15 := CALL builtin Builtin.append(t7, t14)   {5,12}
  refine ord_run_append HR.out HF.out rfl rfl rfl rfl ?_
  simp only [Act.put, List.setIfInBounds_toArray, List.set_cons_zero, List.set_cons_succ]
  -- 14: t16 := nilCheck t2   {0,1,2,3,4,5,6,7,8,9,10,11,12,13}
  refine' ord_last_pure (v := _) ?_ rfl ?_; rotate_left; focus (intro w; go_simp <;> (first | (with_reducible rfl) | (constructor <;> with_reducible rfl)))
  simp only [Act.put, List.setIfInBounds_toArray, List.set_cons_zero, List.set_cons_succ]
  -- 15: t17 := fieldAddr <second.Clock[int] = lavabo/second.Clock[int]> t16 0   {0,1,2,3,4,5,6,7,8,9,10,11,12,13,14}
  refine' ord_last_pure (v := _) ?_ rfl ?_; rotate_left; focus (intro w; go_simp <;> (first | (with_reducible rfl) | (constructor <;> with_reducible rfl)))
  simp only [Act.put, List.setIfInBounds_toArray, List.set_cons_zero, List.set_cons_succ]
  -- 16: t_ := store <[]int> t17 t15   {0,1,2,3,4,5,6,7,8,9,10,11,12,13,15}
  refine' ord_last_skip (w' := w1.setCell ⟨b, 0, none⟩ (.slice a' (r.length + 1) c')) ?_ rfl ?_
  focus (go_simp)
  simp only [Act.put, List.setIfInBounds_toArray, List.set_cons_zero, List.set_cons_succ]
  refine ord_nil ?_
  go_wp2_with fail
  go_end0
  refine ⟨rfl, ?_⟩
  have h := HZ.out
  have hX := HX.out
  have hP := HP.out
  have hF1 : Fr ov.ownBlock.toList w w1 := ((Fr.refl _ w).drew.alloc (.cells #[.int .i64 p.1] 3)).trans HF.out
  have hO := HO.out
  have hW := HW.out
  have hF2 : Fr [b] w1 (w1.setCell ⟨b, 0, none⟩ (.slice a' (r.length + 1) c')) := (Fr.refl _ _).setCell _ (by simp) _
  have hB2 := hB1.set 0 (.slice a' (r.length + 1) c')
  have hks : ({ x with L := r ++ [p] } : Clk).ks = r.map (·.1) ++ [p.1] := by simp [Clk.ks]
  have hks0 : x.ks = p.1 :: r.map (·.1) := by simp [Clk.ks, hX]
  have hperm : ∀ q, q ∈ x.L ↔ q ∈ r ++ [p] := by intro q; rw [hX]; simp [or_comm]
  have hkp : ∀ q, q ∈ ({ x with L := r ++ [p] } : Clk).ks → q ∈ x.ks := by intro q; rw [hks, hks0]; simp [or_comm]
  have hnl := h.ok.nl
  rw [hks0, List.nodup_cons] at hnl
  have hok : ({ x with L := r ++ [p] } : Clk).Ok := by
    refine ⟨?_, h.ok.ng, fun k hk => h.ok.sep k (hkp k hk), ?_, h.ok.few⟩
    · rw [hks, List.nodup_append]
      refine ⟨hnl.2, by simp, fun a ha c hc e => ?_⟩
      simp at hc
      exact hnl.1 (by rw [← hc, ← e]; exact ha)
    · have := h.ok.most
      rw [hX] at this
      simpa using this
  clear HH HX HZ HP HF HO HW HR HV HSL hB hB1 cb fb hFA hks0
  generalize Value.slice a' (r.length + 1) c' = v1 at *
  have hmb := h.map.lt
  have hbl := h.blk.lt
  have hv : ∀ g, v1.ownBlock = some g → ¬ g = b ∧ ¬ g = mb ∧ ¬ gv.ownBlock = some g := by
    intro g hg
    rcases hO with e | ⟨i, e, h1, _⟩
    · rw [e, hW] at hg
      have := h.nl g hg
      exact ⟨this.1, this.2.1, this.2.2.1⟩
    · rw [hg] at e
      cases e
      have h1 : w.heap.size ≤ g := h1
      exact ⟨by omega, by omega, fun e => by have := (h.ng g e).2.2; omega⟩
  have hsb : ∀ i, i ∈ ov.ownBlock.toList → ¬ i = b ∧ ¬ i = mb ∧ ¬ gv.ownBlock = some i := by
    intro i hi
    have := h.nl i (by rw [← hW]; simpa using hi)
    exact ⟨this.1, this.2.1, this.2.2.1⟩
  refine turn_of h { x with L := r ++ [p] } rfl rfl hok (fun k hk => h.wf k (hkp k hk)) (by simpa using hB2) ((((h.map.fr hF1 (fun hi => (hsb _ hi).2.1 rfl)).fr hF2 (by simpa using fun e => h.ne e.symm)).perm hperm (by rw [hX]; simp)))
    (hks ▸ plan_fr hP hF2 (fun g hg => by simpa using (hv g hg).1)) (plan_fr (plan_fr h.g hF1 (fun g hg hi => (hsb _ hi).2.2 hg)) hF2 (fun g hg => by simpa using (h.ng g hg).1)) ?_ ?_ (.inl rfl) (fun i hi => (hv i hi).2.2)
  · refine (hF1.sub ?_).trans (hF2.sub ?_)
    · intro i hi
      exact .inl (mem_clkD.2 (.inr (.inr (.inl (by rw [← hW]; simpa using hi)))))
    · intro i hi
      exact .inl (mem_clkD.2 (.inl (by simpa using hi)))
  · rcases hO with e | ⟨i, e, h1, h2⟩
    · exact .inl (e.trans hW)
    · exact .inr ⟨i, e, h1, Nat.lt_of_lt_of_le h2 hF2.size⟩
end Go.Proofs.Ythhkgknolclakaa
