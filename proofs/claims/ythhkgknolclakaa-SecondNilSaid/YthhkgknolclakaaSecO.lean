/- second: SecondTurns, the walk. -/
import Derived.Test.YthhkgknolclakaaSecN
namespace Go.Proofs.Ythhkgknolclakaa
open Go Go.RowKit Go.Shelf Go.Maps

theorem Turns_out (oa : Option Addr) (n cap : Nat) (few : Int) (w : World) (h : (60 : Int) < n ∨ few < 0 ∨ 1024 < few) :
    Calls Try.prog 5 #[.slice oa n cap, .int .i64 few] w fun e w' => e = .returned (.bool true) ∧ Fr [] w w' := by
  have HA := Lib.hid (awake_ok w)
  cases d1 : decide ((60 : Int) < n) <;> cases d2 : decide (few < 0) <;> cases d3 : decide ((1024 : Int) < few)
  · simp at d1 d2 d3; omega
  all_goals
    clear h
    go_enter Try.func5, Try.ntmps5
    go_wp2_with fail
    refine HA.out.mono ?_
    rintro e w' ⟨rfl, hF⟩
    go_wp2_with fail
    go_ret
    exact ⟨rfl, hF⟩

section
variable {P : Program} {ops : Array Oper} {rest : List Oper} {op : Oper} {a : Act} {w w' : World} {Q : Exit → Act → World → Prop}
theorem wpList_dog {v : Value} (hrun : (execOp a.eval op).run P w = .ok (.value v) w') (hw : Region.wanted op (yielded ops a.tmps) = true) (h : wpList P ops Q rest (a.put op.dst v) w') : wpList P ops Q (op :: rest) a w :=
  wpList_step fun K hK => by
    rw [if_pos hw]
    unfold Oper.wp
    rw [hrun, Oper.upon_value]
    exact hK _ _ h
theorem wpList_slice_g {x lo : Operand} {ty : TypeId} {sv lv v : Value} (hrun : ∀ w, (Instr.sliceAt ty sv (some lv) none none).run P w = .ok v w) (ho : op.op = .slice ty x (some lo) none none) (hx : a.eval x = sv) (hl : a.eval lo = lv)
    (hw : Region.wanted op (yielded ops a.tmps) = true) (h : wpList P ops Q rest (a.put op.dst v) w) : wpList P ops Q (op :: rest) a w :=
  wpList_dog (by unfold execOp; simp only [ho, hx, hl, Option.map_some, Option.map_none, Sem.run_bind, hrun, Result.andThen_ok, Sem.run_pure]) hw h
end
set_option maxHeartbeats 1000000 in
theorem Turns_in (oa : Option Addr) (cap few : Nat) (l : List Int) (w : World) (hI : IsInts w oa l) (hwf : ∀ k, k ∈ l → (Lit.int .i64 k).wf = true) (hl : l.length ≤ 60) (hf : few ≤ 1024) :
    Calls Try.prog 5 #[.slice oa l.length cap, .int .i64 few] w fun e w' => e = .returned (.bool true) ∧ Fr [] w w' := by
  have d1 : decide ((60 : Int) < (l.length : Nat)) = false := by simp; omega
  have d2 : decide ((few : Int) < 0) = false := by simp
  have d3 : decide ((1024 : Int) < (few : Nat)) = false := by simp; omega
  have HI := Lib.hid hI
  have HW := Lib.hid hwf
  clear hI hwf
  go_enter Try.func5, Try.ntmps5
  go_wp2_with fail
  refine (New_in 64 few w (by decide) (by decide) hf).mono ?_
  rintro e w1 ⟨b, D, rfl, h1, hF1, hD1⟩
  have h1 : IsClk w1 b D (clkIn (inOf (l.take 0)) few) := h1
  have H1 := Lib.hid h1
  have HD1 := Lib.hid hD1
  clear h1 hD1
  go_wp2_with fail
  clear d1 d2 d3
  go_loopw [7, 8, 9] (fun v i _ wr => ∃ (k : Nat) (D' : List Nat), i = .int .i64 k ∧ k ≤ l.length ∧ IsClk wr b D' (clkIn (inOf (l.take k)) few) ∧ PlanAt wr v (inOf (l.take k)) ∧ Fr [] w wr ∧
    (∀ j, j ∈ D' → w.heap.size ≤ j) ∧ ∀ g, v.ownBlock = some g → ¬ g ∈ D' ∧ w.heap.size ≤ g ∧ g < wr.heap.size) (fun _ i _ _ => l.length - (intOf i).toNat)
  case atStart => exact ⟨0, D, rfl, Nat.zero_le _, H1.out, plan_nil _, hF1, HD1.out, by simp [Value.ownBlock]⟩
  case round =>
    obtain ⟨k, D2, rfl, hk, h2, hP, hFr, hD2, hv⟩ := hrel
    by_cases hlt : k < l.length
    · have hmem : l[k] ∈ l := List.getElem_mem hlt
      have hwk := HW.out _ hmem
      have htk : l.take (k + 1) = l.take k ++ [l[k]] := (List.take_append_getElem hlt).symm
      have hsn := inOf_snoc (l.take k) l[k]
      rw [← htk] at hsn
      obtain ⟨ga, offa, rfl, hca⟩ := HI.out k hlt
      have ca := cell_fr hFr (by simp) hca
      generalize l[k] = q at *
      have hil : (inOf (l.take k)).length ≤ k := Nat.le_trans (inOf_len _) (by simp; omega)
      obtain ⟨ov, cv, hv0⟩ := plan_form hP
      subst hv0
      generalize hIe : inOf (l.take k) = I at *
      have hadd := Add_any h2 hwk
      have H2 := Lib.hid h2
      have HP := Lib.hid hP
      have HV := Lib.hid hv
      have HFR := Lib.hid hFr
      have HD2 := Lib.hid hD2
      have HSN := Lib.hid hsn
      by_cases hq : q ∈ I
      · rw [(add_in hq).1, (add_in hq).2] at hadd
        have HADD := Lib.hid hadd
        have e2 : inOf (l.take (k + 1)) = I := by rw [hsn, if_pos hq]
        have HE := Lib.hid e2
        clear hadd h2 hP hv hFr hD2 hsn hmem hwk htk hca hq e2 hIe
        go_wp2_with fail
        refine HADD.out.mono ?_
        rintro e w2 ⟨rfl, D3, T⟩
        have HT := Lib.hid T
        clear T
        go_wp2_with fail
        go_roundw
        case rel =>
          have T := HT.out
          have hF2 : Fr [] w w2 := HFR.out.comp T.fr (fun i hi => .inr (HD2.out i hi))
          refine ⟨k + 1, D3, by go_num, by omega, by rw [HE.out]; exact T.is, by rw [HE.out]; exact plan_fr HP.out T.fr (fun g hg => (HV.out g hg).1), hF2, fun j hj => ?_, fun g hg => ?_⟩
          · rcases T.sub j hj with h | h
            · exact HD2.out j h
            · exact Nat.le_trans HFR.out.size h
          · have := HV.out g hg
            refine ⟨fun hm => ?_, this.2.1, Nat.lt_of_lt_of_le this.2.2 T.fr.size⟩
            rcases T.sub g hm with h | h
            · exact this.1 h
            · omega
        case measure => simp [intOf]; omega
      · rw [(add_out hq (by omega)).1, (add_out hq (by omega)).2] at hadd
        have HADD := Lib.hid hadd
        have e2 : inOf (l.take (k + 1)) = I ++ [q] := by rw [hsn, if_neg hq]
        have HE := Lib.hid e2
        have HCA := Lib.hid hca
        clear hadd h2 hP hv hFr hD2 hsn hmem hwk htk hca hq e2 hIe
        go_wp2_with fail
        refine HADD.out.mono ?_
        rintro e w2 ⟨rfl, D3, T⟩
        have hF2 : Fr [] w w2 := HFR.out.comp T.fr (fun i hi => .inr (HD2.out i hi))
        have ca2 := cell_fr hF2 (by simp) HCA.out
        have hP2 := plan_fr HP.out T.fr (fun g hg => (HV.out g hg).1)
        obtain ⟨a', c', w3, hrun, hP3, hF3, hO3⟩ := append_one hP2 (by omega) q
        have HT := Lib.hid T
        have HF2 := Lib.hid hF2
        have HP3 := Lib.hid hP3
        have HF3 := Lib.hid hF3
        have HO3 := Lib.hid hO3
        have HR := Lib.hid hrun
        clear T hF2 hP2 hrun hP3 hF3 hO3 ca
        go_wp2_with (at_builtin; refine wpList_run_append _ rfl _ _ _ _ rfl _ _ rfl rfl _ _ HR.out ?_)
        go_roundw
        case rel =>
          have T := HT.out
          have hF3 := HF3.out
          have hvs : ∀ i, i ∈ (Value.slice ov I.length cv).ownBlock.toList → w.heap.size ≤ i ∧ ¬ i ∈ D3 := by
            intro i hi
            have := HV.out i (by simpa using hi)
            refine ⟨this.2.1, fun hm => ?_⟩
            rcases T.sub i hm with h | h
            · exact this.1 h
            · omega
          refine ⟨k + 1, D3, by go_num, by omega, by rw [HE.out]; exact T.is.fr hF3 (fun i hi hm => (hvs i hm).2 hi), by rw [HE.out]; exact HP3.out, HF2.out.comp hF3 (fun i hi => .inr (hvs i hi).1), fun j hj => ?_, fun g hg => ?_⟩
          · rcases T.sub j hj with h | h
            · exact HD2.out j h
            · exact Nat.le_trans HFR.out.size h
          · rcases HO3.out with e | ⟨i, e, h1, h2⟩
            · have hg2 : (Value.slice ov I.length cv).ownBlock = some g := e ▸ hg
              refine ⟨(hvs g (by simpa using hg2)).2, (hvs g (by simpa using hg2)).1, ?_⟩
              exact Nat.lt_of_lt_of_le (HV.out g hg2).2.2 (Nat.le_trans T.fr.size hF3.size)
            · rw [hg] at e
              cases e
              exact ⟨fun hm => by have := T.is.lt g hm; omega, Nat.le_trans HF2.out.size h1, h2⟩
        case measure => simp [intOf]; omega
    · obtain rfl : k = l.length := by omega
      rw [List.take_length] at h2 hP
      have hil := inOf_len l
      generalize inOf l = I at *
      obtain ⟨ov, cv, hv0⟩ := plan_form hP
      subst hv0
      have b0 : decide ((l.length : Int) < (l.length : Nat)) = false := by simp
      have HS := Lib.hid (show IsClk wr b D2 (clkOut I few 0) ∧ PlanAt wr (.slice ov I.length cv) I ∧ Fr [] w wr ∧ (∀ j, j ∈ D2 → w.heap.size ≤ j) ∧ ∀ g, (Value.slice ov I.length cv).ownBlock = some g → ¬ g ∈ D2 ∧ w.heap.size ≤ g ∧ g < wr.heap.size from ⟨by rw [← clkIn_out]; exact h2, hP, hFr, hD2, hv⟩)
      clear h2 hP hFr hD2 hv h1
      go_wp2_with fail
      go_loopw [10, 11, 12] (fun i _ _ wr => ∃ (k : Nat) (D' : List Nat), i = .int .i64 k ∧ k ≤ I.length ∧ IsClk wr b D' (clkOut I few k) ∧ PlanAt wr (.slice ov I.length cv) I ∧ Fr [] w wr ∧
        (∀ j, j ∈ D' → w.heap.size ≤ j) ∧ ∀ g, (Value.slice ov I.length cv).ownBlock = some g → ¬ g ∈ D' ∧ w.heap.size ≤ g ∧ g < wr.heap.size) (fun i _ _ _ => I.length - (intOf i).toNat)
      case atStart => exact ⟨0, D2, rfl, Nat.zero_le _, HS.out⟩
      case round =>
        clear HS
        obtain ⟨k, D3, rfl, hk, h3, hP, hFr, hD3, hv⟩ := hrel
        by_cases hlt : k < I.length
        · have hev := Evict_any h3 0
          rw [evict_out hlt] at hev
          obtain ⟨pb, off, hoa, hcI⟩ : ∃ pb off, ov = some ⟨pb, off, none⟩ ∧ ∀ w2, PlanAt w2 (.slice ov I.length cv) I → w2.cell? ⟨pb, off + k, none⟩ = some (.int .i64 I[k]) := by
            obtain ⟨oa2, c2, he, hi2, _⟩ := hP.ints
            simp only [Value.slice.injEq] at he
            obtain ⟨rfl, _, rfl⟩ := he
            obtain ⟨pb, off, rfl, _⟩ := hi2 k hlt
            refine ⟨pb, off, rfl, fun w2 h => ?_⟩
            obtain ⟨oa2, c2, he, hi2, _⟩ := h.ints
            simp only [Value.slice.injEq] at he
            obtain ⟨rfl, _, rfl⟩ := he
            obtain ⟨pb2, off2, he2, hc⟩ := hi2 k hlt
            cases he2
            exact hc
          subst hoa
          generalize I[k] = q at *
          have HEV := Lib.hid hev
          have H3 := Lib.hid h3
          have HP := Lib.hid hP
          have HV := Lib.hid hv
          have HFR := Lib.hid hFr
          have HD3 := Lib.hid hD3
          have HC := Lib.hid hcI
          clear hev h3 hP hv hFr hD3 hcI
          go_wp2_with fail
          refine HEV.out.mono ?_
          rintro e w2 ⟨rfl, D4, T⟩
          have hP2 := plan_fr HP.out T.fr (fun g hg => (HV.out g hg).1)
          have ca := HC.out w2 hP2
          have HT := Lib.hid T
          have HP2 := Lib.hid hP2
          clear T hP2
          go_wp2_with fail
          go_roundw
          case rel =>
            have T := HT.out
            refine ⟨k + 1, D4, by go_num, by omega, T.is, HP2.out, HFR.out.comp T.fr (fun i hi => .inr (HD3.out i hi)), fun j hj => ?_, fun g hg => ?_⟩
            · rcases T.sub j hj with h | h
              · exact HD3.out j h
              · exact Nat.le_trans HFR.out.size h
            · have := HV.out g hg
              refine ⟨fun hm => ?_, this.2.1, Nat.lt_of_lt_of_le this.2.2 T.fr.size⟩
              rcases T.sub g hm with h | h
              · exact this.1 h
              · omega
          case measure => simp [intOf]; omega
        · obtain rfl : k = I.length := by omega
          have b0 : decide ((I.length : Int) < (I.length : Nat)) = false := by simp
          have hev := Evict_any h3 0
          rw [evict_none] at hev
          have e1 : (clkOut I few I.length).L.length = 0 := by simp [clkOut]
          have e2 : (clkOut I few I.length).G = lastN few I := by simp [clkOut]
          generalize clkOut I few I.length = x at *
          generalize hm1 : I.length - few = m1
          obtain ⟨n1, hn1⟩ : ∃ n1, I.length = n1 + m1 := ⟨I.length - m1, by omega⟩
          have hlast : I.drop m1 = lastN few I := by rw [← hm1]; rfl
          have hll : (lastN few I).length = n1 := by rw [← hlast, List.length_drop, hn1, Nat.add_sub_cancel]
          have hm2 : max (0 : Int) ((I.length : Int) - (few : Int)) = (m1 : Int) := by omega
          have hP' := hP
          rw [hn1] at hP'
          obtain ⟨hpd, hle⟩ := plan_drop hP'
          have hsl := fun w0 => run_slice_from w0 ov m1 n1 cv hle
          rw [← hn1] at hsl
          have hown := drop_own ov m1 (n1 + m1) n1 cv (cv - m1)
          rw [← hn1] at hown
          rw [hlast] at hpd
          generalize Value.slice (if cv = m1 then ov else Option.map (fun x : Addr => x.add m1) ov) n1 (cv - m1) = v5 at *
          have HSL := Lib.hid (show ∀ w0 : World, (Instr.sliceAt 31 (.slice ov I.length cv) (some (.int .i64 m1)) none none).run Try.prog w0 = .ok v5 w0 from hsl)
          have HEV := Lib.hid hev
          have HV := Lib.hid hv
          have HFR := Lib.hid hFr
          have HD3 := Lib.hid hD3
          have HPD := Lib.hid hpd
          have HOW := Lib.hid hown
          have HM2 := Lib.hid hm2
          have HE1 := Lib.hid e1
          have HE2 := Lib.hid e2
          have HLL := Lib.hid hll
          clear hev h3 hP hP' hv hFr hD3 hsl hpd hown hm2 e1 e2 hll hlast hn1 hm1 hle
          go_wp2_with fail
          refine HEV.out.mono ?_
          rintro e w2 ⟨rfl, D4, T⟩
          have HT := Lib.hid T
          have HGH := Lib.hid (ghosts_any T.is)
          clear T
          go_wp2_with fail
          refine HGH.out.mono ?_
          rintro e w3 ⟨v2, rfl, ho, hF3⟩
          rw [HE2.out] at ho
          obtain ⟨oa2, ca2, rfl, hI2⟩ := owns_isInts ho
          have hlen := Len_any (HT.out.is.fr hF3 (by simp))
          rw [HE1.out] at hlen
          have HLN := Lib.hid hlen
          have HI2 := Lib.hid hI2
          have HF3 := Lib.hid hF3
          clear ho hI2 hF3 hlen
          go_wp2_with fail
          refine HLN.out.mono ?_
          rintro e w3 ⟨rfl, rfl⟩
          have hP5 := plan_fr (plan_fr HPD.out HT.out.fr (fun g hg => (HV.out g (HOW.out ▸ hg)).1)) HF3.out (by simp)
          obtain ⟨oa5, cv5, he5, hI5, _⟩ := hP5.ints
          subst he5
          have HS := Lib.hid (Ints_same oa2 oa5 ca2 cv5 (lastN few I) _ HI2.out hI5 (Nat.le_trans (lastN_len _ _) (by omega)))
          clear hP5 hI5
          go_wp2_with (refine wpList_slice_g HSL.out rfl rfl ?hlo rfl ?_)
          case hlo =>
            simp [Act.eval]
            exact HM2.out
          refine HS.out.mono ?_
          rintro e w4 ⟨rfl, hF4⟩
          have HF4 := Lib.hid hF4
          clear hF4
          go_wp2_with fail
          refine (awake_ok _).mono ?_
          rintro e w5 ⟨rfl, hF5⟩
          go_wp2_with fail
          go_ret
          exact ⟨rfl, (((HFR.out.comp HT.out.fr (fun i hi => .inr (HD3.out i hi))).trans HF3.out).trans HF4.out).trans hF5⟩
end Go.Proofs.Ythhkgknolclakaa
