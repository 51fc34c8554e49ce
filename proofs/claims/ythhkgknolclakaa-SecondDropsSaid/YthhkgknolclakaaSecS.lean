/- second: what calls leave (plain); the calls of a law, one behind the other. -/
import Derived.Test.YthhkgknolclakaaSecR
namespace Go.Proofs.Ythhkgknolclakaa
open Go Go.RowKit Go.Shelf Go.Maps

theorem evictN_most (may : Int → Bool) : ∀ (n : Nat) (x : Clk), (evictN may n x).1.most = x.most ∧ (evictN may n x).1.few = x.few
  | 0, _ => ⟨rfl, rfl⟩
  | n + 1, x => by
    unfold evictN
    cases hx : x.L with
    | nil => exact ⟨rfl, rfl⟩
    | cons p r =>
      obtain ⟨k, a⟩ := p
      simp only
      split
      · exact evictN_most may n _
      · split
        · exact evictN_most may n _
        · exact ⟨rfl, rfl⟩
theorem opX_most (x : Clk) (o : Int × Int) : (opX x o).most = x.most ∧ (opX x o).few = x.few := by
  unfold opX
  split
  · unfold ckAdd; split
    · exact ⟨rfl, rfl⟩
    · split <;> exact ⟨rfl, rfl⟩
  · split
    · unfold ckTouch; split <;> exact ⟨rfl, rfl⟩
    · split
      · unfold ckDrop; split <;> exact ⟨rfl, rfl⟩
      · exact evictN_most _ _ _
def opsX (x : Clk) (l : List (Int × Int)) : Clk := l.foldl opX x
theorem opsX_most (l : List (Int × Int)) : ∀ x : Clk, (opsX x l).most = x.most ∧ (opsX x l).few = x.few := by
  induction l with
  | nil => intro x; exact ⟨rfl, rfl⟩
  | cons o l ih =>
    intro x
    have := ih (opX x o)
    rw [(opX_most x o).1, (opX_most x o).2] at this
    exact this
theorem opsX_snoc (x : Clk) (l : List (Int × Int)) (o : Int × Int) : opsX x (l ++ [o]) = opX (opsX x l) o := by simp [opsX, List.foldl_append]
/-- a clock as it is where no key is k -/
def lessK (x : Clk) (k : Int) : Clk := { x with L := dropK x.L k }
theorem lessK_has (x : Clk) (k : Int) : ¬ k ∈ kofs (lessK x k).L := by
  intro h
  obtain ⟨a, ha⟩ := mem_kofs.1 h
  exact (mem_dropK.1 ha).2 rfl
theorem lessK_out {x : Clk} {k : Int} (h : ckHas x k = false) : lessK x k = x := by
  have e : dropK x.L k = x.L := List.filter_eq_self.2 fun p hp => by
    simp only [bne_iff_ne, ne_eq]
    intro e
    have : ckHas x k = true := ckHas_mem.2 (mem_kofs.2 ⟨p.2, by rw [← e]; exact hp⟩)
    rw [h] at this
    cases this
  rw [lessK, e]
theorem lessK_in {x : Clk} {k : Int} (h : ckHas x k = true) : ckDrop x k = lessK x k := by rw [ckDrop, if_pos h]; rfl
theorem no_ghost {x : Clk} (h : x.Ok) {k : Int} (hk : ckHas x k = true) : ckGhost x k = false := by
  have := h.sep k (ckHas_mem.1 hk)
  simpa [ckGhost] using this

/-- calls of a law on a clock of 12 keys and 6 ghosts: what is under way behind k of them -/
structure OpsAt (w wr : World) (b : Nat) (x : Clk) (D : List Nat) : Prop where
  is : IsClk wr b D x
  fr : Fr [] w wr
  new : ∀ j, j ∈ D → w.heap.size ≤ j
theorem OpsAt.turn {w w1 w2 : World} {b : Nat} {x x' : Clk} {D D' : List Nat} (h : OpsAt w w1 b x D) (T : Turn w1 w2 b D x' D') : OpsAt w w2 b x' D' :=
  ⟨T.is, h.fr.comp T.fr (fun i hi => .inr (h.new i hi)), fun j hj => (T.sub j hj).elim (h.new j) (fun h1 => Nat.le_trans h.fr.size h1)⟩
theorem OpsAt.turn2 {w w1 w2 w3 : World} {b rb : Nat} {x x' : Clk} {D D' : List Nat} (h : OpsAt w w1 b x D) (hF : Fr [] w1 w2) (hrb : w1.heap.size ≤ rb) (T : Turn2 w2 w3 b rb D x' D') : OpsAt w w3 b x' D' :=
  ⟨T.is, (h.fr.trans hF).comp T.fr (fun i hi => .inr (by
    rcases List.mem_cons.1 hi with rfl | hi
    · exact Nat.le_trans h.fr.size hrb
    · exact h.new i hi)), fun j hj => (T.sub j hj).elim (h.new j) (fun h1 => Nat.le_trans (Nat.le_trans h.fr.size hF.size) h1)⟩
theorem OpsAt.fr' {w w1 w2 : World} {b : Nat} {x : Clk} {D : List Nat} (h : OpsAt w w1 b x D) (hF : Fr [] w1 w2) : OpsAt w w2 b x D :=
  ⟨h.is.fr hF (by simp), h.fr.trans hF, h.new⟩

theorem Back_out (oa : Option Addr) (n cap : Nat) (k : Int) (w : World) (h : 100 < n) :
    Calls Try.prog 3 #[.slice oa n cap, .int .i64 k] w fun e w' => e = .returned (.bool true) ∧ Fr [] w w' := by
  have d1 : decide ((100 : Int) < (n : Nat)) = true := by simp; omega
  go_enter Try.func3, Try.ntmps3
  go_wp2_with fail
  refine (New_in 12 6 w (by decide) (by decide) (by decide)).mono ?_
  rintro e w1 ⟨b, D, rfl, h1, hF1, hD1⟩
  go_wp2_with fail
  refine (awake_ok _).mono ?_
  rintro e w' ⟨rfl, hF⟩
  go_wp2_with fail
  go_ret
  exact ⟨rfl, hF1.trans hF⟩

set_option maxRecDepth 100000 in
set_option maxHeartbeats 1000000 in
theorem Back_in (oa : Option Addr) (cap : Nat) (l : List (Int × Int)) (q : Int) (w : World) (hI : IsOps w oa l) (hwf : ∀ k, k ∈ l → (Lit.int .i64 k.2).wf = true) (hq : (Lit.int .i64 q).wf = true) (hl : l.length ≤ 100) :
    Calls Try.prog 3 #[.slice oa l.length cap, .int .i64 q] w fun e w' => e = .returned (.bool true) ∧ Fr [] w w' := by
  have d1 : decide ((100 : Int) < (l.length : Nat)) = false := by simp; omega
  have HI := Lib.hid hI
  have HW := Lib.hid hwf
  clear hI hwf
  go_enter Try.func3, Try.ntmps3
  go_wp2_with fail
  refine (New_in 12 6 w (by decide) (by decide) (by decide)).mono ?_
  rintro e w1 ⟨b, D, rfl, h1, hF1, hD1⟩
  have H1 := Lib.hid (show OpsAt w w1 b (opsX ⟨[], [], 12, 6⟩ (l.take 0)) D from ⟨h1, hF1, hD1⟩)
  clear h1 hD1 hF1
  go_wp2_with fail
  clear d1
  go_loopw [7] (fun i wr => ∃ (k : Nat) (D' : List Nat), i = .int .i64 k ∧ k ≤ l.length ∧ OpsAt w wr b (opsX ⟨[], [], 12, 6⟩ (l.take k)) D') (fun i _ => l.length - (intOf i).toNat)
  case atStart => exact ⟨0, D, rfl, Nat.zero_le _, H1.out⟩
  case round =>
    clear H1
    obtain ⟨k, D2, rfl, hk, hO⟩ := hrel
    by_cases hlt : k < l.length
    · have hmem : l[k] ∈ l := List.getElem_mem hlt
      have hwk := HW.out _ hmem
      have htk : l.take (k + 1) = l.take k ++ [l[k]] := (List.take_append_getElem hlt).symm
      obtain ⟨ga, offa, rfl, hc0, hc1⟩ := HI.out k hlt
      have x0 := cell_fr hO.fr (by simp) hc0
      have x1 := cell_fr hO.fr (by simp) hc1
      generalize l[k] = o at *
      obtain ⟨o1, o2⟩ := o
      have HO := Lib.hid hO
      have HTK := Lib.hid htk
      have hFa : Fr [] wr (wr.alloc (.cells #[.slice none 0 0, .int .i64 0, .slice none 0 0, .int .i64 12, .int .i64 6] 33)) := (Fr.refl _ _).alloc _
      have hrg : (wr.alloc (.cells #[.slice none 0 0, .int .i64 0, .slice none 0 0, .int .i64 12, .int .i64 6] 33)).rangeAt ga (offa + k * 2) [.int .i64 o1, .int .i64 o2] := by
        intro j v hj
        rcases j with _ | _ | j
        · rw [Nat.add_zero]
          simp only [List.getElem?_cons_zero, Option.some.injEq] at hj
          exact hj ▸ cell_fr hFa (by simp) x0
        · simp only [Nat.zero_add, List.getElem?_cons_succ, List.getElem?_cons_zero, Option.some.injEq] at hj
          exact hj ▸ cell_fr hFa (by simp) x1
        · simp at hj
      have hdo := does_any (hO.is.fr hFa (by simp)) (rb := wr.heap.size) (Blk.new wr _ _) (fun hm => by have := hO.is.lt _ hm; omega) o1 o2 hwk
      have HDO := Lib.hid hdo
      have HFA := Lib.hid hFa
      clear hO htk hmem hc0 hc1 x0 x1 hdo hFa
      go_wp2_with (refine wpList_load_row rfl 35 _ rfl hrg rfl (by kernel_rfl) ?_)
      refine HDO.out.mono ?_
      rintro e w2 ⟨hb, D3, T⟩
      obtain ⟨rb, rfl⟩ := hb
      have HT := Lib.hid (HO.out.turn2 HFA.out (Nat.le_refl _) T)
      clear T
      go_wp2_with fail
      go_roundw
      case rel => exact ⟨k + 1, D3, by go_num, by omega, by rw [HTK.out, opsX_snoc]; exact HT.out⟩
      case measure => simp [intOf]; omega
    · obtain rfl : k = l.length := by omega
      rw [List.take_length] at hO
      have hmost := (opsX_most l ⟨[], [], 12, 6⟩).1
      generalize opsX ⟨[], [], 12, 6⟩ l = x at *
      have b0 : decide ((l.length : Int) < (l.length : Nat)) = false := by simp
      have hgh := Ghost_any hO.is q
      have hha := Has_any hO.is hq
      have hng := fun h => no_ghost hO.is.ok (k := q) h
      have hg1 : ckGhost (lessK x q) q = ckGhost x q := rfl
      have hm1 : (lessK x q).most = 12 := hmost
      have hout := fun h => lessK_out (x := x) (k := q) h
      have hin := fun h => lessK_in (x := x) (k := q) h
      have hhas := lessK_has x q
      have hdr := Drop_any hO.is hq
      generalize hgg : ckGhost x q = g at *
      generalize hhh : ckHas x q = hb at *
      generalize hx1 : lessK x q = x1 at *
      have HO := Lib.hid hO
      have HGH := Lib.hid hgh
      have HHA := Lib.hid hha
      have HNG := Lib.hid hng
      have HG1 := Lib.hid hg1
      have HM1 := Lib.hid hm1
      have HOUT := Lib.hid hout
      have HIN := Lib.hid hin
      have HHAS := Lib.hid hhas
      have HDR := Lib.hid hdr
      clear hO hgh hha hng hg1 hm1 hout hin hhas hdr hmost hgg hhh hx1
      go_wp2_with fail
      refine HGH.out.mono ?_
      rintro e wr ⟨rfl, rfl⟩
      go_wp2_with fail
      refine HHA.out.mono ?_
      rintro e wr ⟨rfl, rfl⟩
      clear HGH HHA
      go_upto_if 58 with fail
      go_cut [] (fun wr' => ∃ w4, w4 = wr' ∧ ∃ D4, OpsAt w w4 b x1 D4)
      case first =>
        cases hb
        · have e : x1 = x := HOUT.out rfl
          go_wp2_with fail
          go_meet
          exact ⟨_, rfl, D2, by rw [e]; exact HO.out⟩
        · have hg : g = false := HNG.out rfl
          subst hg
          have hdr := HDR.out
          rw [HIN.out rfl, if_pos rfl] at hdr
          have HDR2 := Lib.hid hdr
          clear hdr HNG HOUT HDR
          go_wp2_with fail
          refine HDR2.out.mono ?_
          rintro e w4 ⟨rfl, D4, T⟩
          have hg4 := Ghost_any T.is q
          rw [HG1.out] at hg4
          have hh4 := Has_any T.is hq
          rw [show ckHas x1 q = false by
            have h := HHAS.out
            rw [← ckHas_mem] at h
            simpa using h] at hh4
          have HG4 := Lib.hid hg4
          have HH4 := Lib.hid hh4
          have HO4 := Lib.hid (HO.out.turn T)
          clear T hg4 hh4
          go_wp2_with fail
          refine HG4.out.mono ?_
          rintro e w5 ⟨rfl, rfl⟩
          go_wp2_with fail
          refine HH4.out.mono ?_
          rintro e w6 ⟨rfl, rfl⟩
          go_wp2_with fail
          go_meet
          exact ⟨_, rfl, D4, HO4.out⟩
      case rest =>
        obtain ⟨w4, rfl, D4, hO4⟩ := hcut
        have hln := Len_any hO4.is
        have hadd := Add_any hO4.is hq
        have hni := HHAS.out
        have hgx := HG1.out
        have hmx := HM1.out
        have hlm := hO4.is.ok.most
        rw [hmx] at hlm
        have hhf : ckHas x1 q = false := by
          rw [← ckHas_mem] at hni
          simpa using hni
        have HO4 := Lib.hid hO4
        by_cases hf : x1.L.length = 12
        · have e1 : ckAddE x1 q = 17 := by simp [ckAddE, hhf, hf, hmx]
          have e2 : ckAdd x1 q = x1 := by simp [ckAdd, hhf, hf, hmx]
          rw [e1, e2] at hadd
          rw [hf] at hln
          have HLN := Lib.hid hln
          have HAD := Lib.hid hadd
          clear hln hadd hni hmx hlm hhf hf e1 e2 hO4 HNG HOUT HIN HDR HO
          go_wp2_with fail
          refine HLN.out.mono ?_
          rintro e w5 ⟨rfl, rfl⟩
          go_wp2_with fail
          refine HAD.out.mono ?_
          rintro e w6 ⟨rfl, D6, T6⟩
          have hg6 := Ghost_any T6.is q
          rw [hgx] at hg6
          have HG6 := Lib.hid hg6
          have HO6 := Lib.hid (HO4.out.turn T6)
          clear T6 hg6
          go_wp2_with fail
          refine HG6.out.mono ?_
          rintro e w7 ⟨rfl, rfl⟩
          cases g
          all_goals
            go_wp2_with fail
            refine (awake_ok _).mono ?_
            rintro e w8 ⟨rfl, hF8⟩
            go_wp2_with fail
            go_ret
            exact ⟨rfl, HO6.out.fr.trans hF8⟩
        · have hf2 : ¬ x1.L.length = x1.most := by rw [hmx]; exact hf
          have e1 : ckAddE x1 q = 0 := by simp [ckAddE, hhf, hf2]
          have e2 : ckAdd x1 q = { x1 with L := x1.L ++ [(q, g)], G := x1.G.erase q } := by simp [ckAdd, hhf, hf2, hgx]
          have hok := hO4.is.ok
          rw [e1, e2] at hadd
          have hkk : kofs (x1.L ++ [(q, g)]) = kofs x1.L ++ [q] := by simp [kofs]
          have e3 : ckGhost { x1 with L := x1.L ++ [(q, g)], G := x1.G.erase q } q = false := by
            have := hok.ng.not_mem_erase (a := q)
            simpa [ckGhost] using this
          have e4 : ckHas { x1 with L := x1.L ++ [(q, g)], G := x1.G.erase q } q = true := ckHas_mem.2 (by rw [hkk]; simp)
          have e5 : ({ x1 with L := x1.L ++ [(q, g)], G := x1.G.erase q } : Clk).L.length = x1.L.length + 1 := by simp
          have c1 : (intC (kofs (x1.L ++ [(q, g)])))[x1.L.length]? = some (.int .i64 q) := by rw [hkk]; simp [intC, kofs]
          have c2 : (boolC ((x1.L ++ [(q, g)]).map (·.2)))[x1.L.length]? = some (.bool g) := by simp [boolC]
          have b12 : ((x1.L.length : Int) == 12) = false := by rw [beq_eq_false_iff_ne]; omega
          have HC1 := Lib.hid c1
          have HC2 := Lib.hid c2
          have HE3 := Lib.hid e3
          have HE4 := Lib.hid e4
          have HE5 := Lib.hid e5
          have HLN := Lib.hid hln
          have HAD := Lib.hid hadd
          clear hln hadd hni hmx hhf hf2 hf e1 e2 e3 e4 e5 c1 c2 hkk hok hO4 HNG HOUT HIN HDR HO hgx HG1 HM1 HHAS
          generalize x1.L.length = n at *
          go_wp2_with fail
          refine HLN.out.mono ?_
          rintro e w5 ⟨rfl, rfl⟩
          go_wp2_with fail
          refine HAD.out.mono ?_
          rintro e w6 ⟨rfl, D6, T6⟩
          have HO6 := Lib.hid (HO4.out.turn T6)
          have HK6 := Lib.hid (keys_any T6.is)
          clear T6
          go_wp2_with fail
          refine HK6.out.mono ?_
          rintro e w7 ⟨v1, v2, rfl, ho1, ho2, hF7⟩
          rw [HE5.out] at ho1 ho2
          obtain ⟨oa1, ca1, rfl, hc1⟩ := owns_cells ho1
          obtain ⟨oa2, ca2, rfl, hc2⟩ := owns_cells ho2
          obtain ⟨g1, cur1, rfl, hb1, hv1⟩ := hc1 n _ HC1.out
          obtain ⟨g2, cur2, rfl, hb2, hv2⟩ := hc2 n _ HC2.out
          have k1 := hb1.cell hv1
          have k2 := hb2.cell hv2
          have hI7 := HO6.out.fr' hF7
          have hg7 := Ghost_any hI7.is q
          rw [HE3.out] at hg7
          have ht7 := Touch_any hI7.is hq
          rw [HE4.out, if_pos rfl] at ht7
          have HG7 := Lib.hid hg7
          have HT7 := Lib.hid ht7
          have HO7 := Lib.hid hI7
          clear ho1 ho2 hc1 hc2 hb1 hv1 hb2 hv2 hF7 hI7 hg7 ht7
          cases g
          all_goals
            go_wp2_with fail
            refine HG7.out.mono ?_
            rintro e w8 ⟨rfl, rfl⟩
            go_wp2_with fail
            refine HT7.out.mono ?_
            rintro e w9 ⟨rfl, D9, T9⟩
            have HO9 := Lib.hid (HO7.out.turn T9)
            clear T9
            go_wp2_with fail
            refine (awake_ok _).mono ?_
            rintro e w10 ⟨rfl, hF10⟩
            go_wp2_with fail
            go_ret
            exact ⟨rfl, HO9.out.fr.trans hF10⟩
end Go.Proofs.Ythhkgknolclakaa
