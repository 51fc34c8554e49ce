/- second: SecondDrops, the walk. -/
import Derived.Test.YthhkgknolclakaaSecS
namespace Go.Proofs.Ythhkgknolclakaa
open Go Go.RowKit Go.Shelf Go.Maps

/-- bools that lie behind a slice -/
def IsBools (w : World) (oa : Option Addr) (l : List Bool) : Prop :=
  ∀ (i : Nat) (h : i < l.length), ∃ b off, oa = some ⟨b, off, none⟩ ∧ w.cell? ⟨b, off + i, none⟩ = some (.bool l[i])
theorem owns_isBools {w : World} {base : Nat} {v : Value} {xs : List Bool} (h : w.ownsRow base 4 1 v xs.length (boolC xs)) : ∃ oa c, v = .slice oa xs.length c ∧ IsBools w oa xs := by
  obtain ⟨oa, c, rfl, hc⟩ := owns_cells h
  refine ⟨oa, c, rfl, fun i hi => ?_⟩
  obtain ⟨g, cur, rfl, hb, hv⟩ := hc i (.bool xs[i]) (by simp [boolC, hi])
  exact ⟨g, 0, rfl, by rw [Nat.zero_add]; exact hb.cell hv⟩
theorem bools_fr {S : List Nat} {w w' : World} {oa : Option Addr} {ns : List Bool} (h : IsBools w oa ns) (hF : Fr S w w') (hs : ∀ b off, oa = some ⟨b, off, none⟩ → ¬ b ∈ S) : IsBools w' oa ns := by
  intro i hi
  obtain ⟨b, off, he, h0⟩ := h i hi
  exact ⟨b, off, he, cell_fr hF (hs b off he) h0⟩
/-- keys and marks that lie behind two slices -/
structure Both (w : World) (oa ob : Option Addr) (L : List (Int × Bool)) : Prop where
  at_ : ∀ (i : Nat) (h : i < L.length), ∃ b off b2 off2, oa = some ⟨b, off, none⟩ ∧ ob = some ⟨b2, off2, none⟩ ∧ w.cell? ⟨b, off + i, none⟩ = some (.int .i64 L[i].1) ∧ w.cell? ⟨b2, off2 + i, none⟩ = some (.bool L[i].2)
theorem Both.fr {w w' : World} {oa ob : Option Addr} {L : List (Int × Bool)} (h : Both w oa ob L) (hF : Fr [] w w') : Both w' oa ob L :=
  ⟨fun i hi => by
    obtain ⟨b, off, b2, off2, h1, h2, h3, h4⟩ := h.at_ i hi
    exact ⟨b, off, b2, off2, h1, h2, cell_fr hF (by simp) h3, cell_fr hF (by simp) h4⟩⟩
theorem both_of {w : World} {base : Nat} {v1 v2 : Value} {L : List (Int × Bool)} (h1 : w.ownsRow base 3 1 v1 L.length (intC (kofs L))) (h2 : w.ownsRow base 4 1 v2 L.length (boolC (L.map (·.2)))) :
    ∃ oa ca ob cb, v1 = .slice oa L.length ca ∧ v2 = .slice ob L.length cb ∧ Both w oa ob L := by
  have e1 : L.length = (kofs L).length := by simp [kofs]
  have e2 : L.length = (L.map (·.2)).length := by simp
  have h1' := h1
  have h2' := h2
  rw [e1] at h1'
  rw [e2] at h2'
  obtain ⟨oa, ca, ea, ha⟩ := owns_isInts h1'
  obtain ⟨ob, cb, eb, hb⟩ := owns_isBools h2'
  refine ⟨oa, ca, ob, cb, by rw [ea, ← e1], by rw [eb, ← e2], ⟨fun i hi => ?_⟩⟩
  obtain ⟨b, off, r1, c1⟩ := ha i (by rw [← e1]; exact hi)
  obtain ⟨b2, off2, r2, c2⟩ := hb i (by rw [← e2]; exact hi)
  exact ⟨b, off, b2, off2, r1, r2, by simpa [kofs] using c1, by simpa using c2⟩
theorem dropK_app (A B : List (Int × Bool)) (k : Int) : dropK (A ++ B) k = dropK A k ++ dropK B k := by simp [dropK]
theorem dropK_here {L : List (Int × Bool)} {k : Int} {i : Nat} (hi : i < L.length) (h : L[i].1 = k) : dropK (L.take (i + 1)) k = dropK (L.take i) k := by
  rw [← List.take_append_getElem hi, dropK_app]
  have : dropK [L[i]] k = [] := by simp [dropK, h]
  rw [this, List.append_nil]
theorem dropK_not {L : List (Int × Bool)} {k : Int} {i : Nat} (hi : i < L.length) (h : ¬ L[i].1 = k) : (dropK (L.take (i + 1)) k).length = (dropK (L.take i) k).length + 1 ∧
    (dropK (L.take i) k).length < (dropK L k).length ∧ (dropK L k)[(dropK (L.take i) k).length]? = some L[i] := by
  have e1 : dropK [L[i]] k = [L[i]] := by simp [dropK, h]
  have e2 : dropK (L.take (i + 1)) k = dropK (L.take i) k ++ [L[i]] := by rw [← List.take_append_getElem hi, dropK_app, e1]
  have e3 : dropK L k = dropK (L.take (i + 1)) k ++ dropK (L.drop (i + 1)) k := by rw [← dropK_app, List.take_append_drop]
  refine ⟨by rw [e2]; simp, by rw [e3, e2]; simp, ?_⟩
  rw [e3, e2, List.append_assoc, List.getElem?_append_right (Nat.le_refl _), Nat.sub_self]
  rfl

set_option maxRecDepth 100000 in
theorem Drops_out (oa : Option Addr) (n cap : Nat) (k : Int) (w : World) (h : 100 < n) :
    Calls Try.prog 4 #[.slice oa n cap, .int .i64 k] w fun e w' => e = .returned (.bool true) ∧ Fr [] w w' := by
  have d1 : decide ((100 : Int) < (n : Nat)) = true := by simp; omega
  go_enter Try.func4, Try.ntmps4
  go_wp2_with fail
  refine (New_in 12 6 w (by decide) (by decide) (by decide)).mono ?_
  rintro e w1 ⟨b, D, rfl, h1, hF1, hD1⟩
  go_wp2_with fail
  refine (awake_ok _).mono ?_
  rintro e w' ⟨rfl, hF⟩
  go_wp2_with fail
  go_ret
  exact ⟨rfl, hF1.trans hF⟩

set_option maxRecDepth 100000 in
set_option maxHeartbeats 1000000 in
theorem Drops_in (oa : Option Addr) (cap : Nat) (l : List (Int × Int)) (q : Int) (w : World) (hI : IsOps w oa l) (hwf : ∀ k, k ∈ l → (Lit.int .i64 k.2).wf = true) (hq : (Lit.int .i64 q).wf = true) (hl : l.length ≤ 100) :
    Calls Try.prog 4 #[.slice oa l.length cap, .int .i64 q] w fun e w' => e = .returned (.bool true) ∧ Fr [] w w' := by
  have d1 : decide ((100 : Int) < (l.length : Nat)) = false := by simp; omega
  have HI := Lib.hid hI
  have HW := Lib.hid hwf
  clear hI hwf
  go_enter Try.func4, Try.ntmps4
  go_wp2_with fail
  refine (New_in 12 6 w (by decide) (by decide) (by decide)).mono ?_
  rintro e w1 ⟨b, D, rfl, h1, hF1, hD1⟩
  have H1 := Lib.hid (show OpsAt w w1 b (opsX ⟨[], [], 12, 6⟩ (l.take 0)) D from ⟨h1, hF1, hD1⟩)
  clear h1 hD1 hF1
  go_wp2_with fail
  clear d1
  go_loopw [7] (fun i wr => ∃ (k : Nat) (D' : List Nat), i = .int .i64 k ∧ k ≤ l.length ∧ OpsAt w wr b (opsX ⟨[], [], 12, 6⟩ (l.take k)) D') (fun i _ => l.length - (intOf i).toNat)
  case atStart => exact ⟨0, D, rfl, Nat.zero_le _, H1.out⟩
  case round =>
    clear H1
    obtain ⟨k, D2, rfl, hk, hO⟩ := hrel
    by_cases hlt : k < l.length
    · have hmem : l[k] ∈ l := List.getElem_mem hlt
      have hwk := HW.out _ hmem
      have htk : l.take (k + 1) = l.take k ++ [l[k]] := (List.take_append_getElem hlt).symm
      obtain ⟨ga, offa, rfl, hc0, hc1⟩ := HI.out k hlt
      have x0 := cell_fr hO.fr (by simp) hc0
      have x1 := cell_fr hO.fr (by simp) hc1
      generalize l[k] = o at *
      obtain ⟨o1, o2⟩ := o
      have HO := Lib.hid hO
      have HTK := Lib.hid htk
      have hFa : Fr [] wr (wr.alloc (.cells #[.slice none 0 0, .int .i64 0, .slice none 0 0, .int .i64 12, .int .i64 6] 33)) := (Fr.refl _ _).alloc _
      have hrg : (wr.alloc (.cells #[.slice none 0 0, .int .i64 0, .slice none 0 0, .int .i64 12, .int .i64 6] 33)).rangeAt ga (offa + k * 2) [.int .i64 o1, .int .i64 o2] := by
        intro j v hj
        rcases j with _ | _ | j
        · rw [Nat.add_zero]
          simp only [List.getElem?_cons_zero, Option.some.injEq] at hj
          exact hj ▸ cell_fr hFa (by simp) x0
        · simp only [Nat.zero_add, List.getElem?_cons_succ, List.getElem?_cons_zero, Option.some.injEq] at hj
          exact hj ▸ cell_fr hFa (by simp) x1
        · simp at hj
      have hdo := does_any (hO.is.fr hFa (by simp)) (rb := wr.heap.size) (Blk.new wr _ _) (fun hm => by have := hO.is.lt _ hm; omega) o1 o2 hwk
      have HDO := Lib.hid hdo
      have HFA := Lib.hid hFa
      clear hO htk hmem hc0 hc1 x0 x1 hdo hFa
      go_wp2_with (refine wpList_load_row rfl 35 _ rfl hrg rfl (by kernel_rfl) ?_)
      refine HDO.out.mono ?_
      rintro e w2 ⟨hb, D3, T⟩
      obtain ⟨rb, rfl⟩ := hb
      have HT := Lib.hid (HO.out.turn2 HFA.out (Nat.le_refl _) T)
      clear T
      go_wp2_with fail
      go_roundw
      case rel => exact ⟨k + 1, D3, by go_num, by omega, by rw [HTK.out, opsX_snoc]; exact HT.out⟩
      case measure => simp [intOf]; omega
    · obtain rfl : k = l.length := by omega
      rw [List.take_length] at hO
      generalize opsX ⟨[], [], 12, 6⟩ l = x at *
      have b0 : decide ((l.length : Int) < (l.length : Nat)) = false := by simp
      have hdx : ckDrop x q = lessK x q := by
        cases hh : ckHas x q
        · rw [lessK_out hh]
          simp [ckDrop, hh]
        · exact lessK_in hh
      obtain ⟨hb, hhh⟩ : ∃ hb, ckHas x q = hb := ⟨_, rfl⟩
      have hll : x.L.length ≤ 1024 := by
        obtain ⟨mb, lv, gv, _, h⟩ := hO.is
        exact Nat.le_trans h.ok.most h.most
      have hgl : x.G.length ≤ 1024 := by
        obtain ⟨mb, lv, gv, _, h⟩ := hO.is
        exact Nat.le_trans h.ok.few h.few
      have HO := Lib.hid hO
      have HDX := Lib.hid hdx
      have HHH := Lib.hid hhh
      have HLT := Lib.hid hO.is.lt
      clear hdx hhh hO
      go_wp2_with fail
      refine (keys_any HO.out.is).mono ?_
      rintro e w4 ⟨v1, v2, rfl, ho1, ho2, hF4⟩
      have HG := Lib.hid (ghosts_any (HO.out.fr' hF4).is)
      have HO4 := Lib.hid (HO.out.fr' hF4)
      have HP1 := Lib.hid ho1
      have HP2 := Lib.hid ho2
      have HS4 := Lib.hid hF4.size
      clear ho1 ho2 hF4
      go_wp2_with fail
      refine HG.out.mono ?_
      rintro e w5 ⟨vg, rfl, hog, hF5⟩
      have hha := Has_any (HO4.out.fr' hF5).is hq
      rw [HHH.out] at hha
      have hdr := Drop_any (HO4.out.fr' hF5).is hq
      rw [HHH.out, HDX.out] at hdr
      have HHA := Lib.hid hha
      have HDR := Lib.hid hdr
      have HO5 := Lib.hid (HO4.out.fr' hF5)
      have HPG := Lib.hid hog
      have HF5 := Lib.hid hF5
      clear hha hdr hog hF5 HG
      go_wp2_with fail
      refine HHA.out.mono ?_
      rintro e w5' ⟨rfl, rfl⟩
      clear HHA
      generalize hfe : (if hb = true then (0 : Int) else 14) = fe at *
      have HFE := Lib.hid hfe
      clear hfe
      go_wp2_with fail
      refine HDR.out.mono ?_
      rintro e w6 ⟨rfl, D6, T6⟩
      have HO6 := Lib.hid (HO5.out.turn T6)
      have HT6 := Lib.hid T6.fr
      have HK6 := Lib.hid (keys_any T6.is)
      clear T6 HDR
      go_wp2_with fail
      refine HK6.out.mono ?_
      rintro e w7 ⟨v3, v4, rfl, ho3, ho4, hF7⟩
      have HG7 := Lib.hid (ghosts_any (HO6.out.fr' hF7).is)
      have HO7 := Lib.hid (HO6.out.fr' hF7)
      have HP3 := Lib.hid ho3
      have HP4 := Lib.hid ho4
      have HF7 := Lib.hid hF7
      clear ho3 ho4 hF7 HK6
      go_wp2_with fail
      refine HG7.out.mono ?_
      rintro e w8 ⟨vh, rfl, hoh, hF8⟩
      have fin : ∀ (e : TypeId) (v : Value) (n : Nat) (xs : List Value), w5'.ownsRow wr.heap.size e 1 v n xs → w8.ownsRow wr.heap.size e 1 v n xs := by
        intro e v n xs h
        refine owns_fr (owns_fr (owns_fr h HT6.out (fun g hg hm => ?_)) HF7.out (by simp)) hF8 (by simp)
        have h1 := owns_ge h g hg
        have h2 := HLT.out g hm
        omega
      have o1 := fin _ _ _ _ (owns_fr HP1.out HF5.out (by simp))
      have o2 := fin _ _ _ _ (owns_fr HP2.out HF5.out (by simp))
      have og := fin _ _ _ _ (owns_base HPG.out (show wr.heap.size ≤ w4.heap.size from HS4.out))
      have o3 := owns_fr HP3.out hF8 (by simp)
      have o4 := owns_fr HP4.out hF8 (by simp)
      have HO8 := Lib.hid (HO7.out.fr' hF8)
      obtain ⟨oa, ca, ob, cb, rfl, rfl, hBo⟩ := both_of o1 o2
      obtain ⟨oa3, ca3, ob3, cb3, rfl, rfl, hBn⟩ := both_of (L := dropK x.L q) o3 o4
      obtain ⟨og1, cg1, rfl, hI1⟩ := owns_isInts og
      obtain ⟨og2, cg2, rfl, hI2⟩ := owns_isInts (xs := x.G) hoh
      have HIN := Lib.hid (Ints_same og1 og2 cg1 cg2 x.G w8 hI1 hI2 (by omega))
      have HBO := Lib.hid hBo
      have HBN := Lib.hid hBn
      have hfe := HFE.out
      clear fin o1 o2 og o3 o4 hoh hBo hBn hI1 hI2 hF8 HO HO4 HO5 HO6 HO7 HP1 HP2 HP3 HP4 HPG HT6 HF5 HF7 HS4 HLT HG7 HFE HDX HHH
      have hlx : (lessK x q).L.length = (dropK x.L q).length := rfl
      have hgx : (lessK x q).G = x.G := rfl
      simp only [hlx, hgx]
      clear hlx hgx
      cases hb
      all_goals
        simp only [Bool.false_eq_true, if_false, if_true] at hfe
        subst hfe
        go_wp2_with fail
        refine HIN.out.mono ?_
        rintro e w9 ⟨rfl, hF9⟩
        have HBO9 := Lib.hid (HBO.out.fr hF9)
        have HBN9 := Lib.hid (HBN.out.fr hF9)
        have HO9 := Lib.hid (HO8.out.fr' hF9)
        clear HBO HBN HO8 hF9 HIN b0
        generalize hLL : x.L = L at *
        clear hLL
        go_wp2_with fail
        go_loopw [20, 21] (fun n i wr' => ∃ k : Nat, i = .int .i64 k ∧ k ≤ L.length ∧ n = .int .i64 (dropK (L.take k) q).length ∧ Fr [] w9 wr') (fun _ i _ => L.length - (intOf i).toNat)
        case atStart => exact ⟨0, rfl, Nat.zero_le _, rfl, Fr.refl _ _⟩
        case round =>
          obtain ⟨k, rfl, hk, rfl, hFr⟩ := hrel
          by_cases hlt : k < L.length
          · obtain ⟨g1, off1, g2, off2, r1, r2, hc1, hc2⟩ := HBO9.out.at_ k hlt
            have x1 := cell_fr hFr (by simp) hc1
            have x2 := cell_fr hFr (by simp) hc2
            by_cases hkq : L[k].1 = q
            · have hd := dropK_here hlt hkq
              have HDD := Lib.hid (congrArg List.length hd)
              have bq : (L[k].1 == q) = true := by simpa using hkq
              generalize (dropK (L.take k) q).length = m at *
              subst r1
              clear hd hc1 hc2 hkq x2
              go_wp2_with fail
              go_roundw
              case rel => exact ⟨k + 1, by go_num, by omega, by rw [HDD.out], hFr⟩
              case measure => simp [intOf]; omega
            · obtain ⟨hd1, hd2, hd3⟩ := dropK_not hlt hkq
              have HDD := Lib.hid hd1
              have bq : (L[k].1 == q) = false := by simpa using hkq
              have hget : (dropK L q)[(dropK (L.take k) q).length]'hd2 = L[k] := by
                have := List.getElem?_eq_getElem hd2
                rw [this] at hd3
                exact Option.some.inj hd3
              obtain ⟨g3, off3, g4, off4, r3, r4, hc3, hc4⟩ := HBN9.out.at_ _ hd2
              rw [hget] at hc3 hc4
              have x3 := cell_fr hFr (by simp) hc3
              have x4 := cell_fr hFr (by simp) hc4
              have hmb : (dropK L q).length ≤ L.length := List.length_filter_le _ _
              clear hget hd3 hc1 hc2 hc3 hc4
              generalize (dropK (L.take k) q).length = m at *
              generalize (dropK L q).length = m2 at *
              generalize L[k] = p at *
              obtain ⟨k1, a1⟩ := p
              subst r1
              subst r2
              subst r3
              subst r4
              have bn : decide ((m2 : Int) ≤ (m : Int)) = false := by simp; omega
              clear hd1 hkq
              go_wp2_with fail
              refine region_ord [] (.take 0 (.take 1 (.take 2 (.take 3 (.take 4 (.take 5 (.take 6 (.take 7 (.take 8 (.take 9 (.take 10 (.take 11 (.take 12 (.take 13 (.take 14 (.take 15 (.take 16 (.take 17 (.take 18 (.take 19 (.take 20 (.take 21 (.take 22 (.take 23 (.take 24 (.take 25 .done)))))))))))))))))))))))))) (by kernel_rfl) (by kernel_rfl) ?_
              simp only [ordList, Ord.map, List.getD_cons_zero, List.getD_cons_succ]
              refine' ord_pure (v := _) ?_ rfl ?_; rotate_left; focus (intro w; go_simp <;> (first | (with_reducible rfl) | (constructor <;> with_reducible rfl)))
              simp only [Act.put, List.setIfInBounds_toArray, List.set_cons_zero, List.set_cons_succ]
              refine' ord_pure (v := _) ?_ rfl ?_; rotate_left; focus (intro w; go_simp <;> (first | (with_reducible rfl) | (constructor <;> with_reducible rfl)))
              simp only [Act.put, List.setIfInBounds_toArray, List.set_cons_zero, List.set_cons_succ]
              refine' ord_pure (v := _) ?_ rfl ?_; rotate_left; focus (intro w; go_simp <;> (first | (with_reducible rfl) | (constructor <;> with_reducible rfl)))
              simp only [Act.put, List.setIfInBounds_toArray, List.set_cons_zero, List.set_cons_succ]
              -- 3: t137 := t134 geq t136   {0,2}
              refine' ord_pure (v := .bool false) (fun w0 => ?_) rfl ?_
              focus (go_simp <;> omega)
              simp only [Act.put, List.setIfInBounds_toArray, List.set_cons_zero, List.set_cons_succ]
              refine' ord_pure (v := _) ?_ rfl ?_; rotate_left; focus (intro w; go_simp <;> (first | (with_reducible rfl) | (constructor <;> with_reducible rfl)))
              simp only [Act.put, List.setIfInBounds_toArray, List.set_cons_zero, List.set_cons_succ]
              refine' ord_pure (v := _) ?_ rfl ?_; rotate_left; focus (intro w; go_simp <;> (first | (with_reducible rfl) | (constructor <;> with_reducible rfl)))
              simp only [Act.put, List.setIfInBounds_toArray, List.set_cons_zero, List.set_cons_succ]
              refine' ord_pure (v := _) ?_ rfl ?_; rotate_left; focus (intro w; go_simp <;> (first | (with_reducible rfl) | (constructor <;> with_reducible rfl)))
              simp only [Act.put, List.setIfInBounds_toArray, List.set_cons_zero, List.set_cons_succ]
              -- 7: t141 := indexAddr <[]int> t139 t140   [if op4=false]   {4,5,6}
              refine' ord_pure (v := .pointer (some ⟨g3, off3 + m, none⟩)) (fun w0 => ?_) rfl ?_
              focus (go_simp <;> omega)
              simp only [Act.put, List.setIfInBounds_toArray, List.set_cons_zero, List.set_cons_succ]
              refine ord_load rfl rfl (by kernel_rfl) rfl x3 (by simp) ?_
              simp only [Act.put, List.setIfInBounds_toArray, List.set_cons_zero, List.set_cons_succ]
              refine' ord_pure (v := _) ?_ rfl ?_; rotate_left; focus (intro w; go_simp <;> (first | (with_reducible rfl) | (constructor <;> with_reducible rfl)))
              simp only [Act.put, List.setIfInBounds_toArray, List.set_cons_zero, List.set_cons_succ]
              refine' ord_pure (v := _) ?_ rfl ?_; rotate_left; focus (intro w; go_simp <;> (first | (with_reducible rfl) | (constructor <;> with_reducible rfl)))
              simp only [Act.put, List.setIfInBounds_toArray, List.set_cons_zero, List.set_cons_succ]
              -- 11: t145 := indexAddr <[]int> t143 t144   [if op4=false]   {4,9,10}
              refine' ord_pure (v := .pointer (some ⟨g1, off1 + k, none⟩)) (fun w0 => ?_) rfl ?_
              focus (go_simp <;> omega)
              simp only [Act.put, List.setIfInBounds_toArray, List.set_cons_zero, List.set_cons_succ]
              refine ord_load rfl rfl (by kernel_rfl) rfl x1 (by simp) ?_
              simp only [Act.put, List.setIfInBounds_toArray, List.set_cons_zero, List.set_cons_succ]
              refine' ord_pure (v := _) ?_ rfl ?_; rotate_left; focus (intro w; go_simp <;> (first | (with_reducible rfl) | (constructor <;> with_reducible rfl)))
              simp only [Act.put, List.setIfInBounds_toArray, List.set_cons_zero, List.set_cons_succ]
              refine' ord_pure (v := _) ?_ rfl ?_; rotate_left; focus (intro w; go_simp <;> (first | (with_reducible rfl) | (constructor <;> with_reducible rfl)))
              simp only [Act.put, List.setIfInBounds_toArray, List.set_cons_zero, List.set_cons_succ]
              refine' ord_pure (v := _) ?_ rfl ?_; rotate_left; focus (intro w; go_simp <;> (first | (with_reducible rfl) | (constructor <;> with_reducible rfl)))
              simp only [Act.put, List.setIfInBounds_toArray, List.set_cons_zero, List.set_cons_succ]
              refine' ord_pure (v := _) ?_ rfl ?_; rotate_left; focus (intro w; go_simp <;> (first | (with_reducible rfl) | (constructor <;> with_reducible rfl)))
              simp only [Act.put, List.setIfInBounds_toArray, List.set_cons_zero, List.set_cons_succ]
              refine' ord_pure (v := _) ?_ rfl ?_; rotate_left; focus (intro w; go_simp <;> (first | (with_reducible rfl) | (constructor <;> with_reducible rfl)))
              simp only [Act.put, List.setIfInBounds_toArray, List.set_cons_zero, List.set_cons_succ]
              -- 18: t152 := indexAddr <[]bool> t150 t151   [if op15=false]   {15,16,17}
              refine' ord_pure (v := .pointer (some ⟨g4, off4 + m, none⟩)) (fun w0 => ?_) rfl ?_
              focus (go_simp <;> omega)
              simp only [Act.put, List.setIfInBounds_toArray, List.set_cons_zero, List.set_cons_succ]
              refine ord_load rfl rfl (by kernel_rfl) rfl x4 (by simp) ?_
              simp only [Act.put, List.setIfInBounds_toArray, List.set_cons_zero, List.set_cons_succ]
              refine' ord_pure (v := _) ?_ rfl ?_; rotate_left; focus (intro w; go_simp <;> (first | (with_reducible rfl) | (constructor <;> with_reducible rfl)))
              simp only [Act.put, List.setIfInBounds_toArray, List.set_cons_zero, List.set_cons_succ]
              refine' ord_pure (v := _) ?_ rfl ?_; rotate_left; focus (intro w; go_simp <;> (first | (with_reducible rfl) | (constructor <;> with_reducible rfl)))
              simp only [Act.put, List.setIfInBounds_toArray, List.set_cons_zero, List.set_cons_succ]
              -- 22: t156 := indexAddr <[]bool> t154 t155   [if op15=false]   {15,20,21}
              refine' ord_pure (v := .pointer (some ⟨g2, off2 + k, none⟩)) (fun w0 => ?_) rfl ?_
              focus (go_simp <;> omega)
              simp only [Act.put, List.setIfInBounds_toArray, List.set_cons_zero, List.set_cons_succ]
              refine ord_load rfl rfl (by kernel_rfl) rfl x2 (by simp) ?_
              simp only [Act.put, List.setIfInBounds_toArray, List.set_cons_zero, List.set_cons_succ]
              refine' ord_pure (v := _) ?_ rfl ?_; rotate_left; focus (intro w; go_simp <;> (first | (with_reducible rfl) | (constructor <;> with_reducible rfl)))
              simp only [Act.put, List.setIfInBounds_toArray, List.set_cons_zero, List.set_cons_succ]
              refine' ord_pure (v := _) ?_ rfl ?_; rotate_left; focus (intro w; go_simp <;> (first | (with_reducible rfl) | (constructor <;> with_reducible rfl)))
              simp only [Act.put, List.setIfInBounds_toArray, List.set_cons_zero, List.set_cons_succ]
              refine ord_nil ?_
              go_wp2_with fail
              go_roundw
              case rel => exact ⟨k + 1, by go_num, by omega, by rw [HDD.out]; go_num, hFr.drew⟩
              case measure => simp [intOf]; omega
          · obtain rfl : k = L.length := by omega
            rw [List.take_length]
            generalize (dropK L q).length = m2 at *
            have b0 : decide ((L.length : Int) < (L.length : Nat)) = false := by simp
            go_wp2_with fail
            refine (awake_ok _).mono ?_
            rintro e w10 ⟨rfl, hF10⟩
            go_wp2_with fail
            go_ret
            exact ⟨rfl, (HO9.out.fr.trans hFr).trans hF10⟩
end Go.Proofs.Ythhkgknolclakaa
