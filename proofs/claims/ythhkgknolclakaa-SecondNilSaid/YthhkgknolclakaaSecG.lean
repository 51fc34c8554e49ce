/- second: Add. -/
import Derived.Test.YthhkgknolclakaaSecF
namespace Go.Proofs.Ythhkgknolclakaa
open Go Go.RowKit Go.Shelf Go.Maps

theorem ks_len (x : Clk) : x.ks.length = x.L.length := by simp [Clk.ks]
theorem Add_there {w : World} {b : Nat} {D : List Nat} {x : Clk} (h : IsClk w b D x) {k : Int} (hk : (Lit.int .i64 k).wf = true) (hh : ckHas x k = true) :
    Calls Try.prog 14 #[.pointer (some ⟨b, 0, none⟩), .int .i64 k] w fun e w' => e = .returned (.int .i64 15) ∧ w' = w := by
  have hH := Lib.hid (Has_any h hk)
  rw [hh] at hH
  clear hh h
  go_enter Try.func14, Try.ntmps14
  go_wp2_with fail
  refine hH.out.mono ?_
  rintro e w' ⟨rfl, rfl⟩
  go_wp2
  go_ret
  exact ⟨rfl, rfl⟩
theorem Add_full {w : World} {b : Nat} {D : List Nat} {x : Clk} (h : IsClk w b D x) {k : Int} (hk : (Lit.int .i64 k).wf = true) (hh : ckHas x k = false) (hf : x.L.length = x.most) :
    Calls Try.prog 14 #[.pointer (some ⟨b, 0, none⟩), .int .i64 k] w fun e w' => e = .returned (.int .i64 17) ∧ Fr [] w w' := by
  have hH := Lib.hid (Has_any h hk)
  rw [hh] at hH
  obtain ⟨mb, lv, gv, rfl, h⟩ := h
  obtain ⟨oa, cap, hv⟩ := plan_form h.l
  have hB := h.blk
  subst hv
  rw [ks_len, ← hf] at hB
  have e : decide ((x.L.length : Int) = (x.L.length : Int)) = true := by simp
  clear hh h hf
  generalize x.L.length = n at *
  go_enter Try.func14, Try.ntmps14
  go_wp2_with fail
  refine hH.out.mono ?_
  rintro e w' ⟨rfl, rfl⟩
  go_wp2_with fail
  refine region_ord [] (.take 0 (.take 1 (.take 2 (.take 3 (.take 4 (.take 5 (.take 6 (.take 7 (.take 8 (.take 9 (.take 10 .done))))))))))) (by kernel_rfl) (by kernel_rfl) ?_
  simp only [ordList, Ord.map, List.getD_cons_zero, List.getD_cons_succ]
  refine' ord_pure (v := _) ?_ rfl ?_; rotate_left; focus (intro w; go_simp <;> (first | (with_reducible rfl) | (constructor <;> with_reducible rfl)))
  simp only [Act.put, List.setIfInBounds_toArray, List.set_cons_zero, List.set_cons_succ]
  refine' ord_pure (v := _) ?_ rfl ?_; rotate_left; focus (intro w; go_simp <;> (first | (with_reducible rfl) | (constructor <;> with_reducible rfl)))
  simp only [Act.put, List.setIfInBounds_toArray, List.set_cons_zero, List.set_cons_succ]
  refine' ord_pure (v := _) ?_ rfl ?_; rotate_left; focus (intro w; go_simp <;> (first | (with_reducible rfl) | (constructor <;> with_reducible rfl)))
  simp only [Act.put, List.setIfInBounds_toArray, List.set_cons_zero, List.set_cons_succ]
  refine ord_cell hB (by simp) rfl rfl (by kernel_rfl) rfl rfl ?_
  simp only [Act.put, List.getElem_toArray, List.getElem_cons_zero, List.getElem_cons_succ, List.setIfInBounds_toArray, List.set_cons_zero, List.set_cons_succ]
  refine' ord_pure (v := _) ?_ rfl ?_; rotate_left; focus (intro w; go_simp <;> (first | (with_reducible rfl) | (constructor <;> with_reducible rfl)))
  simp only [Act.put, List.setIfInBounds_toArray, List.set_cons_zero, List.set_cons_succ]
  refine' ord_pure (v := _) ?_ rfl ?_; rotate_left; focus (intro w; go_simp <;> (first | (with_reducible rfl) | (constructor <;> with_reducible rfl)))
  simp only [Act.put, List.setIfInBounds_toArray, List.set_cons_zero, List.set_cons_succ]
  refine' ord_pure (v := _) ?_ rfl ?_; rotate_left; focus (intro w; go_simp <;> (first | (with_reducible rfl) | (constructor <;> with_reducible rfl)))
  simp only [Act.put, List.setIfInBounds_toArray, List.set_cons_zero, List.set_cons_succ]
  refine' ord_pure (v := _) ?_ rfl ?_; rotate_left; focus (intro w; go_simp <;> (first | (with_reducible rfl) | (constructor <;> with_reducible rfl)))
  simp only [Act.put, List.setIfInBounds_toArray, List.set_cons_zero, List.set_cons_succ]
  refine ord_cell hB (by simp) rfl rfl (by kernel_rfl) rfl rfl ?_
  simp only [Act.put, List.getElem_toArray, List.getElem_cons_zero, List.getElem_cons_succ, List.setIfInBounds_toArray, List.set_cons_zero, List.set_cons_succ]
  refine' ord_pure (v := _) ?_ rfl ?_; rotate_left; focus (intro w; go_simp <;> (first | (with_reducible rfl) | (constructor <;> with_reducible rfl)))
  simp only [Act.put, List.setIfInBounds_toArray, List.set_cons_zero, List.set_cons_succ]
  refine' ord_pure (v := _) ?_ rfl ?_; rotate_left; focus (intro w; go_simp <;> (first | (with_reducible rfl) | (constructor <;> with_reducible rfl)))
  simp only [Act.put, List.setIfInBounds_toArray, List.set_cons_zero, List.set_cons_succ]
  refine ord_nil ?_
  go_wp2_with fail
  go_ret
  exact ⟨rfl, (Fr.refl _ _).drew⟩
/-- one number behind a slice -/
theorem append_one' {w : World} {v : Value} {l : List Int} (h : PlanAt w v l) (hl : l.length ≤ 1048576) (k : Int) :
    ∃ a' c' w', (Builtin.append_ #[31, 31] 31 #[v, .slice (some ⟨w.heap.size, 0, none⟩) 1 1]).run Try.prog (w.alloc (.cells #[.int .i64 k] 3)) = .ok (.slice a' (l.length + 1) c') w' ∧
      PlanAt w' (.slice a' (l.length + 1) c') (l ++ [k]) ∧ Fr v.ownBlock.toList (w.alloc (.cells #[.int .i64 k] 3)) w' ∧
      ((Value.slice a' (l.length + 1) c').ownBlock = v.ownBlock ∨ ∃ i, (Value.slice a' (l.length + 1) c').ownBlock = some i ∧ w.heap.size ≤ i ∧ i < w'.heap.size) := by
  have hP : PlanAt (w.alloc (.cells #[.int .i64 k] 3)) v l := plan_fr h ((Fr.refl [] w).alloc _) (by simp)
  obtain ⟨a', c', w', hr, h1, h2, h3⟩ := plan_append hP (oa := some ⟨w.heap.size, 0, none⟩) (fs := [k]) 1 (fun i hi => ⟨w.heap.size, 0, rfl, by
    have : i = 0 := by simpa using hi
    subst this
    exact (Blk.new w #[.int .i64 k] 3).cell rfl⟩) (by simp; omega)
  have e : (l ++ [k]).length = l.length + 1 := by simp
  rw [e] at hr h1 h3
  refine ⟨a', c', w', hr, h1, h2, ?_⟩
  rcases h3 with h3 | ⟨h3, h4⟩
  · exact .inl h3
  · refine .inr ⟨_, h3, by simp, h4⟩

theorem append_one {w : World} {v : Value} {l : List Int} (h : PlanAt w v l) (hl : l.length ≤ 1048576) (k : Int) :
    ∃ a' c' w', (Builtin.append_ #[31, 31] 31 #[v, .slice (some ⟨w.heap.size, 0, none⟩) 1 1]).run Try.prog (w.alloc (.cells #[.int .i64 k] 3)) = .ok (.slice a' (l.length + 1) c') w' ∧
      PlanAt w' (.slice a' (l.length + 1) c') (l ++ [k]) ∧ Fr v.ownBlock.toList w w' ∧
      ((Value.slice a' (l.length + 1) c').ownBlock = v.ownBlock ∨ ∃ i, (Value.slice a' (l.length + 1) c').ownBlock = some i ∧ w.heap.size ≤ i ∧ i < w'.heap.size) := by
  obtain ⟨a', c', w', h1, h2, h3, h4⟩ := append_one' h hl k
  exact ⟨a', c', w', h1, h2, ((Fr.refl v.ownBlock.toList w).alloc (.cells #[.int .i64 k] 3)).trans h3, h4⟩
theorem add_tail {u w1 w2 w3 : World} {b mb : Nat} {lv gv v1 : Value} {x : Clk} {k : Int} {a : Bool} (h : ClkAt u b mb lv gv x) (hk : (Lit.int .i64 k).wf = true) (hok : ({ x with L := x.L ++ [(k, a)] } : Clk).Ok)
    (hP : PlanAt w1 v1 (x.ks ++ [k])) (hF1 : Fr lv.ownBlock.toList u w1) (hO : v1.ownBlock = lv.ownBlock ∨ ∃ i, v1.ownBlock = some i ∧ u.heap.size ≤ i ∧ i < w1.heap.size)
    (hB2 : Blk w2 b 61 #[v1, .map (some mb), gv, .int .i64 x.most, .int .i64 x.few]) (hF2 : Fr [b] w1 w2) (hF3 : Fr [mb] w2 w3) (hmap : MapAt w3 mb (x.L ++ [(k, a)])) :
    ∃ D', Turn u w3 b (clkD b mb lv gv) { x with L := x.L ++ [(k, a)] } D' := by
  have hks : ({ x with L := x.L ++ [(k, a)] } : Clk).ks = x.ks ++ [k] := by simp [Clk.ks]
  have hb := h.blk.lt
  have hmb := h.map.lt
  have hv : ∀ g, v1.ownBlock = some g → ¬ g = b ∧ ¬ g = mb ∧ ¬ gv.ownBlock = some g := by
    intro g hg
    rcases hO with e | ⟨i, e, h1, _⟩
    · have := h.nl g (e ▸ hg)
      exact ⟨this.1, this.2.1, this.2.2.1⟩
    · rw [hg] at e
      cases e
      exact ⟨by omega, by omega, fun e => by have := (h.ng g e).2.2; omega⟩
  refine turn_of h _ rfl rfl hok (fun j hj => ?_) (hB2.fr hF3 (by simpa using h.ne)) hmap (hks ▸ plan_fr (plan_fr hP hF2 (fun g hg => by simpa using (hv g hg).1)) hF3 (fun g hg => by simpa using (hv g hg).2.1))
    (plan_fr (plan_fr (plan_fr h.g hF1 (fun g hg hi => (h.nl g (by simpa using hi)).2.2.1 hg)) hF2 (fun g hg => by simpa using (h.ng g hg).1)) hF3 (fun g hg => by simpa using (h.ng g hg).2.1)) ?_ ?_ (.inl rfl) (fun i hi => (hv i hi).2.2)
  · rw [hks, List.mem_append] at hj
    rcases hj with hj | hj
    · exact h.wf j hj
    · simp at hj
      subst hj
      exact hk
  · refine ((hF1.sub (T := clkD b mb lv gv) ?_).trans (hF2.sub ?_)).trans (hF3.sub ?_)
    · intro i hi
      exact .inl (mem_clkD.2 (.inr (.inr (.inl (by simpa using hi)))))
    · intro i hi
      exact .inl (mem_clkD.2 (.inl (by simpa using hi)))
    · intro i hi
      exact .inl (mem_clkD.2 (.inr (.inl (by simpa using hi))))
  · rcases hO with e | ⟨i, e, h1, h2⟩
    · exact .inl e
    · exact .inr ⟨i, e, h1, Nat.lt_of_lt_of_le h2 (Nat.le_trans hF2.size hF3.size)⟩
theorem setAsk_out {L : List (Int × Bool)} {k : Int} (h : ¬ k ∈ kofs L) (a c : Bool) : setAsk (L ++ [(k, a)]) k c = L ++ [(k, c)] := by
  unfold setAsk
  rw [List.map_append]
  congr 1
  · refine (List.map_congr_left fun p hp => ?_).trans (List.map_id L)
    rw [if_neg (fun e : p.1 = k => h (mem_kofs.2 ⟨p.2, by rw [← e]; exact hp⟩))]
    rfl
  · simp
theorem Add_new {w : World} {b : Nat} {D : List Nat} {x : Clk} (h : IsClk w b D x) {k : Int} (hk : (Lit.int .i64 k).wf = true) (hh : ckHas x k = false) (hf : ¬ x.L.length = x.most) (hg : ¬ k ∈ x.G) :
    Calls Try.prog 14 #[.pointer (some ⟨b, 0, none⟩), .int .i64 k] w fun e w' => e = .returned (.int .i64 0) ∧ ∃ D', Turn w w' b D (ckAdd x k) D' := by
  have hH := Lib.hid (Has_any h hk)
  have hx : ckAdd x k = { x with L := x.L ++ [(k, false)], G := x.G.erase k } := by
    have : ckGhost x k = false := by simpa [ckGhost] using hg
    simp [ckAdd, hh, hf, this]
  have hok : ({ x with L := x.L ++ [(k, false)], G := x.G.erase k } : Clk).Ok := by
    have := h.ok.add (k := k) (by rw [← ckHas_mem, hh]; simp) hf
    have e : ckGhost x k = false := by simpa [ckGhost] using hg
    rwa [e] at this
  have hn : ¬ k ∈ kofs x.L := by rw [← ckHas_mem, hh]; simp
  rw [hh] at hH
  obtain ⟨mb, lv, gv, rfl, h0⟩ := h
  have HZ := Lib.hid h0
  have hd := (Fr.refl [] w).drew
  have h := h0.fr hd (by simp)
  have hI := index_any h.g k
  rw [idx_out hg] at hI
  have HI := Lib.hid hI
  obtain ⟨M, hM, hMI⟩ := h.map
  have hle := Nat.le_trans h.ok.most h.most
  obtain ⟨a', c', w1, hrun, hP1, hF1, ho1⟩ := append_one h.l (by rw [ks_len]; omega) k
  have hB := h0.blk
  have hBd := h.blk
  have hB1 := h.blk.fr hF1 (by intro hi; exact (h.nl b (by simpa using hi)).1 rfl)
  have hM1 := owns_map_fr hM hF1 (by intro hi; exact (h.nl mb (by simpa using hi)).2.1 rfl)
  have c2 := hBd.cell (i := 2) rfl
  have c0 := hBd.cell (i := 0) rfl
  have HH := Lib.hid h
  have HX := Lib.hid hx
  have HK := Lib.hid hok
  have HN := Lib.hid hn
  have HP := Lib.hid hP1
  have HF := Lib.hid hF1
  have HO := Lib.hid ho1
  have hne := h.ne
  have e1 : ((x.L.length : Int) == (x.most : Int)) = false := by rw [beq_eq_false_iff_ne]; omega
  have hlen := ks_len x
  have HG := Lib.hid hg
  obtain ⟨oa, cap, hv⟩ := plan_form h.l
  obtain ⟨oa2, cap2, hv2⟩ := plan_form h.g
  rw [hlen] at hrun hv
  have hd' := h0.map.lt
  clear h0 h hx hok hn hP1 hF1 ho1 hh hf hg hI hlen hd
  subst hv
  subst hv2
  go_enter Try.func14, Try.ntmps14
  go_wp2_with fail
  refine hH.out.mono ?_
  rintro e w' ⟨rfl, rfl⟩
  go_wp2_with fail
  refine region_ord [] (.take 0 (.take 1 (.take 2 (.take 3 (.take 4 (.take 5 (.take 6 (.take 7 (.take 8 (.take 9 (.take 10 .done))))))))))) (by kernel_rfl) (by kernel_rfl) ?_
  simp only [ordList, Ord.map, List.getD_cons_zero, List.getD_cons_succ]
  refine' ord_pure (v := _) ?_ rfl ?_; rotate_left; focus (intro w; go_simp <;> (first | (with_reducible rfl) | (constructor <;> with_reducible rfl)))
  simp only [Act.put, List.setIfInBounds_toArray, List.set_cons_zero, List.set_cons_succ]
  refine' ord_pure (v := _) ?_ rfl ?_; rotate_left; focus (intro w; go_simp <;> (first | (with_reducible rfl) | (constructor <;> with_reducible rfl)))
  simp only [Act.put, List.setIfInBounds_toArray, List.set_cons_zero, List.set_cons_succ]
  refine' ord_pure (v := _) ?_ rfl ?_; rotate_left; focus (intro w; go_simp <;> (first | (with_reducible rfl) | (constructor <;> with_reducible rfl)))
  simp only [Act.put, List.setIfInBounds_toArray, List.set_cons_zero, List.set_cons_succ]
  refine ord_cell hB (by simp) rfl rfl (by kernel_rfl) rfl rfl ?_
  simp only [Act.put, List.getElem_toArray, List.getElem_cons_zero, List.getElem_cons_succ, List.setIfInBounds_toArray, List.set_cons_zero, List.set_cons_succ]
  refine' ord_pure (v := _) ?_ rfl ?_; rotate_left; focus (intro w; go_simp <;> (first | (with_reducible rfl) | (constructor <;> with_reducible rfl)))
  simp only [Act.put, List.setIfInBounds_toArray, List.set_cons_zero, List.set_cons_succ]
  refine' ord_pure (v := _) ?_ rfl ?_; rotate_left; focus (intro w; go_simp <;> (first | (with_reducible rfl) | (constructor <;> with_reducible rfl)))
  simp only [Act.put, List.setIfInBounds_toArray, List.set_cons_zero, List.set_cons_succ]
  refine' ord_pure (v := _) ?_ rfl ?_; rotate_left; focus (intro w; go_simp <;> (first | (with_reducible rfl) | (constructor <;> with_reducible rfl)))
  simp only [Act.put, List.setIfInBounds_toArray, List.set_cons_zero, List.set_cons_succ]
  refine' ord_pure (v := _) ?_ rfl ?_; rotate_left; focus (intro w; go_simp <;> (first | (with_reducible rfl) | (constructor <;> with_reducible rfl)))
  simp only [Act.put, List.setIfInBounds_toArray, List.set_cons_zero, List.set_cons_succ]
  refine ord_cell hB (by simp) rfl rfl (by kernel_rfl) rfl rfl ?_
  simp only [Act.put, List.getElem_toArray, List.getElem_cons_zero, List.getElem_cons_succ, List.setIfInBounds_toArray, List.set_cons_zero, List.set_cons_succ]
  refine' ord_pure (v := _) ?_ rfl ?_; rotate_left; focus (intro w; go_simp <;> (first | (with_reducible rfl) | (constructor <;> with_reducible rfl)))
  simp only [Act.put, List.setIfInBounds_toArray, List.set_cons_zero, List.set_cons_succ]
  refine' ord_pure (v := _) ?_ rfl ?_; rotate_left; focus (intro w; go_simp <;> (first | (with_reducible rfl) | (constructor <;> with_reducible rfl)))
  simp only [Act.put, List.setIfInBounds_toArray, List.set_cons_zero, List.set_cons_succ]
  refine ord_nil ?_
  go_wp2_with fail
  refine HI.out.mono ?_
  rintro e w' ⟨rfl, rfl⟩
  have hFd : Fr [] w' w'.drew := (Fr.refl _ _).drew
  generalize hu : w'.drew = u at *
  clear hu
  have HR := Lib.hid hrun
  clear hrun
  go_wp2_with first
    | (at_builtin; refine wpList_run_append _ rfl _ _ _ _ rfl _ _ rfl rfl _ _ HR.out ?_)
    | (refine wpList_put (i := 0) rfl rfl hB1 rfl rfl rfl (by kernel_rfl) (by simp) ?_; intro w2 hB2 hF2 hs2; have c3 := hB2.cell (i := 1) rfl; have hM2 := owns_map_fr hM1 hF2 (by simpa using fun e => hne e.symm))
    | (at_mapUpdate; refine wpList_mapUpdate_own _ rfl _ _ _ 59 rfl 3 3 lawI Try.underlying59 _ mb _ _ rfl hM2 (by unfold maxLen; omega) _ _ _ rfl rfl (keyOf_int_mk Try.underlying3 hk) _ [] (plainElem_int Try.underlying3 (by decide)) ?_; intro w3 hown3 hgrow3)
  go_ret
  refine ⟨rfl, ?_⟩
  have h := HH.out
  have hX := HX.out
  have hG : x.G.erase k = x.G := erase_out HG.out
  have hK := HK.out
  rw [hG] at hX hK
  have hP := HP.out
  have hF1 := HF.out
  have hO := HO.out
  rw [ks_len] at hP hO
  have hB2' : Blk w2 b 61 #[.slice a' (x.L.length + 1) c', .map (some mb), .slice oa2 x.G.length cap2, .int .i64 x.most, .int .i64 x.few] := hB2
  have hF3 : Fr [mb] w2 w3 := (Fr.refl _ _).grown hgrow3 (fun k hk => .inl (by cases hk; simp))
  obtain ⟨D', T⟩ := add_tail h hk hK hP hF1 hO hB2' hF2 hF3 (map_add hMI hM HN.out false hown3)
  rw [hX]
  exact ⟨D', T.is, (hFd.sub (by simp)).trans T.fr, fun i hi => (T.sub i hi).imp id (fun h => Nat.le_trans hFd.size h)⟩

theorem Clk.Ok.unghost {x : Clk} (h : x.Ok) (k : Int) : ({ x with G := x.G.erase k } : Clk).Ok :=
  ⟨h.nl, h.ng.erase k, fun j hj hg => h.sep j hj (List.mem_of_mem_erase hg), h.most, by
    have := h.few
    have := List.length_erase_le (a := k) (l := x.G)
    show (x.G.erase k).length ≤ x.few
    omega⟩
theorem Add_ghost {w : World} {b : Nat} {D : List Nat} {x : Clk} (h : IsClk w b D x) {k : Int} (hk : (Lit.int .i64 k).wf = true) (hh : ckHas x k = false) (hf : ¬ x.L.length = x.most) (hg : k ∈ x.G) :
    Calls Try.prog 14 #[.pointer (some ⟨b, 0, none⟩), .int .i64 k] w fun e w' => e = .returned (.int .i64 0) ∧ ∃ D', Turn w w' b D (ckAdd x k) D' := by
  have hH := Lib.hid (Has_any h hk)
  have hx : ckAdd x k = { x with L := x.L ++ [(k, true)], G := x.G.erase k } := by
    have : ckGhost x k = true := by simpa [ckGhost] using hg
    simp [ckAdd, hh, hf, this]
  have hok : ({ x with L := x.L ++ [(k, true)], G := x.G.erase k } : Clk).Ok := by
    have := h.ok.add (k := k) (by rw [← ckHas_mem, hh]; simp) hf
    have e : ckGhost x k = true := by simpa [ckGhost] using hg
    rwa [e] at this
  have hn : ¬ k ∈ kofs x.L := by rw [← ckHas_mem, hh]; simp
  rw [hh] at hH
  obtain ⟨mb, lv, gv, rfl, h0⟩ := h
  have h := h0.fr (Fr.refl [] w).drew (by simp)
  obtain ⟨n, hnl, hix, her⟩ := idx_in hg
  have hI := index_any h.g k
  rw [hix] at hI
  have HI := Lib.hid hI
  have hd := delete_any h.g hnl
  rw [show ((n + 1 : Nat) : Int) = (n : Int) + 1 by omega, her] at hd
  have HD := Lib.hid hd
  have hle := Nat.le_trans h.ok.most h.most
  have hn2 : n < 1024 := by
    have := h.ok.few
    have := h.few
    omega
  have hB := h0.blk
  have c2 := h.blk.cell (i := 2) rfl
  have HH := Lib.hid h
  have HX := Lib.hid hx
  have HK := Lib.hid hok
  have HN := Lib.hid hn
  have hne := h.ne
  have e1 : ((x.L.length : Int) == (x.most : Int)) = false := by rw [beq_eq_false_iff_ne]; omega
  obtain ⟨oa, cap, hv⟩ := plan_form h.l
  obtain ⟨oa2, cap2, hv2⟩ := plan_form h.g
  rw [ks_len] at hv
  clear h0 h hx hok hn hh hf hg hI hd hix her hnl
  subst hv
  subst hv2
  go_enter Try.func14, Try.ntmps14
  go_wp2_with fail
  refine hH.out.mono ?_
  rintro e w' ⟨rfl, rfl⟩
  go_wp2_with fail
  refine region_ord [] (.take 0 (.take 1 (.take 2 (.take 3 (.take 4 (.take 5 (.take 6 (.take 7 (.take 8 (.take 9 (.take 10 .done))))))))))) (by kernel_rfl) (by kernel_rfl) ?_
  simp only [ordList, Ord.map, List.getD_cons_zero, List.getD_cons_succ]
  refine' ord_pure (v := _) ?_ rfl ?_; rotate_left; focus (intro w; go_simp <;> (first | (with_reducible rfl) | (constructor <;> with_reducible rfl)))
  simp only [Act.put, List.setIfInBounds_toArray, List.set_cons_zero, List.set_cons_succ]
  refine' ord_pure (v := _) ?_ rfl ?_; rotate_left; focus (intro w; go_simp <;> (first | (with_reducible rfl) | (constructor <;> with_reducible rfl)))
  simp only [Act.put, List.setIfInBounds_toArray, List.set_cons_zero, List.set_cons_succ]
  refine' ord_pure (v := _) ?_ rfl ?_; rotate_left; focus (intro w; go_simp <;> (first | (with_reducible rfl) | (constructor <;> with_reducible rfl)))
  simp only [Act.put, List.setIfInBounds_toArray, List.set_cons_zero, List.set_cons_succ]
  refine ord_cell hB (by simp) rfl rfl (by kernel_rfl) rfl rfl ?_
  simp only [Act.put, List.getElem_toArray, List.getElem_cons_zero, List.getElem_cons_succ, List.setIfInBounds_toArray, List.set_cons_zero, List.set_cons_succ]
  refine' ord_pure (v := _) ?_ rfl ?_; rotate_left; focus (intro w; go_simp <;> (first | (with_reducible rfl) | (constructor <;> with_reducible rfl)))
  simp only [Act.put, List.setIfInBounds_toArray, List.set_cons_zero, List.set_cons_succ]
  refine' ord_pure (v := _) ?_ rfl ?_; rotate_left; focus (intro w; go_simp <;> (first | (with_reducible rfl) | (constructor <;> with_reducible rfl)))
  simp only [Act.put, List.setIfInBounds_toArray, List.set_cons_zero, List.set_cons_succ]
  refine' ord_pure (v := _) ?_ rfl ?_; rotate_left; focus (intro w; go_simp <;> (first | (with_reducible rfl) | (constructor <;> with_reducible rfl)))
  simp only [Act.put, List.setIfInBounds_toArray, List.set_cons_zero, List.set_cons_succ]
  refine' ord_pure (v := _) ?_ rfl ?_; rotate_left; focus (intro w; go_simp <;> (first | (with_reducible rfl) | (constructor <;> with_reducible rfl)))
  simp only [Act.put, List.setIfInBounds_toArray, List.set_cons_zero, List.set_cons_succ]
  refine ord_cell hB (by simp) rfl rfl (by kernel_rfl) rfl rfl ?_
  simp only [Act.put, List.getElem_toArray, List.getElem_cons_zero, List.getElem_cons_succ, List.setIfInBounds_toArray, List.set_cons_zero, List.set_cons_succ]
  refine' ord_pure (v := _) ?_ rfl ?_; rotate_left; focus (intro w; go_simp <;> (first | (with_reducible rfl) | (constructor <;> with_reducible rfl)))
  simp only [Act.put, List.setIfInBounds_toArray, List.set_cons_zero, List.set_cons_succ]
  refine' ord_pure (v := _) ?_ rfl ?_; rotate_left; focus (intro w; go_simp <;> (first | (with_reducible rfl) | (constructor <;> with_reducible rfl)))
  simp only [Act.put, List.setIfInBounds_toArray, List.set_cons_zero, List.set_cons_succ]
  refine ord_nil ?_
  go_wp2_with fail
  refine HI.out.mono ?_
  rintro e w' ⟨rfl, rfl⟩
  have hFd : Fr [] w' w'.drew := (Fr.refl _ _).drew
  generalize hu : w'.drew = u at *
  clear hu
  go_wp2_with fail
  refine HD.out.mono ?_
  rintro e u1 ⟨gv1, rfl, hP1, hF1, hO1⟩
  obtain ⟨oa3, cap3, hv3⟩ := plan_form hP1
  subst hv3
  have hB1 := HH.out.blk.fr hF1 (by intro hi; exact (HH.out.ng b (by simpa using hi)).1 rfl)
  have HF1 := Lib.hid hF1
  have HP1 := Lib.hid hP1
  have HO1 := Lib.hid hO1
  clear hF1 hP1 hO1
  have HAP := Lib.hid (show ∀ u2, Fr [b] u1 u2 → ∃ a' c' w1, (Builtin.append_ #[31, 31] 31 #[.slice oa x.L.length cap, .slice (some ⟨u2.heap.size, 0, none⟩) 1 1]).run Try.prog (u2.alloc (.cells #[.int .i64 k] 3)) = .ok (.slice a' (x.L.length + 1) c') w1 ∧
      PlanAt w1 (.slice a' (x.L.length + 1) c') (x.ks ++ [k]) ∧ Fr (Value.slice oa x.L.length cap).ownBlock.toList u2 w1 ∧
      ((Value.slice a' (x.L.length + 1) c').ownBlock = (Value.slice oa x.L.length cap).ownBlock ∨ ∃ i, (Value.slice a' (x.L.length + 1) c').ownBlock = some i ∧ u2.heap.size ≤ i ∧ i < w1.heap.size) from (fun u2 hF => by
    have := append_one (plan_fr (plan_fr HH.out.l HF1.out (fun g hg hi => (HH.out.nl g hg).2.2.1 (by simpa using hi))) hF (fun g hg => by simpa using (HH.out.nl g hg).1)) (by rw [ks_len]; omega) k
    rwa [ks_len] at this))
  obtain ⟨M, hM, hMI⟩ := HH.out.map.fr HF1.out (by intro hi; exact (HH.out.ng mb (by simpa using hi)).2.1 rfl)
  have HNB := Lib.hid (show ∀ g, (Value.slice oa x.L.length cap).ownBlock = some g → ¬ b = g ∧ ¬ mb = g from (fun g hg => ⟨fun e => (HH.out.nl g hg).1 e.symm, fun e => (HH.out.nl g hg).2.1 e.symm⟩))
  go_wp2_with first
    | (at_builtin; refine wpList_run_append _ rfl _ _ _ _ rfl _ _ rfl rfl _ _ HR.out ?_)
    | (refine wpList_put (i := 0) rfl rfl hB3 rfl rfl rfl (by kernel_rfl) (by simp) ?_; intro w2 hB4' hF4 hs4; clear hs4; have hB4 : Blk w2 b 61 #[.slice a' (x.L.length + 1) c', .map (some mb), .slice oa3 (x.G.erase k).length cap3, .int .i64 x.most, .int .i64 x.few] := hB4'; clear hB4'; have c4 := hB4.cell (i := 1) rfl; have hM4 := owns_map_fr hM3 hF4 (by simpa using fun e => hne e.symm))
    | (refine wpList_put (i := 2) rfl rfl hB1 rfl rfl rfl (by kernel_rfl) (by simp) ?_; intro u2 hB2' hF2 hs2; clear hs2; have hB2 : Blk u2 b 61 #[.slice oa x.L.length cap, .map (some mb), .slice oa3 (x.G.erase k).length cap3, .int .i64 x.most, .int .i64 x.few] := hB2'; clear hB2'; obtain ⟨a', c', w1, hrun, hP, hF, hO⟩ := HAP.out u2 hF2; have c3 := hB2.cell (i := 0) rfl; have hB3 := hB2.fr hF (by intro hi; exact (HNB.out b (by simpa using hi)).1 rfl); have hM3 := owns_map_fr (owns_map_fr hM hF2 (by simpa using fun e => hne e.symm)) hF (by intro hi; exact (HNB.out mb (by simpa using hi)).2 rfl); have HR := Lib.hid hrun; have HP := Lib.hid hP; have HF := Lib.hid hF; have HO := Lib.hid hO; clear hrun hP hF hO)
    | (at_mapUpdate; refine wpList_mapUpdate_own _ rfl _ _ _ 59 rfl 3 3 lawI Try.underlying59 _ mb _ _ rfl hM5 (by simp; unfold maxLen; omega) _ _ _ rfl rfl (keyOf_int_mk Try.underlying3 hk) _ [] (plainElem_int Try.underlying3 (by decide)) ?_; intro w4 hown4 hgrow4)
    | (at_mapUpdate; refine wpList_mapUpdate_own _ rfl _ _ _ 59 rfl 3 3 lawI Try.underlying59 _ mb _ _ rfl hM4 (by unfold maxLen; omega) _ _ _ rfl rfl (keyOf_int_mk Try.underlying3 hk) _ [] (plainElem_int Try.underlying3 (by decide)) ?_; intro w3 hown3 hgrow3; obtain ⟨M5, hM5, hMI5⟩ := map_add hMI hM HN.out false hown3; have c5 := (hB4.fr ((Fr.refl [mb] _).grown hgrow3 (fun k hk => .inl (by cases hk; simp))) (by simpa using hne)).cell (i := 1) rfl)
  go_ret
  refine ⟨rfl, ?_⟩
  have h := HH.out
  have hX := HX.out
  have hK := HK.out
  have hF1 := HF1.out
  have hO1 := HO1.out
  have hP1 := HP1.out
  have hP := HP.out
  have hFa := HF.out
  have hO := HO.out
  have hF5 : Fr [mb] w2 w3 := (Fr.refl _ _).grown hgrow3 (fun k hk => .inl (by cases hk; simp))
  have hF6 : Fr [mb] w3 w4 := (Fr.refl _ _).grown hgrow4 (fun k hk => .inl (by cases hk; simp))
  have hmap := map_set hMI5 hM5 (k := k) (by rw [show kofs (x.L ++ [(k, false)]) = kofs x.L ++ [k] by simp [kofs]]; simp) true hown4
  rw [setAsk_out HN.out] at hmap
  have hMt : MapAt u1 mb x.L := ⟨M, hM, hMI⟩
  clear HH HX HK HF1 HO1 HP1 HP HF HO HD HI hH HNB HAP c2 c3 c4 c5 hown3 hown4 HR
  generalize Value.slice oa x.L.length cap = lv at *
  generalize Value.slice oa2 x.G.length cap2 = gv at *
  generalize Value.slice oa3 (x.G.erase k).length cap3 = gv3 at *
  have h1 : ClkAt u2 b mb lv gv3 { x with G := x.G.erase k } := by
    refine ⟨h.ok.unghost k, h.wf, h.most, h.few, hB2, hMt.fr hF2 (by simpa using fun e => hne e.symm), plan_fr (plan_fr h.l hF1 ?_) hF2 (fun g hg => by simpa using (h.nl g hg).1), plan_fr hP1 hF2 (fun g hg => by simpa using (h.ng g (hO1 ▸ hg)).1), h.ne, fun i hi => ?_, fun i hi => ?_⟩
    · intro g hg hi
      exact (h.nl g hg).2.2.1 (by simpa using hi)
    · have := h.nl i hi
      exact ⟨this.1, this.2.1, hO1 ▸ this.2.2.1, Nat.lt_of_lt_of_le this.2.2.2 (Nat.le_trans hF1.size hF2.size)⟩
    · have := h.ng i (hO1 ▸ hi)
      exact ⟨this.1, this.2.1, Nat.lt_of_lt_of_le this.2.2 (Nat.le_trans hF1.size hF2.size)⟩
  obtain ⟨D', T⟩ := add_tail h1 hk hK hP hFa hO hB4 hF4 (hF5.trans hF6) hmap
  have hD : clkD b mb lv gv3 = clkD b mb lv gv := by simp only [clkD, hO1]
  rw [hD] at T
  have hFu : Fr (clkD b mb lv gv) u u2 := by
    refine (hF1.sub ?_).trans (hF2.sub ?_)
    · intro i hi
      exact .inl (mem_clkD.2 (.inr (.inr (.inr (by simpa using hi)))))
    · intro i hi
      exact .inl (mem_clkD.2 (.inl (by simpa using hi)))
  rw [hX]
  exact ⟨D', T.is, ((hFd.sub (by simp)).trans hFu).trans T.fr, fun i hi => (T.sub i hi).imp id (fun h => Nat.le_trans (Nat.le_trans hFd.size hFu.size) h)⟩

theorem Add_any {w : World} {b : Nat} {D : List Nat} {x : Clk} (h : IsClk w b D x) {k : Int} (hk : (Lit.int .i64 k).wf = true) :
    Calls Try.prog 14 #[.pointer (some ⟨b, 0, none⟩), .int .i64 k] w fun e w' => e = .returned (.int .i64 (ckAddE x k)) ∧ ∃ D', Turn w w' b D (ckAdd x k) D' := by
  cases hh : ckHas x k
  · by_cases hf : x.L.length = x.most
    · refine (Add_full h hk hh hf).mono ?_
      rintro e w' ⟨rfl, hF⟩
      have e1 : ckAdd x k = x := by simp [ckAdd, hh, hf]
      have e2 : ckAddE x k = 17 := by simp [ckAddE, hh, hf]
      rw [e1, e2]
      exact ⟨rfl, D, h.fr hF (by simp), hF.sub (by simp), fun i hi => .inl hi⟩
    · have e2 : ckAddE x k = 0 := by simp [ckAddE, hh, hf]
      rw [e2]
      by_cases hg : k ∈ x.G
      · exact Add_ghost h hk hh hf hg
      · exact Add_new h hk hh hf hg
  · refine (Add_there h hk hh).mono ?_
    rintro e w' ⟨rfl, rfl⟩
    have e1 : ckAdd x k = x := by simp [ckAdd, hh]
    have e2 : ckAddE x k = 15 := by simp [ckAddE, hh]
    rw [e1, e2]
    exact ⟨rfl, D, Turn.refl h⟩
end Go.Proofs.Ythhkgknolclakaa
