/- second: what a clock is in cells; New, Has, Ghost, Len, Touch. -/
import Derived.Test.YthhkgknolclakaaSecD
namespace Go.Proofs.Ythhkgknolclakaa
open Go Go.RowKit Go.Shelf Go.Maps

structure ClkAt (w : World) (b mb : Nat) (lv gv : Value) (x : Clk) : Prop where
  ok : x.Ok
  wf : ∀ k, k ∈ x.ks → (Lit.int .i64 k).wf = true
  most : x.most ≤ 1024
  few : x.few ≤ 1024
  blk : Blk w b 61 #[lv, .map (some mb), gv, .int .i64 x.most, .int .i64 x.few]
  map : MapAt w mb x.L
  l : PlanAt w lv x.ks
  g : PlanAt w gv x.G
  ne : ¬ b = mb
  nl : ∀ i, lv.ownBlock = some i → ¬ i = b ∧ ¬ i = mb ∧ ¬ gv.ownBlock = some i ∧ i < w.heap.size
  ng : ∀ i, gv.ownBlock = some i → ¬ i = b ∧ ¬ i = mb ∧ i < w.heap.size
/-- the blocks of a clock -/
def clkD (b mb : Nat) (lv gv : Value) : List Nat := [b, mb] ++ lv.ownBlock.toList ++ gv.ownBlock.toList
theorem mem_clkD {b mb : Nat} {lv gv : Value} {i : Nat} : i ∈ clkD b mb lv gv ↔ i = b ∨ i = mb ∨ lv.ownBlock = some i ∨ gv.ownBlock = some i := by
  simp [clkD, or_assoc]
def IsClk (w : World) (b : Nat) (D : List Nat) (x : Clk) : Prop := ∃ mb lv gv, D = clkD b mb lv gv ∧ ClkAt w b mb lv gv x
theorem ClkAt.fr {S : List Nat} {w w' : World} {b mb : Nat} {lv gv : Value} {x : Clk} (h : ClkAt w b mb lv gv x) (hF : Fr S w w') (hs : ∀ i, i ∈ clkD b mb lv gv → ¬ i ∈ S) : ClkAt w' b mb lv gv x where
  ok := h.ok
  wf := h.wf
  most := h.most
  few := h.few
  blk := h.blk.fr hF (hs _ (mem_clkD.2 (.inl rfl)))
  map := h.map.fr hF (hs _ (mem_clkD.2 (.inr (.inl rfl))))
  l := plan_fr h.l hF (fun g hg => hs _ (mem_clkD.2 (.inr (.inr (.inl hg)))))
  g := plan_fr h.g hF (fun g hg => hs _ (mem_clkD.2 (.inr (.inr (.inr hg)))))
  ne := h.ne
  nl := fun i hi => ⟨(h.nl i hi).1, (h.nl i hi).2.1, (h.nl i hi).2.2.1, Nat.lt_of_lt_of_le (h.nl i hi).2.2.2 hF.size⟩
  ng := fun i hi => ⟨(h.ng i hi).1, (h.ng i hi).2.1, Nat.lt_of_lt_of_le (h.ng i hi).2.2 hF.size⟩
theorem IsClk.fr {S : List Nat} {w w' : World} {b : Nat} {D : List Nat} {x : Clk} (h : IsClk w b D x) (hF : Fr S w w') (hs : ∀ i, i ∈ D → ¬ i ∈ S) : IsClk w' b D x := by
  obtain ⟨mb, lv, gv, rfl, h⟩ := h
  exact ⟨mb, lv, gv, rfl, h.fr hF hs⟩
theorem IsClk.lt {w : World} {b : Nat} {D : List Nat} {x : Clk} (h : IsClk w b D x) : ∀ i, i ∈ D → i < w.heap.size := by
  obtain ⟨mb, lv, gv, rfl, h⟩ := h
  intro i hi
  rcases mem_clkD.1 hi with rfl | rfl | hi | hi
  · exact h.blk.lt
  · exact h.map.lt
  · exact (h.nl i hi).2.2.2
  · exact (h.ng i hi).2.2
theorem IsClk.ok {w : World} {b : Nat} {D : List Nat} {x : Clk} (h : IsClk w b D x) : x.Ok := by
  obtain ⟨mb, lv, gv, rfl, h⟩ := h
  exact h.ok
/-- a clock turns into another one, in its own blocks and in new ones -/
structure Turn (w w' : World) (b : Nat) (D : List Nat) (x' : Clk) (D' : List Nat) : Prop where
  is : IsClk w' b D' x'
  fr : Fr D w w'
  sub : ∀ i, i ∈ D' → i ∈ D ∨ w.heap.size ≤ i
theorem Turn.refl {w : World} {b : Nat} {D : List Nat} {x : Clk} (h : IsClk w b D x) : Turn w w b D x D := ⟨h, Fr.refl _ _, fun _ hi => .inl hi⟩
theorem Turn.trans {w w' w'' : World} {b : Nat} {D D' D'' : List Nat} {x' x'' : Clk} (h : Turn w w' b D x' D') (k : Turn w' w'' b D' x'' D'') : Turn w w'' b D x'' D'' :=
  ⟨k.is, h.fr.comp k.fr h.sub, fun i hi => by
    rcases k.sub i hi with h1 | h1
    · exact h.sub i h1
    · exact .inr (Nat.le_trans h.fr.size h1)⟩

theorem turn_of {w w' : World} {b mb : Nat} {lv gv lv' gv' : Value} {x : Clk} (h : ClkAt w b mb lv gv x) (x' : Clk) (hm : x'.most = x.most) (hf : x'.few = x.few) (hok : x'.Ok) (hwf : ∀ k, k ∈ x'.ks → (Lit.int .i64 k).wf = true)
    (hblk : Blk w' b 61 #[lv', .map (some mb), gv', .int .i64 x.most, .int .i64 x.few]) (hmap : MapAt w' mb x'.L) (hl : PlanAt w' lv' x'.ks) (hg : PlanAt w' gv' x'.G) (hF : Fr (clkD b mb lv gv) w w')
    (ol : lv'.ownBlock = lv.ownBlock ∨ ∃ i, lv'.ownBlock = some i ∧ w.heap.size ≤ i ∧ i < w'.heap.size) (og : gv'.ownBlock = gv.ownBlock ∨ ∃ i, gv'.ownBlock = some i ∧ w.heap.size ≤ i ∧ i < w'.heap.size)
    (hd : ∀ i, lv'.ownBlock = some i → ¬ gv'.ownBlock = some i) : ∃ D', Turn w w' b (clkD b mb lv gv) x' D' := by
  have hb := h.blk.lt
  have hmb := h.map.lt
  refine ⟨_, ⟨mb, lv', gv', rfl, ⟨hok, hwf, hm ▸ h.most, hf ▸ h.few, by rw [hm, hf]; exact hblk, hmap, hl, hg, h.ne, fun i hi => ?_, fun i hi => ?_⟩⟩, hF, fun i hi => ?_⟩
  · rcases ol with e | ⟨j, e, h1, h2⟩
    · have := h.nl i (e ▸ hi)
      exact ⟨this.1, this.2.1, hd i hi, Nat.lt_of_lt_of_le this.2.2.2 hF.size⟩
    · rw [hi] at e
      cases e
      exact ⟨by omega, by omega, hd _ hi, h2⟩
  · rcases og with e | ⟨j, e, h1, h2⟩
    · have := h.ng i (e ▸ hi)
      exact ⟨this.1, this.2.1, Nat.lt_of_lt_of_le this.2.2 hF.size⟩
    · rw [hi] at e
      cases e
      exact ⟨by omega, by omega, h2⟩
  · rcases mem_clkD.1 hi with rfl | rfl | hi | hi
    · exact .inl (mem_clkD.2 (.inl rfl))
    · exact .inl (mem_clkD.2 (.inr (.inl rfl)))
    · rcases ol with e | ⟨j, e, h1, h2⟩
      · exact .inl (mem_clkD.2 (.inr (.inr (.inl (e ▸ hi)))))
      · rw [hi] at e
        cases e
        exact .inr h1
    · rcases og with e | ⟨j, e, h1, h2⟩
      · exact .inl (mem_clkD.2 (.inr (.inr (.inr (e ▸ hi)))))
      · rw [hi] at e
        cases e
        exact .inr h1
/-- the map alone turns; the keys are the same ones -/
theorem turn_map {w w' : World} {b mb : Nat} {lv gv : Value} {x : Clk} (h : ClkAt w b mb lv gv x) (L' : List (Int × Bool)) (hk : kofs L' = x.ks) (hmap : MapAt w' mb L') (hg : w.grownBy w' (some mb)) :
    ClkAt w' b mb lv gv { x with L := L' } ∧ ∃ D', Turn w w' b (clkD b mb lv gv) { x with L := L' } D' := by
  have hF : Fr [mb] w w' := (Fr.refl _ w).grown hg (fun k hk => .inl (by cases hk; simp))
  have hks : ({ x with L := L' } : Clk).ks = x.ks := hk
  have hlen : L'.length = x.L.length := by
    have := congrArg List.length hk
    simpa [kofs, Clk.ks] using this
  have hok : ({ x with L := L' } : Clk).Ok := ⟨hks ▸ h.ok.nl, h.ok.ng, fun k hk => h.ok.sep k (hks ▸ hk), by rw [show ({ x with L := L' } : Clk).L.length = L'.length from rfl, hlen]; exact h.ok.most, h.ok.few⟩
  have hB := h.blk.fr hF (by simpa using h.ne)
  have hL := plan_fr h.l hF (fun g hg => by simpa using (h.nl g hg).2.1)
  have hG := plan_fr h.g hF (fun g hg => by simpa using (h.ng g hg).2.1)
  refine ⟨⟨hok, fun k hk => h.wf k (hks ▸ hk), h.most, h.few, hB, hmap, hks ▸ hL, hG, h.ne, fun i hi => ⟨(h.nl i hi).1, (h.nl i hi).2.1, (h.nl i hi).2.2.1, Nat.lt_of_lt_of_le (h.nl i hi).2.2.2 hF.size⟩, fun i hi => ⟨(h.ng i hi).1, (h.ng i hi).2.1, Nat.lt_of_lt_of_le (h.ng i hi).2.2 hF.size⟩⟩, ?_⟩
  exact turn_of h _ rfl rfl hok (fun k hk => h.wf k (hks ▸ hk)) hB hmap (hks ▸ hL) hG (hF.sub (by intro i hi; simp at hi; subst hi; exact .inl (mem_clkD.2 (.inr (.inl rfl))))) (.inl rfl) (.inl rfl) (fun i hi => (h.nl i hi).2.2.1)

theorem New_in (m f : Nat) (w : World) (hm : 1 ≤ m) (hm2 : m ≤ 1024) (hf : f ≤ 1024) :
    Calls Try.prog 7 #[.int .i64 m, .int .i64 f] w fun e w' => ∃ b D, e = .returned (.tuple #[.pointer (some ⟨b, 0, none⟩), .int .i64 0]) ∧ IsClk w' b D ⟨[], [], m, f⟩ ∧ Fr [] w w' ∧ ∀ i, i ∈ D → w.heap.size ≤ i := by
  have hmm := @run_makeMap Try.prog
  have e1 : decide ((m : Int) < 1) = false := by simp; omega
  have e2 : decide ((1024 : Int) < m) = false := by simp; omega
  have e3 : decide ((f : Int) < 0) = false := by simp
  have e4 : decide ((1024 : Int) < f) = false := by simp; omega
  go_enter Try.func7, Try.ntmps7
  go_wp2
  go_ret2
  obtain ⟨A, hA⟩ : ∃ A, A = w.alloc (.map #[] 0) := ⟨_, rfl⟩
  have hs : A.heap.size = w.heap.size + 1 := by rw [hA]; simp
  have hM : MapAt A w.heap.size [] := by rw [hA]; exact MapAt.made w
  have hFA : Fr [] w A := by rw [hA]; exact (Fr.refl [] w).alloc _
  rw [← hA]
  have hB := Blk.new A #[.slice none 0 0, .map (some w.heap.size), .slice none 0 0, .int .i64 m, .int .i64 f] 61
  rw [hs] at hB
  refine ⟨w.heap.size + 1, clkD (w.heap.size + 1) w.heap.size (.slice none 0 0) (.slice none 0 0), rfl, ⟨_, _, _, rfl, ?_⟩, hFA.alloc _, ?_⟩
  · exact ⟨⟨List.nodup_nil, List.nodup_nil, by simp [Clk.ks], Nat.zero_le _, Nat.zero_le _⟩, by simp [Clk.ks], hm2, hf, hB,
      hM.fr ((Fr.refl [] A).alloc _) (by simp), plan_nil _, plan_nil _, by omega, by simp [Value.ownBlock], by simp [Value.ownBlock]⟩
  · intro i hi
    rcases mem_clkD.1 hi with rfl | rfl | hi | hi
    · omega
    · omega
    · cases hi
    · cases hi
theorem Has_any {w : World} {b : Nat} {D : List Nat} {x : Clk} (h : IsClk w b D x) {k : Int} (hk : (Lit.int .i64 k).wf = true) :
    Calls Try.prog 11 #[.pointer (some ⟨b, 0, none⟩), .int .i64 k] w fun e w' => e = .returned (.bool (ckHas x k)) ∧ w' = w := by
  obtain ⟨mb, lv, gv, rfl, h⟩ := h
  obtain ⟨M, hM, hI⟩ := h.map
  have c1 := h.blk.cell (i := 1) rfl
  have e1 : Maps.has M (.int .i64 k) = ckHas x k := hI.hasB k
  clear h
  go_enter Try.func11, Try.ntmps11
  go_wp2_with (at_lookup; refine wpList_lookup_own_ok_int _ rfl _ _ 59 rfl 3 3 .i64 lawI Try.underlying59 Try.underlying3 (zeroI _) mb _ _ rfl hM _ _ rfl (keyOf_int_mk Try.underlying3 hk) ?_; intro c hat hwc)
  go_ret
  exact ⟨rfl, rfl⟩
theorem Ghost_any {w : World} {b : Nat} {D : List Nat} {x : Clk} (h : IsClk w b D x) (k : Int) :
    Calls Try.prog 10 #[.pointer (some ⟨b, 0, none⟩), .int .i64 k] w fun e w' => e = .returned (.bool (ckGhost x k)) ∧ w' = w := by
  obtain ⟨mb, lv, gv, rfl, h⟩ := h
  have c1 := h.blk.cell (i := 2) rfl
  have hc := contains_any h.g k
  obtain ⟨oa, cap, hv⟩ := plan_form h.g
  rw [show ckGhost x k = x.G.contains k from rfl]
  generalize x.G.contains k = r at hc ⊢
  have HC := Lib.hid hc
  clear hc h
  subst hv
  go_enter Try.func10, Try.ntmps10
  go_wp2_with fail
  refine HC.out.mono ?_
  rintro e w' ⟨rfl, rfl⟩
  go_wp2
  go_ret
  exact ⟨rfl, rfl⟩
theorem Len_any {w : World} {b : Nat} {D : List Nat} {x : Clk} (h : IsClk w b D x) :
    Calls Try.prog 13 #[.pointer (some ⟨b, 0, none⟩)] w fun e w' => e = .returned (.int .i64 x.L.length) ∧ w' = w := by
  obtain ⟨mb, lv, gv, rfl, h⟩ := h
  have c1 := h.blk.cell (i := 0) rfl
  obtain ⟨oa, cap, hv⟩ := plan_form h.l
  clear h
  subst hv
  go_enter Try.func13, Try.ntmps13
  go_wp2
  go_ret
  exact ⟨by simp [Clk.ks], rfl⟩
theorem Touch_any {w : World} {b : Nat} {D : List Nat} {x : Clk} (h : IsClk w b D x) {k : Int} (hk : (Lit.int .i64 k).wf = true) :
    Calls Try.prog 16 #[.pointer (some ⟨b, 0, none⟩), .int .i64 k] w fun e w' => e = .returned (.int .i64 (if ckHas x k then 0 else 14)) ∧ ∃ D', Turn w w' b D (ckTouch x k) D' := by
  have hH := Lib.hid (Has_any h hk)
  have h0 := h
  obtain ⟨mb, lv, gv, rfl, h⟩ := h
  obtain ⟨M, hM, hI⟩ := h.map
  have c1 := h.blk.cell (i := 1) rfl
  have HH := Lib.hid h
  have H0 := Lib.hid h0
  have hml : x.L.length ≤ 1024 := Nat.le_trans h.ok.most h.most
  clear h h0
  cases hh : ckHas x k
  · have HX := Lib.hid hh
    rw [hh] at hH
    clear hh
    go_enter Try.func16, Try.ntmps16
    go_wp2_with fail
    refine hH.out.mono ?_
    rintro e w' ⟨rfl, rfl⟩
    go_wp2
    go_ret
    exact ⟨rfl, _, by rw [ckTouch, HX.out]; exact Turn.refl H0.out⟩
  · have HX := Lib.hid hh
    rw [hh] at hH
    have hm : k ∈ kofs x.L := by simpa [ckHas, Clk.ks, kofs] using hh
    have HM := Lib.hid hm
    clear hh hm
    go_enter Try.func16, Try.ntmps16
    go_wp2_with fail
    refine hH.out.mono ?_
    rintro e w' ⟨rfl, rfl⟩
    go_wp2_with (at_mapUpdate; refine wpList_mapUpdate_own _ rfl _ _ _ 59 rfl 3 3 lawI Try.underlying59 _ mb _ _ rfl hM (by unfold maxLen; omega) _ _ _ rfl rfl (keyOf_int_mk Try.underlying3 hk) _ [] (plainElem_int Try.underlying3 (by decide)) ?_; intro w1 hown1 hgrow1)
    go_ret
    have h := HH.out
    refine ⟨rfl, ?_⟩
    rw [ckTouch, HX.out]
    exact (turn_map h _ (kofs_setAsk _ _ _) (map_set hI hM HM.out true hown1) hgrow1).2
end Go.Proofs.Ythhkgknolclakaa
