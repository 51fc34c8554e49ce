/- second: Drop and Add. -/
import Derived.Test.YthhkgknolclakaaSecE
namespace Go.Proofs.Ythhkgknolclakaa
open Go Go.RowKit Go.Shelf Go.Maps

theorem kofs_dropK {L : List (Int × Bool)} (hn : (kofs L).Nodup) (k : Int) : kofs (dropK L k) = (kofs L).erase k := by
  rw [hn.erase_eq_filter]
  unfold kofs dropK
  rw [List.filter_map]
  rfl
theorem len_dropK {L : List (Int × Bool)} (hn : (kofs L).Nodup) {k : Int} (hk : k ∈ kofs L) : (dropK L k).length + 1 = L.length := by
  have h := congrArg List.length (kofs_dropK hn k)
  rw [List.length_erase_of_mem hk] at h
  have h1 : 0 < (kofs L).length := List.length_pos_of_mem hk
  simp only [kofs, List.length_map] at h h1
  omega
theorem ckHas_mem {x : Clk} {k : Int} : ckHas x k = true ↔ k ∈ kofs x.L := by simp [ckHas, Clk.ks, kofs]
theorem Clk.Ok.drop {x : Clk} (h : x.Ok) {k : Int} (hk : k ∈ kofs x.L) : ({ x with L := dropK x.L k } : Clk).Ok := by
  have e : ({ x with L := dropK x.L k } : Clk).ks = x.ks.erase k := kofs_dropK h.nl k
  refine ⟨e ▸ h.nl.erase k, h.ng, fun j hj => h.sep j (List.mem_of_mem_erase (e ▸ hj)), ?_, h.few⟩
  have := len_dropK h.nl hk
  have := h.most
  show (dropK x.L k).length ≤ x.most
  omega
theorem Clk.Ok.add {x : Clk} (h : x.Ok) {k : Int} (hk : ¬ k ∈ kofs x.L) (hf : ¬ x.L.length = x.most) : ({ x with L := x.L ++ [(k, ckGhost x k)], G := x.G.erase k } : Clk).Ok := by
  have e : ({ x with L := x.L ++ [(k, ckGhost x k)], G := x.G.erase k } : Clk).ks = x.ks ++ [k] := by simp [Clk.ks]
  refine ⟨?_, h.ng.erase k, fun j hj hg => ?_, ?_, ?_⟩
  · rw [e, List.nodup_append]
    refine ⟨h.nl, by simp, fun a ha b hb => ?_⟩
    simp at hb
    subst hb
    exact fun e => hk (e ▸ ha)
  · rw [e, List.mem_append] at hj
    rcases hj with hj | hj
    · exact h.sep j hj (List.mem_of_mem_erase hg)
    · simp at hj
      subst hj
      exact (h.ng.not_mem_erase) hg
  · have := h.most
    simp
    omega
  · have := h.few
    have := List.length_erase_le (a := k) (l := x.G)
    show (x.G.erase k).length ≤ x.few
    omega
theorem erase_out {x : Clk} {k : Int} (h : ¬ k ∈ x.G) : x.G.erase k = x.G := List.erase_of_not_mem h

theorem Drop_any {w : World} {b : Nat} {D : List Nat} {x : Clk} (h : IsClk w b D x) {k : Int} (hk : (Lit.int .i64 k).wf = true) :
    Calls Try.prog 12 #[.pointer (some ⟨b, 0, none⟩), .int .i64 k] w fun e w' => e = .returned (.int .i64 (if ckHas x k then 0 else 14)) ∧ ∃ D', Turn w w' b D (ckDrop x k) D' := by
  have hH := Lib.hid (Has_any h hk)
  have h0 := h
  obtain ⟨mb, lv, gv, rfl, h⟩ := h
  have HH := Lib.hid h
  have H0 := Lib.hid h0
  cases hh : ckHas x k
  · have HX := Lib.hid hh
    rw [hh] at hH
    clear hh h h0
    go_enter Try.func12, Try.ntmps12
    go_wp2_with fail
    refine hH.out.mono ?_
    rintro e w' ⟨rfl, rfl⟩
    go_wp2
    go_ret
    exact ⟨rfl, _, by rw [ckDrop, HX.out]; exact Turn.refl H0.out⟩
  · have HX := Lib.hid hh
    rw [hh] at hH
    have hm : k ∈ kofs x.L := ckHas_mem.1 hh
    obtain ⟨n, hn, hix, her⟩ := idx_in (show k ∈ x.ks from hm)
    have hI := index_any h.l k
    rw [hix] at hI
    have HI := Lib.hid hI
    have hd := delete_any h.l hn
    rw [show ((n + 1 : Nat) : Int) = (n : Int) + 1 by omega] at hd
    have HD := Lib.hid hd
    have hn2 : n < 1024 := by
      have := h.ok.most
      have := h.most
      have e : x.ks.length = x.L.length := by simp [Clk.ks]
      omega
    have c0 := h.blk.cell (i := 0) rfl
    have HM := Lib.hid hm
    have HE := Lib.hid her
    have hbl := h.blk.lt
    obtain ⟨oa, cap, hv⟩ := plan_form h.l
    subst hv
    clear hh h h0 hm hI hix her hd hn
    go_enter Try.func12, Try.ntmps12
    go_wp2_with fail
    refine hH.out.mono ?_
    rintro e w' ⟨rfl, rfl⟩
    go_wp2_with fail
    refine HI.out.mono ?_
    rintro e w' ⟨rfl, rfl⟩
    go_wp2_with fail
    refine HD.out.mono ?_
    rintro e w1 ⟨v', rfl, hP1, hF1, ho1⟩
    obtain ⟨oa1, cap1, hv1⟩ := plan_form hP1
    have hB1 := HH.out.blk.fr hF1 (by intro hi; exact (HH.out.nl b (by simpa using hi)).1 rfl)
    have hmb := HH.out.map.fr hF1 (by intro hi; exact (HH.out.nl mb (by simpa using hi)).2.1 rfl)
    have HP := Lib.hid hP1
    have HF := Lib.hid hF1
    have HO := Lib.hid ho1
    clear hP1 hF1 ho1
    subst hv1
    obtain ⟨M, hM, hI⟩ := hmb
    go_wp2_with first
      | (refine wpList_put (i := 0) rfl rfl hB1 rfl rfl rfl (by kernel_rfl) (by simp) ?_; intro w2 hB2 hF2 hs2; have c2 := hB2.cell (i := 1) rfl; have hM2 := owns_map_fr hM hF2 (by simpa using fun e => HH.out.ne e.symm))
      | (at_delete; refine wpList_delete_own _ rfl _ _ 59 3 rfl 3 lawI Try.underlying59 _ mb _ _ rfl hM2 _ _ rfl (keyOf_int_mk Try.underlying3 hk) ?_; intro w3 hown3 hturn3)
    go_ret
    have h := HH.out
    have hF1 := HF.out
    have hO := HO.out
    have hP := HP.out
    have hE := HE.out
    have hm := HM.out
    have hX := HX.out
    have hB2' : Blk w2 b 61 #[.slice oa1 (x.ks.eraseIdx n).length cap1, .map (some mb), gv, .int .i64 x.most, .int .i64 x.few] := hB2
    have hF3 : Fr [mb] w2 w3 := (Fr.refl _ _).grown hturn3.grown (fun k hk => .inl (by cases hk; simp))
    have hmap : MapAt w3 mb (dropK x.L k) := map_del hI hM hm (len_dropK h.ok.nl hm) hown3
    clear hB2 HH H0 HI HD HF HO HP HE HM HX hH hB1 c0 c2
    generalize Value.slice oa1 (x.ks.eraseIdx n).length cap1 = v' at *
    generalize Value.slice oa x.ks.length cap = lv at *
    have hks : ({ x with L := dropK x.L k } : Clk).ks = x.ks.eraseIdx n := (kofs_dropK h.ok.nl k).trans hE.symm
    refine ⟨rfl, ?_⟩
    rw [ckDrop, if_pos hX]
    refine turn_of h _ rfl rfl (h.ok.drop hm) (fun j hj => h.wf j ?_) (hB2'.fr hF3 (by simpa using h.ne)) hmap (hks ▸ plan_fr (plan_fr hP hF2 ?_) hF3 ?_) (plan_fr (plan_fr (plan_fr h.g hF1 ?_) hF2 ?_) hF3 ?_) ?_ (.inl hO) (.inl rfl) (fun i hi => (h.nl i (hO ▸ hi)).2.2.1)
    · rw [hks] at hj
      exact List.mem_of_mem_eraseIdx hj
    · intro g hg
      simpa using (h.nl g (hO ▸ hg)).1
    · intro g hg
      simpa using (h.nl g (hO ▸ hg)).2.1
    · intro g hg hi
      exact (h.nl g (by simpa using hi)).2.2.1 hg
    · intro g hg
      simpa using (h.ng g hg).1
    · intro g hg
      simpa using (h.ng g hg).2.1
    · refine ((hF1.sub (T := clkD b mb lv gv) ?_).trans (hF2.sub ?_)).trans (hF3.sub ?_)
      · intro i hi
        exact .inl (mem_clkD.2 (.inr (.inr (.inl (by simpa using hi)))))
      · intro i hi
        exact .inl (mem_clkD.2 (.inl (by simpa using hi)))
      · intro i hi
        exact .inl (mem_clkD.2 (.inr (.inl (by simpa using hi))))
end Go.Proofs.Ythhkgknolclakaa
