/- PagesBack: the walk. -/
import Derived.Test.YtgmjhpappamenaaDoorPageN
namespace Go.Proofs.YtgmjhpappamenaaDoor
open Go.RowKit Go.Shelf

theorem IsRow.keep {S : List Nat} {w w' : World} {oa : Option Addr} {cs : List Value} (h : IsRow w oa cs) (hF : Fr S w w') (hS : ∀ i, i ∈ S → w.heap.size ≤ i) : IsRow w' oa cs := by
  intro j v hj
  obtain ⟨b, off, he, h0⟩ := h j v hj
  refine ⟨b, off, he, cell_fr hF (fun hm => ?_) h0⟩
  have h1 := World.block_lt_of_cell? w _ h0
  have h2 := hS _ hm
  simp only at h1 h2
  omega
theorem sv_form (F : List (List Nat)) (a n which : Nat) (seq : Int) (l : List En) (hr : pgE F.length ((a : Int) + which * n) n = 0) :
    ∃ F1 f, pgSv (calm 30 [] F) a n which seq l = (calm 30 [] F1, f) ∧ F1.length = F.length ∧ (f = 0 → F1 = putF F (a + which * n) (pgAll l seq n) ∧ needN l.length ≤ n ∧ ∀ k, k < needN l.length → pgEr l seq k = 0) := by
  obtain ⟨s', n', h1, h2, hn1, hsn⟩ := pgE_in hr
  rcases sv_ok F a n which seq l hr with ⟨er, h0, h⟩ | ⟨h, hn, hz⟩
  · exact ⟨F, er, h, rfl, fun h => absurd h h0⟩
  · refine ⟨_, 0, h, putF_len _ _ _ ?_, fun _ => ⟨rfl, hn, hz⟩⟩
    rw [pgAll_len]
    have e : (a : Int) + which * n = ((a + which * n : Nat) : Int) := by push_cast; rfl
    omega
def fresh30 : List (List Nat) := List.replicate 30 zero64
theorem nw_fresh (a p : Nat) (ha : a ≤ 10) (hp1 : 1 ≤ p) (hp : p ≤ 10) : pgNw (calm 30 [] fresh30) a p = ⟨calm 30 [] fresh30, 0, 0, [], 14⟩ := by
  have hl : fresh30.length = 30 := rfl
  rw [nw_ok fresh30 a p (by unfold pgE; rw [hl, if_neg (by omega)])]
  have e : ∀ s, s + p ≤ 30 → (fresh30.drop s).take p = List.replicate p zero64 := fun s hs => by
    unfold fresh30; rw [List.drop_replicate, List.take_replicate, Nat.min_eq_left (by omega)]
  rw [e a (by omega), e (a + p) (by omega), jR_zero]
  rfl
/-- what two saved checkpoints tell -/
theorem two_back (F F1 F2 : List (List Nat)) (a p : Nat) (s0 s1 : Int) (l0 l1 : List En) (hF : F.length = 30) (ha : a ≤ 10) (hp1 : 1 ≤ p) (hp : p ≤ 10)
    (h0 : F1 = putF F a (pgAll l0 s0 p) ∧ needN l0.length ≤ p ∧ ∀ k, k < needN l0.length → pgEr l0 s0 k = 0)
    (h1 : F2 = putF F1 (a + p) (pgAll l1 s1 p) ∧ needN l1.length ≤ p ∧ ∀ k, k < needN l1.length → pgEr l1 s1 k = 0) :
    pgRd (calm 30 [] F2) a p = ⟨calm 30 [] F2, s0, l0, 0⟩ ∧ pgRd (calm 30 [] F2) (a + p) p = ⟨calm 30 [] F2, s1, l1, 0⟩ ∧
    pgNw (calm 30 [] F2) a p = if s0 < s1 then ⟨calm 30 [] F2, 1, s1, l1, 0⟩ else ⟨calm 30 [] F2, 0, s0, l0, 0⟩ := by
  have hL0 := pgAll_len l0 s0 p
  have hL1 := pgAll_len l1 s1 p
  have hl1 : F1.length = 30 := by rw [h0.1, putF_len _ _ _ (by omega), hF]
  have hl2 : F2.length = 30 := by rw [h1.1, putF_len _ _ _ (by omega), hl1]
  have r1 : (F2.drop (a + p)).take p = pgAll l1 s1 p := by
    rw [h1.1]; have := putF_read F1 (pgAll l1 s1 p) (a + p) (by omega); rwa [hL1] at this
  have r0 : (F2.drop a).take p = pgAll l0 s0 p := by
    rw [h1.1, putF_ahead F1 _ (a + p) a p (by omega) (by omega), h0.1]
    have := putF_read F (pgAll l0 s0 p) a (by omega); rwa [hL0] at this
  obtain ⟨x1, x2, x3⟩ := pgAll_back l0 s0 p h0.2.1 h0.2.2
  obtain ⟨y1, y2, y3⟩ := pgAll_back l1 s1 p h1.2.1 h1.2.2
  refine ⟨?_, ?_, ?_⟩
  · rw [rd_ok F2 a p (by unfold pgE; rw [if_neg (by omega)]), r0, x1, x2, x3]; rfl
  · have e : (a : Int) + (p : Nat) = ((a + p : Nat) : Int) := by omega
    rw [e, rd_ok F2 (a + p) p (by unfold pgE; rw [if_neg (by omega)]), r1, y1, y2, y3]; rfl
  · rw [nw_ok F2 a p (by unfold pgE; rw [if_neg (by omega)]), r0, r1, x1, x2, x3, y1, y2, y3]
    unfold nwOf
    simp only [if_true]
    rw [if_neg (by omega)]
theorem owns_row {w : World} {base e size : Nat} {v : Value} {n : Nat} {xs : List Value} (h : w.ownsRow base e size v n xs) : ∃ oa cap, v = .slice oa n cap ∧ IsRow w oa xs := by
  obtain ⟨hl, ⟨rfl, rfl⟩ | ⟨g, cap, cur, rfl, hg, hh, _, _, _, ht⟩⟩ := h
  · refine ⟨none, 0, rfl, fun j v hj => ?_⟩
    have := (List.getElem?_eq_some_iff.1 hj).1
    omega
  · refine ⟨_, cap, rfl, fun j v hj => ⟨g, 0, rfl, ?_⟩⟩
    have hb : Blk w g e cur := hh
    rw [Nat.zero_add]
    exact hb.cell (take_get ht hj)
theorem owns_isrow {w : World} {base e size n cap : Nat} {oa : Option Addr} {xs : List Value} (h : w.ownsRow base e size (.slice oa n cap) n xs) : IsRow w oa xs := by
  obtain ⟨oa', cap', he, hr⟩ := owns_row h
  cases he
  exact hr
set_option maxRecDepth 100000 in
set_option maxHeartbeats 1000000 in
theorem PagesBack_in (a p : Nat) (s0 s1 : Int) (oa0 oa1 : Option Addr) (cap0 cap1 : Nat) (l0 l1 : List En) (w : World) (hH : Halves w) (h0 : IsRow w oa0 (ensC l0)) (h1 : IsRow w oa1 (ensC l1)) (hc0 : l0.length ≤ cap0) (hc1 : l1.length ≤ cap1)
    (ha : a ≤ 10) (hp1 : 1 ≤ p) (hp : p ≤ 10) (hl0 : l0.length ≤ 40) (hl1 : l1.length ≤ 40) :
    Calls Tryd.prog 4 #[.agg #[.int .i64 (a : Nat), .int .i64 (p : Nat)], .agg #[.slice oa0 l0.length cap0, .slice oa1 l1.length cap1], .agg #[.int .i64 s0, .int .i64 s1]] w fun e w' => e = .returned (.bool true) ∧ Fr [] w w' := by
  have g1 : decide (((a : Nat) : Int) < 0) = false := by simp
  have g2 : decide ((10 : Int) < (a : Nat)) = false := by simp; omega
  have g3 : decide (((p : Nat) : Int) < 1) = false := by simp; omega
  have g4 : decide ((10 : Int) < (p : Nat)) = false := by simp; omega
  have g5 : decide ((40 : Int) < (l0.length : Nat)) = false := by simp; omega
  have g6 : decide ((40 : Int) < (l1.length : Nat)) = false := by simp; omega
  have H0 := Lib.hid h0
  have H1 := Lib.hid h1
  have HH := Lib.hid hH
  have hFw := (((Fr.refl [] w).alloc (.cells #[.int .i64 (a : Nat), .int .i64 (p : Nat)] 22)).alloc (.cells #[.slice oa0 l0.length cap0, .slice oa1 l1.length cap1] 35)).alloc (.cells #[.int .i64 s0, .int .i64 s1] 22)
  have hA := ((Blk.new w #[.int .i64 (a : Nat), .int .i64 (p : Nat)] 22).alloc (.cells #[.slice oa0 l0.length cap0, .slice oa1 l1.length cap1] 35)).alloc (.cells #[.int .i64 s0, .int .i64 s1] 22)
  have hB := (blk_at (w.alloc (.cells #[.int .i64 (a : Nat), .int .i64 (p : Nat)] 22)) #[.slice oa0 l0.length cap0, .slice oa1 l1.length cap1] 35 (w.heap.size + 1) (by simp)).alloc (.cells #[.int .i64 s0, .int .i64 s1] 22)
  have hC := blk_at ((w.alloc (.cells #[.int .i64 (a : Nat), .int .i64 (p : Nat)] 22)).alloc (.cells #[.slice oa0 l0.length cap0, .slice oa1 l1.length cap1] 35)) #[.int .i64 s0, .int .i64 s1] 22 (w.heap.size + 1 + 1) (by simp)
  generalize hW : (((w.alloc (.cells #[.int .i64 (a : Nat), .int .i64 (p : Nat)] 22)).alloc (.cells #[.slice oa0 l0.length cap0, .slice oa1 l1.length cap1] 35)).alloc (.cells #[.int .i64 s0, .int .i64 s1] 22)) = W0 at *
  have hsW : W0.heap.size = w.heap.size + 3 := by rw [← hW]; simp
  have HW := Lib.hid hW
  have HSW := Lib.hid hsW
  have HFw := Lib.hid hFw
  have HC := Lib.hid (fun (W : World) (hF : Fr [] W0 W) => And.intro ((hA.fr hF (by simp)).cell (i := 0) rfl) (And.intro ((hA.fr hF (by simp)).cell (i := 1) rfl) (And.intro ((hB.fr hF (by simp)).cell (i := 0) rfl) (And.intro ((hB.fr hF (by simp)).cell (i := 1) rfl) (And.intro ((hC.fr hF (by simp)).cell (i := 0) rfl) ((hC.fr hF (by simp)).cell (i := 1) rfl))))))
  have HB := Lib.hid (And.intro ha (And.intro hp1 (And.intro hp (And.intro hl0 (And.intro hl1 (And.intro hc0 hc1))))))
  clear hA hB hC hFw hsW hW h0 h1 hH hc0 hc1 hl0 hl1 ha hp1 hp
  go_enter Tryd.func4, Tryd.ntmps4
  go_wp2_with fail
  have hF0 := Fr.refl [] W0
  rw [HW.out]
  refine (devNew_any 30 W0 (by omega) (by omega)).mono ?_
  rintro e w1 ⟨b, D1, rfl, hI1, hD1, hF1⟩
  have hI1 : IsDev w1 b D1 (calm 30 [] fresh30) := hI1
  have HF1 := Lib.hid hF1
  have HI1 := Lib.hid hI1
  have HD1 := Lib.hid hD1
  clear hF0 hF1 hI1 hD1
  have hh := HH.out.lt
  have HHA := Lib.hid (show ∀ W, Fr [] W0 W → Halves W from fun W hF => HH.out.keep (HFw.out.trans hF) (by simp))
  have HNH := Lib.hid (show ∀ i, W0.heap.size ≤ i → ¬ i = 0 from fun i hi => by have := HSW.out; omega)
  clear hh
  obtain ⟨a0, a1, b0, b1, c0, c1⟩ := HC.out w1 HF1.out
  go_wp2_with fail
  have hB := HB.out
  refine (pgNewest_any b D1 (calm 30 [] fresh30) a p w1 HI1.out (by simp [calm]) (HHA.out w1 HF1.out) (fun i hi => HNH.out i (HD1.out i hi)) (by omega) (by omega) (by omega) (by omega)).mono ?_
  rw [nw_fresh a p hB.1 hB.2.1 hB.2.2.1]
  rintro e w2 ⟨sv2, rfl, hown2, D2, hI2, hF2, hD2⟩
  have hF2 : Fr [] W0 w2 := HF1.out.comp hF2 (fun i hi => .inr (HD1.out i hi))
  obtain ⟨oa2, cap2, rfl⟩ := owns_form0 hown2
  have HI2 := Lib.hid hI2
  have HF2 := Lib.hid hF2
  have HD2 := Lib.hid (fun i (hi : i ∈ D2) => HD1.out i (hD2 i hi))
  clear hI2 hF2 hD2 hown2 a0 a1 b0 b1 c0 c1
  obtain ⟨a0, a1, b0, b1, c0, c1⟩ := HC.out w2 HF2.out
  go_wp2_with fail
  obtain ⟨F1, f, e1, hl1, hf⟩ := sv_form fresh30 a p 0 s0 l0 (by unfold pgE; rw [show fresh30.length = 30 from rfl, if_neg (by omega)])
  have e1 : pgSv (calm 30 [] fresh30) a p 0 s0 l0 = (calm 30 [] F1, f) := e1
  refine (pgSave_any b D2 (calm 30 [] fresh30) a p 0 s0 oa0 cap0 l0 w2 HI2.out (H0.out.keep (HFw.out.trans HF2.out) (by simp)) (by omega) (by omega) (HHA.out w2 HF2.out) (by simp [calm]) (by omega) (by omega) (by omega) (by omega) (.inl rfl)).mono ?_
  rw [e1]
  rintro e w3 ⟨rfl, D3, hI3, hF3, hD3⟩
  have HF3 := Lib.hid (HF2.out.comp hF3 (fun i hi => .inr (HD2.out i hi)))
  have HD3 := Lib.hid (show ∀ i, i ∈ D3 → W0.heap.size ≤ i from fun i hi => by rcases hD3 i hi with h | h; exact HD2.out i h; have := HF2.out.size; omega)
  have HI3 := Lib.hid hI3
  have HF := Lib.hid hf
  have HL1 := Lib.hid hl1
  clear hI3 hF3 hD3 a0 a1 b0 b1 c0 c1 e1 hf hl1
  obtain ⟨a0, a1, b0, b1, c0, c1⟩ := HC.out w3 HF3.out
  go_wp2_with fail
  obtain ⟨F2, g, e2, hl2, hg⟩ := sv_form F1 a p 1 s1 l1 (by unfold pgE; rw [HL1.out, show fresh30.length = 30 from rfl, if_neg (by omega)])
  have e2 : pgSv (calm 30 [] F1) a p 1 s1 l1 = (calm 30 [] F2, g) := e2
  refine (pgSave_any b D3 (calm 30 [] F1) a p 1 s1 oa1 cap1 l1 w3 HI3.out (H1.out.keep (HFw.out.trans HF3.out) (by simp)) (by omega) (by omega) (HHA.out w3 HF3.out) (by simp [calm]) (by omega) (by omega) (by omega) (by omega) (.inr rfl)).mono ?_
  rw [e2]
  rintro e w4 ⟨rfl, D4, hI4, hF4, hD4⟩
  have HF4 := Lib.hid (HF3.out.comp hF4 (fun i hi => .inr (HD3.out i hi)))
  have HD4 := Lib.hid (show ∀ i, i ∈ D4 → W0.heap.size ≤ i from fun i hi => by rcases hD4 i hi with h | h; exact HD3.out i h; have := HF3.out.size; omega)
  have HI4 := Lib.hid hI4
  have HG := Lib.hid hg
  clear hI4 hF4 hD4 a0 a1 b0 b1 c0 c1 e2 hg hl2
  obtain ⟨a0, a1, b0, b1, c0, c1⟩ := HC.out w4 HF4.out
  by_cases hf0 : f = 0
  · by_cases hg0 : g = 0
    · subst hf0
      subst hg0
      have hF2eq := HG.out rfl
      rw [show a + 1 * p = a + p by omega] at hF2eq
      have hF1eq := HF.out rfl
      rw [show a + 0 * p = a by omega] at hF1eq
      obtain ⟨t1, t2, t3⟩ := two_back fresh30 F1 F2 a p s0 s1 l0 l1 rfl (by omega) (by omega) (by omega) hF1eq hF2eq
      have HT := Lib.hid (And.intro t1 (And.intro t2 t3))
      clear t1 t2 t3 hF1eq hF2eq
      go_wp2_with fail
      have hr := pgRead_any b D4 (calm 30 [] F2) a p w4 HI4.out (by simp [calm]) (HHA.out w4 HF4.out) (fun i hi => HNH.out i (HD4.out i hi))
      rw [HT.out.1] at hr
      refine hr.mono ?_
      rintro e w5 ⟨sv5, rfl, hown5, D5, hI5, hF5, hD5⟩
      obtain ⟨oa5, cap5, rfl, hr5⟩ := owns_row hown5
      have HR5 := Lib.hid hr5
      have HF5 := Lib.hid (HF4.out.comp hF5 (fun i hi => .inr (HD4.out i hi)))
      have HD5 := Lib.hid (fun i (hi : i ∈ D5) => HD4.out i (hD5 i hi))
      have HD54 := Lib.hid hD5
      have HI5 := Lib.hid hI5
      have HO5 := Lib.hid hown5
      clear hr hown5 hI5 hF5 hD5 hr5 a0 a1 b0 b1 c0 c1
      obtain ⟨a0, a1, b0, b1, c0, c1⟩ := HC.out w5 HF5.out
      go_wp2_with fail
      have hr := pgRead_any b D5 (calm 30 [] F2) ((a : Int) + p) p w5 HI5.out (by simp [calm]) (HHA.out w5 HF5.out) (fun i hi => HNH.out i (HD5.out i hi))
      rw [HT.out.2.1] at hr
      refine hr.mono ?_
      rintro e w6 ⟨sv6, rfl, hown6, D6, hI6, hF6, hD6⟩
      obtain ⟨oa6, cap6, rfl, hr6⟩ := owns_row hown6
      have HF6 := Lib.hid (HF5.out.comp hF6 (fun i hi => .inr (HD5.out i hi)))
      have HD6 := Lib.hid (fun i (hi : i ∈ D6) => HD5.out i (hD6 i hi))
      have HI6 := Lib.hid hI6
      have HR56 := Lib.hid (show IsRow w6 oa5 (ensC l0) from owns_isrow (owns_fr HO5.out hF6 (fun q hq hm => by have := owns_ge HO5.out q hq; have := HI4.out.lt q (HD54.out q hm); omega)))
      have HR6 := Lib.hid hr6
      clear hr hown6 hI6 hF6 hD6 hr6 a0 a1 b0 b1 c0 c1
      obtain ⟨a0, a1, b0, b1, c0, c1⟩ := HC.out w6 HF6.out
      go_wp2_with fail
      refine (Same_any l0 oa5 oa0 cap5 cap0 w6 HR56.out (H0.out.keep (HFw.out.trans HF6.out) (by simp)) (by omega)).mono ?_
      rintro e w7 ⟨rfl, hF7⟩
      have HF7 := Lib.hid (HF6.out.trans hF7)
      have HR67 := Lib.hid (HR6.out.fr hF7 (by simp))
      have HI7 := Lib.hid (HI6.out.fr hF7 (by simp))
      clear hF7 a0 a1 b0 b1 c0 c1
      obtain ⟨a0, a1, b0, b1, c0, c1⟩ := HC.out w7 HF7.out
      go_wp2_with fail
      refine (Same_any l1 oa6 oa1 cap6 cap1 w7 HR67.out (H1.out.keep (HFw.out.trans HF7.out) (by simp)) (by omega)).mono ?_
      rintro e w8 ⟨rfl, hF8⟩
      have HF8 := Lib.hid (HF7.out.trans hF8)
      have HI8 := Lib.hid (HI7.out.fr hF8 (by simp))
      clear hF8 a0 a1 b0 b1 c0 c1
      obtain ⟨a0, a1, b0, b1, c0, c1⟩ := HC.out w8 HF8.out
      go_wp2_with fail
      refine (devOpen_any b D6 (calm 30 [] F2) w8 HI8.out).mono ?_
      rintro e w9 ⟨rfl, rfl⟩
      rw [show (calm 30 [] F2).O.length = 0 from rfl]
      go_wp2_with fail
      have hr := pgNewest_any b D6 (calm 30 [] F2) a p w8 HI8.out (by simp [calm]) (HHA.out w8 HF8.out) (fun i hi => HNH.out i (HD6.out i hi)) (by omega) (by omega) (by omega) (by omega)
      rw [HT.out.2.2] at hr
      by_cases hlt : s0 < s1
      · have d1 : decide (s1 > s0) = true := by simpa using hlt
        rw [if_pos hlt] at hr
        refine hr.mono ?_
        rintro e w9 ⟨sv9, rfl, hown9, D9, hI9, hF9, hD9⟩
        clear hr
        obtain ⟨oa9, cap9, rfl, hr9⟩ := owns_row hown9
        have HR9 := Lib.hid hr9
        have HF9 := Lib.hid (HF8.out.comp hF9 (fun i hi => .inr (HD6.out i hi)))
        clear hown9 hI9 hF9 hD9 hr9 a0 a1 b0 b1 c0 c1
        obtain ⟨a0, a1, b0, b1, c0, c1⟩ := HC.out w9 HF9.out
        go_wp2_with fail
        refine (Same_any l1 oa9 oa1 cap9 cap1 w9 HR9.out (H1.out.keep (HFw.out.trans HF9.out) (by simp)) (by omega)).mono ?_
        rintro e w10 ⟨rfl, hF10⟩
        have HF10 := Lib.hid (HF9.out.trans hF10)
        clear hF10
        go_wp2_with fail
        refine (awake13_any _).mono ?_
        rintro e w11 ⟨rfl, rfl⟩
        go_wp2_with fail
        go_ret
        exact ⟨rfl, HFw.out.trans HF10.out⟩
      · have d1 : decide (s1 > s0) = false := by simpa using hlt
        rw [if_neg hlt] at hr
        refine hr.mono ?_
        rintro e w9 ⟨sv9, rfl, hown9, D9, hI9, hF9, hD9⟩
        clear hr
        obtain ⟨oa9, cap9, rfl, hr9⟩ := owns_row hown9
        have HR9 := Lib.hid hr9
        have HF9 := Lib.hid (HF8.out.comp hF9 (fun i hi => .inr (HD6.out i hi)))
        clear hown9 hI9 hF9 hD9 hr9 a0 a1 b0 b1 c0 c1
        obtain ⟨a0, a1, b0, b1, c0, c1⟩ := HC.out w9 HF9.out
        go_wp2_with fail
        refine (Same_any l0 oa9 oa0 cap9 cap0 w9 HR9.out (H0.out.keep (HFw.out.trans HF9.out) (by simp)) (by omega)).mono ?_
        rintro e w10 ⟨rfl, hF10⟩
        have HF10 := Lib.hid (HF9.out.trans hF10)
        clear hF10
        go_wp2_with fail
        refine (awake13_any _).mono ?_
        rintro e w11 ⟨rfl, rfl⟩
        go_wp2_with fail
        go_ret
        exact ⟨rfl, HFw.out.trans HF10.out⟩
    · have q1 : (f != 0) = false := by simp [hf0]
      have q2 : (g != 0) = true := by simpa using hg0
      go_wp2_with fail
      refine (awake13_any _).mono ?_
      rintro e w5 ⟨rfl, rfl⟩
      go_wp2_with fail
      go_ret
      exact ⟨rfl, HFw.out.trans HF4.out⟩
  · have q1 : (f != 0) = true := by simpa using hf0
    go_wp2_with fail
    refine (awake13_any _).mono ?_
    rintro e w5 ⟨rfl, rfl⟩
    go_wp2_with fail
    go_ret
    exact ⟨rfl, HFw.out.trans HF4.out⟩
end Go.Proofs.YtgmjhpappamenaaDoor
