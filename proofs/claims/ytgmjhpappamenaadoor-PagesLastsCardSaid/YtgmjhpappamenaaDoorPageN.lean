/- pages: Save, Newest. -/
import Derived.Test.YtgmjhpappamenaaDoorPageH
namespace Go.Proofs.YtgmjhpappamenaaDoor
open Go.RowKit Go.Shelf

/-- what is left, and what is wrong -/
def pgSv (x : Dev) (base pages which seq : Int) (l : List En) : Dev × Int :=
  if (pgWr x (base + which * pages) pages seq l).2 = 0 then (devFlush (pgWr x (base + which * pages) pages seq l).1, devR ((pgWr x (base + which * pages) pages seq l).1.P.headD 0) 21)
  else pgWr x (base + which * pages) pages seq l
set_option maxRecDepth 100000 in
set_option maxHeartbeats 1000000 in
theorem pgSave_any (b : Nat) (D : List Nat) (x : Dev) (base pages which seq : Int) (oa : Option Addr) (cap : Nat) (l : List En) (w : World) (h : IsDev w b D x) (hE : IsRow w oa (ensC l)) (hc : l.length ≤ cap) (hl : l.length ≤ 1099511627776) (hH : Halves w)
    (hO : (x.O.length + 4097) * 72 ≤ 140737488355328) (hb0 : 0 ≤ base) (hb1 : base ≤ 100000) (hp0 : 0 ≤ pages) (hp1 : pages ≤ 100000) (hw : which = 0 ∨ which = 1) :
    Calls Tryd.prog 12 #[.pointer (some ⟨b, 0, none⟩), .int .i64 base, .int .i64 pages, .int .i64 which, .int .i64 seq, .slice oa l.length cap] w fun e w' => e = .returned (.int .i64 (pgSv x base pages which seq l).2) ∧
      ∃ D', IsDev w' b D' (pgSv x base pages which seq l).1 ∧ Fr D w w' ∧ ∀ i, i ∈ D' → i ∈ D ∨ w.heap.size ≤ i := by
  have HW := Lib.hid (pgWrite_any b D x (base + which * pages) pages seq oa cap l w h hE hc hl hH hO)
  have HF := Lib.hid (fun D' x' W h => devFlush_any b D' x' W h)
  have hHD := Lib.hid h.lt
  clear h hE hc hl hH hO
  unfold pgSv
  generalize pgWr x (base + which * pages) pages seq l = r at *
  have hm : 0 ≤ which * pages ∧ which * pages ≤ 100000 := by rcases hw with rfl | rfl <;> omega
  obtain ⟨hm0, hm1⟩ := hm
  obtain ⟨y, er⟩ := r
  by_cases he : er = 0
  · subst he
    simp only [if_true]
    generalize hq : devR (y.P.headD 0) 21 = q at *
    have HQ := Lib.hid hq
    clear hq
    have hww : Hid (which = 0 ∨ which = 1) := Lib.hid hw
    rcases hw with rfl | rfl
    all_goals
      go_enter Tryd.func12, Tryd.ntmps12
      go_wp2_with fail
      simp only [Int.zero_mul, Int.one_mul, Int.add_zero] at HW
      refine HW.out.mono ?_
      rintro e w1 ⟨rfl, D1, hI1, hF1, hD1⟩
      have HI1 := Lib.hid (And.intro hI1 (And.intro hF1 hD1))
      clear hI1 hF1 hD1
      go_wp2_with fail
      refine (HF.out D1 y _ HI1.out.1).mono ?_
      rintro e w2 ⟨rfl, D2, hI2, hF2, hD2⟩
      rw [HQ.out]
      have HI2 := Lib.hid (And.intro hI2 (And.intro hF2 hD2))
      clear hI2 hF2 hD2
      go_wp2
      go_ret
      exact ⟨rfl, D2, HI2.out.1, HI1.out.2.1.comp HI2.out.2.1 (fun i hi => HI1.out.2.2 i hi), fun i hi => HI1.out.2.2 i (HI2.out.2.2 i hi)⟩
  · simp only [if_neg he]
    have b1 : (er != 0) = true := by simpa using he
    rcases hw with rfl | rfl
    all_goals
      go_enter Tryd.func12, Tryd.ntmps12
      go_wp2_with fail
      simp only [Int.zero_mul, Int.one_mul, Int.add_zero] at HW
      refine HW.out.mono ?_
      rintro e w1 ⟨rfl, D1, hI1, hF1, hD1⟩
      have HI1 := Lib.hid (And.intro hI1 (And.intro hF1 hD1))
      clear hI1 hF1 hD1
      go_wp2_with fail
      go_ret
      exact ⟨rfl, D1, HI1.out.1, HI1.out.2.1, HI1.out.2.2⟩
end Go.Proofs.YtgmjhpappamenaaDoor

/- pages: Newest. -/
namespace Go.Proofs.YtgmjhpappamenaaDoor
open Go.RowKit Go.Shelf

theorem res_tmps4 {P : Program} {w : World} {fn : Func} {p q r u : Tmp} (h : fn.results = #[.tmp p, .tmp q, .tmp r, .tmp u]) (tmps : Array Value) :
    (results fn tmps).run P w = .ok (.tuple #[tmps.getD p undef, tmps.getD q undef, tmps.getD r undef, tmps.getD u undef]) w := by
  simp only [results, h]
  simp [Sem.run_bind, Result.andThen]
structure NwOut where
  dev : Dev
  which : Int
  seq : Int
  es : List En
  er : Int
/-- the newer one of what two reads told -/
def nwOf (y : Dev) (r0 r1 : RdOut) : NwOut :=
  if r0.er = 0 then (if r1.er = 14 then ⟨r1.dev, 0, r0.seq, r0.es, 0⟩ else if r1.er = 0 then (if r0.seq < r1.seq then ⟨r1.dev, 1, r1.seq, r1.es, 0⟩ else ⟨r1.dev, 0, r0.seq, r0.es, 0⟩) else ⟨r1.dev, 0, 0, [], r1.er⟩)
  else if r0.er = 14 then (if r1.er = 14 then ⟨r1.dev, 0, 0, [], 14⟩ else if r1.er = 0 then ⟨r1.dev, 1, r1.seq, r1.es, 0⟩ else ⟨r1.dev, 0, 0, [], r1.er⟩)
  else ⟨y, 0, 0, [], r0.er⟩
def pgNw (x : Dev) (base pages : Int) : NwOut :=
  if (x.F.length : Int) < pages then ⟨x, 0, 0, [], 10⟩
  else if pgE x.F.length base (2 * pages) = 0 then nwOf (pgRd x base pages).dev (pgRd x base pages) (pgRd (pgRd x base pages).dev (base + pages) pages)
  else ⟨x, 0, 0, [], pgE x.F.length base (2 * pages)⟩
def NwPost (b : Nat) (D : List Nat) (w : World) (r : NwOut) (e : Ending) (w' : World) : Prop :=
  ∃ sv, e = .returned (.tuple #[.int .i64 r.which, .int .i64 r.seq, sv, .int .i64 r.er]) ∧ w'.ownsRow w.heap.size 83 4 sv r.es.length (ensC r.es) ∧ ∃ D', IsDev w' b D' r.dev ∧ Fr D w w' ∧ ∀ i, i ∈ D' → i ∈ D
theorem pgRd_F (x : Dev) (base pages : Int) : (pgRd x base pages).dev.F = x.F ∧ (pgRd x base pages).dev.O = x.O := by
  unfold pgRd
  split
  · split
    · exact rdN_F _ _ _
    · split
      · exact rdN_F _ _ _
      · exact rdN_F _ _ _
  · exact ⟨rfl, rfl⟩
set_option maxRecDepth 100000 in
set_option maxHeartbeats 1000000 in
theorem pgNewest_any (b : Nat) (D : List Nat) (x : Dev) (base pages : Int) (w : World) (h : IsDev w b D x) (hO : (x.O.length + 1) * 72 ≤ 140737488355328) (hH : Halves w) (hHD : ∀ i, i ∈ D → ¬ i = 0)
    (hb0 : 0 ≤ base) (hb1 : base ≤ 100000) (hp0 : 0 ≤ pages) (hp1 : pages ≤ 100000) :
    Calls Tryd.prog 13 #[.pointer (some ⟨b, 0, none⟩), .int .i64 base, .int .i64 pages] w (NwPost b D w (pgNw x base pages)) := by
  have hn2 := (by obtain ⟨bf, ov, pv, _, h⟩ := h; exact h.n2 : x.F.length ≤ 4096)
  have HDl := Lib.hid h.lt
  have HS := Lib.hid (devSize_any b D x w h)
  have HC := Lib.hid (pgCheck_any b D x base (2 * pages) w h)
  have HR0 := Lib.hid (pgRead_any b D x base pages w h hO hH hHD)
  have hF0 := pgRd_F x base pages
  have HR1 := Lib.hid (fun D' W (h : IsDev W b D' (pgRd x base pages).dev) h2 h3 => pgRead_any b D' (pgRd x base pages).dev (base + pages) pages W h (by rw [hF0.2]; exact hO) h2 h3)
  have HHH := Lib.hid hH
  have HHD := Lib.hid hHD
  have HI := Lib.hid h
  generalize hN : pgNw x base pages = N
  have HN := Lib.hid hN
  clear hN hF0 h hO hH hHD
  unfold pgNw at HN
  unfold NwPost
  by_cases h1 : (x.F.length : Int) < pages
  · have hn := HN.out
    rw [if_pos h1] at hn
    subst hn
    generalize x.F.length = z at *
    go_enter Tryd.func13, Tryd.ntmps13
    go_wp2_with fail
    refine HS.out.mono ?_
    rintro e w1 ⟨rfl, rfl⟩
    go_wp2_with fail
    exact bodyPost_ret (res_tmps4 Tryd.results13 _) rfl ⟨_, rfl, World.ownsRow_nil _ _ _ _, D, HI.out, Fr.refl _ _, fun i hi => hi⟩
  · rw [if_neg h1] at HN
    by_cases h2 : pgE x.F.length base (2 * pages) = 0
    · rw [if_pos h2] at HN
      rw [h2] at HC
      generalize pgRd x base pages = r0 at *
      generalize pgRd r0.dev (base + pages) pages = r1 at *
      obtain ⟨d0, s0, l0, e0⟩ := r0
      obtain ⟨d1, s1, l1, e1⟩ := r1
      generalize x.F.length = z at *
      go_enter Tryd.func13, Tryd.ntmps13
      go_wp2_with fail
      refine HS.out.mono ?_
      rintro e w1 ⟨rfl, rfl⟩
      go_wp2_with fail
      refine HC.out.mono ?_
      rintro e w1 ⟨rfl, rfl⟩
      go_wp2_with fail
      refine wp_loop_rounds 3 ?_
      rw [rounds_succ]
      go_wp2_with fail
      refine HR0.out.mono ?_
      rintro e w1 ⟨sv0, rfl, hown0, D0, hI0, hF0, hD0⟩
      obtain ⟨oa0, cap0, rfl⟩ := owns_form0 hown0
      have HO0 := Lib.hid hown0
      have HI0 := Lib.hid (And.intro hI0 (And.intro hF0 hD0))
      clear hown0 hI0 hF0 hD0
      by_cases e00 : e0 = 0
      · subst e00
        go_wp2_with fail
        rw [rounds_succ]
        go_wp2_with fail
        have hI0' := HI0.out.1
        refine (HR1.out D0 _ HI0.out.1 (HHH.out.keep HI0.out.2.1 HHD.out) (fun i hi => HHD.out i (HI0.out.2.2 i hi))).mono ?_
        rintro e w2 ⟨sv1, rfl, hown1, D1, hI1, hF1, hD1⟩
        obtain ⟨oa1, cap1, rfl⟩ := owns_form0 hown1
        have HO1 := Lib.hid hown1
        have HI1 := Lib.hid (And.intro hI1 (And.intro hF1 hD1))
        have HO01 := Lib.hid (owns_fr HO0.out hF1 (fun g hg hm => by have := owns_ge HO0.out g hg; have := HDl.out g (HI0.out.2.2 g hm); omega))
        have HS1 := Lib.hid HI0.out.2.1.size
        clear hI0' hown1 hI1 hF1 hD1
        by_cases e14 : e1 = 14
        · subst e14
          have hn := HN.out
          simp only [nwOf, if_true, if_false, Int.reduceEq, show ¬ (14 : Int) = 0 by omega, show ¬ (0 : Int) = 14 by omega] at hn
          subst hn
          go_wp2_with fail
          rw [rounds_succ]
          go_wp2_with fail
          exact bodyPost_ret (res_tmps4 Tryd.results13 _) rfl ⟨_, rfl, HO01.out, D1, HI1.out.1, HI0.out.2.1.trans (HI1.out.2.1.sub (fun i hi => .inl (HI0.out.2.2 i hi))), fun i hi => HI0.out.2.2 i (HI1.out.2.2 i hi)⟩
        · by_cases e10 : e1 = 0
          · subst e10
            by_cases hlt : s0 < s1
            · have b2 : decide (s1 > s0) = true := by simpa using hlt
              have hn := HN.out
              simp only [nwOf, hlt, if_true, if_false, Int.reduceEq, show ¬ (14 : Int) = 0 by omega, show ¬ (0 : Int) = 14 by omega] at hn
              subst hn
              go_wp2_with fail
              rw [rounds_succ]
              go_wp2_with fail
              exact bodyPost_ret (res_tmps4 Tryd.results13 _) rfl ⟨_, rfl, owns_base HO1.out HS1.out, D1, HI1.out.1, HI0.out.2.1.trans (HI1.out.2.1.sub (fun i hi => .inl (HI0.out.2.2 i hi))), fun i hi => HI0.out.2.2 i (HI1.out.2.2 i hi)⟩
            · have b2 : decide (s1 > s0) = false := by simpa using hlt
              have hn := HN.out
              simp only [nwOf, hlt, if_true, if_false, Int.reduceEq, show ¬ (14 : Int) = 0 by omega, show ¬ (0 : Int) = 14 by omega] at hn
              subst hn
              go_wp2_with fail
              rw [rounds_succ]
              go_wp2_with fail
              exact bodyPost_ret (res_tmps4 Tryd.results13 _) rfl ⟨_, rfl, HO01.out, D1, HI1.out.1, HI0.out.2.1.trans (HI1.out.2.1.sub (fun i hi => .inl (HI0.out.2.2 i hi))), fun i hi => HI0.out.2.2 i (HI1.out.2.2 i hi)⟩
          · have b3 : (e1 == 14) = false := by simpa using e14
            have b4 : (e1 != 0) = true := by simpa using e10
            have hn := HN.out
            simp only [nwOf, e14, e10, if_true, if_false, Int.reduceEq, show ¬ (14 : Int) = 0 by omega, show ¬ (0 : Int) = 14 by omega] at hn
            subst hn
            go_wp2_with fail
            exact bodyPost_ret (res_tmps4 Tryd.results13 _) rfl ⟨_, rfl, World.ownsRow_nil _ _ _ _, D1, HI1.out.1, HI0.out.2.1.trans (HI1.out.2.1.sub (fun i hi => .inl (HI0.out.2.2 i hi))), fun i hi => HI0.out.2.2 i (HI1.out.2.2 i hi)⟩
      · by_cases e014 : e0 = 14
        · subst e014
          go_wp2_with fail
          rw [rounds_succ]
          go_wp2_with fail
          have hI0' := HI0.out.1
          refine (HR1.out D0 _ HI0.out.1 (HHH.out.keep HI0.out.2.1 HHD.out) (fun i hi => HHD.out i (HI0.out.2.2 i hi))).mono ?_
          rintro e w2 ⟨sv1, rfl, hown1, D1, hI1, hF1, hD1⟩
          obtain ⟨oa1, cap1, rfl⟩ := owns_form0 hown1
          have HO1 := Lib.hid hown1
          have HI1 := Lib.hid (And.intro hI1 (And.intro hF1 hD1))
          have HO01 := Lib.hid (owns_fr HO0.out hF1 (fun g hg hm => by have := owns_ge HO0.out g hg; have := HDl.out g (HI0.out.2.2 g hm); omega))
          have HS1 := Lib.hid HI0.out.2.1.size
          clear hI0' hown1 hI1 hF1 hD1
          by_cases e14 : e1 = 14
          · subst e14
            have hn := HN.out
            simp only [nwOf, if_true, if_false, Int.reduceEq, show ¬ (14 : Int) = 0 by omega, show ¬ (0 : Int) = 14 by omega] at hn
            subst hn
            go_wp2_with fail
            rw [rounds_succ]
            go_wp2_with fail
            exact bodyPost_ret (res_tmps4 Tryd.results13 _) rfl ⟨_, rfl, World.ownsRow_nil _ _ _ _, D1, HI1.out.1, HI0.out.2.1.trans (HI1.out.2.1.sub (fun i hi => .inl (HI0.out.2.2 i hi))), fun i hi => HI0.out.2.2 i (HI1.out.2.2 i hi)⟩
          · by_cases e10 : e1 = 0
            · subst e10
              have hn := HN.out
              simp only [nwOf, if_true, if_false, Int.reduceEq, show ¬ (14 : Int) = 0 by omega, show ¬ (0 : Int) = 14 by omega] at hn
              subst hn
              go_wp2_with fail
              rw [rounds_succ]
              go_wp2_with fail
              exact bodyPost_ret (res_tmps4 Tryd.results13 _) rfl ⟨_, rfl, owns_base HO1.out HS1.out, D1, HI1.out.1, HI0.out.2.1.trans (HI1.out.2.1.sub (fun i hi => .inl (HI0.out.2.2 i hi))), fun i hi => HI0.out.2.2 i (HI1.out.2.2 i hi)⟩
            · have b3 : (e1 == 14) = false := by simpa using e14
              have b4 : (e1 != 0) = true := by simpa using e10
              have hn := HN.out
              simp only [nwOf, e14, e10, if_true, if_false, Int.reduceEq, show ¬ (14 : Int) = 0 by omega, show ¬ (0 : Int) = 14 by omega] at hn
              subst hn
              go_wp2_with fail
              exact bodyPost_ret (res_tmps4 Tryd.results13 _) rfl ⟨_, rfl, World.ownsRow_nil _ _ _ _, D1, HI1.out.1, HI0.out.2.1.trans (HI1.out.2.1.sub (fun i hi => .inl (HI0.out.2.2 i hi))), fun i hi => HI0.out.2.2 i (HI1.out.2.2 i hi)⟩
        · have b3 : (e0 == 14) = false := by simpa using e014
          have b4 : (e0 != 0) = true := by simpa using e00
          have hn := HN.out
          simp only [nwOf, e00, e014, if_true, if_false, Int.reduceEq, show ¬ (14 : Int) = 0 by omega, show ¬ (0 : Int) = 14 by omega] at hn
          subst hn
          go_wp2_with fail
          exact bodyPost_ret (res_tmps4 Tryd.results13 _) rfl ⟨_, rfl, World.ownsRow_nil _ _ _ _, D0, HI0.out.1, HI0.out.2.1, HI0.out.2.2⟩
    · rw [if_neg h2] at HN
      have hn := HN.out
      subst hn
      generalize pgE x.F.length base (2 * pages) = er at *
      generalize x.F.length = z at *
      have b1 : (er != 0) = true := by simpa using h2
      go_enter Tryd.func13, Tryd.ntmps13
      go_wp2_with fail
      refine HS.out.mono ?_
      rintro e w1 ⟨rfl, rfl⟩
      go_wp2_with fail
      refine HC.out.mono ?_
      rintro e w1 ⟨rfl, rfl⟩
      go_wp2_with fail
      exact bodyPost_ret (res_tmps4 Tryd.results13 _) rfl ⟨_, rfl, World.ownsRow_nil _ _ _ _, D, HI.out, Fr.refl _ _, fun i hi => hi⟩
end Go.Proofs.YtgmjhpappamenaaDoor

/- pages: plain: what was put is what is told. -/
namespace Go.Proofs.YtgmjhpappamenaaDoor
open Go.RowKit Go.Shelf

theorem pos_of (ps : List (Int × Int)) (h0 : (putN ps ps.length).2 = 0) : ∀ k, k ≤ ps.length → (putN ps k).1.length = ((ps.map fun p => p.2.toNat).take k).sum := by
  intro k
  induction k with
  | zero => intro _; rfl
  | succ k ih =>
    intro hk
    obtain ⟨h1, _⟩ := putN_zero ps ps.length (ps.length - (k + 1)) (k + 1) (by omega) (Nat.le_refl _) h0
    have hs := putN_succ ps k (by omega)
    rw [hs] at h1
    have hz := putS_zero _ _ _ h1
    rw [hs, hz.2.2.2.2.2.2, List.length_append, bytesOf_len, ih (by omega), List.take_succ_eq_append_getElem (show k < (ps.map fun p => p.2.toNat).length by simp; omega), List.sum_append]
    simp
theorem nm_back (ps : List (Int × Int)) (h0 : (putN ps ps.length).2 = 0) (k a s : Nat) (n : Int) (hk : k < ps.length) (hp : ps[k]? = some (n, ((s : Nat) : Int))) (ha : ((ps.map fun p => p.2.toNat).take k).sum = a) :
    ((nm (sealed (putN ps ps.length).1) a s : Nat) : Int) = n := by
  obtain ⟨_, hp⟩ := List.getElem?_eq_some_iff.1 hp
  have hb := (take_back ps k hk h0).1
  have h1 := pos_of ps h0 k (by omega)
  rw [h1, ha, hp] at hb
  obtain ⟨h2, _⟩ := putN_zero ps ps.length (ps.length - (k + 1)) (k + 1) (by omega) (Nat.le_refl _) h0
  have hs := putN_succ ps k hk
  rw [hs] at h2
  have hz := putS_zero _ _ _ h2
  rw [h1, ha, hp] at hz
  unfold takeV at hb
  rw [if_pos rfl] at hb
  split at hb
  · simpa [nm] using hb
  · rename_i hw
    exfalso
    apply hw
    unfold wrongE
    have := hz.2
    rw [if_neg (by omega), if_neg (by omega)]
theorem flag_eq (d : Bool) : (flagN d == 1) = d ∧ flagN d ≤ 1 := by cases d <;> exact ⟨rfl, by decide⟩
theorem ent_back (B : List Nat) (a : Nat) (e : En) (a1 : ((nm B a 2 : Nat) : Int) = e.b) (a2 : ((nm B (a + 2) 2 : Nat) : Int) = e.s) (a3 : ((nm B (a + 4) 1 : Nat) : Int) = (flagN e.d : Nat)) (a4 : ((nm B (a + 5) 4 : Nat) : Int) = e.m) : enAt B a = e ∧ badAt B a = false := by
  have a3' : nm B (a + 4) 1 = flagN e.d := by omega
  have hf := flag_eq e.d
  constructor
  · unfold enAt
    rw [a1, a2, a4, a3', hf.1]
  · unfold badAt
    rw [a3']
    simp; omega
set_option maxRecDepth 100000 in
set_option maxHeartbeats 2000000 in
theorem page_back (q n o m : Int) (e0 e1 e2 e3 : En) (h : putEr 3 (pageR q n o m [e0, e1, e2, e3]) (pageNL q n o m [e0, e1, e2, e3]) = 0) :
    gpOk (putB 3 (pageR q n o m [e0, e1, e2, e3]) (pageNL q n o m [e0, e1, e2, e3])) = true ∧ gpV (putB 3 (pageR q n o m [e0, e1, e2, e3]) (pageNL q n o m [e0, e1, e2, e3])) = pageL q n o m (ensC [e0, e1, e2, e3]) ∧
    gpEs (putB 3 (pageR q n o m [e0, e1, e2, e3]) (pageNL q n o m [e0, e1, e2, e3])) = [e0, e1, e2, e3] := by
  unfold putEr at h
  split at h
  · rename_i hr
    rw [hr]
    unfold putB
    rw [if_pos rfl]
    unfold sealV
    rw [if_pos h]
    obtain ⟨ps, hps⟩ : ∃ ps, ps = ((3 : Int), (1 : Int)) :: pageNL q n o m [e0, e1, e2, e3] := ⟨_, rfl⟩
    have hlen : ps.length = 21 := by rw [hps]; rfl
    have hput : putSt 3 (pageNL q n o m [e0, e1, e2, e3]) = putN ps ps.length := by rw [hps]; rfl
    rw [hput] at h ⊢
    have hsz : (ps.map fun p => p.2.toNat) = [1, 6, 2, 2, 1, 2, 2, 1, 4, 2, 2, 1, 4, 2, 2, 1, 4, 2, 2, 1, 4] := by rw [hps]; simp [pageNL, headL, entsL, entL]
    have hN := nm_back ps h
    have pos := pos_of ps h
    generalize hB : sealed (putN ps ps.length).1 = B at *
    have p0 := hN 0 0 1 3 (by omega) (by rw [hps]; rfl) (by rw [hsz]; rfl)
    have p1 := hN 1 1 6 q (by omega) (by rw [hps]; rfl) (by rw [hsz]; rfl)
    have p2 := hN 2 7 2 n (by omega) (by rw [hps]; rfl) (by rw [hsz]; rfl)
    have p3 := hN 3 9 2 o (by omega) (by rw [hps]; rfl) (by rw [hsz]; rfl)
    have p4 := hN 4 11 1 m (by omega) (by rw [hps]; rfl) (by rw [hsz]; rfl)
    have f0 := ent_back B 12 e0 (hN 5 12 2 e0.b (by omega) (by rw [hps]; rfl) (by rw [hsz]; rfl)) (hN 6 14 2 e0.s (by omega) (by rw [hps]; rfl) (by rw [hsz]; rfl)) (hN 7 16 1 (flagN e0.d : Nat) (by omega) (by rw [hps]; rfl) (by rw [hsz]; rfl)) (hN 8 17 4 e0.m (by omega) (by rw [hps]; rfl) (by rw [hsz]; rfl))
    have f1 := ent_back B 21 e1 (hN 9 21 2 e1.b (by omega) (by rw [hps]; rfl) (by rw [hsz]; rfl)) (hN 10 23 2 e1.s (by omega) (by rw [hps]; rfl) (by rw [hsz]; rfl)) (hN 11 25 1 (flagN e1.d : Nat) (by omega) (by rw [hps]; rfl) (by rw [hsz]; rfl)) (hN 12 26 4 e1.m (by omega) (by rw [hps]; rfl) (by rw [hsz]; rfl))
    have f2 := ent_back B 30 e2 (hN 13 30 2 e2.b (by omega) (by rw [hps]; rfl) (by rw [hsz]; rfl)) (hN 14 32 2 e2.s (by omega) (by rw [hps]; rfl) (by rw [hsz]; rfl)) (hN 15 34 1 (flagN e2.d : Nat) (by omega) (by rw [hps]; rfl) (by rw [hsz]; rfl)) (hN 16 35 4 e2.m (by omega) (by rw [hps]; rfl) (by rw [hsz]; rfl))
    have f3 := ent_back B 39 e3 (hN 17 39 2 e3.b (by omega) (by rw [hps]; rfl) (by rw [hsz]; rfl)) (hN 18 41 2 e3.s (by omega) (by rw [hps]; rfl) (by rw [hsz]; rfl)) (hN 19 43 1 (flagN e3.d : Nat) (by omega) (by rw [hps]; rfl) (by rw [hsz]; rfl)) (hN 20 44 4 e3.m (by omega) (by rw [hps]; rfl) (by rw [hsz]; rfl))
    have hens : ensAt B 4 = [e0, e1, e2, e3] := by
      show [enAt B (12 + 9 * 0), enAt B (12 + 9 * 1), enAt B (12 + 9 * 2), enAt B (12 + 9 * 3)] = _
      rw [f0.1, f1.1, f2.1, f3.1]
    have hof : ofAt B 4 = o := by
      simp only [ofAt]
      rw [f0.2, f1.2, f2.2, f3.2]
      simpa using p3
    have hq : gpQ B = true := by
      unfold gpQ
      rw [p1, p2, hof, p4, hens]
      exact hr
    have hend : endV B (48, 0) = 0 := by
      have h48 : (putN ps ps.length).1.length = 48 := by rw [pos ps.length (Nat.le_refl _), hlen, hsz]; rfl
      have := end_back (putN ps ps.length).1 (by omega)
      rw [h48, hB] at this
      exact this
    have hse : isSealed B = true := by
      rw [← hB]
      have h48 : (putN ps ps.length).1.length = 48 := by rw [pos ps.length (Nat.le_refl _), hlen, hsz]; rfl
      exact isSealed_sealed _ (by omega)
    have hok : gpOk B = true := by
      unfold gpOk
      rw [hse, hq, hend]
      simp; omega
    refine ⟨hok, ?_, ?_⟩
    · unfold gpV rdP
      rw [if_pos hok, p1, p2, hof, p4, hens]
      simp
    · unfold gpEs
      rw [if_pos hok, hens]
  · omega
end Go.Proofs.YtgmjhpappamenaaDoor

/- pages: plain: checkpoints as a whole. -/
namespace Go.Proofs.YtgmjhpappamenaaDoor
open Go.RowKit Go.Shelf

theorem pageL_inj {q n o m q' n' o' m' : Int} {A B : List Value} (h : pageL q n o m A = pageL q' n' o' m' B) : q = q' ∧ n = n' ∧ o = o' ∧ m = m' ∧ A = B := by
  simpa [pageL] using h
theorem pg_back (l : List En) (seq : Int) (no : Nat) (h : pgEr l seq no = 0) :
    gpOk (pgB l seq no) = true ∧ gpSeq (pgB l seq no) = seq ∧ gpNo (pgB l seq no) = (no : Nat) ∧ gpOf (pgB l seq no) = (needN l.length : Nat) ∧ gpMany (pgB l seq no) = ((pgEs l no).length : Nat) ∧ gpEs (pgB l seq no) = pad4 (pgEs l no) := by
  obtain ⟨e0, e1, e2, e3, he⟩ := four_of (pad4_len (pgEs l no) (by simp [pgEs]; omega))
  have hb := page_back seq no (needN l.length : Nat) ((pgEs l no).length : Nat) e0 e1 e2 e3
  unfold pgEr pgQ pgN at h
  unfold pgB pgQ pgN
  rw [he] at h ⊢
  obtain ⟨h1, h2, h3⟩ := hb h
  rw [gpV_eq] at h2
  obtain ⟨a1, a2, a3, a4, _⟩ := pageL_inj h2
  exact ⟨h1, a1, a2, a3, a4, h3⟩
theorem pgTake_back (l : List En) (seq : Int) (no : Nat) (h : pgEr l seq no = 0) : gpTake (pgB l seq no) = pgEs l no := by
  obtain ⟨_, _, _, _, hm, he⟩ := pg_back l seq no h
  unfold gpTake
  rw [hm, he]
  simp [pad4]
theorem chunks (l : List En) (k : Nat) : (List.range k).flatMap (pgEs l) = l.take (k * 4) := by
  induction k with
  | zero => simp
  | succ k ih =>
    rw [List.range_succ, List.flatMap_append, ih]
    simp only [List.flatMap_cons, List.flatMap_nil, List.append_nil, pgEs]
    rw [show (k + 1) * 4 = k * 4 + 4 by omega, List.take_add]
theorem need_pos (n : Nat) : 1 ≤ needN n := by unfold needN; split <;> omega
theorem need_le (n : Nat) : n ≤ needN n * 4 := by unfold needN; split <;> omega
theorem need_full (n i : Nat) (h : i + 1 < needN n) : (i + 1) * 4 ≤ n := by unfold needN at h; split at h <;> omega
theorem need_some (n i : Nat) (h : i < needN n) (h0 : 0 < i) : i * 4 < n := by unfold needN at h; split at h <;> omega
theorem pgEs_len' (l : List En) (no : Nat) : (pgEs l no).length = min 4 (l.length - no * 4) := by simp [pgEs]
theorem pgAll_hd (l : List En) (seq : Int) (n : Nat) (hn : needN l.length ≤ n) : jHd (pgAll l seq n) = pgB l seq 0 := by
  have h1 := need_pos l.length
  unfold jHd
  rw [List.getD_eq_getElem?_getD, pgAll_get l seq n 0 (by omega), if_pos (by omega)]
  rfl
/-- what was written of a checkpoint tells it -/
theorem pgAll_back (l : List En) (seq : Int) (n : Nat) (hn : needN l.length ≤ n) (h : ∀ k, k < needN l.length → pgEr l seq k = 0) :
    jR (pgAll l seq n) = true ∧ jSeq (pgAll l seq n) = seq ∧ jEs (pgAll l seq n) n = l := by
  have hp := need_pos l.length
  obtain ⟨b1, b2, b3, b4, b5, b6⟩ := pg_back l seq 0 (h 0 (by omega))
  have hhd := pgAll_hd l seq n hn
  have hbad : jBad (pgAll l seq n) = false := by
    unfold jBad
    rw [hhd, b1, b4, pgAll_len]
    simp; omega
  refine ⟨jR_yes _ hbad ?_, ?_, ?_⟩
  · intro k b hk
    have hkn : k < n := by have := (List.getElem?_eq_some_iff.1 hk).1; rwa [pgAll_len] at this
    rw [pgAll_get l seq n k hkn] at hk
    obtain rfl := Option.some.inj hk
    rw [hhd]
    unfold jAt
    rw [b4]
    by_cases hlt : k < needN l.length
    · rw [if_neg (by omega), if_pos hlt]
      obtain ⟨c1, c2, c3, c4, c5, c6⟩ := pg_back l seq k (h k hlt)
      unfold jPg
      rw [c1, c2, b2, c3, c4, b4, c5]
      simp only [beq_self_eq_true, Bool.true_and]
      unfold jWh
      have hl := pgEs_len' l k
      by_cases hlast : k + 1 < needN l.length
      · have := need_full l.length k hlast
        rw [Bool.or_eq_true]
        left
        rw [beq_iff_eq]
        omega
      · rw [Bool.or_eq_true]
        right
        rw [Bool.and_eq_true, beq_iff_eq]
        refine ⟨by omega, ?_⟩
        by_cases h0 : k = 0
        · simp [h0]
        · have := need_some l.length k hlt (by omega)
          rw [Bool.or_eq_true]
          left
          rw [decide_eq_true_iff]
          omega
    · rw [if_pos (by omega), if_neg hlt]
      simp
  · unfold jSeq
    rw [hbad, hhd, b2]
    simp
  · unfold jEs
    rw [hhd, b4]
    have e : (pgAll l seq n).take (min n ((needN l.length : Nat) : Int).toNat) = pgBs l seq (needN l.length) := by
      rw [Int.toNat_natCast, Nat.min_eq_right hn]
      unfold pgAll
      rw [List.take_take, Nat.min_eq_left hn, List.take_left' (pgBs_len _ _ _)]
    rw [e]
    unfold pgBs
    rw [List.flatMap_map]
    have e2 : (List.range (needN l.length)).flatMap (fun a => gpTake (pgB l seq a)) = (List.range (needN l.length)).flatMap (pgEs l) := by
      rw [List.flatMap_def, List.flatMap_def]
      congr 1
      apply List.map_congr_left
      intro k hk
      exact pgTake_back l seq k (h k (by simpa using hk))
    rw [e2, chunks, List.take_of_length_le (need_le _)]
/-- sectors put at a place -/
def putF (F : List (List Nat)) (s : Nat) (L : List (List Nat)) : List (List Nat) := F.take s ++ L ++ F.drop (s + L.length)
def wz : Nat → List (List Nat) → List (Nat × List Nat)
  | _, [] => []
  | s, b :: r => (s, b) :: wz (s + 1) r
theorem putF_len (F L : List (List Nat)) (s : Nat) (h : s + L.length ≤ F.length) : (putF F s L).length = F.length := by simp [putF]; omega
theorem flush_wz (L : List (List Nat)) : ∀ (s : Nat) (F : List (List Nat)), s + L.length ≤ F.length → flushL F (wz s L) = putF F s L := by
  induction L with
  | nil => intro s F h; simp [wz, flushL, putF]
  | cons b r ih =>
    intro s F h
    simp only [List.length_cons] at h
    have := ih (s + 1) (F.set s b) (by simp; omega)
    simp only [wz, flushL, List.foldl_cons] at this ⊢
    rw [this]
    unfold putF
    rw [List.take_set, List.drop_set, if_pos (by omega), List.length_cons, show s + 1 + r.length = s + (r.length + 1) by omega]
    have e : (F.take (s + 1)).set s b = F.take s ++ [b] := by
      rw [List.take_succ_eq_append_getElem (by omega), List.set_append, if_neg (by simp; omega)]
      simp [Nat.min_eq_left (show s ≤ F.length by omega)]
    rw [e]
    simp
theorem wrAll_ok (L : List (List Nat)) : ∀ (x : Dev) (s : Nat), x.P = [] → s + L.length ≤ x.F.length → wrAll x (s : Nat) L = ({ x with O := x.O ++ wz s L }, 0) := by
  induction L with
  | nil => intro x s _ _; simp [wrAll, wz]
  | cons b r ih =>
    intro x s hP h
    simp only [List.length_cons] at h
    have hE : devE x (s : Nat) = 0 := by unfold devE; rw [if_neg (by omega)]
    have hWE : devWE x (s : Nat) = 0 := by unfold devWE; rw [if_pos hE, hP]; rfl
    have hW : devW x (s : Nat) b = { x with O := x.O ++ [(s, b)] } := by
      obtain ⟨F, O, P⟩ := x
      obtain rfl : P = [] := hP
      unfold devW devPut nextP
      rw [if_pos hE]
      simp
    rw [wrAll, if_pos hWE, hW]
    have := ih { x with O := x.O ++ [(s, b)] } (s + 1) hP (by simpa using (by omega : s + 1 + r.length ≤ x.F.length))
    rw [show ((s : Nat) : Int) + 1 = ((s + 1 : Nat) : Int) by omega, this]
    simp [wz]
theorem putF_read (F L : List (List Nat)) (s : Nat) (h : s + L.length ≤ F.length) : ((putF F s L).drop s).take L.length = L := by
  unfold putF
  rw [List.append_assoc, List.drop_left' (by simp; omega), List.take_left' rfl]
theorem putF_ahead (F L : List (List Nat)) (s a n : Nat) (h : s + L.length ≤ F.length) (ha : a + n ≤ s) : ((putF F s L).drop a).take n = (F.drop a).take n := by
  unfold putF
  rw [List.append_assoc, List.drop_append_of_le_length (by simp; omega), List.take_append_of_le_length (by simp; omega), List.drop_take, List.take_take, Nat.min_eq_left (by omega)]
theorem putF_behind (F L : List (List Nat)) (s a n : Nat) (h : s + L.length ≤ F.length) (ha : s + L.length ≤ a) : ((putF F s L).drop a).take n = (F.drop a).take n := by
  unfold putF
  obtain ⟨d, rfl⟩ : ∃ d, a = s + L.length + d := ⟨a - (s + L.length), by omega⟩
  rw [← List.drop_drop, List.drop_left' (by simp; omega), List.drop_drop]
theorem firstE_zero {f : Nat → Int} {n : Nat} (h : firstE f n = 0) : ∀ k, k < n → f k = 0 := by
  unfold firstE at h
  cases hq : ((List.range n).map f).find? (· != 0) with
  | none =>
    intro k hk
    have := List.find?_eq_none.1 hq (f k) (List.mem_map.2 ⟨k, by simpa using hk, rfl⟩)
    simpa using this
  | some v =>
    have := List.find?_some hq
    rw [hq] at h
    simp at h this
    exact absurd h this
/-- what is saved on a device that does what it is told -/
theorem sv_cases (x : Dev) (s n : Nat) (seq : Int) (l : List En) (hP : x.P = []) (hO : x.O = []) (hr : pgE x.F.length (s : Nat) (n : Nat) = 0) :
    (∃ er, ¬ er = 0 ∧ pgWr x (s : Nat) (n : Nat) seq l = (x, er)) ∨
    (pgWr x (s : Nat) (n : Nat) seq l = ({ x with O := wz s (pgAll l seq n) }, 0) ∧ needN l.length ≤ n ∧ ∀ k, k < needN l.length → pgEr l seq k = 0) := by
  obtain ⟨s', n', h1, h2, hn1, hsn⟩ := pgE_in hr
  obtain rfl : s = s' := by omega
  obtain rfl : n = n' := by omega
  unfold pgWr
  rw [if_pos hr]
  by_cases h3 : (n : Int) < (needN l.length : Nat)
  · rw [if_pos h3]
    exact .inl ⟨17, by omega, rfl⟩
  · rw [if_neg h3]
    by_cases h4 : firstE (pgEr l seq) (needN l.length) = 0
    · rw [if_pos h4]
      right
      rw [Int.toNat_natCast]
      have hlen := pgAll_len l seq n
      exact ⟨by rw [wrAll_ok _ x s hP (by omega), hO]; rfl, by omega, firstE_zero h4⟩
    · rw [if_neg h4]
      exact .inl ⟨_, h4, rfl⟩
end Go.Proofs.YtgmjhpappamenaaDoor

/- pages: plain: what is saved, read, and the newest, on a device that does what it is told. -/
namespace Go.Proofs.YtgmjhpappamenaaDoor
open Go.RowKit Go.Shelf

/-- a device without open writes and fates -/
def calm (C : Nat) (Z : List Value) (F : List (List Nat)) : Dev := ⟨F, [], [], C, Z⟩
variable {C : Nat} {Z : List Value}
theorem sv_ok (F : List (List Nat)) (a n which : Nat) (seq : Int) (l : List En) (hr : pgE F.length ((a : Int) + which * n) n = 0) :
    (∃ er, ¬ er = 0 ∧ pgSv (calm C Z F) a n which seq l = (calm C Z F, er)) ∨
    (pgSv (calm C Z F) a n which seq l = (calm C Z (putF F (a + which * n) (pgAll l seq n)), 0) ∧ needN l.length ≤ n ∧ ∀ k, k < needN l.length → pgEr l seq k = 0) := by
  have e : (a : Int) + which * n = ((a + which * n : Nat) : Int) := by push_cast; rfl
  obtain ⟨s', n', h1, h2, hn1, hsn⟩ := pgE_in hr
  unfold pgSv
  rw [e] at hr ⊢
  rcases sv_cases (calm C Z F) (a + which * n) n seq l rfl rfl hr with ⟨er, h0, hw⟩ | ⟨hw, hn, hz⟩
  · rw [hw, if_neg h0]
    exact .inl ⟨er, h0, rfl⟩
  · rw [hw, if_pos rfl]
    right
    refine ⟨?_, hn, hz⟩
    have hl := pgAll_len l seq n
    have : devFlush { calm C Z F with O := wz (a + which * n) (pgAll l seq n) } = calm C Z (putF F (a + which * n) (pgAll l seq n)) := by
      simp only [devFlush, devFl, nextP, calm, List.headD_nil, List.tail_nil, if_true]
      rw [flush_wz _ _ _ (by omega)]
    rw [this]
    rfl
theorem calm_rd (F : List (List Nat)) (s : Int) : devRd (calm C Z F) s = calm C Z F := by unfold devRd nextP calm; split <;> rfl
theorem calm_rdN (F : List (List Nat)) (s : Int) (k : Nat) : rdN (calm C Z F) s k = calm C Z F := by
  induction k with
  | zero => rfl
  | succ k ih => simp only [rdN, ih, calm_rd]
theorem rd_ok (F : List (List Nat)) (s n : Nat) (hr : pgE F.length s n = 0) :
    pgRd (calm C Z F) s n = if jR ((F.drop s).take n) then ⟨calm C Z F, jSeq ((F.drop s).take n), jEs ((F.drop s).take n) n, 0⟩ else ⟨calm C Z F, 0, [], 14⟩ := by
  obtain ⟨s', n', h1, h2, hn1, hsn⟩ := pgE_in hr
  have hE : ∀ k, k < n → devE (calm C Z F) ((s : Int) + k) = 0 := fun k hk => by unfold devE calm; rw [if_neg (by simp only; omega)]
  have hz : ∀ k, k < n → rdE (calm C Z F) s k = 0 := fun k hk => by
    unfold rdE
    rw [calm_rdN]
    unfold devRE
    rw [if_pos (hE k hk)]
    rfl
  have hB : rdBs (calm C Z F) s n = (F.drop s).take n := by
    apply List.ext_getElem
    · simp [rdBs]; omega
    · intro i h1 h2
      have hi : i < n := by simpa [rdBs] using h1
      simp only [rdBs, List.getElem_map, List.getElem_range, List.getElem_take, List.getElem_drop]
      unfold rdB
      rw [calm_rdN]
      unfold devRB
      rw [if_pos ⟨hE i hi, by show ¬ (0 : Int) = 1; omega⟩]
      unfold shownL calm
      simp only [List.reverse_nil, List.find?_nil, Option.elim]
      rw [show ((s : Int) + (i : Nat)).toNat = s + i by omega, List.getD_eq_getElem?_getD, List.getElem?_eq_getElem (by omega)]
      rfl
  unfold pgRd
  rw [show (calm C Z F).F = F from rfl, if_pos hr, Int.toNat_natCast, find_no (fun j hj => by simpa using hz j hj)]
  simp only [hB, calm_rdN]
theorem gpOk_zero : gpOk zero64 = false := by
  have : isSealed zero64 = false := by decide +kernel
  unfold gpOk
  rw [this]
  rfl
theorem jR_zero (n : Nat) : jR (List.replicate n zero64) = false := by
  unfold jR jBad jHd
  cases n with
  | zero => simp only [List.replicate_zero, List.getD_nil]; rw [show gpOk [] = false by unfold gpOk; rw [show isSealed [] = false by decide +kernel]; rfl]; rfl
  | succ n => simp only [List.replicate_succ, List.getD_cons_zero, gpOk_zero]; rfl
theorem nw_ok (F : List (List Nat)) (a n : Nat) (h : pgE F.length a (2 * n : Nat) = 0) :
    pgNw (calm C Z F) a n = nwOf (calm C Z F) (if jR ((F.drop a).take n) then ⟨calm C Z F, jSeq ((F.drop a).take n), jEs ((F.drop a).take n) n, 0⟩ else ⟨calm C Z F, 0, [], 14⟩)
      (if jR ((F.drop (a + n)).take n) then ⟨calm C Z F, jSeq ((F.drop (a + n)).take n), jEs ((F.drop (a + n)).take n) n, 0⟩ else ⟨calm C Z F, 0, [], 14⟩) := by
  obtain ⟨s', n', h1, h2, hn1, hsn⟩ := pgE_in h
  have r0 := rd_ok (C := C) (Z := Z) F a n (by unfold pgE; rw [if_neg (by omega)])
  have r1 := rd_ok (C := C) (Z := Z) F (a + n) n (by unfold pgE; rw [if_neg (by omega)])
  unfold pgNw
  rw [show (calm C Z F).F = F from rfl, if_neg (by omega), show (2 : Int) * (n : Nat) = ((2 * n : Nat) : Int) by omega, if_pos h, r0]
  have hd : (if jR ((F.drop a).take n) then (⟨calm C Z F, jSeq ((F.drop a).take n), jEs ((F.drop a).take n) n, 0⟩ : RdOut) else ⟨calm C Z F, 0, [], 14⟩).dev = calm C Z F := by split <;> rfl
  rw [hd, show (a : Int) + (n : Nat) = ((a + n : Nat) : Int) by omega, r1]
end Go.Proofs.YtgmjhpappamenaaDoor

/- The page laws' helpers. -/
namespace Go.Proofs.YtgmjhpappamenaaDoor
open Go.RowKit Go.Shelf

theorem needNeg_any (w : World) : Calls Tryd.prog 33 #[.int .i64 (-1)] w fun e w' => e = .returned (.int .i64 0) ∧ w = w' := by
  go_enter Tryd.func33, Tryd.ntmps33
  go_wp2_with fail
  go_ret
  exact ⟨rfl, rfl⟩
theorem awake13_any (w : World) : Calls Tryd.prog 10 #[] w fun e w' => e = .returned (.bool true) ∧ w = w' := by
  have h0 : ∀ W, Calls Tryd.prog 33 #[.int .i64 0] W fun e w' => e = .returned (.int .i64 1) ∧ W = w' := fun W => need_any 0 W (by omega)
  have h4 : ∀ W, Calls Tryd.prog 33 #[.int .i64 4] W fun e w' => e = .returned (.int .i64 1) ∧ W = w' := fun W => need_any 4 W (by omega)
  have h5 : ∀ W, Calls Tryd.prog 33 #[.int .i64 5] W fun e w' => e = .returned (.int .i64 2) ∧ W = w' := fun W => need_any 5 W (by omega)
  have H := Lib.hid (And.intro h0 (And.intro h4 h5))
  clear h0 h4 h5
  go_enter Tryd.func10, Tryd.ntmps10
  go_wp2_with fail
  refine (H.out.1 _).mono ?_
  rintro e w1 ⟨rfl, rfl⟩
  go_wp2_with fail
  refine (H.out.2.1 _).mono ?_
  rintro e w1 ⟨rfl, rfl⟩
  go_wp2_with fail
  refine (H.out.2.2 _).mono ?_
  rintro e w1 ⟨rfl, rfl⟩
  go_wp2_with fail
  refine (needNeg_any _).mono ?_
  rintro e w1 ⟨rfl, rfl⟩
  go_wp2_with fail
  go_ret
  exact ⟨rfl, rfl⟩
theorem neq_en (x y : En) (w : World) : (binOp .neq 83 (.agg (enC x).toArray) (.agg (enC y).toArray)).run Tryd.prog w = .ok (.bool (!eqEn x y)) w := by
  have h : (Op.equalIn 10000 83 (.agg (enC x).toArray) (.agg (enC y).toArray)).run Tryd.prog w = .ok (eqEn x y) w := by
    obtain ⟨b, s, d, m⟩ := x
    obtain ⟨b', s', d', m'⟩ := y
    simp only [enC, eqEn]
    go_simp
    by_cases h1 : b = b' <;> by_cases h2 : s = s' <;> by_cases h3 : d = d' <;> by_cases h4 : m = m' <;> simp [h1, h2, h3, h4]
  simp only [binOp]
  simp [Op.equal, Op.maxDepth, h]
theorem run_exec_bin {P : Program} {w : World} {ev : Operand → Value} {o : Oper} {bop : BinOp} {t t2 : TypeId} {x y : Operand} {v : Value} (ho : o.op = .binOp bop t x y t2) (hg : (eqGuard bop t x y (ev x) (ev y)).run P w = .ok () w) (hb : (binOp bop t (ev x) (ev y)).run P w = .ok v w) :
    (execOp ev o).run P w = .ok (.value v) w := by
  unfold execOp
  simp only [ho]
  simp [hg, hb]
theorem IsRow.part {w : World} {oa : Option Addr} {l : List En} (h : IsRow w oa (ensC l)) (k : Nat) (hk : k < l.length) : ∃ b off, oa = some ⟨b, off, none⟩ ∧ w.rangeAt b (off + k * 4) (enC l[k]) := by
  obtain ⟨b, off, rfl, hr⟩ := h.range (by rw [ensC_len]; omega)
  refine ⟨b, off, rfl, range_part (k * 4) hr (fun j v hj => ?_)⟩
  have h1 := ensC_drop l k
  rw [List.drop_eq_getElem_cons hk] at h1
  have h2 : ((ensC l).drop (k * 4))[j]? = some v := by
    rw [h1]
    simp only [ensC, List.flatMap_cons]
    rw [List.getElem?_append_left (List.getElem?_eq_some_iff.1 hj).1]
    exact hj
  rwa [List.getElem?_drop] at h2
set_option maxRecDepth 100000 in
theorem Same_any (l : List En) (oa ob : Option Addr) (ca cb : Nat) (w : World) (ha : IsRow w oa (ensC l)) (hb : IsRow w ob (ensC l)) (hl : l.length ≤ 1099511627776) :
    Calls Tryd.prog 14 #[.slice oa l.length ca, .slice ob l.length cb] w fun e w' => e = .returned (.bool true) ∧ Fr [] w w' := by
  have HA := Lib.hid ha
  have HB := Lib.hid hb
  have HL := Lib.hid hl
  clear ha hb hl
  go_enter Tryd.func14, Tryd.ntmps14
  go_wp2_with fail
  go_loopw [5] (fun i wr => ∃ k : Nat, k ≤ l.length ∧ i = .int .i64 k ∧ Fr [] w wr) (fun i _ => l.length - (intOf i).toNat)
  case atStart => exact ⟨0, Nat.zero_le _, rfl, Fr.refl _ _⟩
  case round =>
    obtain ⟨k, hk, rfl, hF⟩ := hrel
    by_cases hlt : k < l.length
    · have b0 : decide ((k : Int) < (l.length : Nat)) = true := by simp; omega
      obtain ⟨b1, o1, rfl, h1⟩ := (HA.out.fr hF (by simp)).part k hlt
      obtain ⟨b2, o2, rfl, h2⟩ := (HB.out.fr hF (by simp)).part k hlt
      have HN := Lib.hid (fun W => neq_en l[k] l[k] W)
      rw [eqEn_self] at HN
      have H1 := Lib.hid h1
      have H2 := Lib.hid h2
      have hg : ∀ (x y : Operand) (A B : Array Value) (W : World), (eqGuard .neq 83 x y (.agg A) (.agg B)).run Tryd.prog W = .ok () W := fun x y A B W => run_guard_neq W (by kernel_rfl)
      have hlen := HL.out
      clear h1 h2
      go_upto_region 6 with fail
      refine region_ord [] (.take 0 (.take 1 (.take 2 (.take 3 (.take 4 (.take 5 (.take 6 (.take 7 (.take 8 .done))))))))) (by kernel_rfl) (by kernel_rfl) ?_
      simp only [ordList, Ord.map, List.getD_cons_zero, List.getD_cons_succ]
      refine' ord_pure (v := _) ?_ rfl ?_; rotate_left; focus (intro w; go_simp <;> (first | (with_reducible rfl) | (constructor <;> with_reducible rfl)))
      simp only [Act.put, List.setIfInBounds_toArray, List.set_cons_zero, List.set_cons_succ]
      refine' ord_pure (v := _) ?_ rfl ?_; rotate_left; focus (intro w; go_simp <;> (first | (with_reducible rfl) | (constructor <;> with_reducible rfl)))
      simp only [Act.put, List.setIfInBounds_toArray, List.set_cons_zero, List.set_cons_succ]
      refine' ord_pure (v := _) ?_ rfl ?_; rotate_left; focus (intro w; go_simp <;> (first | (with_reducible rfl) | (constructor <;> with_reducible rfl)))
      simp only [Act.put, List.setIfInBounds_toArray, List.set_cons_zero, List.set_cons_succ]
      refine ord_row H1.out (by simp) rfl rfl (by kernel_rfl) rfl ?_
      simp only [Act.put, List.setIfInBounds_toArray, List.set_cons_zero, List.set_cons_succ]
      refine' ord_pure (v := _) ?_ rfl ?_; rotate_left; focus (intro w; go_simp <;> (first | (with_reducible rfl) | (constructor <;> with_reducible rfl)))
      simp only [Act.put, List.setIfInBounds_toArray, List.set_cons_zero, List.set_cons_succ]
      refine' ord_pure (v := _) ?_ rfl ?_; rotate_left; focus (intro w; go_simp <;> (first | (with_reducible rfl) | (constructor <;> with_reducible rfl)))
      simp only [Act.put, List.setIfInBounds_toArray, List.set_cons_zero, List.set_cons_succ]
      refine' ord_pure (v := _) ?_ rfl ?_; rotate_left; focus (intro w; go_simp <;> (first | (with_reducible rfl) | (constructor <;> with_reducible rfl)))
      simp only [Act.put, List.setIfInBounds_toArray, List.set_cons_zero, List.set_cons_succ]
      refine ord_row H2.out (by simp) rfl rfl (by kernel_rfl) rfl ?_
      simp only [Act.put, List.setIfInBounds_toArray, List.set_cons_zero, List.set_cons_succ]
      -- 8: t25 := t20 neq t24   {3,7}
      refine' ord_pure (v := .bool false) (fun w0 => run_exec_bin rfl (hg _ _ _ _ w0) (HN.out w0)) rfl ?_
      simp only [Act.put, List.setIfInBounds_toArray, List.set_cons_zero, List.set_cons_succ]
      refine ord_nil ?_
      go_wp2_with fail
      go_roundw
      case rel => exact ⟨k + 1, by omega, by go_num, hF.drew⟩
      case measure => simp [intOf]; omega
    · have hkl : k = l.length := by omega
      have b0 : decide ((k : Int) < (l.length : Nat)) = false := by simp; omega
      have b1 : decide (k < l.length) = false := by simp; omega
      go_wp2_with fail
      go_ret
      exact ⟨rfl, hF⟩
end Go.Proofs.YtgmjhpappamenaaDoor
