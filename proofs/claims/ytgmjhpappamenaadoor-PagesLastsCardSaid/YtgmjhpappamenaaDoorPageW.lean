/- pages: plain: what is left behind a crash. -/
import Derived.Test.YtgmjhpappamenaaDoorPageO
import Derived.Test.YtgmjhpappamenaaDoorDevO
namespace Go.Proofs.YtgmjhpappamenaaDoor
open Go.RowKit Go.Shelf

theorem jR_at {L : List (List Nat)} (h : jR L = true) (i : Nat) (b : List Nat) (hb : L[i]? = some b) : jAt (jHd L) i b = true := by
  cases hj : jAt (jHd L) i b with
  | true => rfl
  | false =>
    have := jR_not L i (List.getElem?_eq_some_iff.1 hb).1 b hb hj
    rw [h] at this
    cases this
theorem gpOk_zeros : gpOk zeros64 = false := by
  have h := jR_zero 1
  cases hz : gpOk zeros64 with
  | false => rfl
  | true =>
    exfalso
    revert hz
    decide +kernel
/-- sectors, some of them of a checkpoint, the others empty: if they tell one, they are all of it -/
theorem jR_mix (l : List En) (seq : Int) (n : Nat) (hn : needN l.length ≤ n) (h : ∀ k, k < needN l.length → pgEr l seq k = 0) (M : List (List Nat)) (hM : M.length = n)
    (hmix : ∀ i, i < n → M[i]? = some zeros64 ∨ M[i]? = (pgAll l seq n)[i]?) (hj : jR M = true) : M = pgAll l seq n := by
  have hp := need_pos l.length
  have hhd := pgAll_hd l seq n hn
  obtain ⟨b1, b2, b3, b4, b5, b6⟩ := pg_back l seq 0 (h 0 (by omega))
  have hg : gpOk (jHd M) = true := by
    unfold jR jBad at hj
    simp only [Bool.and_eq_true, Bool.not_not] at hj
    exact hj.1.1
  have hM0 : jHd M = pgB l seq 0 := by
    rcases hmix 0 (by omega) with h0 | h0
    · have : jHd M = zeros64 := by unfold jHd; rw [List.getD_eq_getElem?_getD, h0]; rfl
      rw [this, gpOk_zeros] at hg
      cases hg
    · rw [← hhd]; unfold jHd; rw [List.getD_eq_getElem?_getD, List.getD_eq_getElem?_getD, h0]
  refine List.ext_getElem? fun i => ?_
  by_cases hi : i < n
  · rcases hmix i hi with h0 | h0
    · have ha := jR_at hj i _ h0
      rw [hM0] at ha
      unfold jAt at ha
      rw [b4] at ha
      by_cases hlt : i < needN l.length
      · rw [if_neg (by omega)] at ha
        unfold jPg at ha
        rw [gpOk_zeros] at ha
        cases ha
      · rw [h0, pgAll_get l seq n i hi, if_neg hlt]
    · exact h0
  · rw [List.getElem?_eq_none (by omega), List.getElem?_eq_none (by rw [pgAll_len]; omega)]
/-- sectors that are written come from L -/
def Of (s : Nat) (L : List (List Nat)) (T : List (Nat × List Nat)) : Prop := ∀ p, p ∈ T → ∃ i, p.1 = s + i ∧ L[i]? = some p.2
theorem of_keep {s : Nat} {L : List (List Nat)} {T : List (Nat × List Nat)} (h : Of s L T) (K : List Bool) : Of s L (keptO T K) := fun p hp => h p (keptO_mem T K p hp)
theorem of_wz (L : List (List Nat)) : ∀ s, Of s L (wz s L) := by
  induction L with
  | nil => intro s p hp; cases hp
  | cons b r ih =>
    intro s p hp
    rcases List.mem_cons.1 hp with rfl | hp
    · exact ⟨0, rfl, rfl⟩
    · obtain ⟨i, h1, h2⟩ := ih (s + 1) p hp
      exact ⟨i + 1, by omega, by simpa using h2⟩
theorem flush_mix (L : List (List Nat)) (s : Nat) : ∀ (T : List (Nat × List Nat)) (F : List (List Nat)), Of s L T →
    (∀ j, j < s ∨ s + L.length ≤ j → (flushL F T)[j]? = F[j]?) ∧ ∀ i, i < L.length → s + i < F.length → (flushL F T)[s + i]? = F[s + i]? ∨ (flushL F T)[s + i]? = L[i]? := by
  intro T
  induction T with
  | nil => intro F _; exact ⟨fun _ _ => rfl, fun _ _ _ => .inl rfl⟩
  | cons p T ih =>
    intro F h
    obtain ⟨k, hk, hL⟩ := h p (List.mem_cons.2 (.inl rfl))
    have hkl := (List.getElem?_eq_some_iff.1 hL).1
    obtain ⟨h1, h2⟩ := ih (F.set p.1 p.2) (fun q hq => h q (List.mem_cons_of_mem _ hq))
    have e : flushL F (p :: T) = flushL (F.set p.1 p.2) T := rfl
    rw [e]
    refine ⟨fun j hj => ?_, fun i hi hF => ?_⟩
    · rw [h1 j hj, List.getElem?_set_ne (by omega)]
    · rcases h2 i hi (by rw [List.length_set]; exact hF) with h3 | h3
      · by_cases hik : i = k
        · subst hik
          right
          rw [h3, hk, List.getElem?_set_self hF, hL]
        · left
          rw [h3, List.getElem?_set_ne (by omega)]
      · exact .inr h3
end Go.Proofs.YtgmjhpappamenaaDoor

/- pages: plain: the newest one behind a crash. -/
namespace Go.Proofs.YtgmjhpappamenaaDoor
open Go.RowKit Go.Shelf

/-- calls are done, or they fail -/
def Fates (P : List Int) : Prop := ∀ f, f ∈ P → f = 0 ∨ f = 1
theorem fates_tail {P : List Int} (h : Fates P) : Fates P.tail := fun f hf => h f (List.mem_of_mem_tail hf)
theorem fates_head {P : List Int} (h : Fates P) : P.headD 0 = 0 ∨ P.headD 0 = 1 := by
  cases P with
  | nil => exact .inl rfl
  | cons f P => exact h f (List.mem_cons.2 (.inl rfl))
theorem wrAll_sub (L : List (List Nat)) : ∀ (x : Dev) (s : Nat), Fates x.P → s + L.length ≤ x.F.length →
    ∃ T P', (wrAll x (s : Nat) L).1 = { x with O := x.O ++ T, P := P' } ∧ Fates P' ∧ Of s L T ∧ ((wrAll x (s : Nat) L).2 = 0 → T = wz s L) := by
  induction L with
  | nil =>
    intro x s hP _
    exact ⟨[], x.P, by simp [wrAll], hP, fun p hp => (by cases hp), fun _ => rfl⟩
  | cons b r ih =>
    intro x s hP h
    simp only [List.length_cons] at h
    have hE : devE x (s : Nat) = 0 := by unfold devE; rw [if_neg (by omega)]
    have e1 : devWE x (s : Nat) = devR (x.P.headD 0) 20 := by unfold devWE; rw [if_pos hE]
    have e2 : devW x (s : Nat) b = devPut x s b := by unfold devW; rw [if_pos hE]; rfl
    rcases fates_head hP with h0 | h0
    · have e3 : devWE x (s : Nat) = 0 := by rw [e1, h0]; rfl
      have e4 : devPut x s b = { nextP x with O := x.O ++ [(s, b)] } := by unfold devPut; rw [if_pos h0]
      have e5 : wrAll x (s : Nat) (b :: r) = wrAll { nextP x with O := x.O ++ [(s, b)] } ((s + 1 : Nat) : Int) r := by
        show (if devWE x (s : Nat) = 0 then wrAll (devW x (s : Nat) b) ((s : Nat) + 1) r else _) = _
        rw [if_pos e3, e2, e4]
        rfl
      obtain ⟨T, P', i1, i2, i3, i4⟩ := ih { nextP x with O := x.O ++ [(s, b)] } (s + 1) (fates_tail hP) (by show s + 1 + r.length ≤ x.F.length; omega)
      refine ⟨(s, b) :: T, P', ?_, i2, ?_, fun h0 => ?_⟩
      · rw [e5, i1]
        simp [nextP]
      · intro p hp
        rcases List.mem_cons.1 hp with rfl | hp
        · exact ⟨0, rfl, rfl⟩
        · obtain ⟨i, h1, h2⟩ := i3 p hp
          exact ⟨i + 1, by omega, by simpa using h2⟩
      · rw [e5] at h0
        rw [i4 h0]
        rfl
    · have e3 : devWE x (s : Nat) = 20 := by rw [e1, h0]; rfl
      have e4 : devPut x s b = nextP x := by unfold devPut; rw [if_neg (by omega)]
      have e5 : wrAll x (s : Nat) (b :: r) = (nextP x, 20) := by
        show (if devWE x (s : Nat) = 0 then wrAll (devW x (s : Nat) b) ((s : Nat) + 1) r else _) = _
        rw [if_neg (by omega), e2, e4, e3]
      refine ⟨[], x.P.tail, ?_, fates_tail hP, fun p hp => (by cases hp), fun h0 => ?_⟩
      · rw [e5]; simp [nextP]
      · rw [e5] at h0; cases h0
theorem keptO_nil (K : List Bool) : keptO [] K = [] := by cases K <;> rfl
/-- what is firm behind a crash in a Save -/
theorem sv_crash (F : List (List Nat)) (P : List Int) (C : Nat) (Z : List Value) (s n : Nat) (base which : Int) (hs : base + which * (n : Nat) = (s : Nat)) (seq : Int) (l : List En) (hP : Fates P) (hr : pgE F.length (s : Nat) (n : Nat) = 0) (K : List Bool) :
    ∃ T, flushL (pgSv ⟨F, [], P, C, Z⟩ base (n : Nat) which seq l).1.F (keptO (pgSv ⟨F, [], P, C, Z⟩ base (n : Nat) which seq l).1.O K) = flushL F T ∧ Of s (pgAll l seq n) T ∧
      ((pgSv ⟨F, [], P, C, Z⟩ base (n : Nat) which seq l).2 = 0 → T = wz s (pgAll l seq n)) ∧
      (((pgSv ⟨F, [], P, C, Z⟩ base (n : Nat) which seq l).2 ≠ 0 ∧ T = []) ∨ (needN l.length ≤ n ∧ ∀ k, k < needN l.length → pgEr l seq k = 0)) := by
  obtain ⟨s', n', h1, h2, hn1, hsn⟩ := pgE_in hr
  have hlen := pgAll_len l seq n
  unfold pgSv
  rw [hs]
  unfold pgWr
  rw [if_pos hr]
  by_cases h3 : (n : Int) < (needN l.length : Nat)
  · rw [if_pos h3, if_neg (by simp)]
    exact ⟨[], by rw [keptO_nil], fun p hp => (by cases hp), fun h => (by cases h), .inl ⟨by simp, rfl⟩⟩
  · rw [if_neg h3]
    by_cases h4 : firstE (pgEr l seq) (needN l.length) = 0
    · rw [if_pos h4, Int.toNat_natCast]
      obtain ⟨T, P', i1, i2, i3, i4⟩ := wrAll_sub (pgAll l seq n) ⟨F, [], P, C, Z⟩ s hP (by show s + _ ≤ F.length; omega)
      have hR : needN l.length ≤ n ∧ ∀ k, k < needN l.length → pgEr l seq k = 0 := ⟨by omega, firstE_zero h4⟩
      generalize hw : wrAll ⟨F, [], P, C, Z⟩ (s : Nat) (pgAll l seq n) = w at i1 i4
      obtain ⟨y, er⟩ := w
      simp only at i1 i4
      subst i1
      by_cases h5 : er = 0
      · rw [if_pos h5]
        obtain rfl := i4 h5
        rcases fates_head i2 with h6 | h6
        · refine ⟨wz s (pgAll l seq n), ?_, i3, fun _ => rfl, .inr hR⟩
          simp only [devFlush]
          rw [if_pos h6]
          simp only [devFl, nextP, keptO_nil, List.nil_append]
          rfl
        · refine ⟨keptO (wz s (pgAll l seq n)) K, ?_, of_keep i3 K, fun h => ?_, .inr hR⟩
          · simp only [devFlush]
            rw [if_neg (by omega)]
            simp only [nextP, List.nil_append]
          · simp only [devR] at h
            rw [if_pos h6] at h
            cases h
      · rw [if_neg h5]
        refine ⟨keptO T K, by simp only [List.nil_append], of_keep i3 K, fun h => absurd h h5, .inr hR⟩
    · rw [if_neg h4, if_neg h4]
      exact ⟨[], by rw [keptO_nil], fun p hp => (by cases hp), fun h => absurd h h4, .inl ⟨h4, rfl⟩⟩
/-- the newest one behind a crash while the other one was saved -/
theorem crash_newest (F F1 : List (List Nat)) (a p : Nat) (s0 s1 : Int) (l0 l1 : List En) (P : List Int) (C : Nat) (Z : List Value) (K : List Bool) (C' : Nat) (Z' : List Value) (hP : Fates P) (hF : F.length = 30) (hz : ∀ j, j < 30 → F[j]? = some zero64)
    (ha : a ≤ 10) (hp1 : 1 ≤ p) (hp : p ≤ 10) (hs : s0 < s1) (h0 : F1 = putF F a (pgAll l0 s0 p) ∧ needN l0.length ≤ p ∧ ∀ k, k < needN l0.length → pgEr l0 s0 k = 0) :
    pgNw (devCr (pgSv ⟨F1, [], P, C, Z⟩ a p 1 s1 l1).1 K C' Z') a p = ⟨devCr (pgSv ⟨F1, [], P, C, Z⟩ a p 1 s1 l1).1 K C' Z', 1, s1, l1, 0⟩ ∨
    (pgNw (devCr (pgSv ⟨F1, [], P, C, Z⟩ a p 1 s1 l1).1 K C' Z') a p = ⟨devCr (pgSv ⟨F1, [], P, C, Z⟩ a p 1 s1 l1).1 K C' Z', 0, s0, l0, 0⟩ ∧ ¬ (pgSv ⟨F1, [], P, C, Z⟩ a p 1 s1 l1).2 = 0) := by
  have hL0 := pgAll_len l0 s0 p
  have hL1 := pgAll_len l1 s1 p
  have hl1 : F1.length = 30 := by rw [h0.1, putF_len _ _ _ (by omega), hF]
  obtain ⟨T, t1, t2, t3, t4⟩ := sv_crash F1 P C Z (a + p) p a 1 (by omega) s1 l1 hP (by unfold pgE; rw [if_neg (by omega)]) K
  have hc : devCr (pgSv ⟨F1, [], P, C, Z⟩ a p 1 s1 l1).1 K C' Z' = calm C' Z' (flushL F1 T) := by unfold devCr; rw [t1]; rfl
  rw [hc]
  generalize (pgSv ⟨F1, [], P, C, Z⟩ a p 1 s1 l1).2 = g at t3 t4
  obtain ⟨m1, m2⟩ := flush_mix _ _ T F1 t2
  have hl2 : (flushL F1 T).length = 30 := by rw [flushL_len, hl1]
  have r0 : ((flushL F1 T).drop a).take p = pgAll l0 s0 p := by
    have e := putF_read F (pgAll l0 s0 p) a (by omega)
    rw [← h0.1, hL0] at e
    rw [← e]
    refine List.ext_getElem? fun i => ?_
    rw [List.getElem?_take, List.getElem?_take, List.getElem?_drop, List.getElem?_drop]
    split
    · exact m1 _ (by omega)
    · rfl
  have hz1 : ∀ i, i < p → F1[a + p + i]? = some zero64 := fun i hi => by
    have e := putF_behind F (pgAll l0 s0 p) a (a + p) p (by omega) (by omega)
    rw [← h0.1] at e
    have e2 := congrArg (fun L => L[i]?) e
    simp only [List.getElem?_take, List.getElem?_drop, if_pos hi] at e2
    rw [e2]
    exact hz _ (by omega)
  obtain ⟨x1, x2, x3⟩ := pgAll_back l0 s0 p h0.2.1 h0.2.2
  have hML : (((flushL F1 T).drop (a + p)).take p).length = p := by simp; omega
  have hM : ∀ i, i < p → (((flushL F1 T).drop (a + p)).take p)[i]? = (flushL F1 T)[a + p + i]? := fun i hi => by rw [List.getElem?_take, if_pos hi, List.getElem?_drop]
  rw [nw_ok (flushL F1 T) a p (by unfold pgE; rw [if_neg (by omega)]), r0, x1, x2, x3]
  cases hj : jR (((flushL F1 T).drop (a + p)).take p) with
  | true =>
    rcases t4 with ⟨_, rfl⟩ | ⟨q1, q2⟩
    · have : ((flushL F1 []).drop (a + p)).take p = List.replicate p zero64 := by
        refine List.ext_getElem? fun i => ?_
        rw [List.getElem?_replicate]
        split
        · next hi => rw [hM i hi]; exact hz1 i hi
        · exact List.getElem?_eq_none (by omega)
      rw [this, jR_zero] at hj
      cases hj
    · have hall := jR_mix l1 s1 p q1 q2 _ hML (fun i hi => by
        rw [hM i hi]
        rcases m2 i (by omega) (by omega) with h | h
        · left; rw [h, hz1 i hi]; rfl
        · exact .inr h) hj
      rw [hall]
      obtain ⟨y1, y2, y3⟩ := pgAll_back l1 s1 p q1 q2
      left
      rw [y2, y3]
      unfold nwOf
      simp only [if_true]
      rw [if_neg (by omega), if_pos hs]
  | false =>
    right
    refine ⟨?_, fun hg => ?_⟩
    · unfold nwOf
      simp
    · have q := t3 hg
      subst q
      rcases t4 with ⟨hg', _⟩ | ⟨q1, q2⟩
      · exact hg' hg
      · rw [flush_wz _ _ _ (by omega)] at hj
        have := putF_read F1 (pgAll l1 s1 p) (a + p) (by omega)
        rw [hL1] at this
        rw [this, (pgAll_back l1 s1 p q1 q2).1] at hj
        cases hj
end Go.Proofs.YtgmjhpappamenaaDoor

/- PagesLasts: out of range. -/
namespace Go.Proofs.YtgmjhpappamenaaDoor
open Go.RowKit Go.Shelf

set_option maxRecDepth 100000 in
set_option maxHeartbeats 1000000 in
theorem PagesLasts_out (a p : Int) (q0 q1 : Int) (oa0 oa1 : Option Addr) (n0 n1 cap0 cap1 : Nat) (w : World) (h : a < 0 ∨ 10 < a ∨ p < 1 ∨ 10 < p ∨ 40 < n0 ∨ 40 < n1 ∨ q0 < 0 ∨ q1 < 0) :
    Calls Tryd.prog 5 #[.agg #[.int .i64 a, .int .i64 p], .agg #[.slice oa0 n0 cap0, .slice oa1 n1 cap1], .agg #[.int .i64 q0, .int .i64 q1]] w fun e w' => e = .returned (.bool true) ∧ Fr [] w w' := by
  have hFw := (((Fr.refl [] w).alloc (.cells #[.int .i64 a, .int .i64 p] 22)).alloc (.cells #[.slice oa0 n0 cap0, .slice oa1 n1 cap1] 35)).alloc (.cells #[.int .i64 q0, .int .i64 q1] 22)
  cases d1 : decide (a < 0)
  cases d2 : decide (10 < a)
  cases d3 : decide (p < 1)
  cases d4 : decide (10 < p)
  cases d5 : decide ((40 : Int) < (n0 : Nat))
  cases d6 : decide ((40 : Int) < (n1 : Nat))
  cases d7 : decide (q0 < 0)
  cases d8 : decide (q1 < 0)
  · exfalso
    simp only [decide_eq_false_iff_not] at d1 d2 d3 d4 d5 d6 d7 d8
    omega
  all_goals
    clear h
    go_enter Tryd.func5, Tryd.ntmps5
    go_wp2_with fail
    refine (awake13_any _).mono ?_
    rintro e w1 ⟨rfl, rfl⟩
    go_wp2_with fail
    go_ret
    exact ⟨rfl, hFw⟩
/-- the fates that a number tells -/
def bitN : Nat → Int → Int
  | 0, x => x
  | k + 1, x => bitN k x / 2
def fatesN (x : Int) (k : Nat) : List Int := (List.range k).map fun i => bitN i x % 2
theorem bitN_nonneg {x : Int} (h : 0 ≤ x) : ∀ k, 0 ≤ bitN k x
  | 0 => h
  | k + 1 => by have := bitN_nonneg h k; unfold bitN; omega
theorem bitN_le {x : Int} (h : 0 ≤ x) : ∀ k, bitN k x ≤ x
  | 0 => Int.le_refl _
  | k + 1 => by have := bitN_le h k; have := bitN_nonneg h k; unfold bitN; omega
theorem fatesN_succ (x : Int) (k : Nat) : fatesN x (k + 1) = fatesN x k ++ [bitN k x % 2] := by simp [fatesN, List.range_succ]
theorem fatesN_ok {x : Int} (k : Nat) : Fates (fatesN x k) := by
  intro f hf
  simp only [fatesN, List.mem_map] at hf
  obtain ⟨i, _, rfl⟩ := hf
  omega
theorem fatesN_len (x : Int) (k : Nat) : (fatesN x k).length = k := by simp [fatesN]
end Go.Proofs.YtgmjhpappamenaaDoor

/- PagesLasts: the walk. -/
namespace Go.Proofs.YtgmjhpappamenaaDoor
open Go.RowKit Go.Shelf

theorem devW_open (x : Dev) (s : Int) (b : List Nat) : (devW x s b).O.length ≤ x.O.length + 1 := by
  unfold devW
  split
  · unfold devPut
    split
    · simp
    · simp [nextP]
  · omega
theorem wrAll_open (L : List (List Nat)) : ∀ (x : Dev) (s : Int), (wrAll x s L).1.O.length ≤ x.O.length + L.length := by
  induction L with
  | nil => intro x s; simp [wrAll]
  | cons b r ih =>
    intro x s
    have h1 := devW_open x s b
    simp only [wrAll, List.length_cons]
    split
    · have := ih (devW x s b) (s + 1)
      omega
    · show (devW x s b).O.length ≤ _
      omega
theorem pgWr_open (x : Dev) (base pages seq : Int) (l : List En) : (pgWr x base pages seq l).1.O.length ≤ x.O.length + pages.toNat := by
  unfold pgWr
  split
  · split
    · show x.O.length ≤ _; omega
    · split
      · have := wrAll_open (pgAll l seq pages.toNat) x base
        rw [pgAll_len] at this
        exact this
      · show x.O.length ≤ _; omega
  · show x.O.length ≤ _; omega
theorem sv_open (x : Dev) (base pages which seq : Int) (l : List En) : (pgSv x base pages which seq l).1.O.length ≤ x.O.length + pages.toNat := by
  have h := pgWr_open x (base + which * pages) pages seq l
  unfold pgSv
  split
  · show (devFlush _).O.length ≤ _
    unfold devFlush
    split
    · simp [devFl]
    · exact h
  · exact h
theorem owns_bools {w : World} {base e n cap : Nat} {oa : Option Addr} {K : List Bool} (h : w.ownsRow base e 1 (.slice oa n cap) n (K.map Value.bool)) : IsBools w oa K := by
  obtain ⟨h1, ⟨h2, _⟩ | ⟨g, c, cur, hv, hg, hh, hn, hc, hs, ht⟩⟩ := h
  · intro i hi
    rw [List.length_map, Nat.mul_one] at h1
    cases h2
    omega
  · intro i hi
    simp only [Value.slice.injEq] at hv
    obtain ⟨rfl, _⟩ := hv
    refine ⟨g, 0, rfl, ?_⟩
    rw [Nat.zero_add]
    exact Blk.cell (show Blk w g e cur from hh) (take_get ht (by rw [List.getElem?_map, List.getElem?_eq_getElem hi]; rfl))
theorem infoBool : ∃ i, Tryd.prog.info? 4 = some i ∧ i.zero = some (.bool false) ∧ i.size = 1 ∧ i.bytes = 1 := by
  have h : (Tryd.prog.info? 4).map (fun i => (i.zero, i.size, i.bytes)) = some (some (.bool false), 1, 1) := by kernel_rfl
  cases hi : Tryd.prog.info? 4 with
  | none => rw [hi] at h; cases h
  | some i =>
    rw [hi] at h
    simp only [Option.map_some, Option.some.injEq, Prod.mk.injEq] at h
    exact ⟨i, rfl, h.1, h.2.1, h.2.2⟩
set_option maxRecDepth 100000 in
set_option maxHeartbeats 2000000 in
theorem PagesLasts_in (a p : Nat) (q0 q1 : Int) (oa0 oa1 : Option Addr) (cap0 cap1 : Nat) (l0 l1 : List En) (w : World) (hH : Halves w) (h0 : IsRow w oa0 (ensC l0)) (h1 : IsRow w oa1 (ensC l1)) (hc0 : l0.length ≤ cap0) (hc1 : l1.length ≤ cap1)
    (ha : a ≤ 10) (hp1 : 1 ≤ p) (hp : p ≤ 10) (hl0 : l0.length ≤ 40) (hl1 : l1.length ≤ 40) (hq0 : 0 ≤ q0) (hq1 : 0 ≤ q1) (hm0 : q0 ≤ 9223372036854775807) (hm1 : q1 ≤ 9223372036854775807) :
    Calls Tryd.prog 5 #[.agg #[.int .i64 (a : Nat), .int .i64 (p : Nat)], .agg #[.slice oa0 l0.length cap0, .slice oa1 l1.length cap1], .agg #[.int .i64 q0, .int .i64 q1]] w fun e w' => e = .returned (.bool true) ∧ Fr [] w w' := by
  have g1 : decide (((a : Nat) : Int) < 0) = false := by simp
  have g2 : decide ((10 : Int) < (a : Nat)) = false := by simp; omega
  have g3 : decide (((p : Nat) : Int) < 1) = false := by simp; omega
  have g4 : decide ((10 : Int) < (p : Nat)) = false := by simp; omega
  have g5 : decide ((40 : Int) < (l0.length : Nat)) = false := by simp; omega
  have g6 : decide ((40 : Int) < (l1.length : Nat)) = false := by simp; omega
  have g7 : decide (q0 < 0) = false := by simp; omega
  have g8 : decide (q1 < 0) = false := by simp; omega
  have H0 := Lib.hid h0
  have H1 := Lib.hid h1
  have HH := Lib.hid hH
  have hFw := (((Fr.refl [] w).alloc (.cells #[.int .i64 (a : Nat), .int .i64 (p : Nat)] 22)).alloc (.cells #[.slice oa0 l0.length cap0, .slice oa1 l1.length cap1] 35)).alloc (.cells #[.int .i64 q0, .int .i64 q1] 22)
  have hA := ((Blk.new w #[.int .i64 (a : Nat), .int .i64 (p : Nat)] 22).alloc (.cells #[.slice oa0 l0.length cap0, .slice oa1 l1.length cap1] 35)).alloc (.cells #[.int .i64 q0, .int .i64 q1] 22)
  have hB := (blk_at (w.alloc (.cells #[.int .i64 (a : Nat), .int .i64 (p : Nat)] 22)) #[.slice oa0 l0.length cap0, .slice oa1 l1.length cap1] 35 (w.heap.size + 1) (by simp)).alloc (.cells #[.int .i64 q0, .int .i64 q1] 22)
  have hC := blk_at ((w.alloc (.cells #[.int .i64 (a : Nat), .int .i64 (p : Nat)] 22)).alloc (.cells #[.slice oa0 l0.length cap0, .slice oa1 l1.length cap1] 35)) #[.int .i64 q0, .int .i64 q1] 22 (w.heap.size + 1 + 1) (by simp)
  generalize hW : (((w.alloc (.cells #[.int .i64 (a : Nat), .int .i64 (p : Nat)] 22)).alloc (.cells #[.slice oa0 l0.length cap0, .slice oa1 l1.length cap1] 35)).alloc (.cells #[.int .i64 q0, .int .i64 q1] 22)) = W0 at *
  have hsW : W0.heap.size = w.heap.size + 3 := by rw [← hW]; simp
  have HW := Lib.hid hW
  have HSW := Lib.hid hsW
  have HFw := Lib.hid hFw
  have HC := Lib.hid (fun (W : World) (hF : Fr [] W0 W) => And.intro ((hA.fr hF (by simp)).cell (i := 0) rfl) (And.intro ((hA.fr hF (by simp)).cell (i := 1) rfl) (And.intro ((hB.fr hF (by simp)).cell (i := 0) rfl) (And.intro ((hB.fr hF (by simp)).cell (i := 1) rfl) (And.intro ((hC.fr hF (by simp)).cell (i := 0) rfl) ((hC.fr hF (by simp)).cell (i := 1) rfl))))))
  have HB := Lib.hid (And.intro ha (And.intro hp1 (And.intro hp (And.intro hl0 (And.intro hl1 (And.intro hc0 (And.intro hc1 (And.intro hq0 (And.intro hq1 (And.intro hm0 hm1))))))))))
  clear hA hB hC hFw hsW hW h0 h1 hH hc0 hc1 hl0 hl1 ha hp1 hp hq0 hq1 hm0 hm1
  go_enter Tryd.func5, Tryd.ntmps5
  go_wp2_with fail
  have hF0 := Fr.refl [] W0
  rw [HW.out]
  refine (devNew_any 30 W0 (by omega) (by omega)).mono ?_
  rintro e w1 ⟨b, D1, rfl, hI1, hD1, hF1⟩
  have hI1 : IsDev w1 b D1 (calm 30 [] fresh30) := hI1
  have HF1 := Lib.hid hF1
  have HI1 := Lib.hid hI1
  have HD1 := Lib.hid hD1
  clear hF0 hF1 hI1 hD1
  have hh := HH.out.lt
  have HHA := Lib.hid (show ∀ W, Fr [] W0 W → Halves W from fun W hF => HH.out.keep (HFw.out.trans hF) (by simp))
  have HNH := Lib.hid (show ∀ i, W0.heap.size ≤ i → ¬ i = 0 from fun i hi => by have := HSW.out; omega)
  clear hh
  obtain ⟨a0, a1, b0, b1, c0, c1⟩ := HC.out w1 HF1.out
  go_wp2_with fail
  have hB := HB.out
  obtain ⟨F1, f, e1, hl1, hf⟩ := sv_form fresh30 a p 0 5 l0 (by unfold pgE; rw [show fresh30.length = 30 from rfl, if_neg (by omega)])
  have e1 : pgSv (calm 30 [] fresh30) a p 0 5 l0 = (calm 30 [] F1, f) := e1
  refine (pgSave_any b D1 (calm 30 [] fresh30) a p 0 5 oa0 cap0 l0 w1 HI1.out (H0.out.keep (HFw.out.trans HF1.out) (by simp)) (by omega) (by omega) (HHA.out w1 HF1.out) (by simp [calm]) (by omega) (by omega) (by omega) (by omega) (.inl rfl)).mono ?_
  rw [e1]
  rintro e w3 ⟨rfl, D3, hI3, hF3, hD3⟩
  have HF3 := Lib.hid (HF1.out.comp hF3 (fun i hi => .inr (HD1.out i hi)))
  have HD3 := Lib.hid (show ∀ i, i ∈ D3 → W0.heap.size ≤ i from fun i hi => by rcases hD3 i hi with h | h; exact HD1.out i h; have := HF1.out.size; omega)
  have HI3 := Lib.hid (show IsDev w3 b D3 ⟨F1, [], fatesN q1 0, 30, []⟩ from hI3)
  have HF := Lib.hid hf
  have HL1 := Lib.hid hl1
  have HBB := Lib.hid hB
  clear hI3 hF3 hD3 a0 a1 b0 b1 c0 c1 e1 hf hl1 hB
  obtain ⟨a0, a1, b0, b1, c0, c1⟩ := HC.out w3 HF3.out
  by_cases hf0 : f = 0
  · subst hf0
    go_wp2_with fail
    go_loopw [10, 11] (fun xv i wr => ∃ k : Nat, k ≤ 8 ∧ i = .int .i64 k ∧ xv = .int .i64 (bitN k q1) ∧ ∃ D, IsDev wr b D ⟨F1, [], fatesN q1 k, 30, []⟩ ∧ (∀ i, i ∈ D → W0.heap.size ≤ i) ∧ Fr [] W0 wr) (fun _ i _ => 8 - (intOf i).toNat)
    case atStart => exact ⟨0, by omega, rfl, rfl, D3, HI3.out, HD3.out, HF3.out⟩
    case round =>
      obtain ⟨k, hk, rfl, rfl, D, hI, hD, hF⟩ := hrel
      have hbn := bitN_nonneg HBB.out.2.2.2.2.2.2.2.2.1 k
      have hbl := bitN_le HBB.out.2.2.2.2.2.2.2.2.1 k
      have hbm := HBB.out.2.2.2.2.2.2.2.2.2.2
      have HI := Lib.hid hI
      have HD := Lib.hid hD
      have HFr := Lib.hid hF
      clear hI hD hF a0 a1 b0 b1 c0 c1
      by_cases hlt : k < 8
      · have d0 : decide ((k : Int) < 8) = true := by simp; omega
        have hs1 : fatesN q1 (k + 1) = fatesN q1 k ++ [bitN k q1 % 2] := fatesN_succ q1 k
        have hs2 : bitN (k + 1) q1 = bitN k q1 / 2 := rfl
        have HS := Lib.hid (And.intro hs1 hs2)
        clear hs1 hs2
        generalize hx : bitN k q1 = x at *
        go_wp2_with fail
        have hIa := HI.out.fr ((Fr.refl [] wr).alloc (.cells #[.int .i64 (x % 2)] 3)) (by simp)
        have hBa := Blk.new wr #[.int .i64 (x % 2)] 3
        have hpl : devPl ⟨F1, [], fatesN q1 k, 30, []⟩ [x % 2] = ⟨F1, [], fatesN q1 (k + 1), 30, []⟩ := by
          unfold devPl
          rw [if_neg (by simp [fateBad]; omega), HS.out.1]
        have hcall := devPlan_any b D ⟨F1, [], fatesN q1 k, 30, []⟩ (some ⟨wr.heap.size, 0, none⟩) 1 [x % 2] _ hIa (by
          intro i hi
          simp only [List.length_cons, List.length_nil] at hi
          obtain rfl : i = 0 := by omega
          exact ⟨wr.heap.size, 0, rfl, hBa.cell rfl⟩) (by simp [fatesN_len]; omega)
        rw [hpl] at hcall
        refine hcall.mono ?_
        rintro e w4 ⟨rfl, D4, hI4, hF4, hD4⟩
        have HF4 := Lib.hid (show Fr [] W0 w4 from (HFr.out.trans ((Fr.refl [] wr).alloc _)).comp hF4 (fun i hi => .inr (HD.out i hi)))
        have HD4 := Lib.hid (show ∀ i, i ∈ D4 → W0.heap.size ≤ i from fun i hi => by
          rcases hD4 i hi with h | h
          · exact HD.out i h
          · have := HFr.out.size; simp at h; omega)
        have HI4 := Lib.hid hI4
        clear hcall hpl hBa hIa hI4 hF4 hD4
        go_wp2_with fail
        go_roundw
        case rel => exact ⟨k + 1, by omega, by go_num, by rw [HS.out.2], D4, HI4.out, HD4.out, HF4.out⟩
        case measure => simp [intOf]; omega
      · obtain rfl : k = 8 := by omega
        have d0 : decide (((8 : Nat) : Int) < 8) = false := by simp
        obtain ⟨a0, a1, b0, b1, c0, c1⟩ := HC.out wr HFr.out
        have hB := HBB.out
        go_wp2_with fail
        have hlen1 : F1.length = 30 := HL1.out
        have hsv := pgSave_any b D ⟨F1, [], fatesN q1 8, 30, []⟩ a p 1 6 oa1 cap1 l1 wr HI.out (H1.out.keep (HFw.out.trans HFr.out) (by simp)) (by omega) (by omega) (HHA.out wr HFr.out) (by simp) (by omega) (by omega) (by omega) (by omega) (.inr rfl)
        have hO : (pgSv ⟨F1, [], fatesN q1 8, 30, []⟩ a p 1 6 l1).1.O.length ≤ 10 := by have := sv_open ⟨F1, [], fatesN q1 8, 30, []⟩ a p 1 6 l1; simp only [List.length_nil, Int.toNat_natCast] at this; omega
        generalize hg : pgSv ⟨F1, [], fatesN q1 8, 30, []⟩ a p 1 6 l1 = g at *
        refine hsv.mono ?_
        rintro e w5 ⟨rfl, D5, hI5, hF5, hD5⟩
        have HF5 := Lib.hid (show Fr [] W0 w5 from HFr.out.comp hF5 (fun i hi => .inr (HD.out i hi)))
        have HD5 := Lib.hid (show ∀ i, i ∈ D5 → W0.heap.size ≤ i from fun i hi => by rcases hD5 i hi with h | h; exact HD.out i h; have := HFr.out.size; omega)
        have HI5 := Lib.hid hI5
        have HGG := Lib.hid hg
        clear hsv hI5 hF5 hD5 a0 a1 b0 b1 c0 c1 hB hg
        obtain ⟨a0, a1, b0, b1, c0, c1⟩ := HC.out w5 HF5.out
        go_wp2_with fail
        obtain ⟨i0, hi, hz0, hz1, hz2⟩ := infoBool
        have HIB := Lib.hid (And.intro hi (And.intro hz0 (And.intro hz1 hz2)))
        have HO10 := Lib.hid hO
        clear hi hz0 hz1 hz2 a0 a1 b0 b1 c0 c1 hO
        go_loopw [13, 14, 15] (fun v xv i wr => ∃ (k : Nat) (Ks : List Bool), k ≤ g.1.O.length ∧ Ks.length = k ∧ i = .int .i64 k ∧ xv = .int .i64 (bitN k q0) ∧ wr.ownsRow w5.heap.size 4 1 v Ks.length (Ks.map Value.bool) ∧ IsDev wr b D5 g.1 ∧ Fr [] w5 wr) (fun _ _ i _ => g.1.O.length - (intOf i).toNat)
        case atStart => exact ⟨0, [], by omega, rfl, rfl, rfl, World.ownsRow_nil _ _ _ _, HI5.out, Fr.refl _ _⟩
        case round =>
          obtain ⟨k, Ks, hk, hKl, rfl, rfl, hown, hI6, hF6⟩ := hrel
          have hbn := bitN_nonneg HBB.out.2.2.2.2.2.2.2.1 k
          have hbl := bitN_le HBB.out.2.2.2.2.2.2.2.1 k
          have hbm := HBB.out.2.2.2.2.2.2.2.2.2.1
          have hO := HO10.out
          have HI6 := Lib.hid hI6
          have HF6 := Lib.hid hF6
          have HO6 := Lib.hid hown
          have HKL := Lib.hid hKl
          obtain ⟨oa6, cap6, rfl⟩ := owns_form0 hown
          clear hI6 hF6 hown hKl
          go_wp2_with fail
          refine (devOpen_any b D5 g.1 _ HI6.out).mono ?_
          rintro e w7 ⟨rfl, rfl⟩
          by_cases hlt : k < g.1.O.length
          · have d0 : decide ((k : Int) < (g.1.O.length : Nat)) = true := by simp; omega
            have d1 : decide ((k : Int) < 30) = true := by simp; omega
            have hs2 : bitN (k + 1) q0 = bitN k q0 / 2 := rfl
            have HS := Lib.hid hs2
            clear hs2
            generalize hx : bitN k q0 = x at *
            have hn1 : Ks.length ≤ 10 := by rw [HKL.out]; omega
            have hlt6 := (HI6.out.lt _ HI6.out.mem)
            go_wp2_with (at_builtin; refine wpList_append_own _ rfl _ _ 41 rfl w5.heap.size 4 i0 (.bool false) 1 1 Tryd.underlying41 HIB.out.1 HIB.out.2.1 HIB.out.2.2.1 HIB.out.2.2.2 rfl (by decide) _ _ _ rfl (HO6.out.alloc _) ⟨wr.heap.size, 0, none⟩ 1 1 [.bool (x % 2 == 1)] rfl rfl (cell_one_new _ _ _) (by intro u hu; simp at hu; subst hu; rfl) (by unfold maxLen; omega) (by omega) ?c5 ?_)
            case c5 => have := HF6.out.size; simp; omega
            intro v7 w7 hown7 hgrow7 _
            have hgO : ∀ i, (Value.slice oa6 Ks.length cap6).ownBlock = some i → w5.heap.size ≤ i := owns_ge HO6.out
            have hF7 : Fr (Value.slice oa6 Ks.length cap6).ownBlock.toList wr w7 := (((Fr.refl _ wr).alloc (.cells #[.bool (x % 2 == 1)] 4))).grown hgrow7 (fun q hq => .inl (by simpa using hq))
            have HI7 := Lib.hid (HI6.out.fr hF7 (fun i hi hm => by have := HI5.out.lt i hi; have := hgO i (by simpa using hm); omega))
            have HF7 := Lib.hid (show Fr [] w5 w7 from HF6.out.comp hF7 (fun i hi => .inr (hgO i (by simpa using hi))))
            obtain ⟨oa7, cap7, rfl⟩ := owns_form0 hown7
            have HO7 := Lib.hid hown7
            clear hown7 hgrow7 hgO hF7
            go_wp2_with fail
            go_roundw
            case rel => exact ⟨k + 1, Ks ++ [x % 2 == 1], by omega, by simp [HKL.out], by go_num, by rw [HS.out], by simpa using HO7.out, HI7.out, HF7.out⟩
            case measure => simp [intOf]; omega
          · have d0 : decide ((k : Int) < (g.1.O.length : Nat)) = false := by simp; omega
            have hkb : IsBools wr oa6 Ks := owns_bools HO6.out
            have hK1 : Ks.length ≤ g.1.O.length := by rw [HKL.out]; exact hk
            have hF1eq := HF.out (by first | rfl | trivial)
            rw [show a + 0 * p = a by omega] at hF1eq
            have hB := HBB.out
            have hcr := crash_newest fresh30 F1 a p 5 6 l0 l1 (fatesN q1 8) 30 [] Ks
            rw [HGG.out] at hcr
            have HCR := Lib.hid (fun C' Z' => hcr C' Z' (fatesN_ok 8) rfl (fun j hj => by unfold fresh30; rw [List.getElem?_replicate, if_pos hj]) hB.1 hB.2.1 hB.2.2.1 (by omega) hF1eq)
            clear hcr hF1eq
            go_wp2_with fail
            refine (devCrash_any b D5 g.1 oa6 cap6 Ks wr HI6.out hkb hK1).mono ?_
            rintro e w7 ⟨b7, D7, C7, Z7, rfl, hI7, hD7, hF7⟩
            have HF7 := Lib.hid ((HF5.out.trans HF6.out).trans hF7)
            have HI7 := Lib.hid hI7
            have HD7 := Lib.hid (show ∀ i, i ∈ D7 → W0.heap.size ≤ i from fun i hi => by have := hD7 i hi; have := (HF5.out.trans HF6.out).size; omega)
            clear hI7 hD7 hF7 hkb hB
            obtain ⟨a0, a1, b0, b1, c0, c1⟩ := HC.out w7 HF7.out
            go_wp2_with fail
            have hB := HBB.out
            have hr := pgNewest_any b7 D7 (devCr g.1 Ks C7 Z7) a p w7 HI7.out (by simp [devCr]) (HHA.out w7 HF7.out) (fun i hi => HNH.out i (HD7.out i hi)) (by omega) (by omega) (by omega) (by omega)
            rcases HCR.out C7 Z7 with hN | ⟨hN, hg2⟩
            · rw [hN] at hr
              refine hr.mono ?_
              rintro e w9 ⟨sv9, rfl, hown9, D9, hI9, hF9, hD9⟩
              clear hr
              obtain ⟨oa9, cap9, rfl, hr9⟩ := owns_row hown9
              have HR9 := Lib.hid hr9
              have HF9 := Lib.hid (HF7.out.comp hF9 (fun i hi => .inr (HD7.out i hi)))
              clear hown9 hI9 hF9 hD9 hr9 a0 a1 b0 b1 c0 c1 hN
              obtain ⟨a0, a1, b0, b1, c0, c1⟩ := HC.out w9 HF9.out
              go_wp2_with fail
              refine (Same_any l1 oa9 oa1 cap9 cap1 w9 HR9.out (H1.out.keep (HFw.out.trans HF9.out) (by simp)) (by omega)).mono ?_
              rintro e w10 ⟨rfl, hF10⟩
              have HF10 := Lib.hid (HF9.out.trans hF10)
              clear hF10
              go_wp2_with fail
              refine (awake13_any _).mono ?_
              rintro e w11 ⟨rfl, rfl⟩
              go_wp2_with fail
              go_ret
              exact ⟨rfl, HFw.out.trans HF10.out⟩
            · rw [hN] at hr
              have d9 : (g.2 != 0) = true := by simpa using hg2
              refine hr.mono ?_
              rintro e w9 ⟨sv9, rfl, hown9, D9, hI9, hF9, hD9⟩
              clear hr
              obtain ⟨oa9, cap9, rfl, hr9⟩ := owns_row hown9
              have HR9 := Lib.hid hr9
              have HF9 := Lib.hid (HF7.out.comp hF9 (fun i hi => .inr (HD7.out i hi)))
              clear hown9 hI9 hF9 hD9 hr9 a0 a1 b0 b1 c0 c1 hN
              obtain ⟨a0, a1, b0, b1, c0, c1⟩ := HC.out w9 HF9.out
              go_wp2_with fail
              refine (Same_any l0 oa9 oa0 cap9 cap0 w9 HR9.out (H0.out.keep (HFw.out.trans HF9.out) (by simp)) (by omega)).mono ?_
              rintro e w10 ⟨rfl, hF10⟩
              have HF10 := Lib.hid (HF9.out.trans hF10)
              clear hF10
              go_wp2_with fail
              refine (awake13_any _).mono ?_
              rintro e w11 ⟨rfl, rfl⟩
              go_wp2_with fail
              go_ret
              exact ⟨rfl, HFw.out.trans HF10.out⟩
  · have d9 : (f != 0) = true := by simpa using hf0
    go_wp2_with fail
    refine (awake13_any _).mono ?_
    rintro e w4 ⟨rfl, rfl⟩
    go_wp2_with fail
    go_ret
    exact ⟨rfl, HFw.out.trans HF3.out⟩
end Go.Proofs.YtgmjhpappamenaaDoor
