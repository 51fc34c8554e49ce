/- pages: Read. -/
import Derived.Test.YtgmjhpappamenaaDoorPageG
import Derived.Maps.OwnIn
namespace Go.Proofs.YtgmjhpappamenaaDoor
open Go.RowKit Go.Shelf
attribute [local go_sem] Oper.semAt_some

theorem rdB_ok {w : World} {b : Nat} {D : List Nat} {x : Dev} (s : Int) (k : Nat) (h : IsDev w b D x) : (rdB x s k).length = 64 ∧ ∀ y, y ∈ rdB x s k → y < 256 := by
  have hF := rdN_F x s k
  unfold rdB devRB
  split
  · rename_i hc
    obtain ⟨j, hj, hk⟩ := devE_in hc.1
    rw [hF.1, hF.2, hj]
    rw [hF.1] at hk
    obtain ⟨bf, ov, pv, _, h⟩ := h
    exact shownL_secs h.secs h.opens hk
  · exact zeros64_ok
def rdBs (x : Dev) (s : Int) (n : Nat) : List (List Nat) := (List.range n).map (rdB x s)
theorem rdBs_succ (x : Dev) (s : Int) (n : Nat) : rdBs x s (n + 1) = rdBs x s n ++ [rdB x s n] := by simp [rdBs, List.range_succ]
theorem rdBs_len (x : Dev) (s : Int) (n : Nat) : (rdBs x s n).length = n := by simp [rdBs]
/-- what a read of a checkpoint leaves, and answers: the Seq, the entries, what is wrong -/
structure RdOut where
  dev : Dev
  seq : Int
  es : List En
  er : Int
def pgRd (x : Dev) (base pages : Int) : RdOut :=
  if pgE x.F.length base pages = 0 then
    match (List.range pages.toNat).find? (fun k => rdE x base k != 0) with
    | some k => ⟨rdN x base (k + 1), 0, [], rdE x base k⟩
    | none => if jR (rdBs x base pages.toNat) then ⟨rdN x base pages.toNat, jSeq (rdBs x base pages.toNat), jEs (rdBs x base pages.toNat) pages.toNat, 0⟩ else ⟨rdN x base pages.toNat, 0, [], 14⟩
  else ⟨x, 0, [], pgE x.F.length base pages⟩
def RdPost (b : Nat) (D : List Nat) (w : World) (r : RdOut) (e : Ending) (w' : World) : Prop :=
  ∃ sv, e = .returned (.tuple #[.int .i64 r.seq, sv, .int .i64 r.er]) ∧ w'.ownsRow w.heap.size 83 4 sv r.es.length (ensC r.es) ∧ ∃ D', IsDev w' b D' r.dev ∧ Fr D w w' ∧ ∀ i, i ∈ D' → i ∈ D
theorem find_at {p : Nat → Bool} {n k : Nat} (hk : k < n) (h : ∀ j, j < k → p j = false) (h0 : p k = true) : (List.range n).find? p = some k := by
  obtain ⟨m, rfl⟩ : ∃ m, n = k + (m + 1) := ⟨n - k - 1, by omega⟩
  rw [List.range_add, List.find?_append, List.find?_eq_none.2]
  · rw [List.range_succ_eq_map]
    simp [h0]
  · intro j hj
    simp [h j (by simpa using hj)]
theorem find_no {p : Nat → Bool} {n : Nat} (h : ∀ j, j < n → p j = false) : (List.range n).find? p = none := by
  rw [List.find?_eq_none]
  intro j hj
  simp [h j (by simpa using hj)]
theorem IsDev.uniq {w : World} {b : Nat} {D D' : List Nat} {x x' : Dev} (h : IsDev w b D x) (h' : IsDev w b D' x') : D = D' := by
  obtain ⟨bf, ov, pv, rfl, h⟩ := h
  obtain ⟨bf', ov', pv', rfl, h'⟩ := h'
  have e := h.blk.inj h'.blk
  simp only [Array.mk.injEq, List.cons.injEq, Value.slice.injEq, Option.some.injEq, Addr.mk.injEq, and_true] at e
  obtain ⟨⟨rfl, _⟩, rfl, rfl⟩ := e
  rfl
/-- what holds while sectors are collected -/
def RI (b : Nat) (D : List Nat) (x : Dev) (s : Int) (n : Nat) (w : World) (k kd : Nat) (sv : Value) (W : World) : Prop :=
  ∃ D', (∀ i, i ∈ D' → i ∈ D) ∧ IsDev W b D' (rdN x s kd) ∧ Fr D w W ∧ Blk W (w.heap.size + 3) 76 #[sv] ∧ W.ownsRow (w.heap.size + 7) 88 64 sv k (firmC (rdBs x s k)) ∧
    Blk W w.heap.size 3 #[.int .i64 0] ∧ Blk W (w.heap.size + 1) 29 #[.slice none 0 0] ∧ Blk W (w.heap.size + 2) 26 #[.int .i64 0] ∧
    Blk W (w.heap.size + 4) 25 #[.pointer (some ⟨b, 0, none⟩)] ∧ Blk W (w.heap.size + 5) 3 #[.int .i64 s] ∧ Blk W (w.heap.size + 6) 3 #[.int .i64 (n : Nat)]
def RX (b : Nat) (D : List Nat) (x : Dev) (s : Int) (w : World) (k : Nat) (W : World) : Prop :=
  ∃ D', (∀ i, i ∈ D' → i ∈ D) ∧ IsDev W b D' (rdN x s (k + 1)) ∧ Fr D w W ∧
    Blk W w.heap.size 3 #[.int .i64 0] ∧ Blk W (w.heap.size + 1) 29 #[.slice none 0 0] ∧ Blk W (w.heap.size + 2) 26 #[.int .i64 (rdE x s k)]
theorem RI.go {b : Nat} {D : List Nat} {x : Dev} {s : Int} {n : Nat} {w : World} {k kd : Nat} {sv : Value} {W W' : World} {T : List Nat} (h : RI b D x s n w k kd sv W) (hf : Fr T W W') (hD : ∀ i, i ∈ D → i < w.heap.size)
    (hT : ∀ r, r ∈ T → w.heap.size + 7 ≤ r ∧ ¬ sv.ownBlock = some r) : RI b D x s n w k kd sv W' := by
  obtain ⟨D', hd, hI, hF, b3, ho, b0, b1, b2, b4, b5, b6⟩ := h
  have hn : ∀ i, i < w.heap.size + 7 → ¬ i ∈ T := fun i hi hm => by have := (hT i hm).1; omega
  exact ⟨D', hd, hI.fr hf (fun i hi => hn i (by have := hD i (hd i hi); omega)), hF.comp hf (fun i hi => .inr (by have := (hT i hi).1; omega)), b3.fr hf (hn _ (by omega)), owns_fr ho hf (fun g hg hm => (hT g hm).2 hg),
    b0.fr hf (hn _ (by omega)), b1.fr hf (hn _ (by omega)), b2.fr hf (hn _ (by omega)), b4.fr hf (hn _ (by omega)), b5.fr hf (hn _ (by omega)), b6.fr hf (hn _ (by omega))⟩
theorem RI.lt {b : Nat} {D : List Nat} {x : Dev} {s : Int} {n : Nat} {w : World} {k kd : Nat} {sv : Value} {W : World} (h : RI b D x s n w k kd sv W) : w.heap.size + 7 ≤ W.heap.size ∧ ∀ g, sv.ownBlock = some g → g < W.heap.size := by
  obtain ⟨D', hd, hI, hF, b3, ho, b0, b1, b2, b4, b5, b6⟩ := h
  exact ⟨b6.lt, owns_lt' ho⟩
theorem RI.stable {b : Nat} {D : List Nat} {x : Dev} {s : Int} {n : Nat} {w : World} (k kd B : Nat) (sv : Value) (hD : ∀ i, i ∈ D → i < w.heap.size) (hB : w.heap.size + 7 ≤ B) : Stable B (RI b D x s n w k kd sv) := by
  intro W W' T h hf hr
  refine h.go hf hD (fun r hm => ⟨by have := (hr r hm).1; omega, fun hg => ?_⟩)
  obtain ⟨D', hd, hI, hF, b3, ho, _⟩ := h
  obtain ⟨_, o, hro, hc⟩ := hr r hm
  obtain ⟨c, hb⟩ := owns_is_blk ho r (by simp [hg])
  unfold Blk at hb
  rw [hb] at hro
  cases hro
  cases hc
theorem RX.stable {b : Nat} {D : List Nat} {x : Dev} {s : Int} {w : World} (k B : Nat) (hD : ∀ i, i ∈ D → i < w.heap.size) (hB : w.heap.size + 3 ≤ B) : Stable B (RX b D x s w k) := by
  intro W W' T h hf hr
  obtain ⟨D', hd, hI, hF, b0, b1, b2⟩ := h
  have hn : ∀ i, i < w.heap.size + 3 → ¬ i ∈ T := fun i hi hm => by have := (hr i hm).1; omega
  exact ⟨D', hd, hI.fr hf (fun i hi => hn i (by have := hD i (hd i hi); omega)), hF.comp hf (fun i hi => .inr (by have := (hr i hi).1; omega)), b0.fr hf (hn _ (by omega)), b1.fr hf (hn _ (by omega)), b2.fr hf (hn _ (by omega))⟩
theorem sectors_any (v : Value) (s n : Int) (b : Nat) (w : World) (hv : v = .pointer (some ⟨b, 0, none⟩)) :
    Calls Tryd.prog 38 #[v, .int .i64 s, .int .i64 n] w fun e w' => e = .returned (.func (.func 67) #[] #[.pointer (some ⟨w.heap.size + 1 + 1, 0, none⟩), .pointer (some ⟨w.heap.size, 0, none⟩), .pointer (some ⟨w.heap.size + 1, 0, none⟩)]) ∧
      w' = ((w.alloc (.cells #[v] 25)).alloc (.cells #[.int .i64 s] 3)).alloc (.cells #[.int .i64 n] 3) := by
  subst hv
  go_enter Tryd.func38, Tryd.ntmps38
  go_wp2
  go_ret
  exact ⟨rfl, rfl⟩
set_option maxRecDepth 100000 in
set_option maxHeartbeats 1000000 in
theorem pgRead_any (b : Nat) (D : List Nat) (x : Dev) (base pages : Int) (w : World) (h : IsDev w b D x) (hO : (x.O.length + 1) * 72 ≤ 140737488355328) (hH : Halves w) (hHD : ∀ i, i ∈ D → ¬ i = 0) :
    Calls Tryd.prog 15 #[.pointer (some ⟨b, 0, none⟩), .int .i64 base, .int .i64 pages] w (RdPost b D w (pgRd x base pages)) := by
  have hn2 := (by obtain ⟨bf, ov, pv, _, h⟩ := h; exact h.n2 : x.F.length ≤ 4096)
  have HB := Lib.hid hO
  have HDl := Lib.hid h.lt
  have HH := Lib.hid h
  have HHH := Lib.hid hH
  have HHD := Lib.hid hHD
  have HC := Lib.hid (fun w1 h1 => pgCheck_any b D x base pages w1 h1)
  clear h hO hH hHD
  have hF0 := (((Fr.refl [] w).alloc (.cells #[.int .i64 0] 3)).alloc (.cells #[.slice none 0 0] 29)).alloc (.cells #[.int .i64 0] 26)
  have hI0 := HH.out.fr hF0 (by simp)
  have k0 := (Blk.new w #[.int .i64 0] 3).alloc (.cells #[.slice none 0 0] 29) |>.alloc (.cells #[.int .i64 0] 26)
  have k1 := (blk_at (w.alloc (.cells #[.int .i64 0] 3)) #[.slice none 0 0] 29 (w.heap.size + 1) (by simp)).alloc (.cells #[.int .i64 0] 26)
  have k2 := blk_at ((w.alloc (.cells #[.int .i64 0] 3)).alloc (.cells #[.slice none 0 0] 29)) #[.int .i64 0] 26 (w.heap.size + 1 + 1) (by simp)
  generalize hR : pgRd x base pages = R
  have HR := Lib.hid hR
  clear hR
  refine (callsIn_wide (n := 6)).1 ?_
  have hro : Fence.wide.round = none := rfl
  refine callsIn_of_wp_marks Tryd.func15 rfl trivial ?_ hro
  simp only [Tryd.ntmps15, List.size_toArray, List.length_cons, List.length_nil, Nat.reduceAdd, Nat.reduceSub, Array.replicate_succ, Array.replicate_zero, List.push_toArray, List.append_toArray, List.nil_append, List.cons_append]
  gi_wp2_with fail
  refine ⟨trivial, (callsIn_wide.2 (HC.out _ hI0)).mono ?_⟩
  rintro e w1 ⟨rfl, rfl⟩
  by_cases hE : pgE x.F.length base pages = 0
  · obtain ⟨s, n, rfl, rfl, hn1, hsn⟩ := pgE_in hE
    rw [hE]
    gi_wp2_with fail
    have j0 := k0.alloc (.cells #[.slice none 0 0] 76)
    have j1 := k1.alloc (.cells #[.slice none 0 0] 76)
    have j2 := k2.alloc (.cells #[.slice none 0 0] 76)
    have hFW := hF0.alloc (.cells #[.slice none 0 0] 76)
    have j3 := blk_at (((w.alloc (.cells #[.int .i64 0] 3)).alloc (.cells #[.slice none 0 0] 29)).alloc (.cells #[.int .i64 0] 26)) #[.slice none 0 0] 76 (w.heap.size + 1 + 1 + 1) (by simp)
    refine ⟨trivial, (callsIn_wide.2 (sectors_any _ s n b _ rfl)).mono ?_⟩
    rintro e w6 ⟨rfl, hw6⟩
    simp only [World.size_alloc] at hw6 ⊢
    have HW6 := Lib.hid hw6
    clear hw6
    gi_wp2_with fail
    have hw6 := HW6.out
    have hs6 : w6.heap.size = w.heap.size + 7 := by rw [hw6]; simp
    have hRI : RI b D x s n w 0 0 (.slice none 0 0) w6 := by
      rw [hw6]
      have hF := ((hFW.alloc (.cells #[.pointer (some ⟨b, 0, none⟩)] 25)).alloc (.cells #[.int .i64 (s : Int)] 3)).alloc (.cells #[.int .i64 (n : Nat)] 3)
      exact ⟨D, fun i hi => hi, HH.out.fr hF (by simp), hF.sub (by simp), ((j3.alloc _).alloc _).alloc _, World.ownsRow_nil _ _ _ _, ((j0.alloc _).alloc _).alloc _, ((j1.alloc _).alloc _).alloc _, ((j2.alloc _).alloc _).alloc _,
        ((blk_at _ #[.pointer (some ⟨b, 0, none⟩)] 25 _ (by simp)).alloc _).alloc _, (blk_at _ #[.int .i64 (s : Int)] 3 _ (by simp)).alloc _, blk_at _ #[.int .i64 (n : Nat)] 3 _ (by simp)⟩
    have HRI := Lib.hid hRI
    have HS6 := Lib.hid hs6
    clear hw6 hs6 hRI j0 j1 j2 j3 k0 k1 k2 hFW hF0 hI0
    have hz : ∀ w, (zeroValue 88).run Tryd.prog w = .ok (.agg (bv zeros64)) w := fun _ => by kernel_rfl
    have hzs : (bv zeros64).size = 64 := by simp [bv_size, zeros64]
    refine range_mv hro (by omega) (gf := 67) rfl trivial (enters_of Tryd.func67 (by kernel_rfl) rfl) (α := List Nat × Int) (encs := fun y => #[.agg (bv (fix64 y.1)), .int .i64 y.2]) (fun _ => rfl) (fun pre => pre.length = n)
      (fun pre W => pre.length ≤ n ∧ (∀ j, j < pre.length → rdE x s j = 0) ∧ ∃ sv, RI b D x s n w pre.length pre.length sv W)
      (fun pre y W => pre.length < n ∧ y = (rdB x s pre.length, rdE x s pre.length) ∧ (∀ j, j < pre.length → rdE x s j = 0) ∧ ∃ sv, RI b D x s n w pre.length (pre.length + 1) sv W)
      (fun pre y a' W => pre.length < n ∧ (∀ j, j < pre.length → rdE x s j = 0) ∧ ∃ sv, RI b D x s n w pre.length (pre.length + 1) sv W ∧ ∃ v, w.heap.size + 7 ≤ v ∧ Blk W v 88 (bv (rdB x s pre.length)) ∧ ¬ sv.ownBlock = some v ∧ ∃ u26, a' = { tmps := #[.pointer (some ⟨b, 0, none⟩), .int .i64 (s : Int), .int .i64 (n : Nat), undef, undef, undef, .pointer (some ⟨w.heap.size, 0, none⟩), .pointer (some ⟨w.heap.size + 1, 0, none⟩), .pointer (some ⟨w.heap.size + 1 + 1, 0, none⟩), .int .i64 0, .pointer (some ⟨w.heap.size + 1 + 1 + 1, 0, none⟩), .pointer (some ⟨v, 0, none⟩), .int .i64 (rdE x s pre.length), undef, undef, undef, .pointer (some ⟨b, 0, none⟩), .int .i64 (s : Int), .int .i64 (n : Nat), .int .i64 0, .int .i64 0, .bool false, undef, .pointer (some ⟨b, 0, none⟩), .int .i64 (s : Int), .int .i64 (n : Nat), u26, .agg (bv (rdB x s pre.length)), .int .i64 (rdE x s pre.length), undef, undef, undef, undef, undef, undef, undef, undef, undef, undef, undef, undef, undef, undef, undef, undef, undef], defers := [] })
      (fun c pre W => c = .ret ∧ ∃ k, k < n ∧ (∀ j, j < k → rdE x s j = 0) ∧ ¬ rdE x s k = 0 ∧ RX b D x s w k W)
      (fun pre => (Stable.pure _ _).and ((Stable.pure _ _).and (Stable.ex fun sv => RI.stable _ _ _ sv HDl.out (by rw [HS6.out]; omega))))
      ?iaS
      (fun c pre => (Stable.pure _ _).and (Stable.ex fun k => (Stable.pure _ _).and ((Stable.pure _ _).and ((Stable.pure _ _).and (RX.stable _ _ HDl.out (by rw [HS6.out]; omega))))))
      ⟨Nat.zero_le _, fun j hj => absurd hj (Nat.not_lt_zero _), _, HRI.out⟩ ?seq ?assign ?body ?done ?stop
    case iaS =>
      intro pre y a'
      refine (Stable.pure _ _).and ((Stable.pure _ _).and (Stable.ex fun sv => ((RI.stable _ _ _ sv HDl.out (by rw [HS6.out]; omega)).and (Stable.ex fun v => (Stable.pure _ _).and ((Stable.blk _ _ _ _).and ((Stable.pure _ _).and (Stable.ex fun u => Stable.pure _ _)))))))
    case seq =>
      intro l Bk Bx hl hBk hY W hI0 hB0
      refine (sectors1_in 5 b (w.heap.size + 4) (w.heap.size + 5) (w.heap.size + 6) l x s n (by omega) (by omega) HB.out (fun k W => k ≤ n ∧ (∀ j, j < k → rdE x s j = 0) ∧ (∃ sv, RI b D x s n w k k sv W) ∧ Bk W)
        (fun k W => (∀ j, j < k → rdE x s j = 0) ∧ (∃ sv, RI b D x s n w k (k + 1) sv W) ∧ Bk W) (fun W => ∃ c, ∃ pre : List (List Nat × Int), (c = .ret ∧ ∃ k, k < n ∧ (∀ j, j < k → rdE x s j = 0) ∧ ¬ rdE x s k = 0 ∧ RX b D x s w k W) ∧ Bx c W) ?_ ?_ ?_ W ⟨Nat.zero_le _, fun j hj => absurd hj (Nat.not_lt_zero _), hI0.2.2, hB0⟩).mono ?_
      · rintro k W ⟨_, _, ⟨sv, D', hd, hI, hF, b3, ho, b0, b1, b2, b4, b5, b6⟩, _⟩
        exact ⟨D', hI, b4, b5, b6⟩
      · rintro k W W' D' D'' hk ⟨_, hz, hRI, hb⟩ hI' hF' hI'' hD''
        obtain ⟨sv, D1, hd, hI, hF, b3, ho, b0, b1, b2, b4, b5, b6⟩ := hRI
        obtain rfl := hI.uniq hI'
        have hn : ∀ i, w.heap.size ≤ i → ¬ i ∈ D1 := fun i hi hm => by have := HDl.out i (hd i hm); omega
        refine ⟨hz, ⟨sv, D'', fun i hi => hd i (hD'' i hi), hI'', hF.trans (hF'.sub (fun i hi => .inl (hd i hi))), b3.fr hF' (hn _ (by omega)), owns_fr ho hF' (fun g hg => hn g (by have := owns_ge ho g hg; omega)), b0.fr hF' (hn _ (by omega)), b1.fr hF' (hn _ (by omega)), b2.fr hF' (hn _ (by omega)), b4.fr hF' (hn _ (by omega)), b5.fr hF' (hn _ (by omega)), b6.fr hF' (hn _ (by omega))⟩, hBk W W' hb (hF'.keeps (fun r hr => .inl ?_))⟩
        have := HDl.out r (hd r hr)
        rw [HS6.out]; omega
      · rintro k W hk ⟨hz, hRI, hb⟩
        obtain ⟨fn, tmps, asg, bd, hy, hR⟩ := hY (List.replicate k ([], 0)) (rdB x s k, rdE x s k) W ⟨by simpa using hk, by simp, by simpa using hz, by simpa using hRI⟩ hb
        have h64 := (rdB_ok s k HH.out (x := x)).1
        rw [fix64_of h64] at hy
        refine ⟨fn, tmps, asg, bd, hy, hR.mono fun e W' h => ?_⟩
        rcases h with ⟨he, ⟨hl', hz', hRI'⟩, hb'⟩ | ⟨he, c, hc, hb'⟩
        · simp only [List.length_append, List.length_replicate, List.length_cons, List.length_nil] at hl' hz' hRI'
          exact .inl ⟨he, hz' k (by omega), by omega, hz', hRI', hb'⟩
        · exact .inr ⟨he, c, [], hc, hb'⟩
      · rintro e W' ⟨he, h⟩
        refine ⟨he, h.imp (fun ⟨_, hz, hRI, hb⟩ => ⟨List.replicate n ([], 0), by simp, ⟨by simp, by simpa using hz, by simpa using hRI⟩, hb⟩) (fun ⟨c, pre, hc, hb⟩ => ⟨c, pre, hc, hb⟩)⟩
    case assign =>
      rintro l pre y W K ⟨hk, rfl, hz', sv, hRI⟩ hK
      have hok := rdB_ok s pre.length HH.out (x := x)
      rw [fix64_of hok.1]
      have hN := Blk.new W (bv zeros64) 88
      have hAs : (bv (rdB x s pre.length)).size = 64 := by rw [bv_size, hok.1]
      have hAl : (u8s (rdB x s pre.length)).length = 64 := by simp [u8s, hok.1]
      have hlt := hRI.lt
      have HRW := Lib.hid hRI
      have HKK := Lib.hid hK
      have HZZ := Lib.hid hz'
      have HLT := Lib.hid hlt
      clear hRI hz' hK hlt
      gi_wp2_with (refine wpListIn_stoAll (cs := u8s (rdB x s pre.length)) rfl rfl hN rfl rfl (by rw [hAl]; kernel_rfl) (by rw [hAl, hzs]) (by simp [u8s, Value.oneCell']) ?_; intro w3 hB3 hF3 hs3)
      have hF13 : Fr [] W w3 := ((Fr.refl [] W).alloc (.cells (bv zeros64) 88)).comp hF3 (by simp)
      exact HKK.out _ _ (hF13.keeps (by simp)) ⟨hk, HZZ.out, sv, HRW.out.go hF13 HDl.out (by simp), W.heap.size, HLT.out.1, hB3, fun h => Nat.lt_irrefl _ (HLT.out.2 _ h), _, rfl⟩
    case body =>
      rintro l pre y a' W hll ⟨hk, hz', sv, hRI, v, hv, hBv, hsv, u26, rfl⟩
      have hok := rdB_ok s pre.length HH.out (x := x)
      have hAs : (bv (rdB x s pre.length)).size = 64 := by rw [bv_size, hok.1]
      have hAl : (u8s (rdB x s pre.length)).length = 64 := by simp [u8s, hok.1]
      have HZZ := Lib.hid hz'
      have HLT := Lib.hid hRI.lt
      obtain ⟨D', hd, hI, hF, b3, ho, b0, b1, b2, b4, b5, b6⟩ := hRI
      have HD' := Lib.hid hd
      have HI := Lib.hid hI
      have HF := Lib.hid hF
      have HO := Lib.hid ho
      have B456 := Lib.hid (And.intro b4 (And.intro b5 b6))
      have HKN := Lib.hid (rdBs_succ x s pre.length)
      have HE0 : Hid (∀ j, j < pre.length + 1 → j = pre.length ∨ j < pre.length) := Lib.hid (by omega)
      clear hz' hd hI hF ho b4 b5 b6
      generalize hpl : pre.length = k at *
      generalize hA : rdB x s k = A at *
      generalize hee : rdE x s k = er at *
      have HPL := Lib.hid (And.intro hpl (And.intro hA hee))
      clear hpl hA hee
      by_cases he : er = 0
      · subst he
        obtain ⟨i0, hi, hz0, hz1, hz2⟩ := info_parts infoBlock
        have HIB := Lib.hid (And.intro hi (And.intro hz0 (And.intro hz1 hz2)))
        clear hi hz0 hz1 hz2
        have cl3 : W.cell? ⟨w.heap.size + 1 + 1 + 1, 0, none⟩ = some sv := b3.cell rfl
        have hA64 := hok.1
        have hOA := owns_alloc HO.out (.cells (u8s A).toArray 88)
        have hBA := Blk.new W (u8s A).toArray 88
        have hge := owns_ge hOA
        have hb1 : k + 1 ≤ 4096 := by omega
        gi_wp2_with (first
          | (refine wpListIn_load_all (c := bv A) rfl 88 _ rfl hBv rfl (by rw [hAs]; kernel_rfl) ?_)
          | (refine wpListIn_slice (t := 76) rfl (run_exec_slice (l := [(0, .agg (bv A))]) rfl rfl (fun ps hp => sliceBlock W A hA64 ps hp)) rfl ?_)
          | (refine wpListIn_append_own_at _ rfl _ _ 76 rfl (w.heap.size + 7) 88 i0 (.agg (bv zero64)) 64 64 Tryd.underlying76 HIB.out.1 HIB.out.2.1 HIB.out.2.2.1 HIB.out.2.2.2 (by simp [Value.cells, bv_size, zero64]) (by decide) _ k _ rfl hOA ⟨W.heap.size, 0, none⟩ 1 1 (u8s A) rfl (by simp [u8s, hA64]) (blk_news hBA) (by simp [u8s, Value.oneCell']) (by unfold maxLen; omega) (by omega) (by have := HLT.out.1; simp; omega) ?_))
        intro v7 w7 hown7 hgrow7 _ _
        obtain ⟨g7, cap7, rfl, hg7, hl7⟩ := hown7.form (by omega)
        have hWF : Fr [] W (W.alloc (.cells (u8s A).toArray 88)) := (Fr.refl [] W).alloc _
        have hb37 := (b3.alloc (.cells (u8s A).toArray 88)).grown hgrow7 (fun hj => by have := hge _ hj; omega)
        have hF7 : Fr sv.ownBlock.toList W w7 := (hWF.sub (by simp)).grown hgrow7 (fun j hj => .inl (by rw [hj]; simp))
        have HO7 := Lib.hid hown7
        have HF7 := Lib.hid hF7
        have HGE := Lib.hid hge
        clear hown7 hgrow7 hF7 hWF hOA hBA hge
        gi_wp2_with (refine wpListIn_put (i := 0) rfl rfl hb37 rfl rfl rfl (by kernel_rfl) (by simp) ?_; intro w8 hB8 hF8 hs8)
        have HB8 := Lib.hid hB8
        have hs7 := HF7.out.size
        have hF78 : Fr (sv.ownBlock.toList ++ [w.heap.size + 1 + 1 + 1]) W w8 := (HF7.out.sub (fun i hi => .inl (List.mem_append_left _ hi))).trans (hF8.sub (fun i hi => .inl (List.mem_append_right _ hi)))
        have hL : ∀ r, r ∈ sv.ownBlock.toList ++ [w.heap.size + 1 + 1 + 1] → (w.heap.size + 7 ≤ r ∧ sv.ownBlock = some r) ∨ r = w.heap.size + 3 := by
          intro r hr
          rcases List.mem_append.1 hr with hr | hr
          · exact .inl ⟨HGE.out r (by simpa using hr), by simpa using hr⟩
          · right; simpa using hr
        have hN : ∀ i, i < w.heap.size + 7 → ¬ i = w.heap.size + 3 → ¬ i ∈ sv.ownBlock.toList ++ [w.heap.size + 1 + 1 + 1] := fun i hi h3 hm => by
          rcases hL i hm with h | h
          · omega
          · exact h3 h
        have hO8 := owns_fr HO7.out hF8 (fun g hg => by cases hg; simp; omega)
        refine ⟨hF78.keeps (fun r hr => ?_), ?_, ?_, _, D', HD'.out, ?_, ?_, HB8.out, ?_, ?_⟩
        · rcases hL r hr with h | h
          · have := owns_is_blk HO.out r (by simp [h.2])
            exact .inr (.inr ⟨_, this⟩)
          · left; rw [HS6.out]; omega
        · simp only [List.length_append, List.length_cons, List.length_nil, HPL.out.1]; omega
        · intro j hj
          simp only [List.length_append, List.length_cons, List.length_nil, HPL.out.1] at hj
          rcases HE0.out j hj with rfl | hj
          · exact HPL.out.2.2
          · exact HZZ.out j hj
        · simp only [List.length_append, List.length_cons, List.length_nil, HPL.out.1]
          exact HI.out.fr hF78 (fun i hi => hN i (by have := HDl.out i (HD'.out i hi); omega) (by have := HDl.out i (HD'.out i hi); omega))
        · exact HF.out.comp hF78 (fun i hi => .inr (by rcases hL i hi with h | h <;> omega))
        · simp only [List.length_append, List.length_cons, List.length_nil, HPL.out.1, Nat.zero_add]
          rw [HKN.out, firmC_append, show firmC [A] = u8s A by simp [firmC]]
          exact hO8
        · exact ⟨b0.fr hF78 (hN _ (by omega) (by omega)), b1.fr hF78 (hN _ (by omega) (by omega)), b2.fr hF78 (hN _ (by omega) (by omega)), B456.out.1.fr hF78 (hN _ (by omega) (by omega)), B456.out.2.1.fr hF78 (hN _ (by omega) (by omega)), B456.out.2.2.fr hF78 (hN _ (by omega) (by omega))⟩
      · have e0 : (er != 0) = true := by simpa using he
        gi_wp2_with (first
          | (refine wpListIn_put (i := 0) rfl rfl b0 rfl rfl rfl (by kernel_rfl) (by simp) ?_; intro w3 hB3 hF3 hs3)
          | (refine wpListIn_put (i := 0) rfl rfl (b1.fr hF3 (by simp)) rfl rfl rfl (by kernel_rfl) (by simp) ?_; intro w4 hB4 hF4 hs4)
          | (refine wpListIn_put (i := 0) rfl rfl ((b2.fr hF3 (by simp)).fr hF4 (by simp)) rfl rfl rfl (by kernel_rfl) (by simp) ?_; intro w5 hB5 hF5 hs5))
        have hL : ∀ r, r ∈ [w.heap.size, w.heap.size + 1, w.heap.size + 1 + 1] → w.heap.size ≤ r ∧ r < w.heap.size + 7 := by
          intro r hr
          simp only [List.mem_cons, List.not_mem_nil, or_false] at hr
          rcases hr with rfl | rfl | rfl <;> omega
        have hF35 : Fr [w.heap.size, w.heap.size + 1, w.heap.size + 1 + 1] W w5 := ((hF3.sub (fun i hi => .inl (by simp at hi; simp [hi]))).trans (hF4.sub (fun i hi => .inl (by simp at hi; simp [hi])))).trans (hF5.sub (fun i hi => .inl (by simp at hi; simp [hi])))
        refine ⟨hF35.keeps (fun r hr => .inl (by rw [HS6.out]; exact (hL r hr).2)), rfl, k, hk, HZZ.out, by rw [HPL.out.2.2]; exact he, D', HD'.out, HI.out.fr hF35 (fun i hi hm => by have := HDl.out i (HD'.out i hi); have := (hL i hm).1; omega),
          HF.out.comp hF35 (fun i hi => .inr (hL i hi).1), ?_, ?_, ?_⟩
        · exact (hB3.fr hF4 (by simp)).fr hF5 (by simp)
        · exact hB4.fr hF5 (by simp)
        · rw [HPL.out.2.2]; exact hB5
    case done =>
      rintro Dq xs W hDq hlen ⟨_, hz', sv, hRI⟩ hKq
      rw [hlen] at hz' hRI
      have hRlt := hRI.lt
      obtain ⟨D', hd, hI, hF, b3, ho, b0, b1, b2, b4, b5, b6⟩ := hRI
      obtain ⟨g, cap, rfl, hg, hgl⟩ := ho.form (by omega)
      have hj := joined_any g cap (rdBs x s n) W (owns_range ho) (fun q hq => by
        obtain ⟨j, hj, rfl⟩ := List.mem_map.1 hq
        exact rdB_ok s j HH.out) (by rw [rdBs_len]; omega) (by rw [rdBs_len]; omega) hgl (HHH.out.keep hF HHD.out)
      rw [rdBs_len] at hj
      have HJ := Lib.hid hj
      have hfn : (List.range n).find? (fun k => rdE x s k != 0) = none := find_no (fun j hj => by simpa using hz' j hj)
      have hRR : R = if jR (rdBs x s n) then ⟨rdN x s n, jSeq (rdBs x s n), jEs (rdBs x s n) n, 0⟩ else ⟨rdN x s n, 0, [], 14⟩ := by
        rw [← HR.out]
        unfold pgRd
        rw [if_pos hE]
        simp only [Int.toNat_natCast, hfn]
      have HRR := Lib.hid hRR
      have HD' := Lib.hid (And.intro hd (And.intro hI hF))
      have cl3 : W.cell? ⟨w.heap.size + 1 + 1 + 1, 0, none⟩ = some (.slice (some ⟨g, 0, none⟩) n cap) := b3.cell rfl
      have hlq := HS6.out
      have HL2 := Lib.hid (And.intro hlq hRlt)
      have HKQ := Lib.hid hKq
      have HLQ := Lib.hid (Array.getElem?_eq_some_iff.1 hKq).1
      have HLE := Lib.hid (rdBs_len x s n)
      clear hj hfn hRR hd hI hF b3 ho b4 b5 b6 hz' hlq hRlt hKq
      gi_wp2_with fail
      refine ⟨trivial, (callsIn_wide.2 HJ.out).mono ?_⟩
      rintro e w9 ⟨sv2, rfl, hF9, ho9⟩
      have HO9 := Lib.hid ho9
      rw [HLE.out] at HO9
      clear ho9
      have c0 := b0.fr hF9 (by simp)
      have c1 := b1.fr hF9 (by simp)
      have c2 := b2.fr hF9 (by simp)
      have hs9 := hF9.size
      cases hjr : jR (rdBs x s n)
      · have hRR := HRR.out
        rw [hjr] at hRR HO9
        simp only [Bool.false_eq_true, if_false] at hRR
        have HRR2 := Lib.hid hRR
        clear hRR
        generalize jSeq (rdBs x s n) = js at *
        gi_wp2_with (first
          | (refine wpListIn_put (i := 0) rfl rfl c0 rfl rfl rfl (by kernel_rfl) (by simp) ?_; intro w3 hB3 hF3 hs3)
          | (refine wpListIn_put (i := 0) rfl rfl (c1.fr hF3 (by simp)) rfl rfl rfl (by kernel_rfl) (by simp) ?_; intro w4 hB4 hF4 hs4)
          | (refine wpListIn_put (i := 0) rfl rfl ((c2.fr hF3 (by simp)).fr hF4 (by simp)) rfl rfl rfl (by kernel_rfl) (by simp) ?_; intro w5 hB5 hF5 hs5))
        have hq9 := HLQ.out
        have hqq := HL2.out
        have hF35 : Fr [w.heap.size, w.heap.size + 1, w.heap.size + 1 + 1] w9 w5 := ((hF3.sub (fun i hi => .inl (by simp at hi; simp [hi]))).trans (hF4.sub (fun i hi => .inl (by simp at hi; simp [hi])))).trans (hF5.sub (fun i hi => .inl (by simp at hi; simp [hi])))
        have hL : ∀ r, r ∈ [w.heap.size, w.heap.size + 1, w.heap.size + 1 + 1] → w.heap.size ≤ r ∧ r < w.heap.size + 7 := by
          intro r hr
          simp only [List.mem_cons, List.not_mem_nil, or_false] at hr
          rcases hr with rfl | rfl | rfl <;> omega
        have hK5 : w5.heap[Dq]? = some (.deferred (some [])) := (hF35.block Dq (by omega) (fun hm => by have := (hL _ hm).2; omega)).trans ((hF9.block Dq hq9 (by simp)).trans HKQ.out)
        have hP : Fr [Dq] w5 (w5.putObj Dq (.deferred none)) := (Fr.refl [Dq] w5).put' Dq (by simp) _
        refine ⟨by simp, .inl ⟨_, _, rfl, run_takeDeferred hK5, ?_⟩⟩
        refine ⟨_, res_cells3 Tryd.results15 rfl rfl rfl (load_one (by kernel_rfl) ((((hB3.fr hF4 (by simp)).fr hF5 (by simp)).fr hP (by simp; omega)).cell rfl)) (load_one (by kernel_rfl) (((hB4.fr hF5 (by simp)).fr hP (by simp; omega)).cell rfl)) (load_one (by kernel_rfl) ((hB5.fr hP (by simp; omega)).cell rfl)), ?_⟩
        rw [HRR2.out]
        have hW5 : Fr D w w5 := ((HD'.out.2.2.trans (hF9.sub (by simp))).comp hF35 (fun i hi => .inr (hL i hi).1))
        refine ⟨_, rfl, World.ownsRow_nil _ _ _ _, D', ((HD'.out.2.1.fr hF9 (by simp)).fr hF35 (fun i hi hm => by have := HDl.out i (HD'.out.1 i hi); have := (hL i hm).1; omega)).fr hP (fun i hi => by have := HDl.out i (HD'.out.1 i hi); simp; omega), hW5.put Dq (by omega) _, HD'.out.1⟩
      · have hRR := HRR.out
        rw [hjr] at hRR HO9
        simp only [if_true] at hRR
        have HRR2 := Lib.hid hRR
        clear hRR
        have ho9 := HO9.out rfl
        obtain ⟨oa2, cap2, rfl⟩ := owns_form0 ho9
        have HO2 := Lib.hid ho9
        clear ho9
        generalize jSeq (rdBs x s n) = js at *
        generalize jEs (rdBs x s n) n = es at *
        gi_wp2_with (first
          | (refine wpListIn_put (i := 0) rfl rfl c0 rfl rfl rfl (by kernel_rfl) (by simp) ?_; intro w3 hB3 hF3 hs3)
          | (refine wpListIn_put (i := 0) rfl rfl (c1.fr hF3 (by simp)) rfl rfl rfl (by kernel_rfl) (by simp) ?_; intro w4 hB4 hF4 hs4)
          | (refine wpListIn_put (i := 0) rfl rfl ((c2.fr hF3 (by simp)).fr hF4 (by simp)) rfl rfl rfl (by kernel_rfl) (by simp) ?_; intro w5 hB5 hF5 hs5))
        have hq9 := HLQ.out
        have hqq := HL2.out
        have hF35 : Fr [w.heap.size, w.heap.size + 1, w.heap.size + 1 + 1] w9 w5 := ((hF3.sub (fun i hi => .inl (by simp at hi; simp [hi]))).trans (hF4.sub (fun i hi => .inl (by simp at hi; simp [hi])))).trans (hF5.sub (fun i hi => .inl (by simp at hi; simp [hi])))
        have hL : ∀ r, r ∈ [w.heap.size, w.heap.size + 1, w.heap.size + 1 + 1] → w.heap.size ≤ r ∧ r < w.heap.size + 7 := by
          intro r hr
          simp only [List.mem_cons, List.not_mem_nil, or_false] at hr
          rcases hr with rfl | rfl | rfl <;> omega
        have hK5 : w5.heap[Dq]? = some (.deferred (some [])) := (hF35.block Dq (by omega) (fun hm => by have := (hL _ hm).2; omega)).trans ((hF9.block Dq hq9 (by simp)).trans HKQ.out)
        have hP : Fr [Dq] w5 (w5.putObj Dq (.deferred none)) := (Fr.refl [Dq] w5).put' Dq (by simp) _
        refine ⟨by simp, .inl ⟨_, _, rfl, run_takeDeferred hK5, ?_⟩⟩
        refine ⟨_, res_cells3 Tryd.results15 rfl rfl rfl (load_one (by kernel_rfl) ((((hB3.fr hF4 (by simp)).fr hF5 (by simp)).fr hP (by simp; omega)).cell rfl)) (load_one (by kernel_rfl) (((hB4.fr hF5 (by simp)).fr hP (by simp; omega)).cell rfl)) (load_one (by kernel_rfl) ((hB5.fr hP (by simp; omega)).cell rfl)), ?_⟩
        rw [HRR2.out]
        have hW5 : Fr D w w5 := ((HD'.out.2.2.trans (hF9.sub (by simp))).comp hF35 (fun i hi => .inr (hL i hi).1))
        refine ⟨_, rfl, owns_base (owns_fr (owns_fr HO2.out hF35 (fun q hq hm => by have := owns_ge HO2.out q hq; have := (hL q hm).2; omega)) hP (fun q hq => by have := owns_lt' HO2.out q hq; have := owns_ge HO2.out q hq; simp; omega)) (by omega), D', ((HD'.out.2.1.fr hF9 (by simp)).fr hF35 (fun i hi hm => by have := HDl.out i (HD'.out.1 i hi); have := (hL i hm).1; omega)).fr hP (fun i hi => by have := HDl.out i (HD'.out.1 i hi); simp; omega), hW5.put Dq (by omega) _, HD'.out.1⟩
    case stop =>
      rintro Dq c pre W hDq ⟨rfl, k, hk, hz', hk0, hRX⟩ hKq
      obtain ⟨D', hd, hI, hF, b0, b1, b2⟩ := hRX
      have hP : Fr [Dq] W (W.putObj Dq (.deferred none)) := (Fr.refl [Dq] W).put' Dq (by simp) _
      have hlq := HS6.out
      have hRR : R = ⟨rdN x s (k + 1), 0, [], rdE x s k⟩ := by
        rw [← HR.out]
        unfold pgRd
        rw [if_pos hE]
        have : (List.range n).find? (fun k => rdE x s k != 0) = some k := find_at hk (fun j hj => by simpa using hz' j hj) (by simpa using hk0)
        simp only [Int.toNat_natCast, this]
      gi_wp2
      refine ⟨by simp, .inl ⟨_, _, rfl, run_takeDeferred hKq, ?_⟩⟩
      refine ⟨_, res_cells3 Tryd.results15 rfl rfl rfl (load_one (by kernel_rfl) ((b0.fr hP (by simp; omega)).cell rfl)) (load_one (by kernel_rfl) ((b1.fr hP (by simp; omega)).cell rfl)) (load_one (by kernel_rfl) ((b2.fr hP (by simp; omega)).cell rfl)), ?_⟩
      rw [hRR]
      exact ⟨_, rfl, World.ownsRow_nil _ _ _ _, D', hI.fr hP (fun i hi => by have := HDl.out i (hd i hi); simp; omega), hF.put Dq (by omega) _, hd⟩
  · have hr : pgRd x base pages = ⟨x, 0, [], pgE x.F.length base pages⟩ := if_neg hE
    rw [HR.out] at hr
    subst hr
    generalize pgE x.F.length base pages = er at *
    have b1 : (er != 0) = true := by simpa using hE
    gi_wp2_with fail
    refine ⟨_, res_cells3 Tryd.results15 rfl rfl rfl (load_one (by kernel_rfl) (Blk.cell (((Blk.new w #[.int .i64 0] 3).alloc _).alloc _) rfl)) (load_one (by kernel_rfl) (Blk.cell ((blk_at _ #[.slice none 0 0] 29 _ (by simp)).alloc _) rfl)) (load_one (by kernel_rfl) (Blk.cell (blk_at _ #[.int .i64 er] 26 _ (by simp)) rfl)), ?_⟩
    refine ⟨_, rfl, World.ownsRow_nil _ _ _ _, D, HH.out.fr ((((Fr.refl [] w).alloc _).alloc _).alloc _) (by simp), ((((Fr.refl [] w).alloc _).alloc _).alloc _).sub (by simp), fun i hi => hi⟩
end Go.Proofs.YtgmjhpappamenaaDoor
