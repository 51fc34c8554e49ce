/- forms: the reference's rows of numbers. -/
import Derived.Test.YtifafnmbcmhlcaaDoorFormG
import Derived.Handy
namespace Go.Proofs.YtifafnmbcmhlcaaDoor
open Go.RowKit Go.Shelf

/-- a number, its size, from where, to where -/
abbrev Num4 := Int × Int × Int × Int
def nums4 (l : List Num4) : List Value := l.flatMap fun p => [.int .i64 p.1, .int .i64 p.2.1, .int .i64 p.2.2.1, .int .i64 p.2.2.2]
def num4V (p : Num4) : Value := .agg #[.int .i64 p.1, .int .i64 p.2.1, .int .i64 p.2.2.1, .int .i64 p.2.2.2]
def seqN (n f : Int) : Num4 := (n, 6, f, 1099511627776)
def twoN (n f t : Int) : Num4 := (n, 2, f, t)
theorem seq_any (n f : Int) (w : World) :
    Calls Tryd.prog 58 #[.int .i64 n, .int .i64 f] w fun e w' => e = .returned (.agg #[.int .i64 n, .int .i64 6, .int .i64 f, .int .i64 1099511627776]) ∧ Fr [] w w' := by
  go_enter Tryd.func58, Tryd.ntmps58
  go_wp2_with fail
  exact bodyPost_ret (v := .agg #[.int .i64 n, .int .i64 6, .int .i64 f, .int .i64 1099511627776]) (by simp [results, Tryd.results58, go_sem]) rfl ⟨rfl, (Fr.refl _ _).alloc _⟩
theorem two_any (n f t : Int) (w : World) :
    Calls Tryd.prog 59 #[.int .i64 n, .int .i64 f, .int .i64 t] w fun e w' => e = .returned (.agg #[.int .i64 n, .int .i64 2, .int .i64 f, .int .i64 t]) ∧ Fr [] w w' := by
  go_enter Tryd.func59, Tryd.ntmps59
  go_wp2_with fail
  exact bodyPost_ret (v := .agg #[.int .i64 n, .int .i64 2, .int .i64 f, .int .i64 t]) (by simp [results, Tryd.results59, go_sem]) rfl ⟨rfl, (Fr.refl _ _).alloc _⟩
theorem bit_any (d : Bool) (w : World) :
    Calls Tryd.prog 62 #[.bool d] w fun e w' => e = .returned (.int .i64 (flagN d : Nat)) ∧ w = w' := by
  cases d
  all_goals
    go_enter Tryd.func62, Tryd.ntmps62
    go_wp2_with fail
    go_ret
    exact ⟨rfl, rfl⟩
def superN (x0 x1 x2 x3 x4 x5 x6 : Int) : List Num4 := [seqN x0 0, twoN x1 1 4096, twoN x2 1 1024, twoN x3 1 4096, twoN x4 1 4096, twoN x5 1 4096, (x6, 1, 1, 64)]
set_option maxRecDepth 100000 in
set_option maxHeartbeats 2000000 in
theorem refSuper_any (x0 x1 x2 x3 x4 x5 x6 : Int) (w : World) :
    Calls Tryd.prog 44 #[.agg #[.int .i64 x0, .int .i64 x1, .int .i64 x2, .int .i64 x3, .int .i64 x4, .int .i64 x5, .int .i64 x6]] w fun e w' =>
      ∃ g, e = .returned (.slice (some ⟨g, 0, none⟩) 7 7) ∧ Blk w' g 109 (nums4 (superN x0 x1 x2 x3 x4 x5 x6)).toArray ∧ w.heap.size ≤ g ∧ Fr [] w w' := by
  have hFw := ((Fr.refl [] w).alloc (.cells #[.int .i64 x0, .int .i64 x1, .int .i64 x2, .int .i64 x3, .int .i64 x4, .int .i64 x5, .int .i64 x6] 90)).drew
  have hB := (Blk.new w #[.int .i64 x0, .int .i64 x1, .int .i64 x2, .int .i64 x3, .int .i64 x4, .int .i64 x5, .int .i64 x6] 90).drew
  go_enter Tryd.func44, Tryd.ntmps44
  go_wp2_with fail
  refine region_ord [] (.take 0 (.take 1 (.take 3 (.take 4 (.take 6 (.take 7 (.take 9 (.take 10 (.take 12 (.take 13 (.take 15 (.take 16 (.take 18 (.take 19 (.take 20 (.pick 2 (.pick 5 (.pick 8 (.pick 11 (.pick 14 (.pick 17 (.pick 21 (.take 22 .done) .none) .none) .none) .none) .none) .none) .none)))))))))))))))) (by kernel_rfl) (by kernel_rfl) ?_
  simp only [ordList, Ord.map, List.getD_cons_zero, List.getD_cons_succ]
  refine' ord_pure (v := _) ?_ rfl ?_; rotate_left; focus (intro w; go_simp <;> (first | (with_reducible rfl) | (constructor <;> with_reducible rfl)))
  simp only [Act.put, List.setIfInBounds_toArray, List.set_cons_zero, List.set_cons_succ]
  refine ord_cell hB (by simp) rfl rfl (by kernel_rfl) rfl rfl ?_
  simp only [Act.put, List.getElem_toArray, List.getElem_cons_zero, List.getElem_cons_succ, List.setIfInBounds_toArray, List.set_cons_zero, List.set_cons_succ]
  refine' ord_pure (v := _) ?_ rfl ?_; rotate_left; focus (intro w; go_simp <;> (first | (with_reducible rfl) | (constructor <;> with_reducible rfl)))
  simp only [Act.put, List.setIfInBounds_toArray, List.set_cons_zero, List.set_cons_succ]
  refine ord_cell hB (by simp) rfl rfl (by kernel_rfl) rfl rfl ?_
  simp only [Act.put, List.getElem_toArray, List.getElem_cons_zero, List.getElem_cons_succ, List.setIfInBounds_toArray, List.set_cons_zero, List.set_cons_succ]
  refine' ord_pure (v := _) ?_ rfl ?_; rotate_left; focus (intro w; go_simp <;> (first | (with_reducible rfl) | (constructor <;> with_reducible rfl)))
  simp only [Act.put, List.setIfInBounds_toArray, List.set_cons_zero, List.set_cons_succ]
  refine ord_cell hB (by simp) rfl rfl (by kernel_rfl) rfl rfl ?_
  simp only [Act.put, List.getElem_toArray, List.getElem_cons_zero, List.getElem_cons_succ, List.setIfInBounds_toArray, List.set_cons_zero, List.set_cons_succ]
  refine' ord_pure (v := _) ?_ rfl ?_; rotate_left; focus (intro w; go_simp <;> (first | (with_reducible rfl) | (constructor <;> with_reducible rfl)))
  simp only [Act.put, List.setIfInBounds_toArray, List.set_cons_zero, List.set_cons_succ]
  refine ord_cell hB (by simp) rfl rfl (by kernel_rfl) rfl rfl ?_
  simp only [Act.put, List.getElem_toArray, List.getElem_cons_zero, List.getElem_cons_succ, List.setIfInBounds_toArray, List.set_cons_zero, List.set_cons_succ]
  refine' ord_pure (v := _) ?_ rfl ?_; rotate_left; focus (intro w; go_simp <;> (first | (with_reducible rfl) | (constructor <;> with_reducible rfl)))
  simp only [Act.put, List.setIfInBounds_toArray, List.set_cons_zero, List.set_cons_succ]
  refine ord_cell hB (by simp) rfl rfl (by kernel_rfl) rfl rfl ?_
  simp only [Act.put, List.getElem_toArray, List.getElem_cons_zero, List.getElem_cons_succ, List.setIfInBounds_toArray, List.set_cons_zero, List.set_cons_succ]
  refine' ord_pure (v := _) ?_ rfl ?_; rotate_left; focus (intro w; go_simp <;> (first | (with_reducible rfl) | (constructor <;> with_reducible rfl)))
  simp only [Act.put, List.setIfInBounds_toArray, List.set_cons_zero, List.set_cons_succ]
  refine ord_cell hB (by simp) rfl rfl (by kernel_rfl) rfl rfl ?_
  simp only [Act.put, List.getElem_toArray, List.getElem_cons_zero, List.getElem_cons_succ, List.setIfInBounds_toArray, List.set_cons_zero, List.set_cons_succ]
  refine' ord_pure (v := _) ?_ rfl ?_; rotate_left; focus (intro w; go_simp <;> (first | (with_reducible rfl) | (constructor <;> with_reducible rfl)))
  simp only [Act.put, List.setIfInBounds_toArray, List.set_cons_zero, List.set_cons_succ]
  refine ord_cell hB (by simp) rfl rfl (by kernel_rfl) rfl rfl ?_
  simp only [Act.put, List.getElem_toArray, List.getElem_cons_zero, List.getElem_cons_succ, List.setIfInBounds_toArray, List.set_cons_zero, List.set_cons_succ]
  refine' ord_pure (v := _) ?_ rfl ?_; rotate_left; focus (intro w; go_simp <;> (first | (with_reducible rfl) | (constructor <;> with_reducible rfl)))
  simp only [Act.put, List.setIfInBounds_toArray, List.set_cons_zero, List.set_cons_succ]
  -- 2: t5 := CALL lavabo/lavaboref06.seq(t4, 0)   {1}
  refine' ord_call (f := 58) (args := _) ?_ rfl ?_; rotate_left; focus (go_simp <;> (first | (with_reducible rfl) | (constructor <;> with_reducible rfl)))
  refine (seq_any _ _ _).mono ?_
  rintro e w1 ⟨rfl, hF⟩
  have hFw := hFw.trans hF
  refine ⟨_, rfl, hF, ?_⟩
  simp only [Act.put, List.setIfInBounds_toArray, List.set_cons_zero, List.set_cons_succ]
  -- 5: t8 := CALL lavabo/lavaboref06.two(t7, 1, 4096)   {2,4}
  refine' ord_call (f := 59) (args := _) ?_ rfl ?_; rotate_left; focus (go_simp <;> (first | (with_reducible rfl) | (constructor <;> with_reducible rfl)))
  refine (two_any _ _ _ _).mono ?_
  rintro e w1 ⟨rfl, hF⟩
  have hFw := hFw.trans hF
  refine ⟨_, rfl, hF, ?_⟩
  simp only [Act.put, List.setIfInBounds_toArray, List.set_cons_zero, List.set_cons_succ]
  -- 8: t11 := CALL lavabo/lavaboref06.two(t10, 1, 1024)   {5,7}
  refine' ord_call (f := 59) (args := _) ?_ rfl ?_; rotate_left; focus (go_simp <;> (first | (with_reducible rfl) | (constructor <;> with_reducible rfl)))
  refine (two_any _ _ _ _).mono ?_
  rintro e w1 ⟨rfl, hF⟩
  have hFw := hFw.trans hF
  refine ⟨_, rfl, hF, ?_⟩
  simp only [Act.put, List.setIfInBounds_toArray, List.set_cons_zero, List.set_cons_succ]
  -- 11: t14 := CALL lavabo/lavaboref06.two(t13, 1, 4096)   {8,10}
  refine' ord_call (f := 59) (args := _) ?_ rfl ?_; rotate_left; focus (go_simp <;> (first | (with_reducible rfl) | (constructor <;> with_reducible rfl)))
  refine (two_any _ _ _ _).mono ?_
  rintro e w1 ⟨rfl, hF⟩
  have hFw := hFw.trans hF
  refine ⟨_, rfl, hF, ?_⟩
  simp only [Act.put, List.setIfInBounds_toArray, List.set_cons_zero, List.set_cons_succ]
  -- 14: t17 := CALL lavabo/lavaboref06.two(t16, 1, 4096)   {11,13}
  refine' ord_call (f := 59) (args := _) ?_ rfl ?_; rotate_left; focus (go_simp <;> (first | (with_reducible rfl) | (constructor <;> with_reducible rfl)))
  refine (two_any _ _ _ _).mono ?_
  rintro e w1 ⟨rfl, hF⟩
  have hFw := hFw.trans hF
  refine ⟨_, rfl, hF, ?_⟩
  simp only [Act.put, List.setIfInBounds_toArray, List.set_cons_zero, List.set_cons_succ]
  -- 17: t20 := CALL lavabo/lavaboref06.two(t19, 1, 4096)   {14,16}
  refine' ord_call (f := 59) (args := _) ?_ rfl ?_; rotate_left; focus (go_simp <;> (first | (with_reducible rfl) | (constructor <;> with_reducible rfl)))
  refine (two_any _ _ _ _).mono ?_
  rintro e w1 ⟨rfl, hF⟩
  have hFw := hFw.trans hF
  refine ⟨_, rfl, hF, ?_⟩
  simp only [Act.put, List.setIfInBounds_toArray, List.set_cons_zero, List.set_cons_succ]
  -- 21: t24 := buildSlice <[]lavaboref06.Num> 7 [(0,t5),(1,t8),(2,t11),(3,t14),(4,t17),(5,t20),(6,t23)]   {2,5,8,11,14,17,20}
  have hSl := blk_new hFw (nums4 (superN x0 x1 x2 x3 x4 x5 x6)).toArray 109
  refine' ord_do (v := _) (w' := _) ?_ ?_ rfl ?_
  rotate_left 2
  focus (go_simp <;> (first | (with_reducible rfl) | (constructor <;> with_reducible rfl)))
  focus (exact (Fr.refl _ _).alloc _)
  have hge := hFw.size
  have hFw := hFw.alloc (.cells (nums4 (superN x0 x1 x2 x3 x4 x5 x6)).toArray 109)
  simp only [Act.put, List.setIfInBounds_toArray, List.set_cons_zero, List.set_cons_succ]
  refine' ord_pure (v := _) ?_ rfl ?_; rotate_left; focus (intro w; go_simp <;> (first | (with_reducible rfl) | (constructor <;> with_reducible rfl)))
  simp only [Act.put, List.setIfInBounds_toArray, List.set_cons_zero, List.set_cons_succ]
  refine ord_nil ?_
  go_wp2_with fail
  go_ret
  exact ⟨_, rfl, hSl, hge, hFw⟩
def entN (b s : Int) (d : Bool) (m : Int) (no : Bool) : List Num4 :=
  [(b, 2, 0, if no then 0 else 4095), (s, 2, 0, if no then 0 else 1023), ((flagN d : Nat), 1, 0, if no then 0 else 1), (m, 4, 0, if no then 0 else 4294967295)]
set_option maxRecDepth 100000 in
set_option maxHeartbeats 2000000 in
theorem refEntry_any (b s : Int) (d : Bool) (m : Int) (no : Bool) (w : World) :
    Calls Tryd.prog 50 #[.int .i64 b, .int .i64 s, .bool d, .int .i64 m, .bool no] w fun e w' =>
      ∃ g, e = .returned (.slice (some ⟨g, 0, none⟩) 4 4) ∧ Blk w' g 109 (nums4 (entN b s d m no)).toArray ∧ w.heap.size ≤ g ∧ Fr [] w w' := by
  cases no
  · go_enter Tryd.func50, Tryd.ntmps50
    go_wp2_with fail
    refine (two_any _ _ _ _).mono ?_
    rintro e w1 ⟨rfl, hF1⟩
    go_wp2_with fail
    refine (two_any _ _ _ _).mono ?_
    rintro e w2 ⟨rfl, hF2⟩
    have hF02 := hF1.trans hF2
    go_wp2_with fail
    refine (bit_any _ _).mono ?_
    rintro e w3 ⟨rfl, rfl⟩
    go_wp2_with fail
    go_ret
    exact ⟨_, rfl, Blk.new _ _ _, hF02.size, hF02.alloc _⟩
  · go_enter Tryd.func50, Tryd.ntmps50
    go_wp2_with fail
    refine (two_any _ _ _ _).mono ?_
    rintro e w1 ⟨rfl, hF1⟩
    go_wp2_with fail
    refine (two_any _ _ _ _).mono ?_
    rintro e w2 ⟨rfl, hF2⟩
    have hF02 := hF1.trans hF2
    clear hF1 hF2
    go_wp2_with fail
    refine (bit_any _ _).mono ?_
    rintro e w3 ⟨rfl, rfl⟩
    go_wp2_with fail
    refine wp_loop_rounds 5 ?_
    rw [rounds_succ]
    go_wp2_with fail
    rw [rounds_succ]
    go_wp2_with fail
    rw [rounds_succ]
    go_wp2_with fail
    rw [rounds_succ]
    go_wp2_with fail
    rw [rounds_succ]
    go_wp2_with fail
    go_ret
    exact ⟨_, rfl, Blk.new _ _ _, hF02.size, hF02.alloc _⟩
theorem infoNum4 : (Tryd.prog.info? 109).map (fun i => (i.zero, i.size, i.bytes)) = some (some (.agg #[.int .i64 0, .int .i64 0, .int .i64 0, .int .i64 0]), 4, 32) := by kernel_rfl
theorem nums4_append (a b : List Num4) : nums4 (a ++ b) = nums4 a ++ nums4 b := by simp [nums4]
theorem nums4_len (a : List Num4) : (nums4 a).length = a.length * 4 := by
  induction a with
  | nil => rfl
  | cons p r ih => simp only [nums4, List.flatMap_cons, List.length_append, List.length_cons, List.length_nil] at ih ⊢; omega
theorem nums4_one (a : List Num4) : ∀ u ∈ nums4 a, u.oneCell' = true := by
  intro u hu
  simp only [nums4, List.mem_flatMap] at hu
  obtain ⟨p, _, hp⟩ := hu
  simp only [List.mem_cons, List.not_mem_nil, or_false] at hp
  rcases hp with rfl | rfl | rfl | rfl <;> rfl
theorem nums4_get : ∀ (ps : List Num4) (i : Nat) (h : i < ps.length), (nums4 ps)[i * 4]? = some (.int .i64 ps[i].1) ∧ (nums4 ps)[i * 4 + 1]? = some (.int .i64 ps[i].2.1) ∧ (nums4 ps)[i * 4 + 2]? = some (.int .i64 ps[i].2.2.1) ∧ (nums4 ps)[i * 4 + 3]? = some (.int .i64 ps[i].2.2.2) := by
  intro ps
  induction ps with
  | nil => intro i h; simp at h
  | cons p r ih =>
    intro i h
    cases i with
    | zero => exact ⟨rfl, rfl, rfl, rfl⟩
    | succ i =>
      have := ih i (by simpa using h)
      rw [show (i + 1) * 4 = i * 4 + 4 by omega]
      exact this
/-- numbers that lie behind a slice -/
def IsNums (w : World) (oa : Option Addr) (ps : List Num4) : Prop :=
  ∀ (i : Nat) (h : i < ps.length), ∃ b off, oa = some ⟨b, off, none⟩ ∧ w.cell? ⟨b, off + i * 4, none⟩ = some (.int .i64 ps[i].1) ∧ w.cell? ⟨b, off + i * 4 + 1, none⟩ = some (.int .i64 ps[i].2.1) ∧
    w.cell? ⟨b, off + i * 4 + 2, none⟩ = some (.int .i64 ps[i].2.2.1) ∧ w.cell? ⟨b, off + i * 4 + 3, none⟩ = some (.int .i64 ps[i].2.2.2)
theorem nums_blk {w : World} {g : Nat} {T : TypeId} {ps : List Num4} (h : Blk w g T (nums4 ps).toArray) : IsNums w (some ⟨g, 0, none⟩) ps := by
  intro i hi
  have := nums4_get ps i hi
  refine ⟨g, 0, rfl, ?_, ?_, ?_, ?_⟩
  · rw [Nat.zero_add]; exact h.cell (by simpa using this.1)
  · rw [Nat.zero_add]; exact h.cell (by simpa using this.2.1)
  · rw [Nat.zero_add]; exact h.cell (by simpa using this.2.2.1)
  · rw [Nat.zero_add]; exact h.cell (by simpa using this.2.2.2)
theorem nums_fr {w w' : World} {oa : Option Addr} {ps : List Num4} (h : IsNums w oa ps) (hF : Fr [] w w') : IsNums w' oa ps := by
  intro i hi
  obtain ⟨b, off, he, h0, h1, h2, h3⟩ := h i hi
  exact ⟨b, off, he, cell_fr hF (by simp) h0, cell_fr hF (by simp) h1, cell_fr hF (by simp) h2, cell_fr hF (by simp) h3⟩
theorem owns_nums {w : World} {base g : Nat} {T : TypeId} {n cap : Nat} {ps : List Num4} (h : w.ownsRow base T 4 (.slice (some ⟨g, 0, none⟩) n cap) n (nums4 ps)) : IsNums w (some ⟨g, 0, none⟩) ps := by
  obtain ⟨h1, h2⟩ := h
  rcases h2 with ⟨h2, _⟩ | ⟨g', cap', cur, hv, hg, hh, hn, hc, hs, ht⟩
  · simp at h2
  · simp only [Value.slice.injEq, Option.some.injEq, Addr.mk.injEq, true_and, and_true] at hv
    obtain ⟨rfl, rfl⟩ := hv
    intro i hi
    have hb : Blk w g T cur := hh
    have := nums4_get ps i hi
    refine ⟨g, 0, rfl, ?_, ?_, ?_, ?_⟩
    · rw [Nat.zero_add]; exact hb.cell (take_get ht this.1)
    · rw [Nat.zero_add]; exact hb.cell (take_get ht this.2.1)
    · rw [Nat.zero_add]; exact hb.cell (take_get ht this.2.2.1)
    · rw [Nat.zero_add]; exact hb.cell (take_get ht this.2.2.2)

def recE (o b s : Int) (d : Bool) (m : Int) : List Num4 :=
  [(b, 2, 0, 4095), (s, 2, 0, if o = 1 then 0 else 1023), ((flagN d : Nat), 1, 0, if o = 1 then 0 else 1), (m, 4, 0, if o = 1 then 0 else 4294967295)]
def recN (q l o b s : Int) (d : Bool) (m : Int) : List Num4 := [seqN q 1, seqN l 0, (o, 1, 0, 1)] ++ recE o b s d m
set_option maxRecDepth 100000 in
set_option maxHeartbeats 2000000 in
theorem refRecord_any (q l o b s : Int) (d : Bool) (m : Int) (w : World) :
    Calls Tryd.prog 45 #[.agg #[.int .i64 q, .int .i64 l, .int .i64 o, .int .i64 b, .int .i64 s, .int .i64 m], .bool d] w fun e w' =>
      ∃ g cap, e = .returned (.slice (some ⟨g, 0, none⟩) 7 cap) ∧ IsNums w' (some ⟨g, 0, none⟩) (recN q l o b s d m) ∧ Fr [] w w' := by
  obtain ⟨i0, hi, hz0, hz1, hz2⟩ := info_parts infoNum4
  have hFw := ((Fr.refl [] w).alloc (.cells #[.int .i64 q, .int .i64 l, .int .i64 o, .int .i64 b, .int .i64 s, .int .i64 m] 92)).drew
  have hB := (Blk.new w #[.int .i64 q, .int .i64 l, .int .i64 o, .int .i64 b, .int .i64 s, .int .i64 m] 92).drew
  have HEN := Lib.hid (fun W => refEntry_any b s d m false W)
  go_enter Tryd.func45, Tryd.ntmps45
  go_wp2_with fail
  refine region_ord [] (.take 0 (.take 1 (.take 3 (.take 4 (.take 6 (.take 7 (.take 8 (.pick 2 (.pick 5 (.pick 9 (.take 10 .done) .none) .none) .none)))))))) (by kernel_rfl) (by kernel_rfl) ?_
  simp only [ordList, Ord.map, List.getD_cons_zero, List.getD_cons_succ]
  refine' ord_pure (v := _) ?_ rfl ?_; rotate_left; focus (intro w; go_simp <;> (first | (with_reducible rfl) | (constructor <;> with_reducible rfl)))
  simp only [Act.put, List.setIfInBounds_toArray, List.set_cons_zero, List.set_cons_succ]
  refine ord_cell hB (by simp) rfl rfl (by kernel_rfl) rfl rfl ?_
  simp only [Act.put, List.getElem_toArray, List.getElem_cons_zero, List.getElem_cons_succ, List.setIfInBounds_toArray, List.set_cons_zero, List.set_cons_succ]
  refine' ord_pure (v := _) ?_ rfl ?_; rotate_left; focus (intro w; go_simp <;> (first | (with_reducible rfl) | (constructor <;> with_reducible rfl)))
  simp only [Act.put, List.setIfInBounds_toArray, List.set_cons_zero, List.set_cons_succ]
  refine ord_cell hB (by simp) rfl rfl (by kernel_rfl) rfl rfl ?_
  simp only [Act.put, List.getElem_toArray, List.getElem_cons_zero, List.getElem_cons_succ, List.setIfInBounds_toArray, List.set_cons_zero, List.set_cons_succ]
  refine' ord_pure (v := _) ?_ rfl ?_; rotate_left; focus (intro w; go_simp <;> (first | (with_reducible rfl) | (constructor <;> with_reducible rfl)))
  simp only [Act.put, List.setIfInBounds_toArray, List.set_cons_zero, List.set_cons_succ]
  refine ord_cell hB (by simp) rfl rfl (by kernel_rfl) rfl rfl ?_
  simp only [Act.put, List.getElem_toArray, List.getElem_cons_zero, List.getElem_cons_succ, List.setIfInBounds_toArray, List.set_cons_zero, List.set_cons_succ]
  refine' ord_pure (v := _) ?_ rfl ?_; rotate_left; focus (intro w; go_simp <;> (first | (with_reducible rfl) | (constructor <;> with_reducible rfl)))
  simp only [Act.put, List.setIfInBounds_toArray, List.set_cons_zero, List.set_cons_succ]
  -- 2: t10 := CALL lavabo/lavaboref06.seq(t9, 1)   {1}
  refine' ord_call (f := 58) (args := _) ?_ rfl ?_; rotate_left; focus (go_simp <;> (first | (with_reducible rfl) | (constructor <;> with_reducible rfl)))
  refine (seq_any _ _ _).mono ?_
  rintro e w1 ⟨rfl, hF⟩
  have hFw := hFw.trans hF
  have hB := hB.fr hF (by simp)
  refine ⟨_, rfl, hF, ?_⟩
  simp only [Act.put, List.setIfInBounds_toArray, List.set_cons_zero, List.set_cons_succ]
  -- 5: t13 := CALL lavabo/lavaboref06.seq(t12, 0)   {2,4}
  refine' ord_call (f := 58) (args := _) ?_ rfl ?_; rotate_left; focus (go_simp <;> (first | (with_reducible rfl) | (constructor <;> with_reducible rfl)))
  refine (seq_any _ _ _).mono ?_
  rintro e w1 ⟨rfl, hF⟩
  have hFw := hFw.trans hF
  have hB := hB.fr hF (by simp)
  refine ⟨_, rfl, hF, ?_⟩
  simp only [Act.put, List.setIfInBounds_toArray, List.set_cons_zero, List.set_cons_succ]
  -- 9: t17 := buildSlice <[]lavaboref06.Num> 3 [(0,t10),(1,t13),(2,t16)]   {2,5,8}
  have hSl := blk_new hFw #[.int .i64 q, .int .i64 6, .int .i64 1, .int .i64 1099511627776, .int .i64 l, .int .i64 6, .int .i64 0, .int .i64 1099511627776, .int .i64 o, .int .i64 1, .int .i64 0, .int .i64 1] 109
  refine' ord_do (v := _) (w' := _) ?_ ?_ rfl ?_
  rotate_left 2
  focus (go_simp <;> (first | (with_reducible rfl) | (constructor <;> with_reducible rfl)))
  focus (exact (Fr.refl _ _).alloc _)
  have hge := hFw.size
  have hFw := hFw.alloc (.cells #[.int .i64 q, .int .i64 6, .int .i64 1, .int .i64 1099511627776, .int .i64 l, .int .i64 6, .int .i64 0, .int .i64 1099511627776, .int .i64 o, .int .i64 1, .int .i64 0, .int .i64 1] 109)
  simp only [Act.put, List.setIfInBounds_toArray, List.set_cons_zero, List.set_cons_succ]
  refine' ord_pure (v := _) ?_ rfl ?_; rotate_left; focus (intro w; go_simp <;> (first | (with_reducible rfl) | (constructor <;> with_reducible rfl)))
  simp only [Act.put, List.setIfInBounds_toArray, List.set_cons_zero, List.set_cons_succ]
  refine ord_nil ?_
  have hBlt := hB.lt
  have c2 : w1.cell? ⟨w.heap.size, 2, none⟩ = some (.int .i64 o) := hB.cell rfl
  have c3 : w1.cell? ⟨w.heap.size, 3, none⟩ = some (.int .i64 b) := hB.cell rfl
  have c4 : w1.cell? ⟨w.heap.size, 4, none⟩ = some (.int .i64 s) := hB.cell rfl
  have c5 : w1.cell? ⟨w.heap.size, 5, none⟩ = some (.int .i64 m) := hB.cell rfl
  have hB := hB.alloc (.cells #[.int .i64 q, .int .i64 6, .int .i64 1, .int .i64 1099511627776, .int .i64 l, .int .i64 6, .int .i64 0, .int .i64 1099511627776, .int .i64 o, .int .i64 1, .int .i64 0, .int .i64 1] 109)
  go_wp2_with fail
  refine (HEN.out _).mono ?_
  rintro e w3 ⟨g3, rfl, hS3, hg3, hF3⟩
  have hFw3 := hFw.trans hF3
  have hA3 := hSl.fr hF3 (by simp)
  have k2 : w3.cell? ⟨w.heap.size, 2, none⟩ = some (.int .i64 o) := (hB.fr hF3 (by simp)).cell rfl
  have HS3 := Lib.hid hS3
  have hg3l := hS3.lt
  have hAne : ¬ g3 = w1.heap.size := by have := hg3; simp at this; omega
  have hAlt := hA3.lt
  clear hS3 c2 c3 c4 c5 hB hF3 hFw hSl
  go_upto_if 28 with fail
  go_cut [] (fun wr => ∃ w4, w4 = wr ∧ Fr [] w w4 ∧ Blk w4 w1.heap.size 109 (nums4 [seqN q 1, seqN l 0, (o, 1, 0, 1)]).toArray ∧ Blk w4 g3 109 (nums4 (recE o b s d m)).toArray)
  case first =>
    by_cases ho : o = 1
    · subst ho
      have c7 : w3.cell? ⟨g3, 7, none⟩ = some (.int .i64 1023) := HS3.out.cell rfl
      have c11 : w3.cell? ⟨g3, 11, none⟩ = some (.int .i64 1) := HS3.out.cell rfl
      have c15 : w3.cell? ⟨g3, 15, none⟩ = some (.int .i64 4294967295) := HS3.out.cell rfl
      have f7 := HS3.out.frozen 7
      have f11 := HS3.out.frozen 11
      have f15 := HS3.out.frozen 15
      have hE : Blk (((w3.setCell ⟨g3, 7, none⟩ (.int .i64 0)).setCell ⟨g3, 11, none⟩ (.int .i64 0)).setCell ⟨g3, 15, none⟩ (.int .i64 0)) g3 109 (nums4 (recE 1 b s d m)).toArray := ((HS3.out.set 7 _).set 11 _).set 15 _
      have hA : Blk (((w3.setCell ⟨g3, 7, none⟩ (.int .i64 0)).setCell ⟨g3, 11, none⟩ (.int .i64 0)).setCell ⟨g3, 15, none⟩ (.int .i64 0)) w1.heap.size 109 (nums4 [seqN q 1, seqN l 0, (1, 1, 0, 1)]).toArray := ((hA3.set_ne _ _ hAne).set_ne _ _ hAne).set_ne _ _ hAne
      have hg3w : w.heap.size ≤ g3 := by have := hg3; simp at this; omega
      have hF : Fr [] w (((w3.setCell ⟨g3, 7, none⟩ (.int .i64 0)).setCell ⟨g3, 11, none⟩ (.int .i64 0)).setCell ⟨g3, 15, none⟩ (.int .i64 0)) := ((hFw3.setCell _ (.inr hg3w) _).setCell _ (.inr hg3w) _).setCell _ (.inr hg3w) _
      have HE := Lib.hid hE
      have HA := Lib.hid hA
      have HF := Lib.hid hF
      clear hE hA hF hA3 hFw3
      go_wp2_with fail
      refine wp_loop_rounds 4 ?_
      rw [rounds_succ]
      go_wp2_with fail
      rw [rounds_succ]
      go_wp2_with fail
      rw [rounds_succ]
      go_wp2_with fail
      rw [rounds_succ]
      go_wp2_with fail
      go_meet
      exact ⟨_, rfl, HF.out, HA.out, HE.out⟩
    · have hob : (o == 1) = false := beq_eq_false_iff_ne.2 ho
      have hE : nums4 (entN b s d m false) = nums4 (recE o b s d m) := by simp only [entN, recE, ho, if_false, Bool.false_eq_true]
      have HE := Lib.hid hE
      clear hE
      go_wp2_with fail
      go_meet
      exact ⟨_, rfl, hFw3, hA3, by rw [← HE.out]; exact HS3.out⟩
  case rest =>
    obtain ⟨w4, rfl, hF4, hA4, hE4⟩ := hcut
    have hAge := hF4.size
    go_wp2_with (at_builtin; refine wpList_append_lies _ rfl _ _ 58 rfl w.heap.size 109 i0 (.agg #[.int .i64 0, .int .i64 0, .int .i64 0, .int .i64 0]) 4 32 Tryd.underlying58 hi hz0 hz1 hz2 rfl (by decide) _ 3 _ rfl (owns_blk_new (n := 3) (size := 4) w.heap.size hA4 hge rfl (by omega) (by decide) rfl) ⟨g3, 0, none⟩ 4 4 (nums4 (recE o b s d m)) rfl (nums4_len _) (blk_news hE4) (nums4_one _) (by decide) (by decide) (by decide) hAge _ rfl ?_)
    intro g5 cap5 w5 hown hgrow hor hlt5
    have hF5 : Fr [] w w5 := hF4.grown hgrow (fun k hk => .inr (by have := own_slice hk; omega))
    have hN5 := owns_nums (ps := recN q l o b s d m) hown
    clear hown hgrow hor hA4 hE4 hF4
    go_wp2_with fail
    go_ret
    exact ⟨_, _, rfl, hN5, hF5⟩
end Go.Proofs.YtifafnmbcmhlcaaDoor
