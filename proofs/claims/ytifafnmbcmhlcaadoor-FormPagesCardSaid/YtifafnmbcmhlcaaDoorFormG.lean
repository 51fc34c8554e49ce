/- forms: records put. -/
import Derived.Test.YtifafnmbcmhlcaaDoorFormE
namespace Go.Proofs.YtifafnmbcmhlcaaDoor
open Go.RowKit Go.Shelf

theorem infoNum : (Tryd.prog.info? 83).map (fun i => (i.zero, i.size, i.bytes)) = some (some (.agg #[.int .i64 0, .int .i64 0]), 2, 16) := by kernel_rfl
theorem numsV_append (a b : List (Int × Int)) : numsV (a ++ b) = numsV a ++ numsV b := by simp [numsV]
theorem numsV_len (a : List (Int × Int)) : (numsV a).length = a.length * 2 := by
  induction a with
  | nil => rfl
  | cons p r ih => simp only [numsV, List.flatMap_cons, List.length_append, List.length_cons, List.length_nil] at ih ⊢; omega
theorem numsV_one (a : List (Int × Int)) : ∀ u ∈ numsV a, u.oneCell' = true := by
  intro u hu
  simp only [numsV, List.mem_flatMap] at hu
  obtain ⟨p, _, hp⟩ := hu
  simp only [List.mem_cons, List.not_mem_nil, or_false] at hp
  rcases hp with rfl | rfl <;> rfl
theorem blk_news {w : World} {g : Nat} {T : TypeId} {l : List Value} (h : Blk w g T l.toArray) : ∀ (j : Nat) (u : Value), l[j]? = some u → w.cell? (Addr.add ⟨g, 0, none⟩ j) = some u := by
  intro j u hj
  have e : Addr.add ⟨g, 0, none⟩ j = ⟨g, j, none⟩ := by unfold Addr.add; split <;> simp_all
  rw [e]
  exact h.cell (by simpa using hj)
theorem own_slice {g n c i : Nat} (h : (Value.slice (some ⟨g, 0, none⟩) n c).ownBlock = some i) : g = i := by cases h; rfl
theorem pairs_fr {w w' : World} {oa : Option Addr} {ps : List (Int × Int)} (h : IsPairs w oa ps) (hF : Fr [] w w') : IsPairs w' oa ps := by
  intro i hi
  obtain ⟨b, off, he, h0, h1⟩ := h i hi
  exact ⟨b, off, he, cell_fr hF (by simp) h0, cell_fr hF (by simp) h1⟩
theorem owns_pairs {w : World} {base g : Nat} {T : TypeId} {n cap : Nat} {ps : List (Int × Int)} (h : w.ownsRow base T 2 (.slice (some ⟨g, 0, none⟩) n cap) n (numsV ps)) : IsPairs w (some ⟨g, 0, none⟩) ps := by
  obtain ⟨h1, h2⟩ := h
  rcases h2 with ⟨h2, _⟩ | ⟨g', cap', cur, hv, hg, hh, hn, hc, hs, ht⟩
  · simp at h2
  · simp only [Value.slice.injEq, Option.some.injEq, Addr.mk.injEq, true_and, and_true] at hv
    obtain ⟨rfl, rfl⟩ := hv
    intro i hi
    have hb : Blk w g T cur := hh
    have := numsV_get ps i hi
    refine ⟨g, 0, rfl, ?_, ?_⟩
    · rw [Nat.zero_add]; exact hb.cell (take_get ht this.1)
    · rw [Nat.zero_add]; exact hb.cell (take_get ht this.2)

def recL (q l o b s : Int) (d : Bool) (m : Int) : List (Int × Int) := [(q, 6), (l, 6), (o, 1)] ++ entL b s d m
set_option maxRecDepth 100000 in
set_option maxHeartbeats 2000000 in
theorem PutRecord_any (q l o b s : Int) (d : Bool) (m : Int) (w : World) (hH : Halves w) :
    Calls Tryd.prog 22 #[.agg (recV q l o b s d m)] w fun e w' =>
      e = .returned (.tuple #[.agg (bv (putB 2 (recR q l o b s d m) (recL q l o b s d m))), .int .i64 (putEr 2 (recR q l o b s d m) (recL q l o b s d m))]) ∧ Fr [] w w' := by
  have hz : ∀ w, (zeroValue 33).run Tryd.prog w = .ok (.agg (bv zeros64)) w := fun _ => by kernel_rfl
  obtain ⟨i0, hi, hz0, hz1, hz2⟩ := info_parts infoNum
  have HR := Lib.hid (fun W => recR_any q l o b s d m W)
  have HEN := Lib.hid (fun W => recEntry_any q l o b s d m W)
  have HNU := Lib.hid (fun W => entNums_any b s d m W)
  have HH := Lib.hid hH
  have hlen := putB_len 2 (recR q l o b s d m) (recL q l o b s d m)
  have HLEN := Lib.hid hlen
  have hsz : (bv (putB 2 (recR q l o b s d m) (recL q l o b s d m))).size = 64 := by rw [bv_size, hlen]
  unfold recV at HR HEN ⊢
  unfold entV at HEN HNU
  generalize recR q l o b s d m = r at HR HLEN hsz ⊢
  have HPUT := Lib.hid (fun W g cap (h : IsPairs W (some ⟨g, 0, none⟩) (recL q l o b s d m)) hH => put_any 2 r (some ⟨g, 0, none⟩) (recL q l o b s d m) cap W h hH (by simp [recL, entL]))
  have hF0 := (((Fr.refl [] w).alloc (.cells #[.int .i64 q, .int .i64 l, .int .i64 o, .int .i64 b, .int .i64 s, .bool d, .int .i64 m] 54)).alloc (.cells (bv zeros64) 33)).drew
  have hB0 := ((Blk.new w #[.int .i64 q, .int .i64 l, .int .i64 o, .int .i64 b, .int .i64 s, .bool d, .int .i64 m] 54).alloc (.cells (bv zeros64) 33)).drew
  have hT0 := (blk_at (w.alloc (.cells #[.int .i64 q, .int .i64 l, .int .i64 o, .int .i64 b, .int .i64 s, .bool d, .int .i64 m] 54)) (bv zeros64) 33 (w.heap.size + 1) (by simp)).drew
  clear hH hlen
  go_enter Tryd.func22, Tryd.ntmps22
  go_wp2_with fail
  have hB := hB0
  have hFw := hF0
  have hT := hT0
  clear hB0 hF0 hT0
  refine region_old (w.heap.size + 2) [] (.take 0 (.take 1 (.take 2 (.take 3 (.take 4 (.take 5 (.take 6 (.take 7 (.take 8 (.take 10 (.pick 9 (.pick 11 (.pick 12 (.pick 13 (.take 14 .done) .none) .none) .none) (.pick 11 (.pick 9 (.pick 12 (.pick 13 (.take 14 .done) .none) .none) (.pick 12 (.pick 9 (.pick 13 (.take 14 .done) .none) .none) .none)) .none)))))))))))) (by kernel_rfl) (by kernel_rfl) ?_
  simp only [ordList, Ord.map, List.getD_cons_zero, List.getD_cons_succ]
  refine' ord_pure (v := _) ?_ rfl ?_; rotate_left; focus (intro w; go_simp <;> (first | (with_reducible rfl) | (constructor <;> with_reducible rfl)))
  simp only [Act.put, List.setIfInBounds_toArray, List.set_cons_zero, List.set_cons_succ]
  refine ord_cellO hB (by simp) (by simp) rfl rfl (by kernel_rfl) rfl rfl ?_
  simp only [Act.put, List.getElem_toArray, List.getElem_cons_zero, List.getElem_cons_succ, List.setIfInBounds_toArray, List.set_cons_zero, List.set_cons_succ]
  refine' ord_pure (v := _) ?_ rfl ?_; rotate_left; focus (intro w; go_simp <;> (first | (with_reducible rfl) | (constructor <;> with_reducible rfl)))
  simp only [Act.put, List.setIfInBounds_toArray, List.set_cons_zero, List.set_cons_succ]
  refine' ord_pure (v := _) ?_ rfl ?_; rotate_left; focus (intro w; go_simp <;> (first | (with_reducible rfl) | (constructor <;> with_reducible rfl)))
  simp only [Act.put, List.setIfInBounds_toArray, List.set_cons_zero, List.set_cons_succ]
  refine ord_cellO hB (by simp) (by simp) rfl rfl (by kernel_rfl) rfl rfl ?_
  simp only [Act.put, List.getElem_toArray, List.getElem_cons_zero, List.getElem_cons_succ, List.setIfInBounds_toArray, List.set_cons_zero, List.set_cons_succ]
  refine' ord_pure (v := _) ?_ rfl ?_; rotate_left; focus (intro w; go_simp <;> (first | (with_reducible rfl) | (constructor <;> with_reducible rfl)))
  simp only [Act.put, List.setIfInBounds_toArray, List.set_cons_zero, List.set_cons_succ]
  refine' ord_pure (v := _) ?_ rfl ?_; rotate_left; focus (intro w; go_simp <;> (first | (with_reducible rfl) | (constructor <;> with_reducible rfl)))
  simp only [Act.put, List.setIfInBounds_toArray, List.set_cons_zero, List.set_cons_succ]
  refine ord_cellO hB (by simp) (by simp) rfl rfl (by kernel_rfl) rfl rfl ?_
  simp only [Act.put, List.getElem_toArray, List.getElem_cons_zero, List.getElem_cons_succ, List.setIfInBounds_toArray, List.set_cons_zero, List.set_cons_succ]
  refine' ord_pure (v := _) ?_ rfl ?_; rotate_left; focus (intro w; go_simp <;> (first | (with_reducible rfl) | (constructor <;> with_reducible rfl)))
  simp only [Act.put, List.setIfInBounds_toArray, List.set_cons_zero, List.set_cons_succ]
  refine ord_allO hB (by simp) (by simp) rfl rfl (by kernel_rfl) rfl ?_
  simp only [Act.put, List.setIfInBounds_toArray, List.set_cons_zero, List.set_cons_succ]
  refine ord_fork ?_ ?_
  -- 9: t14 := buildSlice <[]forms.num> 3 [(0,t7),(1,t10),(2,t13)]   {2,5,8}
  refine' ord_do (v := _) (w' := _) ?_ ?_ rfl ?_
  rotate_left 2
  focus (go_simp <;> (first | (with_reducible rfl) | (constructor <;> with_reducible rfl)))
  focus (exact old_fr ((Fr.refl [] _).alloc _) hT.lt (by simp))
  have hA := blk_new hFw (numsV [(q, 6), (l, 6), (o, 1)]).toArray 83
  have hAge := hT.lt
  try simp only [World.size_drew, World.size_alloc] at hA hAge
  have hB := hB.alloc (.cells (numsV [(q, 6), (l, 6), (o, 1)]).toArray 83)
  have hT := hT.alloc (.cells (numsV [(q, 6), (l, 6), (o, 1)]).toArray 83)
  have hFw := hFw.alloc (.cells (numsV [(q, 6), (l, 6), (o, 1)]).toArray 83)
  try have hN := hN.alloc (.cells (numsV [(q, 6), (l, 6), (o, 1)]).toArray 83)
  simp only [Act.put, List.setIfInBounds_toArray, List.set_cons_zero, List.set_cons_succ]
  -- 11: t16 := CALL (lavabo/forms.Record).entry(t15)   {10}
  refine' ord_call (f := 39) (args := _) ?_ rfl ?_; rotate_left; focus (go_simp <;> (first | (with_reducible rfl) | (constructor <;> with_reducible rfl)))
  refine (HEN.out _).mono ?_
  rintro e w1 ⟨rfl, hF'⟩
  have hF := old_fr (S := []) (B := w.heap.size + 2) hF' hT.lt (by simp)
  have hB := hB.fr hF' (by simp)
  have hT := hT.fr hF' (by simp)
  have hFw := hFw.trans hF'
  try have hA := hA.fr hF' (by simp)
  refine ⟨_, rfl, hF, ?_⟩
  simp only [Act.put, List.setIfInBounds_toArray, List.set_cons_zero, List.set_cons_succ]
  -- 12: t17 := CALL (lavabo/forms.Entry).nums(t16)   {11}
  refine' ord_call (f := 40) (args := _) ?_ rfl ?_; rotate_left; focus (go_simp <;> (first | (with_reducible rfl) | (constructor <;> with_reducible rfl)))
  refine (HNU.out _).mono ?_
  rintro e w2 ⟨g, rfl, hN, hg, hF'⟩
  have hF := old_fr (S := []) (B := w.heap.size + 2) hF' hT.lt (by simp)
  have hB := hB.fr hF' (by simp)
  have hT := hT.fr hF' (by simp)
  have hFw := hFw.trans hF'
  try have hA := hA.fr hF' (by simp)
  refine ⟨_, rfl, hF, ?_⟩
  simp only [Act.put, List.setIfInBounds_toArray, List.set_cons_zero, List.set_cons_succ]
  -- 13: t18 := CALL builtin Builtin.append(t14, t17)   {9,12}
  refine ord_append rfl _ _ 84 rfl w.heap.size 83 i0 (.agg #[.int .i64 0, .int .i64 0]) 2 16 Tryd.underlying84 hi hz0 hz1 hz2 rfl (by decide) _ 3 _ rfl (owns_blk_new (n := 3) (size := 2) w.heap.size hA (by omega) rfl (by omega) (by decide) rfl) ⟨g, 0, none⟩ 4 4 (numsV (entL b s d m)) rfl (numsV_len _) (blk_news hN) (numsV_one _) (by decide) (by decide) (by decide) hFw.size (fun w' h => old_grown h hT.lt (fun i hi => .inr (by have := own_slice hi; omega))) ?_
  intro g2 cap2 w5 hown hgrow hor hlt2
  have hF5 : Fr [] w w5 := hFw.grown hgrow (fun k hk => .inr (by have := own_slice hk; omega))
  have hB5 := hB.grown hgrow (by intro hk; have := own_slice hk; omega)
  have hT5 := hT.grown hgrow (by intro hk; have := own_slice hk; omega)
  simp only [Act.put, List.setIfInBounds_toArray, List.set_cons_zero, List.set_cons_succ]
  refine' ord_pure (v := _) ?_ rfl ?_; rotate_left; focus (intro w; go_simp <;> (first | (with_reducible rfl) | (constructor <;> with_reducible rfl)))
  simp only [Act.put, List.setIfInBounds_toArray, List.set_cons_zero, List.set_cons_succ]
  refine ord_nil ?_
  rotate_left
  -- 11: t16 := CALL (lavabo/forms.Record).entry(t15)   {10}
  refine' ord_call (f := 39) (args := _) ?_ rfl ?_; rotate_left; focus (go_simp <;> (first | (with_reducible rfl) | (constructor <;> with_reducible rfl)))
  refine (HEN.out _).mono ?_
  rintro e w1 ⟨rfl, hF'⟩
  have hF := old_fr (S := []) (B := w.heap.size + 2) hF' hT.lt (by simp)
  have hB := hB.fr hF' (by simp)
  have hT := hT.fr hF' (by simp)
  have hFw := hFw.trans hF'
  try have hA := hA.fr hF' (by simp)
  refine ⟨_, rfl, hF, ?_⟩
  simp only [Act.put, List.setIfInBounds_toArray, List.set_cons_zero, List.set_cons_succ]
  refine ord_fork ?_ ?_
  -- 9: t14 := buildSlice <[]forms.num> 3 [(0,t7),(1,t10),(2,t13)]   {2,5,8}
  refine' ord_do (v := _) (w' := _) ?_ ?_ rfl ?_
  rotate_left 2
  focus (go_simp <;> (first | (with_reducible rfl) | (constructor <;> with_reducible rfl)))
  focus (exact old_fr ((Fr.refl [] _).alloc _) hT.lt (by simp))
  have hA := blk_new hFw (numsV [(q, 6), (l, 6), (o, 1)]).toArray 83
  have hAge := hT.lt
  try simp only [World.size_drew, World.size_alloc] at hA hAge
  have hB := hB.alloc (.cells (numsV [(q, 6), (l, 6), (o, 1)]).toArray 83)
  have hT := hT.alloc (.cells (numsV [(q, 6), (l, 6), (o, 1)]).toArray 83)
  have hFw := hFw.alloc (.cells (numsV [(q, 6), (l, 6), (o, 1)]).toArray 83)
  try have hN := hN.alloc (.cells (numsV [(q, 6), (l, 6), (o, 1)]).toArray 83)
  simp only [Act.put, List.setIfInBounds_toArray, List.set_cons_zero, List.set_cons_succ]
  -- 12: t17 := CALL (lavabo/forms.Entry).nums(t16)   {11}
  refine' ord_call (f := 40) (args := _) ?_ rfl ?_; rotate_left; focus (go_simp <;> (first | (with_reducible rfl) | (constructor <;> with_reducible rfl)))
  refine (HNU.out _).mono ?_
  rintro e w2 ⟨g, rfl, hN, hg, hF'⟩
  have hF := old_fr (S := []) (B := w.heap.size + 2) hF' hT.lt (by simp)
  have hB := hB.fr hF' (by simp)
  have hT := hT.fr hF' (by simp)
  have hFw := hFw.trans hF'
  try have hA := hA.fr hF' (by simp)
  refine ⟨_, rfl, hF, ?_⟩
  simp only [Act.put, List.setIfInBounds_toArray, List.set_cons_zero, List.set_cons_succ]
  -- 13: t18 := CALL builtin Builtin.append(t14, t17)   {9,12}
  refine ord_append rfl _ _ 84 rfl w.heap.size 83 i0 (.agg #[.int .i64 0, .int .i64 0]) 2 16 Tryd.underlying84 hi hz0 hz1 hz2 rfl (by decide) _ 3 _ rfl (owns_blk_new (n := 3) (size := 2) w.heap.size hA (by omega) rfl (by omega) (by decide) rfl) ⟨g, 0, none⟩ 4 4 (numsV (entL b s d m)) rfl (numsV_len _) (blk_news hN) (numsV_one _) (by decide) (by decide) (by decide) hFw.size (fun w' h => old_grown h hT.lt (fun i hi => .inr (by have := own_slice hi; omega))) ?_
  intro g2 cap2 w5 hown hgrow hor hlt2
  have hF5 : Fr [] w w5 := hFw.grown hgrow (fun k hk => .inr (by have := own_slice hk; omega))
  have hB5 := hB.grown hgrow (by intro hk; have := own_slice hk; omega)
  have hT5 := hT.grown hgrow (by intro hk; have := own_slice hk; omega)
  simp only [Act.put, List.setIfInBounds_toArray, List.set_cons_zero, List.set_cons_succ]
  refine' ord_pure (v := _) ?_ rfl ?_; rotate_left; focus (intro w; go_simp <;> (first | (with_reducible rfl) | (constructor <;> with_reducible rfl)))
  simp only [Act.put, List.setIfInBounds_toArray, List.set_cons_zero, List.set_cons_succ]
  refine ord_nil ?_
  rotate_left
  -- 12: t17 := CALL (lavabo/forms.Entry).nums(t16)   {11}
  refine' ord_call (f := 40) (args := _) ?_ rfl ?_; rotate_left; focus (go_simp <;> (first | (with_reducible rfl) | (constructor <;> with_reducible rfl)))
  refine (HNU.out _).mono ?_
  rintro e w2 ⟨g, rfl, hN, hg, hF'⟩
  have hF := old_fr (S := []) (B := w.heap.size + 2) hF' hT.lt (by simp)
  have hB := hB.fr hF' (by simp)
  have hT := hT.fr hF' (by simp)
  have hFw := hFw.trans hF'
  try have hA := hA.fr hF' (by simp)
  refine ⟨_, rfl, hF, ?_⟩
  simp only [Act.put, List.setIfInBounds_toArray, List.set_cons_zero, List.set_cons_succ]
  -- 9: t14 := buildSlice <[]forms.num> 3 [(0,t7),(1,t10),(2,t13)]   {2,5,8}
  refine' ord_do (v := _) (w' := _) ?_ ?_ rfl ?_
  rotate_left 2
  focus (go_simp <;> (first | (with_reducible rfl) | (constructor <;> with_reducible rfl)))
  focus (exact old_fr ((Fr.refl [] _).alloc _) hT.lt (by simp))
  have hA := blk_new hFw (numsV [(q, 6), (l, 6), (o, 1)]).toArray 83
  have hAge := hT.lt
  try simp only [World.size_drew, World.size_alloc] at hA hAge
  have hB := hB.alloc (.cells (numsV [(q, 6), (l, 6), (o, 1)]).toArray 83)
  have hT := hT.alloc (.cells (numsV [(q, 6), (l, 6), (o, 1)]).toArray 83)
  have hFw := hFw.alloc (.cells (numsV [(q, 6), (l, 6), (o, 1)]).toArray 83)
  try have hN := hN.alloc (.cells (numsV [(q, 6), (l, 6), (o, 1)]).toArray 83)
  simp only [Act.put, List.setIfInBounds_toArray, List.set_cons_zero, List.set_cons_succ]
  -- 13: t18 := CALL builtin Builtin.append(t14, t17)   {9,12}
  refine ord_append rfl _ _ 84 rfl w.heap.size 83 i0 (.agg #[.int .i64 0, .int .i64 0]) 2 16 Tryd.underlying84 hi hz0 hz1 hz2 rfl (by decide) _ 3 _ rfl (owns_blk_new (n := 3) (size := 2) w.heap.size hA (by omega) rfl (by omega) (by decide) rfl) ⟨g, 0, none⟩ 4 4 (numsV (entL b s d m)) rfl (numsV_len _) (blk_news hN) (numsV_one _) (by decide) (by decide) (by decide) hFw.size (fun w' h => old_grown h hT.lt (fun i hi => .inr (by have := own_slice hi; omega))) ?_
  intro g2 cap2 w5 hown hgrow hor hlt2
  have hF5 : Fr [] w w5 := hFw.grown hgrow (fun k hk => .inr (by have := own_slice hk; omega))
  have hB5 := hB.grown hgrow (by intro hk; have := own_slice hk; omega)
  have hT5 := hT.grown hgrow (by intro hk; have := own_slice hk; omega)
  simp only [Act.put, List.setIfInBounds_toArray, List.set_cons_zero, List.set_cons_succ]
  refine' ord_pure (v := _) ?_ rfl ?_; rotate_left; focus (intro w; go_simp <;> (first | (with_reducible rfl) | (constructor <;> with_reducible rfl)))
  simp only [Act.put, List.setIfInBounds_toArray, List.set_cons_zero, List.set_cons_succ]
  refine ord_nil ?_
  all_goals
    have hP5 := owns_pairs (ps := recL q l o b s d m) hown
    have hs5 := hF5.size
    clear hA hN hown hgrow hor hFw hB hT hF hF' hlt2 hAge
    go_wp2_with (first
      | (refine wpList_load_all rfl 54 _ rfl hB5 rfl (by kernel_rfl) ?_)
      | (go_at_call 41; refine (HR.out _).mono ?_; rintro e w6 ⟨rfl, hF6⟩))
    refine (HPUT.out _ _ _ (pairs_fr hP5 hF6) (HH.out.keep (hF5.trans hF6) (by simp))).mono ?_
    rintro e w7 ⟨rfl, hF7⟩
    obtain ⟨w9, hst, hB9, hF9, hs9⟩ := store_all (P := Tryd.prog) ((hT5.fr hF6 (by simp)).fr hF7 (by simp)) _ (by rw [HLEN.out, bv_size]; rfl)
    have hF09 : Fr [] w w9 := ((hF5.trans hF6).trans hF7).comp hF9 (by simp)
    clear hP5 hB5 hT5 hF5 hF6 hF7
    go_wp2_with fail
    have hld := load_var (P := Tryd.prog) (o := 0) hB9 _ (bv_self _) Tryd.underlying33 (by kernel_rfl) HLEN.out
    exact bodyPost_ret (res_cell_at Tryd.results22 rfl rfl hld) rfl ⟨rfl, hF09⟩
end Go.Proofs.YtifafnmbcmhlcaaDoor
