/- forms: superblocks, intents. -/
import Derived.Test.YtifafnmbcmhlcaaDoorFormC
namespace Go.Proofs.YtifafnmbcmhlcaaDoor
open Go.RowKit Go.Shelf

theorem numsV_get : ∀ (ps : List (Int × Int)) (i : Nat) (h : i < ps.length), (numsV ps)[i * 2]? = some (.int .i64 ps[i].1) ∧ (numsV ps)[i * 2 + 1]? = some (.int .i64 ps[i].2) := by
  intro ps
  induction ps with
  | nil => intro i h; simp at h
  | cons p r ih =>
    intro i h
    cases i with
    | zero => exact ⟨rfl, rfl⟩
    | succ i =>
      have := ih i (by simpa using h)
      rw [show (i + 1) * 2 = i * 2 + 2 by omega]
      exact this
theorem pairs_blk {w : World} {g : Nat} {T : TypeId} {ps : List (Int × Int)} (h : Blk w g T (numsV ps).toArray) : IsPairs w (some ⟨g, 0, none⟩) ps := by
  intro i hi
  have := numsV_get ps i hi
  refine ⟨g, 0, rfl, ?_, ?_⟩
  · rw [Nat.zero_add]; exact h.cell (by simpa using this.1)
  · rw [Nat.zero_add]; exact h.cell (by simpa using this.2)
def putB (kind : Int) (r : Bool) (ps : List (Int × Int)) : List Nat := if r then sealV (putSt kind ps) else zeros64
def putEr (kind : Int) (r : Bool) (ps : List (Int × Int)) : Int := if r then (putSt kind ps).2 else 10
theorem putSt_len (kind : Int) (ps : List (Int × Int)) : (putSt kind ps).1.length ≤ 60 := by
  unfold putSt
  suffices ∀ (l : List (Int × Int)) (s : List Nat × Int), s.1.length ≤ 60 → (l.foldl (fun s p => putS s p.1 p.2) s).1.length ≤ 60 from this _ _ (by simp)
  intro l
  induction l with
  | nil => intro s h; exact h
  | cons p r ih =>
    intro s h
    apply ih
    show (putS s p.1 p.2).1.length ≤ 60
    unfold putS
    split
    · simp only [putL]
      split
      · rename_i h1 h2
        rw [List.length_append, bytesOf_len]
        unfold putE at h2
        split at h2
        · omega
        · split at h2
          · omega
          · unfold wrongE at h2
            split at h2
            · omega
            · split at h2
              · omega
              · omega
      · exact h
    · exact h
theorem putB_len (kind : Int) (r : Bool) (ps : List (Int × Int)) : (putB kind r ps).length = 64 := by
  unfold putB
  cases r
  · rfl
  · exact sealV_len _ (putSt_len kind ps)
theorem put_any (kind : Int) (r : Bool) (oa : Option Addr) (ps : List (Int × Int)) (cap : Nat) (w : World) (hP : IsPairs w oa ps) (hH : Halves w) (hl : ps.length ≤ 1000) :
    Calls Tryd.prog 37 #[.int .i64 kind, .bool r, .slice oa ps.length cap] w fun e w' => e = .returned (.tuple #[.agg (bv (putB kind r ps)), .int .i64 (putEr kind r ps)]) ∧ Fr [] w w' := by
  cases r
  · exact put_no kind _ w
  · exact put_yes kind oa ps cap w hP hH hl

def superL (x0 x1 x2 x3 x4 x5 x6 : Int) : List (Int × Int) := [(x0, 6), (x1, 2), (x2, 2), (x3, 2), (x4, 2), (x5, 2), (x6, 1)]
set_option maxRecDepth 100000 in
set_option maxHeartbeats 2000000 in
theorem PutSuper_any (x0 x1 x2 x3 x4 x5 x6 : Int) (w : World) (hH : Halves w) :
    Calls Tryd.prog 21 #[superV x0 x1 x2 x3 x4 x5 x6] w fun e w' =>
      e = .returned (.tuple #[.agg (bv (putB 1 (superR x0 x1 x2 x3 x4 x5 x6) (superL x0 x1 x2 x3 x4 x5 x6))), .int .i64 (putEr 1 (superR x0 x1 x2 x3 x4 x5 x6) (superL x0 x1 x2 x3 x4 x5 x6))]) ∧ Fr [] w w' := by
  have hz : ∀ w, (zeroValue 33).run Tryd.prog w = .ok (.agg (bv zeros64)) w := fun _ => by kernel_rfl
  have HR := Lib.hid (fun W => superR_any x0 x1 x2 x3 x4 x5 x6 W)
  have HH := Lib.hid hH
  have hlen := putB_len 1 (superR x0 x1 x2 x3 x4 x5 x6) (superL x0 x1 x2 x3 x4 x5 x6)
  have HLEN := Lib.hid hlen
  have hsz : (bv (putB 1 (superR x0 x1 x2 x3 x4 x5 x6) (superL x0 x1 x2 x3 x4 x5 x6))).size = 64 := by rw [bv_size, hlen]
  unfold superV at HR ⊢
  generalize superR x0 x1 x2 x3 x4 x5 x6 = r at HR HLEN hsz ⊢
  have HPUT := Lib.hid (fun W g cap (h : Blk W g 83 (numsV (superL x0 x1 x2 x3 x4 x5 x6)).toArray) hH => put_any 1 r (some ⟨g, 0, none⟩) (superL x0 x1 x2 x3 x4 x5 x6) cap W (pairs_blk h) hH (by simp [superL]))
  have hF0 := (((Fr.refl [] w).alloc (.cells #[.int .i64 x0, .int .i64 x1, .int .i64 x2, .int .i64 x3, .int .i64 x4, .int .i64 x5, .int .i64 x6] 52)).alloc (.cells (bv zeros64) 33)).drew
  have hB0 := ((Blk.new w #[.int .i64 x0, .int .i64 x1, .int .i64 x2, .int .i64 x3, .int .i64 x4, .int .i64 x5, .int .i64 x6] 52).alloc (.cells (bv zeros64) 33)).drew
  have hT0 := (blk_at (w.alloc (.cells #[.int .i64 x0, .int .i64 x1, .int .i64 x2, .int .i64 x3, .int .i64 x4, .int .i64 x5, .int .i64 x6] 52)) (bv zeros64) 33 (w.heap.size + 1) (by simp)).drew
  clear hH hlen
  go_enter Tryd.func21, Tryd.ntmps21
  go_wp2_with fail
  have hB := hB0
  have hFw := hF0
  have hT := hT0
  clear hB0 hF0 hT0
  refine region_ord [w.heap.size+1] (.take 0 (.take 2 (.take 3 (.take 4 (.take 5 (.take 6 (.take 7 (.take 8 (.take 9 (.take 10 (.take 11 (.take 12 (.take 13 (.take 14 (.take 15 (.take 16 (.take 17 (.take 18 (.take 19 (.take 20 (.take 21 (.take 22 (.pick 1 (.pick 23 (.pick 24 (.take 25 (.take 26 (.pick 27 (.take 28 .done) .none))) .none) .none) (.pick 23 (.pick 1 (.pick 24 (.take 25 (.take 26 (.pick 27 (.take 28 .done) .none))) .none) .none) .none)))))))))))))))))))))))) (by kernel_rfl) (by kernel_rfl) ?_
  simp only [ordList, Ord.map, List.getD_cons_zero, List.getD_cons_succ]
  refine ord_all hB (by simp) rfl rfl (by kernel_rfl) rfl ?_
  simp only [Act.put, List.setIfInBounds_toArray, List.set_cons_zero, List.set_cons_succ]
  refine' ord_pure (v := _) ?_ rfl ?_; rotate_left; focus (intro w; go_simp <;> (first | (with_reducible rfl) | (constructor <;> with_reducible rfl)))
  simp only [Act.put, List.setIfInBounds_toArray, List.set_cons_zero, List.set_cons_succ]
  refine ord_cell hB (by simp) rfl rfl (by kernel_rfl) rfl rfl ?_
  simp only [Act.put, List.getElem_toArray, List.getElem_cons_zero, List.getElem_cons_succ, List.setIfInBounds_toArray, List.set_cons_zero, List.set_cons_succ]
  refine' ord_pure (v := _) ?_ rfl ?_; rotate_left; focus (intro w; go_simp <;> (first | (with_reducible rfl) | (constructor <;> with_reducible rfl)))
  simp only [Act.put, List.setIfInBounds_toArray, List.set_cons_zero, List.set_cons_succ]
  refine' ord_pure (v := _) ?_ rfl ?_; rotate_left; focus (intro w; go_simp <;> (first | (with_reducible rfl) | (constructor <;> with_reducible rfl)))
  simp only [Act.put, List.setIfInBounds_toArray, List.set_cons_zero, List.set_cons_succ]
  refine ord_cell hB (by simp) rfl rfl (by kernel_rfl) rfl rfl ?_
  simp only [Act.put, List.getElem_toArray, List.getElem_cons_zero, List.getElem_cons_succ, List.setIfInBounds_toArray, List.set_cons_zero, List.set_cons_succ]
  refine' ord_pure (v := _) ?_ rfl ?_; rotate_left; focus (intro w; go_simp <;> (first | (with_reducible rfl) | (constructor <;> with_reducible rfl)))
  simp only [Act.put, List.setIfInBounds_toArray, List.set_cons_zero, List.set_cons_succ]
  refine' ord_pure (v := _) ?_ rfl ?_; rotate_left; focus (intro w; go_simp <;> (first | (with_reducible rfl) | (constructor <;> with_reducible rfl)))
  simp only [Act.put, List.setIfInBounds_toArray, List.set_cons_zero, List.set_cons_succ]
  refine ord_cell hB (by simp) rfl rfl (by kernel_rfl) rfl rfl ?_
  simp only [Act.put, List.getElem_toArray, List.getElem_cons_zero, List.getElem_cons_succ, List.setIfInBounds_toArray, List.set_cons_zero, List.set_cons_succ]
  refine' ord_pure (v := _) ?_ rfl ?_; rotate_left; focus (intro w; go_simp <;> (first | (with_reducible rfl) | (constructor <;> with_reducible rfl)))
  simp only [Act.put, List.setIfInBounds_toArray, List.set_cons_zero, List.set_cons_succ]
  refine' ord_pure (v := _) ?_ rfl ?_; rotate_left; focus (intro w; go_simp <;> (first | (with_reducible rfl) | (constructor <;> with_reducible rfl)))
  simp only [Act.put, List.setIfInBounds_toArray, List.set_cons_zero, List.set_cons_succ]
  refine ord_cell hB (by simp) rfl rfl (by kernel_rfl) rfl rfl ?_
  simp only [Act.put, List.getElem_toArray, List.getElem_cons_zero, List.getElem_cons_succ, List.setIfInBounds_toArray, List.set_cons_zero, List.set_cons_succ]
  refine' ord_pure (v := _) ?_ rfl ?_; rotate_left; focus (intro w; go_simp <;> (first | (with_reducible rfl) | (constructor <;> with_reducible rfl)))
  simp only [Act.put, List.setIfInBounds_toArray, List.set_cons_zero, List.set_cons_succ]
  refine' ord_pure (v := _) ?_ rfl ?_; rotate_left; focus (intro w; go_simp <;> (first | (with_reducible rfl) | (constructor <;> with_reducible rfl)))
  simp only [Act.put, List.setIfInBounds_toArray, List.set_cons_zero, List.set_cons_succ]
  refine ord_cell hB (by simp) rfl rfl (by kernel_rfl) rfl rfl ?_
  simp only [Act.put, List.getElem_toArray, List.getElem_cons_zero, List.getElem_cons_succ, List.setIfInBounds_toArray, List.set_cons_zero, List.set_cons_succ]
  refine' ord_pure (v := _) ?_ rfl ?_; rotate_left; focus (intro w; go_simp <;> (first | (with_reducible rfl) | (constructor <;> with_reducible rfl)))
  simp only [Act.put, List.setIfInBounds_toArray, List.set_cons_zero, List.set_cons_succ]
  refine' ord_pure (v := _) ?_ rfl ?_; rotate_left; focus (intro w; go_simp <;> (first | (with_reducible rfl) | (constructor <;> with_reducible rfl)))
  simp only [Act.put, List.setIfInBounds_toArray, List.set_cons_zero, List.set_cons_succ]
  refine ord_cell hB (by simp) rfl rfl (by kernel_rfl) rfl rfl ?_
  simp only [Act.put, List.getElem_toArray, List.getElem_cons_zero, List.getElem_cons_succ, List.setIfInBounds_toArray, List.set_cons_zero, List.set_cons_succ]
  refine' ord_pure (v := _) ?_ rfl ?_; rotate_left; focus (intro w; go_simp <;> (first | (with_reducible rfl) | (constructor <;> with_reducible rfl)))
  simp only [Act.put, List.setIfInBounds_toArray, List.set_cons_zero, List.set_cons_succ]
  refine' ord_pure (v := _) ?_ rfl ?_; rotate_left; focus (intro w; go_simp <;> (first | (with_reducible rfl) | (constructor <;> with_reducible rfl)))
  simp only [Act.put, List.setIfInBounds_toArray, List.set_cons_zero, List.set_cons_succ]
  refine ord_cell hB (by simp) rfl rfl (by kernel_rfl) rfl rfl ?_
  simp only [Act.put, List.getElem_toArray, List.getElem_cons_zero, List.getElem_cons_succ, List.setIfInBounds_toArray, List.set_cons_zero, List.set_cons_succ]
  refine' ord_pure (v := _) ?_ rfl ?_; rotate_left; focus (intro w; go_simp <;> (first | (with_reducible rfl) | (constructor <;> with_reducible rfl)))
  simp only [Act.put, List.setIfInBounds_toArray, List.set_cons_zero, List.set_cons_succ]
  refine ord_fork ?_ ?_
  -- 1: t5 := CALL (lavabo/forms.Super).right(t4)   {0}
  refine' ord_call (f := 38) (args := _) ?_ rfl ?_; rotate_left; focus (go_simp <;> (first | (with_reducible rfl) | (constructor <;> with_reducible rfl)))
  refine (HR.out _).mono ?_
  rintro e w1 ⟨rfl, hF'⟩
  have hF := hF'.sub (T := [w.heap.size+1]) (by simp)
  have hB := hB.fr hF' (by simp)
  have hT := hT.fr hF' (by simp)
  have hFw := hFw.trans hF'
  try have hSl := hSl.fr hF' (by simp)
  refine ⟨_, rfl, hF, ?_⟩
  simp only [Act.put, List.setIfInBounds_toArray, List.set_cons_zero, List.set_cons_succ]
  -- 23: t27 := buildSlice <[]forms.num> 7 [(0,t8),(1,t11),(2,t14),(3,t17),(4,t20),(5,t23),(6,t26)]   {4,7,10,13,16,19,22}
  refine' ord_do (v := _) (w' := _) ?_ ?_ rfl ?_
  rotate_left 2
  focus (go_simp <;> (first | (with_reducible rfl) | (constructor <;> with_reducible rfl)))
  focus (exact (Fr.refl _ _).alloc _)
  have hSl := blk_new hFw (numsV (superL x0 x1 x2 x3 x4 x5 x6)).toArray 83
  try simp only [World.size_drew, World.size_alloc] at hSl
  have hB := hB.alloc (.cells (numsV (superL x0 x1 x2 x3 x4 x5 x6)).toArray 83)
  have hT := hT.alloc (.cells (numsV (superL x0 x1 x2 x3 x4 x5 x6)).toArray 83)
  have hFw := hFw.alloc (.cells (numsV (superL x0 x1 x2 x3 x4 x5 x6)).toArray 83)
  simp only [Act.put, List.setIfInBounds_toArray, List.set_cons_zero, List.set_cons_succ]
  -- 24: t28 := CALL lavabo/forms.put(1, t5, t27)   {1,23}
  refine' ord_call (f := 37) (args := _) ?_ rfl ?_; rotate_left; focus (go_simp <;> (first | (with_reducible rfl) | (constructor <;> with_reducible rfl)))
  refine (HPUT.out _ _ _ hSl (HH.out.keep hFw (by simp))).mono ?_
  rintro e w2 ⟨rfl, hF'⟩
  have hF := hF'.sub (T := [w.heap.size+1]) (by simp)
  have hT := hT.fr hF' (by simp)
  have hFw := hFw.trans hF'
  refine ⟨_, rfl, hF, ?_⟩
  simp only [Act.put, List.setIfInBounds_toArray, List.set_cons_zero, List.set_cons_succ]
  refine' ord_pure (v := _) ?_ rfl ?_; rotate_left; focus (intro w; go_simp <;> (first | (with_reducible rfl) | (constructor <;> with_reducible rfl)))
  simp only [Act.put, List.setIfInBounds_toArray, List.set_cons_zero, List.set_cons_succ]
  refine' ord_pure (v := _) ?_ rfl ?_; rotate_left; focus (intro w; go_simp <;> (first | (with_reducible rfl) | (constructor <;> with_reducible rfl)))
  simp only [Act.put, List.setIfInBounds_toArray, List.set_cons_zero, List.set_cons_succ]
  -- 27: t_ := store <api.Block = lavabo/api.Block> t2 t29   {0,1,2,3,4,5,6,7,8,9,10,11,12,13,14,15,16,17,18,19,20,21,22,23,24,25,26}
  obtain ⟨w9, hst, hB9, hF9, hs9⟩ := store_all (P := Tryd.prog) hT _ (by rw [HLEN.out, bv_size]; rfl)
  refine' ord_skip (w' := w9) ?_ hF9 rfl ?_
  focus (go_simp <;> (with_reducible rfl))
  have hF09 := hFw.comp hF9 (by simp)
  clear hst
  simp only [Act.put, List.setIfInBounds_toArray, List.set_cons_zero, List.set_cons_succ]
  refine' ord_pure (v := _) ?_ rfl ?_; rotate_left; focus (intro w; go_simp <;> (first | (with_reducible rfl) | (constructor <;> with_reducible rfl)))
  simp only [Act.put, List.setIfInBounds_toArray, List.set_cons_zero, List.set_cons_succ]
  refine ord_nil ?_
  rotate_left
  -- 23: t27 := buildSlice <[]forms.num> 7 [(0,t8),(1,t11),(2,t14),(3,t17),(4,t20),(5,t23),(6,t26)]   {4,7,10,13,16,19,22}
  refine' ord_do (v := _) (w' := _) ?_ ?_ rfl ?_
  rotate_left 2
  focus (go_simp <;> (first | (with_reducible rfl) | (constructor <;> with_reducible rfl)))
  focus (exact (Fr.refl _ _).alloc _)
  have hSl := blk_new hFw (numsV (superL x0 x1 x2 x3 x4 x5 x6)).toArray 83
  try simp only [World.size_drew, World.size_alloc] at hSl
  have hB := hB.alloc (.cells (numsV (superL x0 x1 x2 x3 x4 x5 x6)).toArray 83)
  have hT := hT.alloc (.cells (numsV (superL x0 x1 x2 x3 x4 x5 x6)).toArray 83)
  have hFw := hFw.alloc (.cells (numsV (superL x0 x1 x2 x3 x4 x5 x6)).toArray 83)
  simp only [Act.put, List.setIfInBounds_toArray, List.set_cons_zero, List.set_cons_succ]
  -- 1: t5 := CALL (lavabo/forms.Super).right(t4)   {0}
  refine' ord_call (f := 38) (args := _) ?_ rfl ?_; rotate_left; focus (go_simp <;> (first | (with_reducible rfl) | (constructor <;> with_reducible rfl)))
  refine (HR.out _).mono ?_
  rintro e w1 ⟨rfl, hF'⟩
  have hF := hF'.sub (T := [w.heap.size+1]) (by simp)
  have hB := hB.fr hF' (by simp)
  have hT := hT.fr hF' (by simp)
  have hFw := hFw.trans hF'
  try have hSl := hSl.fr hF' (by simp)
  refine ⟨_, rfl, hF, ?_⟩
  simp only [Act.put, List.setIfInBounds_toArray, List.set_cons_zero, List.set_cons_succ]
  -- 24: t28 := CALL lavabo/forms.put(1, t5, t27)   {1,23}
  refine' ord_call (f := 37) (args := _) ?_ rfl ?_; rotate_left; focus (go_simp <;> (first | (with_reducible rfl) | (constructor <;> with_reducible rfl)))
  refine (HPUT.out _ _ _ hSl (HH.out.keep hFw (by simp))).mono ?_
  rintro e w2 ⟨rfl, hF'⟩
  have hF := hF'.sub (T := [w.heap.size+1]) (by simp)
  have hT := hT.fr hF' (by simp)
  have hFw := hFw.trans hF'
  refine ⟨_, rfl, hF, ?_⟩
  simp only [Act.put, List.setIfInBounds_toArray, List.set_cons_zero, List.set_cons_succ]
  refine' ord_pure (v := _) ?_ rfl ?_; rotate_left; focus (intro w; go_simp <;> (first | (with_reducible rfl) | (constructor <;> with_reducible rfl)))
  simp only [Act.put, List.setIfInBounds_toArray, List.set_cons_zero, List.set_cons_succ]
  refine' ord_pure (v := _) ?_ rfl ?_; rotate_left; focus (intro w; go_simp <;> (first | (with_reducible rfl) | (constructor <;> with_reducible rfl)))
  simp only [Act.put, List.setIfInBounds_toArray, List.set_cons_zero, List.set_cons_succ]
  -- 27: t_ := store <api.Block = lavabo/api.Block> t2 t29   {0,1,2,3,4,5,6,7,8,9,10,11,12,13,14,15,16,17,18,19,20,21,22,23,24,25,26}
  obtain ⟨w9, hst, hB9, hF9, hs9⟩ := store_all (P := Tryd.prog) hT _ (by rw [HLEN.out, bv_size]; rfl)
  refine' ord_skip (w' := w9) ?_ hF9 rfl ?_
  focus (go_simp <;> (with_reducible rfl))
  have hF09 := hFw.comp hF9 (by simp)
  clear hst
  simp only [Act.put, List.setIfInBounds_toArray, List.set_cons_zero, List.set_cons_succ]
  refine' ord_pure (v := _) ?_ rfl ?_; rotate_left; focus (intro w; go_simp <;> (first | (with_reducible rfl) | (constructor <;> with_reducible rfl)))
  simp only [Act.put, List.setIfInBounds_toArray, List.set_cons_zero, List.set_cons_succ]
  refine ord_nil ?_
  all_goals
    go_wp2_with fail
    have hld := load_var (P := Tryd.prog) (o := 0) hB9 _ (bv_self _) Tryd.underlying33 (by kernel_rfl) HLEN.out
    exact bodyPost_ret (res_cell_at Tryd.results21 rfl rfl hld) rfl ⟨rfl, hF09⟩
end Go.Proofs.YtifafnmbcmhlcaaDoor
