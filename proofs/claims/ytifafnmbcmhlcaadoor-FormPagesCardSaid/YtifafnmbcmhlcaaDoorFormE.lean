/- forms: intents, kinds. -/
import Derived.Test.YtifafnmbcmhlcaaDoorFormD
import Derived.Test.YtifafnmbcmhlcaaDoorFieldM
namespace Go.Proofs.YtifafnmbcmhlcaaDoor
open Go.RowKit Go.Shelf

def intV (i q f n : Int) : Array Value := #[.int .i64 i, .int .i64 q, .int .i64 f, .int .i64 n]
def intR (i q f n : Int) : Bool := wI i 0 1099511627776 && wI q 0 1099511627776 && wI f 0 4096 && wI n 1 (4096 - f)
def intL (i q f n : Int) : List (Int × Int) := [(i, 6), (q, 6), (f, 2), (n, 2)]
set_option maxHeartbeats 1000000 in
theorem intR_any (i q f n : Int) (w : World) :
    Calls Tryd.prog 60 #[.agg (intV i q f n)] w fun e w' => e = .returned (.bool (intR i q f n)) ∧ Fr [] w w' := by
  unfold intR intV
  cases h0 : wI i 0 1099511627776
  rotate_left
  cases h1 : wI q 0 1099511627776
  rotate_left
  cases h2 : wI f 0 4096
  rotate_left
  have h2' := wI_iff.1 h2
  have h2a := h2'.1
  have h2b := h2'.2
  clear h2'
  cases h3 : wI n 1 (4096 - f)
  all_goals
    go_enter Tryd.func60, Tryd.ntmps60
    go_wp2_with (go_at_call 55; refine (within_val _ _ _ _ _ (by with_reducible first | exact h0 | exact h1 | exact h2 | exact h3)).mono ?_; rintro e w' ⟨rfl, rfl⟩)
    go_ret
    exact ⟨by simp, ((Fr.refl _ _).alloc _).alloc _⟩
theorem intNums_any (i q f n : Int) (w : World) :
    Calls Tryd.prog 61 #[.agg (intV i q f n)] w fun e w' => ∃ g, e = .returned (.slice (some ⟨g, 0, none⟩) 4 4) ∧ Blk w' g 83 (numsV (intL i q f n)).toArray ∧ w.heap.size ≤ g ∧ Fr [] w w' := by
  unfold intV
  go_enter Tryd.func61, Tryd.ntmps61
  go_wp2_with fail
  go_ret
  exact ⟨_, rfl, (blk_at _ _ _ _ (by simp)), by simp, (((Fr.refl _ _).alloc _).alloc _)⟩
set_option maxRecDepth 100000 in
set_option maxHeartbeats 2000000 in
theorem PutIntent_any (i q f n : Int) (w : World) (hH : Halves w) :
    Calls Tryd.prog 46 #[.agg (intV i q f n)] w fun e w' =>
      e = .returned (.tuple #[.agg (bv (putB 4 (intR i q f n) (intL i q f n))), .int .i64 (putEr 4 (intR i q f n) (intL i q f n))]) ∧ Fr [] w w' := by
  have hz : ∀ w, (zeroValue 33).run Tryd.prog w = .ok (.agg (bv zeros64)) w := fun _ => by kernel_rfl
  have HR := Lib.hid (fun W => intR_any i q f n W)
  have HNU := Lib.hid (fun W => intNums_any i q f n W)
  have HH := Lib.hid hH
  have hlen := putB_len 4 (intR i q f n) (intL i q f n)
  have HLEN := Lib.hid hlen
  have hsz : (bv (putB 4 (intR i q f n) (intL i q f n))).size = 64 := by rw [bv_size, hlen]
  unfold intV at HR HNU ⊢
  generalize intR i q f n = r at HR HLEN hsz ⊢
  have HPUT := Lib.hid (fun W g cap (h : Blk W g 83 (numsV (intL i q f n)).toArray) hH => put_any 4 r (some ⟨g, 0, none⟩) (intL i q f n) cap W (pairs_blk h) hH (by simp [intL]))
  have hF0 := (((Fr.refl [] w).alloc (.cells #[.int .i64 i, .int .i64 q, .int .i64 f, .int .i64 n] 97)).alloc (.cells (bv zeros64) 33)).drew
  have hB0 := ((Blk.new w #[.int .i64 i, .int .i64 q, .int .i64 f, .int .i64 n] 97).alloc (.cells (bv zeros64) 33)).drew
  have hT0 := (blk_at (w.alloc (.cells #[.int .i64 i, .int .i64 q, .int .i64 f, .int .i64 n] 97)) (bv zeros64) 33 (w.heap.size + 1) (by simp)).drew
  clear hH hlen
  go_enter Tryd.func46, Tryd.ntmps46
  go_wp2_with fail
  have hB := hB0
  have hFw := hF0
  have hT := hT0
  clear hB0 hF0 hT0
  refine region_ord [w.heap.size+1] (.take 0 (.take 2 (.pick 1 (.pick 3 (.pick 4 (.take 5 (.take 6 (.pick 7 (.take 8 .done) .none))) .none) .none) .none))) (by kernel_rfl) (by kernel_rfl) ?_
  simp only [ordList, Ord.map, List.getD_cons_zero, List.getD_cons_succ]
  refine ord_all hB (by simp) rfl rfl (by kernel_rfl) rfl ?_
  simp only [Act.put, List.setIfInBounds_toArray, List.set_cons_zero, List.set_cons_succ]
  refine ord_all hB (by simp) rfl rfl (by kernel_rfl) rfl ?_
  simp only [Act.put, List.setIfInBounds_toArray, List.set_cons_zero, List.set_cons_succ]
  -- 1: t5 := CALL (lavabo/forms.Intent).right(t4)   {0}
  refine' ord_call (f := 60) (args := _) ?_ rfl ?_; rotate_left; focus (go_simp <;> (first | (with_reducible rfl) | (constructor <;> with_reducible rfl)))
  refine (HR.out _).mono ?_
  rintro e w1 ⟨rfl, hF'⟩
  have hF := hF'.sub (T := [w.heap.size+1]) (by simp)
  have hB := hB.fr hF' (by simp)
  have hT := hT.fr hF' (by simp)
  have hFw := hFw.trans hF'
  refine ⟨_, rfl, hF, ?_⟩
  simp only [Act.put, List.setIfInBounds_toArray, List.set_cons_zero, List.set_cons_succ]
  -- 3: t7 := CALL (lavabo/forms.Intent).nums(t6)   {1,2}
  refine' ord_call (f := 61) (args := _) ?_ rfl ?_; rotate_left; focus (go_simp <;> (first | (with_reducible rfl) | (constructor <;> with_reducible rfl)))
  refine (HNU.out _).mono ?_
  rintro e w2 ⟨g, rfl, hSl, hg, hF'⟩
  have hF := hF'.sub (T := [w.heap.size+1]) (by simp)
  have hT := hT.fr hF' (by simp)
  have hFw := hFw.trans hF'
  refine ⟨_, rfl, hF, ?_⟩
  simp only [Act.put, List.setIfInBounds_toArray, List.set_cons_zero, List.set_cons_succ]
  -- 4: t8 := CALL lavabo/forms.put(4, t5, t7)   {1,3}
  refine' ord_call (f := 37) (args := _) ?_ rfl ?_; rotate_left; focus (go_simp <;> (first | (with_reducible rfl) | (constructor <;> with_reducible rfl)))
  refine (HPUT.out _ _ _ hSl (HH.out.keep hFw (by simp))).mono ?_
  rintro e w3 ⟨rfl, hF'⟩
  have hF := hF'.sub (T := [w.heap.size+1]) (by simp)
  have hT := hT.fr hF' (by simp)
  have hFw := hFw.trans hF'
  refine ⟨_, rfl, hF, ?_⟩
  simp only [Act.put, List.setIfInBounds_toArray, List.set_cons_zero, List.set_cons_succ]
  refine' ord_pure (v := _) ?_ rfl ?_; rotate_left; focus (intro w; go_simp <;> (first | (with_reducible rfl) | (constructor <;> with_reducible rfl)))
  simp only [Act.put, List.setIfInBounds_toArray, List.set_cons_zero, List.set_cons_succ]
  refine' ord_pure (v := _) ?_ rfl ?_; rotate_left; focus (intro w; go_simp <;> (first | (with_reducible rfl) | (constructor <;> with_reducible rfl)))
  simp only [Act.put, List.setIfInBounds_toArray, List.set_cons_zero, List.set_cons_succ]
  -- 7: t_ := store <api.Block = lavabo/api.Block> t2 t9   {0,1,2,3,4,5,6}
  obtain ⟨w9, hst, hB9, hF9, hs9⟩ := store_all (P := Tryd.prog) hT _ (by rw [HLEN.out, bv_size]; rfl)
  refine' ord_skip (w' := w9) ?_ hF9 rfl ?_
  focus (go_simp <;> (with_reducible rfl))
  have hF09 := hFw.comp hF9 (by simp)
  clear hst
  simp only [Act.put, List.setIfInBounds_toArray, List.set_cons_zero, List.set_cons_succ]
  refine' ord_pure (v := _) ?_ rfl ?_; rotate_left; focus (intro w; go_simp <;> (first | (with_reducible rfl) | (constructor <;> with_reducible rfl)))
  simp only [Act.put, List.setIfInBounds_toArray, List.set_cons_zero, List.set_cons_succ]
  refine ord_nil ?_
  go_wp2_with fail
  have hld := load_var (P := Tryd.prog) (o := 0) hB9 _ (bv_self _) Tryd.underlying33 (by kernel_rfl) HLEN.out
  exact bodyPost_ret (res_cell_at Tryd.results46 rfl rfl hld) rfl ⟨rfl, hF09⟩
end Go.Proofs.YtifafnmbcmhlcaaDoor
