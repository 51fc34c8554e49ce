/- forms: pages: which may be: the walk. -/
import Derived.Test.YtifafnmbcmhlcaaDoorFormO
namespace Go.Proofs.YtifafnmbcmhlcaaDoor
open Go.RowKit Go.Shelf

def entRe (e : En) : Bool := entR e.b e.s e.m
def pageR (q n o m : Int) (es : List En) : Bool := wI q 0 1099511627776 && (wI n 0 (wrap64 (o - 1)) && (wI o 1 256 && (wI m 0 4 && (okS m.toNat es && es.all entRe))))
theorem run_index_en (x0 x1 x2 x3 : En) (w : World) :
    ((Instr.index 64 (.agg (ensC [x0, x1, x2, x3]).toArray) (.int .i64 0)).run Tryd.prog w = .ok (.agg (enC x0).toArray) w) ∧
    ((Instr.index 64 (.agg (ensC [x0, x1, x2, x3]).toArray) (.int .i64 1)).run Tryd.prog w = .ok (.agg (enC x1).toArray) w) ∧
    ((Instr.index 64 (.agg (ensC [x0, x1, x2, x3]).toArray) (.int .i64 2)).run Tryd.prog w = .ok (.agg (enC x2).toArray) w) ∧
    ((Instr.index 64 (.agg (ensC [x0, x1, x2, x3]).toArray) (.int .i64 3)).run Tryd.prog w = .ok (.agg (enC x3).toArray) w) :=
  ⟨by kernel_rfl, by kernel_rfl, by kernel_rfl, by kernel_rfl⟩
set_option maxRecDepth 100000 in
set_option maxHeartbeats 4000000 in
theorem pageR_any (q n o m : Int) (e0 e1 e2 e3 : En) (w : World) :
    Calls Tryd.prog 48 #[.agg (pageL q n o m (ensC [e0, e1, e2, e3])).toArray] w fun e w' => e = .returned (.bool (pageR q n o m [e0, e1, e2, e3])) ∧ Fr [] w w' := by
  have hz : ∀ w, (zeroValue 64).run Tryd.prog w = .ok (.agg (ensC ([en0, en0, en0, en0])).toArray) w := fun _ => by kernel_rfl
  have HCP := Lib.hid (fun (W : World) b1 b3 T PA h1 h2 h3 k h4 => copy_en (w := W) (b1 := b1) (b3 := b3) (T := T) (PA := PA) [e0, e1, e2, e3] rfl h1 h2 h3 k h4)
  have HEQ := Lib.hid (fun k hk W => eq_some k hk e0 e1 e2 e3 W)
  have HIX := Lib.hid (fun W => run_index_en e0 e1 e2 e3 W)
  have hP0 : (pageL q n o m (ensC [e0, e1, e2, e3])).toArray[0]? = some (.int .i64 q) := rfl
  have hP1 : (pageL q n o m (ensC [e0, e1, e2, e3])).toArray[1]? = some (.int .i64 n) := rfl
  have hP2 : (pageL q n o m (ensC [e0, e1, e2, e3])).toArray[2]? = some (.int .i64 o) := rfl
  have hP3 : (pageL q n o m (ensC [e0, e1, e2, e3])).toArray[3]? = some (.int .i64 m) := rfl
  have hPE : ∀ (j : Nat) (v : Value), (ensC [e0, e1, e2, e3])[j]? = some v → (pageL q n o m (ensC [e0, e1, e2, e3])).toArray[4 + j]? = some v := fun j v hj => by
    simp only [pageL, List.getElem?_toArray]
    rw [List.getElem?_append_right (by simp)]
    simpa using hj
  have hsz : (pageL q n o m (ensC [e0, e1, e2, e3])).toArray.size = 20 := rfl
  have hlE : (ensC [e0, e1, e2, e3]).length = 16 := rfl
  have hszS : ∀ k, k ≤ 4 → (ensC (someE k [e0, e1, e2, e3])).length = 16 := fun k hk => by
    rw [ensC_len]; unfold someE; simp; omega
  have HS0 := Lib.hid (show (ensC [e0, e1, e2, e3]).toArray.size = 16 from rfl)
  generalize (pageL q n o m (ensC [e0, e1, e2, e3])).toArray = PA at hP0 hP1 hP2 hP3 hPE hsz ⊢
  obtain ⟨_, g0⟩ := Array.getElem?_eq_some_iff.1 hP0
  obtain ⟨_, g1⟩ := Array.getElem?_eq_some_iff.1 hP1
  obtain ⟨_, g2⟩ := Array.getElem?_eq_some_iff.1 hP2
  obtain ⟨_, g3⟩ := Array.getElem?_eq_some_iff.1 hP3
  have HPE := Lib.hid hPE
  have hB0 := Blk.new w PA 66
  have hF0 := (Fr.refl [] w).alloc (.cells PA 66)
  have HB0 := Lib.hid hB0
  have HSZS := Lib.hid hszS
  clear hPE hB0 hszS
  unfold pageR
  cases h0 : wI q 0 1099511627776
  rotate_left
  cases h1 : wI n 0 (wrap64 (o - 1))
  rotate_left
  cases h2 : wI o 1 256
  rotate_left
  cases h3 : wI m 0 4
  rotate_left
  · have h3' := wI_iff.1 h3
    obtain ⟨k, rfl⟩ := Int.eq_ofNat_of_zero_le h3'.1
    have hk : k ≤ 4 := by omega
    have hkI : (k : Int) ≤ 4 := by omega
    have hkJ : (0 : Int) ≤ (k : Int) := by omega
    clear h3'
    go_enter Tryd.func48, Tryd.ntmps48
    go_wp2_with fail
    apply wp_scope_straight
    go_upto_region 4 with (go_at_call 55; refine (within_val _ _ _ _ _ (by with_reducible first | exact h0 | exact h1 | exact h2 | exact h3)).mono ?_; rintro e w' ⟨rfl, rfl⟩)
    have c3 : (((w.alloc (.cells PA 66)).alloc (.cells (ensC ([en0, en0, en0, en0])).toArray 64)).drew).cell? ⟨w.heap.size, 3, none⟩ = some (.int .i64 k) := (HB0.out.alloc _).drew.cell hP3
    obtain ⟨w5, hcp, hB5, hF5⟩ := HCP.out (((w.alloc (.cells PA 66)).alloc (.cells (ensC ([en0, en0, en0, en0])).toArray 64)).drew) w.heap.size (w.heap.size + 1) 66 PA (HB0.out.alloc _).drew HPE.out (blk_at _ _ _ _ (by simp)).drew k hk
    refine region_ord [w.heap.size+1] (.take 0 (.take 1 (.take 2 (.take 3 (.take 4 (.pick 5 .done .none)))))) (by kernel_rfl) (by kernel_rfl) ?_
    simp only [ordList, Ord.map, List.getD_cons_zero, List.getD_cons_succ]
    refine' ord_pure (v := _) ?_ rfl ?_; rotate_left; focus (intro w; go_simp <;> (first | (with_reducible rfl) | (constructor <;> with_reducible rfl)))
    simp only [Act.put, List.setIfInBounds_toArray, List.set_cons_zero, List.set_cons_succ]
    refine' ord_pure (v := _) ?_ rfl ?_; rotate_left; focus (intro w; go_simp <;> (first | (with_reducible rfl) | (constructor <;> with_reducible rfl)))
    simp only [Act.put, List.setIfInBounds_toArray, List.set_cons_zero, List.set_cons_succ]
    refine' ord_pure (v := _) ?_ rfl ?_; rotate_left; focus (intro w; go_simp <;> (first | (with_reducible rfl) | (constructor <;> with_reducible rfl)))
    simp only [Act.put, List.setIfInBounds_toArray, List.set_cons_zero, List.set_cons_succ]
    refine ord_load rfl rfl (by kernel_rfl) rfl c3 (by simp) ?_
    simp only [Act.put, List.setIfInBounds_toArray, List.set_cons_zero, List.set_cons_succ]
    refine' ord_pure (v := _) ?_ rfl ?_; rotate_left; focus (intro w; go_simp <;> (first | (with_reducible rfl) | (constructor <;> with_reducible rfl)))
    simp only [Act.put, List.setIfInBounds_toArray, List.set_cons_zero, List.set_cons_succ]
    -- 5: t37 := CALL builtin Builtin.copy(t32, t36)   {0,4}
    refine' ord_do (v := .int .i64 k) (w' := w5) ?_ hF5 rfl ?_
    focus (go_simp <;> (with_reducible rfl))
    simp only [Act.put, List.setIfInBounds_toArray, List.set_cons_zero, List.set_cons_succ]
    refine ord_nil ?_
    have hF05 : Fr [] w w5 := ((hF0.alloc _).drew).comp hF5 (by simp)
    have hB15 := ((HB0.out.alloc (.cells (ensC ([en0, en0, en0, en0])).toArray 64)).drew).fr hF5 (by simp)
    have hq := HEQ.out k hk
    have hg : ∀ (x y : Operand) (A B : Array Value) (w : World), (eqGuard .eql 64 x y (.agg A) (.agg B)).run Tryd.prog w = .ok () w := fun x y A B w => run_guard_eql w (by kernel_rfl)
    have hlS := HSZS.out k hk
    have hrE : w5.rangeAt w.heap.size 4 (ensC [e0, e1, e2, e3]) := hB15.range 4 _ HPE.out
    have hrS : w5.rangeAt (w.heap.size + 1) 0 (ensC (someE k [e0, e1, e2, e3])) := hB5.range 0 _ (fun j v hj => by simpa using hj)
    have HIX' := Lib.hid (HIX.out)
    have HRE := Lib.hid hrE
    have HRS := Lib.hid hrS
    clear hcp hB5 hF5 c3 hrE hrS
    generalize hok : okS k [e0, e1, e2, e3] = ok at hq ⊢
    have HOK := Lib.hid hok
    clear hok
    go_wp2_with (first
      | (refine wpList_load_row rfl 64 _ rfl HRS.out rfl (by rw [hlS]; kernel_rfl) ?_)
      | (refine wpList_load_row rfl 64 _ rfl HRE.out rfl (by kernel_rfl) ?_))
    refine wp_label ?_
    go_wp2_with (refine wpList_load_row rfl 64 _ rfl HRE.out rfl (by kernel_rfl) ?_)
    have hIX := HIX'.out
    simp only [enC] at hIX
    have i0 := fun W => (hIX W).1
    have i1 := fun W => (hIX W).2.1
    have i2 := fun W => (hIX W).2.2.1
    have i3 := fun W => (hIX W).2.2.2
    generalize (ensC [e0, e1, e2, e3]).toArray = E at i0 i1 i2 i3 ⊢
    have HEN := Lib.hid (fun b s d m r W h => entR_val b s d m r W h)
    unfold entV at HEN
    have HF5 := Lib.hid hF05
    clear hIX hq hg hlS hF05
    cases ok
    · refine wp_loop_rounds 1 ?_
      rw [rounds_succ]
      go_wp2_with fail
      rw [Exit.noGoto_ret]
      go_ret
      exact ⟨by simp [HOK.out], HF5.out.alloc _⟩
    · cases r0 : entR e0.b e0.s e0.m
      · refine wp_loop_rounds 1 ?_
        rw [rounds_succ]
        go_wp2_with fail
        refine (HEN.out _ _ _ _ _ _ r0).mono ?_
        rintro e w6 ⟨rfl, hF6⟩
        go_wp2_with fail
        rw [Exit.noGoto_ret]
        go_ret
        exact ⟨by simp [HOK.out, entRe, r0], (HF5.out.alloc _).trans hF6⟩
      · cases r1 : entR e1.b e1.s e1.m
        · refine wp_loop_rounds 2 ?_
          rw [rounds_succ]
          go_wp2_with fail
          refine (HEN.out _ _ _ _ _ _ r0).mono ?_
          rintro e w6 ⟨rfl, hF6⟩
          go_wp2_with fail
          rw [rounds_succ]
          go_wp2_with fail
          refine (HEN.out _ _ _ _ _ _ r1).mono ?_
          rintro e w7 ⟨rfl, hF7⟩
          go_wp2_with fail
          rw [Exit.noGoto_ret]
          go_ret
          exact ⟨by simp [HOK.out, entRe, r0, r1], (((HF5.out.alloc _).trans hF6).alloc _).trans hF7⟩
        · cases r2 : entR e2.b e2.s e2.m
          · refine wp_loop_rounds 3 ?_
            rw [rounds_succ]
            go_wp2_with fail
            refine (HEN.out _ _ _ _ _ _ r0).mono ?_
            rintro e w6 ⟨rfl, hF6⟩
            go_wp2_with fail
            rw [rounds_succ]
            go_wp2_with fail
            refine (HEN.out _ _ _ _ _ _ r1).mono ?_
            rintro e w7 ⟨rfl, hF7⟩
            go_wp2_with fail
            rw [rounds_succ]
            go_wp2_with fail
            refine (HEN.out _ _ _ _ _ _ r2).mono ?_
            rintro e w8 ⟨rfl, hF8⟩
            go_wp2_with fail
            rw [Exit.noGoto_ret]
            go_ret
            exact ⟨by simp [HOK.out, entRe, r0, r1, r2], (((((HF5.out.alloc _).trans hF6).alloc _).trans hF7).alloc _).trans hF8⟩
          · cases r3 : entR e3.b e3.s e3.m
            all_goals
              refine wp_loop_rounds 5 ?_
              rw [rounds_succ]
              go_wp2_with fail
              refine (HEN.out _ _ _ _ _ _ r0).mono ?_
              rintro e w6 ⟨rfl, hF6⟩
              go_wp2_with fail
              rw [rounds_succ]
              go_wp2_with fail
              refine (HEN.out _ _ _ _ _ _ r1).mono ?_
              rintro e w7 ⟨rfl, hF7⟩
              go_wp2_with fail
              rw [rounds_succ]
              go_wp2_with fail
              refine (HEN.out _ _ _ _ _ _ r2).mono ?_
              rintro e w8 ⟨rfl, hF8⟩
              go_wp2_with fail
              rw [rounds_succ]
              go_wp2_with fail
              refine (HEN.out _ _ _ _ _ _ r3).mono ?_
              rintro e w9 ⟨rfl, hF9⟩
              have HF9 := Lib.hid ((((((((HF5.out.alloc (.cells #[.int .i64 e0.b, .int .i64 e0.s, .bool e0.d, .int .i64 e0.m] 63)).trans hF6).alloc _).trans hF7).alloc _).trans hF8).alloc _).trans hF9)
              go_wp2_with fail
              first
                | (rw [Exit.noGoto_ret]; go_ret; exact ⟨by simp [HOK.out, entRe, r0, r1, r2, r3], HF9.out⟩)
                | (rw [rounds_succ]; go_wp2_with fail; rw [Exit.noGoto_ret]; go_ret; exact ⟨by simp [HOK.out, entRe, r0, r1, r2, r3], HF9.out⟩)
  all_goals
    go_enter Tryd.func48, Tryd.ntmps48
    go_wp2_with fail
    apply wp_scope_straight
    go_wp2_with (go_at_call 55; refine (within_val _ _ _ _ _ (by with_reducible first | exact h0 | exact h1 | exact h2 | exact h3)).mono ?_; rintro e w' ⟨rfl, rfl⟩)
    rw [Exit.noGoto_ret]
    go_ret
    exact ⟨by simp, hF0⟩
end Go.Proofs.YtifafnmbcmhlcaaDoor
