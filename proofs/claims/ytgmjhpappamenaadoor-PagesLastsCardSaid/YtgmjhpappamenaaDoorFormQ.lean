/- forms: pages: which may be: the walk. -/
import Derived.Test.YtgmjhpappamenaaDoorFormO
namespace Go.Proofs.YtgmjhpappamenaaDoor
open Go.RowKit Go.Shelf

def entRe (e : En) : Bool := entR e.b e.s e.m
def pageR (q n o m : Int) (es : List En) : Bool := wI q 0 1099511627776 && (wI n 0 (wrap64 (o - 1)) && (wI o 1 256 && (wI m 0 4 && (okS m.toNat es && es.all entRe))))
theorem run_index_en (x0 x1 x2 x3 : En) (w : World) :
    ((Instr.index 127 (.agg (ensC [x0, x1, x2, x3]).toArray) (.int .i64 0)).run Tryd.prog w = .ok (.agg (enC x0).toArray) w) ∧
    ((Instr.index 127 (.agg (ensC [x0, x1, x2, x3]).toArray) (.int .i64 1)).run Tryd.prog w = .ok (.agg (enC x1).toArray) w) ∧
    ((Instr.index 127 (.agg (ensC [x0, x1, x2, x3]).toArray) (.int .i64 2)).run Tryd.prog w = .ok (.agg (enC x2).toArray) w) ∧
    ((Instr.index 127 (.agg (ensC [x0, x1, x2, x3]).toArray) (.int .i64 3)).run Tryd.prog w = .ok (.agg (enC x3).toArray) w) :=
  ⟨by kernel_rfl, by kernel_rfl, by kernel_rfl, by kernel_rfl⟩
set_option maxRecDepth 100000 in
set_option maxHeartbeats 4000000 in
theorem pageR_any (q n o m : Int) (e0 e1 e2 e3 : En) (w : World) :
    Calls Tryd.prog 93 #[.agg (pageL q n o m (ensC [e0, e1, e2, e3])).toArray] w fun e w' => e = .returned (.bool (pageR q n o m [e0, e1, e2, e3])) ∧ Fr [] w w' := by
  have hz : ∀ w, (zeroValue 127).run Tryd.prog w = .ok (.agg (ensC ([en0, en0, en0, en0])).toArray) w := fun _ => by kernel_rfl
  have HCP := Lib.hid (fun (W : World) b1 b3 T PA h1 h2 h3 k h4 => copy_en (w := W) (b1 := b1) (b3 := b3) (T := T) (PA := PA) [e0, e1, e2, e3] rfl h1 h2 h3 k h4)
  have HEQ := Lib.hid (fun k hk W => eq_some k hk e0 e1 e2 e3 W)
  have HIX := Lib.hid (fun W => run_index_en e0 e1 e2 e3 W)
  have hP0 : (pageL q n o m (ensC [e0, e1, e2, e3])).toArray[0]? = some (.int .i64 q) := rfl
  have hP1 : (pageL q n o m (ensC [e0, e1, e2, e3])).toArray[1]? = some (.int .i64 n) := rfl
  have hP2 : (pageL q n o m (ensC [e0, e1, e2, e3])).toArray[2]? = some (.int .i64 o) := rfl
  have hP3 : (pageL q n o m (ensC [e0, e1, e2, e3])).toArray[3]? = some (.int .i64 m) := rfl
  have hPE : ∀ (j : Nat) (v : Value), (ensC [e0, e1, e2, e3])[j]? = some v → (pageL q n o m (ensC [e0, e1, e2, e3])).toArray[4 + j]? = some v := fun j v hj => by
    simp only [pageL, List.getElem?_toArray]
    rw [List.getElem?_append_right (by simp)]
    simpa using hj
  have hsz : (pageL q n o m (ensC [e0, e1, e2, e3])).toArray.size = 20 := rfl
  have hlE : (ensC [e0, e1, e2, e3]).length = 16 := rfl
  have hszS : ∀ k, k ≤ 4 → (ensC (someE k [e0, e1, e2, e3])).length = 16 := fun k hk => by
    rw [ensC_len]; unfold someE; simp; omega
  have HS0 := Lib.hid (show (ensC [e0, e1, e2, e3]).toArray.size = 16 from rfl)
  generalize (pageL q n o m (ensC [e0, e1, e2, e3])).toArray = PA at hP0 hP1 hP2 hP3 hPE hsz ⊢
  obtain ⟨_, g0⟩ := Array.getElem?_eq_some_iff.1 hP0
  obtain ⟨_, g1⟩ := Array.getElem?_eq_some_iff.1 hP1
  obtain ⟨_, g2⟩ := Array.getElem?_eq_some_iff.1 hP2
  obtain ⟨_, g3⟩ := Array.getElem?_eq_some_iff.1 hP3
  have HPE := Lib.hid hPE
  have hB0 := Blk.new w PA 129
  have hF0 := (Fr.refl [] w).alloc (.cells PA 129)
  have HB0 := Lib.hid hB0
  have HSZS := Lib.hid hszS
  clear hPE hB0 hszS
  unfold pageR
  cases h0 : wI q 0 1099511627776
  rotate_left
  cases h1 : wI n 0 (wrap64 (o - 1))
  rotate_left
  cases h2 : wI o 1 256
  rotate_left
  cases h3 : wI m 0 4
  rotate_left
  · have h3' := wI_iff.1 h3
    obtain ⟨k, rfl⟩ := Int.eq_ofNat_of_zero_le h3'.1
    have hk : k ≤ 4 := by omega
    have hkI : (k : Int) ≤ 4 := by omega
    have hkJ : (0 : Int) ≤ (k : Int) := by omega
    clear h3'
    go_enter Tryd.func93, Tryd.ntmps93
    go_wp2_with fail
    apply wp_scope_straight
    go_upto_region 4 with (go_at_call 98; refine (within_val _ _ _ _ _ (by with_reducible first | exact h0 | exact h1 | exact h2 | exact h3)).mono ?_; rintro e w' ⟨rfl, rfl⟩)
    have c3 : (((w.alloc (.cells PA 129)).alloc (.cells (ensC ([en0, en0, en0, en0])).toArray 127)).drew).cell? ⟨w.heap.size, 3, none⟩ = some (.int .i64 k) := (HB0.out.alloc _).drew.cell hP3
    obtain ⟨w5, hcp, hB5, hF5⟩ := HCP.out (((w.alloc (.cells PA 129)).alloc (.cells (ensC ([en0, en0, en0, en0])).toArray 127)).drew) w.heap.size (w.heap.size + 1) 129 PA (HB0.out.alloc _).drew HPE.out (blk_at _ _ _ _ (by simp)).drew k hk
    refine region_ord [w.heap.size+1] (.take 0 (.take 1 (.take 2 (.take 3 (.take 4 (.pick 5 .done .none)))))) (by kernel_rfl) (by kernel_rfl) ?_
    simp only [ordList, Ord.map, List.getD_cons_zero, List.getD_cons_succ]
    refine' ord_pure (v := _) ?_ rfl ?_; rotate_left; focus (intro w; go_simp <;> (first | (with_reducible rfl) | (constructor <;> with_reducible rfl)))
    simp only [Act.put, List.setIfInBounds_toArray, List.set_cons_zero, List.set_cons_succ]
    refine' ord_pure (v := _) ?_ rfl ?_; rotate_left; focus (intro w; go_simp <;> (first | (with_reducible rfl) | (constructor <;> with_reducible rfl)))
    simp only [Act.put, List.setIfInBounds_toArray, List.set_cons_zero, List.set_cons_succ]
    refine' ord_pure (v := _) ?_ rfl ?_; rotate_left; focus (intro w; go_simp <;> (first | (with_reducible rfl) | (constructor <;> with_reducible rfl)))
    simp only [Act.put, List.setIfInBounds_toArray, List.set_cons_zero, List.set_cons_succ]
    refine ord_load rfl rfl (by kernel_rfl) rfl c3 (by simp) ?_
    simp only [Act.put, List.setIfInBounds_toArray, List.set_cons_zero, List.set_cons_succ]
    refine' ord_pure (v := _) ?_ rfl ?_; rotate_left; focus (intro w; go_simp <;> (first | (with_reducible rfl) | (constructor <;> with_reducible rfl)))
    simp only [Act.put, List.setIfInBounds_toArray, List.set_cons_zero, List.set_cons_succ]
    -- 5: t37 := CALL builtin Builtin.copy(t32, t36)   {0,4}
    refine' ord_do (v := .int .i64 k) (w' := w5) ?_ hF5 rfl ?_
    focus (go_simp <;> (with_reducible rfl))
    simp only [Act.put, List.setIfInBounds_toArray, List.set_cons_zero, List.set_cons_succ]
    refine ord_nil ?_
    have hF05 : Fr [] w w5 := ((hF0.alloc _).drew).comp hF5 (by simp)
    have hB15 := ((HB0.out.alloc (.cells (ensC ([en0, en0, en0, en0])).toArray 127)).drew).fr hF5 (by simp)
    have hq := HEQ.out k hk
    have hg : ∀ (x y : Operand) (A B : Array Value) (w : World), (eqGuard .eql 127 x y (.agg A) (.agg B)).run Tryd.prog w = .ok () w := fun x y A B w => run_guard_eql w (by kernel_rfl)
    have hlS := HSZS.out k hk
    have hrE : w5.rangeAt w.heap.size 4 (ensC [e0, e1, e2, e3]) := hB15.range 4 _ HPE.out
    have hrS : w5.rangeAt (w.heap.size + 1) 0 (ensC (someE k [e0, e1, e2, e3])) := hB5.range 0 _ (fun j v hj => by simpa using hj)
    have HIX' := Lib.hid (HIX.out)
    have HRE := Lib.hid hrE
    have HRS := Lib.hid hrS
    clear hcp hB5 hF5 c3 hrE hrS
    generalize hok : okS k [e0, e1, e2, e3] = ok at hq ⊢
    have HOK := Lib.hid hok
    clear hok
    go_wp2_with (first
      | (refine wpList_load_row rfl 127 _ rfl HRS.out rfl (by rw [hlS]; kernel_rfl) ?_)
      | (refine wpList_load_row rfl 127 _ rfl HRE.out rfl (by kernel_rfl) ?_))
    refine wp_label ?_
    go_wp2_with (refine wpList_load_row rfl 127 _ rfl HRE.out rfl (by kernel_rfl) ?_)
    have hIX := HIX'.out
    simp only [enC] at hIX
    have i0 := fun W => (hIX W).1
    have i1 := fun W => (hIX W).2.1
    have i2 := fun W => (hIX W).2.2.1
    have i3 := fun W => (hIX W).2.2.2
    generalize (ensC [e0, e1, e2, e3]).toArray = E at i0 i1 i2 i3 ⊢
    have HEN := Lib.hid (fun b s d m r W h => entR_val b s d m r W h)
    unfold entV at HEN
    have HF5 := Lib.hid hF05
    clear hIX hq hg hlS hF05
    cases ok
    · refine wp_loop_rounds 1 ?_
      rw [rounds_succ]
      go_wp2_with fail
      rw [Exit.noGoto_ret]
      go_ret
      exact ⟨by simp [HOK.out], HF5.out.alloc _⟩
    · cases r0 : entR e0.b e0.s e0.m
      · refine wp_loop_rounds 1 ?_
        rw [rounds_succ]
        go_wp2_with fail
        refine (HEN.out _ _ _ _ _ _ r0).mono ?_
        rintro e w6 ⟨rfl, hF6⟩
        go_wp2_with fail
        rw [Exit.noGoto_ret]
        go_ret
        exact ⟨by simp [HOK.out, entRe, r0], (HF5.out.alloc _).trans hF6⟩
      · cases r1 : entR e1.b e1.s e1.m
        · refine wp_loop_rounds 2 ?_
          rw [rounds_succ]
          go_wp2_with fail
          refine (HEN.out _ _ _ _ _ _ r0).mono ?_
          rintro e w6 ⟨rfl, hF6⟩
          go_wp2_with fail
          rw [rounds_succ]
          go_wp2_with fail
          refine (HEN.out _ _ _ _ _ _ r1).mono ?_
          rintro e w7 ⟨rfl, hF7⟩
          go_wp2_with fail
          rw [Exit.noGoto_ret]
          go_ret
          exact ⟨by simp [HOK.out, entRe, r0, r1], (((HF5.out.alloc _).trans hF6).alloc _).trans hF7⟩
        · cases r2 : entR e2.b e2.s e2.m
          · refine wp_loop_rounds 3 ?_
            rw [rounds_succ]
            go_wp2_with fail
            refine (HEN.out _ _ _ _ _ _ r0).mono ?_
            rintro e w6 ⟨rfl, hF6⟩
            go_wp2_with fail
            rw [rounds_succ]
            go_wp2_with fail
            refine (HEN.out _ _ _ _ _ _ r1).mono ?_
            rintro e w7 ⟨rfl, hF7⟩
            go_wp2_with fail
            rw [rounds_succ]
            go_wp2_with fail
            refine (HEN.out _ _ _ _ _ _ r2).mono ?_
            rintro e w8 ⟨rfl, hF8⟩
            go_wp2_with fail
            rw [Exit.noGoto_ret]
            go_ret
            exact ⟨by simp [HOK.out, entRe, r0, r1, r2], (((((HF5.out.alloc _).trans hF6).alloc _).trans hF7).alloc _).trans hF8⟩
          · cases r3 : entR e3.b e3.s e3.m
            all_goals
              refine wp_loop_rounds 5 ?_
              rw [rounds_succ]
              go_wp2_with fail
              refine (HEN.out _ _ _ _ _ _ r0).mono ?_
              rintro e w6 ⟨rfl, hF6⟩
              go_wp2_with fail
              rw [rounds_succ]
              go_wp2_with fail
              refine (HEN.out _ _ _ _ _ _ r1).mono ?_
              rintro e w7 ⟨rfl, hF7⟩
              go_wp2_with fail
              rw [rounds_succ]
              go_wp2_with fail
              refine (HEN.out _ _ _ _ _ _ r2).mono ?_
              rintro e w8 ⟨rfl, hF8⟩
              go_wp2_with fail
              rw [rounds_succ]
              go_wp2_with fail
              refine (HEN.out _ _ _ _ _ _ r3).mono ?_
              rintro e w9 ⟨rfl, hF9⟩
              have HF9 := Lib.hid ((((((((HF5.out.alloc (.cells #[.int .i64 e0.b, .int .i64 e0.s, .bool e0.d, .int .i64 e0.m] 83)).trans hF6).alloc _).trans hF7).alloc _).trans hF8).alloc _).trans hF9)
              go_wp2_with fail
              first
                | (rw [Exit.noGoto_ret]; go_ret; exact ⟨by simp [HOK.out, entRe, r0, r1, r2, r3], HF9.out⟩)
                | (rw [rounds_succ]; go_wp2_with fail; rw [Exit.noGoto_ret]; go_ret; exact ⟨by simp [HOK.out, entRe, r0, r1, r2, r3], HF9.out⟩)
  all_goals
    go_enter Tryd.func93, Tryd.ntmps93
    go_wp2_with fail
    apply wp_scope_straight
    go_wp2_with (go_at_call 98; refine (within_val _ _ _ _ _ (by with_reducible first | exact h0 | exact h1 | exact h2 | exact h3)).mono ?_; rintro e w' ⟨rfl, rfl⟩)
    rw [Exit.noGoto_ret]
    go_ret
    exact ⟨by simp, hF0⟩
end Go.Proofs.YtgmjhpappamenaaDoor

/- forms: pages put. -/
namespace Go.Proofs.YtgmjhpappamenaaDoor
open Go.RowKit Go.Shelf

def entsL (es : List En) : List (Int × Int) := es.flatMap fun e => entL e.b e.s e.d e.m
theorem entsL_append (a b : List En) : entsL (a ++ b) = entsL a ++ entsL b := by simp [entsL]
def headL (q n o m : Int) : List (Int × Int) := [(q, 6), (n, 2), (o, 2), (m, 1)]
def pageNL (q n o m : Int) (es : List En) : List (Int × Int) := headL q n o m ++ entsL es
set_option maxRecDepth 100000 in
set_option maxHeartbeats 4000000 in
theorem PutPage_any (q n o m : Int) (e0 e1 e2 e3 : En) (w : World) (hH : Halves w) :
    Calls Tryd.prog 87 #[.agg (pageL q n o m (ensC [e0, e1, e2, e3])).toArray] w fun e w' =>
      e = .returned (.tuple #[.agg (bv (putB 3 (pageR q n o m [e0, e1, e2, e3]) (pageNL q n o m [e0, e1, e2, e3]))), .int .i64 (putEr 3 (pageR q n o m [e0, e1, e2, e3]) (pageNL q n o m [e0, e1, e2, e3]))]) ∧ Fr [] w w' := by
  have hz : ∀ w, (zeroValue 88).run Tryd.prog w = .ok (.agg (bv zeros64)) w := fun _ => by kernel_rfl
  obtain ⟨j0, hi, hz0, hz1, hz2⟩ := info_parts infoNum
  have HR := Lib.hid (fun W => pageR_any q n o m e0 e1 e2 e3 W)
  have HIX := Lib.hid (fun W => run_index_en e0 e1 e2 e3 W)
  have HH := Lib.hid hH
  have hlen := putB_len 3 (pageR q n o m [e0, e1, e2, e3]) (pageNL q n o m [e0, e1, e2, e3])
  have HLEN := Lib.hid hlen
  have hszB : (bv (putB 3 (pageR q n o m [e0, e1, e2, e3]) (pageNL q n o m [e0, e1, e2, e3]))).size = 64 := by rw [bv_size, hlen]
  generalize pageR q n o m [e0, e1, e2, e3] = r at HR HLEN hszB ⊢
  have HPUT := Lib.hid (fun W g cap (h : IsPairs W (some ⟨g, 0, none⟩) (pageNL q n o m [e0, e1, e2, e3])) hH => put_any 3 r (some ⟨g, 0, none⟩) (pageNL q n o m [e0, e1, e2, e3]) cap W h hH (by simp [pageNL, headL, entsL, entL]))
  have hP0 : (pageL q n o m (ensC [e0, e1, e2, e3])).toArray[0]? = some (.int .i64 q) := rfl
  have hP1 : (pageL q n o m (ensC [e0, e1, e2, e3])).toArray[1]? = some (.int .i64 n) := rfl
  have hP2 : (pageL q n o m (ensC [e0, e1, e2, e3])).toArray[2]? = some (.int .i64 o) := rfl
  have hP3 : (pageL q n o m (ensC [e0, e1, e2, e3])).toArray[3]? = some (.int .i64 m) := rfl
  have hPE : ∀ (j : Nat) (v : Value), (ensC [e0, e1, e2, e3])[j]? = some v → (pageL q n o m (ensC [e0, e1, e2, e3])).toArray[4 + j]? = some v := fun j v hj => by
    simp only [pageL, List.getElem?_toArray]
    rw [List.getElem?_append_right (by simp)]
    simpa using hj
  have hsz : (pageL q n o m (ensC [e0, e1, e2, e3])).toArray.size = 20 := rfl
  generalize (pageL q n o m (ensC [e0, e1, e2, e3])).toArray = PA at HR hP0 hP1 hP2 hP3 hPE hsz ⊢
  obtain ⟨_, g0⟩ := Array.getElem?_eq_some_iff.1 hP0
  obtain ⟨_, g1⟩ := Array.getElem?_eq_some_iff.1 hP1
  obtain ⟨_, g2⟩ := Array.getElem?_eq_some_iff.1 hP2
  obtain ⟨_, g3⟩ := Array.getElem?_eq_some_iff.1 hP3
  have HPE := Lib.hid hPE
  have HSZ := Lib.hid hsz
  have hF1 := (((Fr.refl [] w).alloc (.cells PA 129)).alloc (.cells (bv zeros64) 88)).alloc (.cells (numsV (headL q n o m)).toArray 143)
  have HB1 := Lib.hid (((Blk.new w PA 129).alloc (.cells (bv zeros64) 88)).alloc (.cells (numsV (headL q n o m)).toArray 143))
  have HT1 := Lib.hid ((blk_at (w.alloc (.cells PA 129)) (bv zeros64) 88 (w.heap.size + 1) (by simp)).alloc (.cells (numsV (headL q n o m)).toArray 143))
  have HA1 := Lib.hid (blk_at ((w.alloc (.cells PA 129)).alloc (.cells (bv zeros64) 88)) (numsV (headL q n o m)).toArray 143 (w.heap.size + 2) (by simp))
  have HF1 := Lib.hid hF1
  have HRE := Lib.hid (HB1.out.range 4 _ HPE.out)
  clear hPE hH hlen hF1
  go_enter Tryd.func87, Tryd.ntmps87
  go_wp2_with (refine wpList_load_row rfl 127 _ rfl HRE.out rfl (by kernel_rfl) ?_)
  have hIX := HIX.out
  simp only [enC] at hIX
  have HI0 := Lib.hid (fun W => (hIX W).1)
  have HI1 := Lib.hid (fun W => (hIX W).2.1)
  have HI2 := Lib.hid (fun W => (hIX W).2.2.1)
  have HI3 := Lib.hid (fun W => (hIX W).2.2.2)
  generalize (ensC [e0, e1, e2, e3]).toArray = E at HI0 HI1 HI2 HI3 ⊢
  clear hIX g0 g1 g2 g3 hP0 hP1 hP2 hP3
  go_loopw [4, 22] (fun vb i wr => ∃ k : Nat, k ≤ 4 ∧ i = .int .i64 k ∧ wr.ownsRow (w.heap.size + 2) 143 2 vb (4 + 4 * k) (numsV (headL q n o m ++ entsL ([e0, e1, e2, e3].take k))) ∧ Blk wr w.heap.size 129 PA ∧ Blk wr (w.heap.size + 1) 88 (bv zeros64) ∧ Fr [] w wr) (fun _ i _ => 4 - (intOf i).toNat)
  case atStart => exact ⟨0, Nat.zero_le _, rfl, owns_blk_new (n := 4) (size := 2) (w.heap.size + 2) HA1.out (by omega) rfl (by omega) (by decide) rfl, HB1.out, HT1.out, HF1.out⟩
  case round =>
    obtain ⟨k, hk, rfl, hown, hB, hT, hF⟩ := hrel
    have HO := Lib.hid hown
    have HB := Lib.hid hB
    have HT := Lib.hid hT
    have hTlt := hT.lt
    have hszF := hF.size
    clear hown hB hT
    by_cases hlt : k < 4
    · obtain ⟨e, he, hix⟩ : ∃ e : En, [e0, e1, e2, e3].take (k + 1) = [e0, e1, e2, e3].take k ++ [e] ∧ ∀ W, (Instr.index 127 (.agg E) (.int .i64 (k : Int))).run Tryd.prog W = .ok (.agg #[.int .i64 e.b, .int .i64 e.s, .bool e.d, .int .i64 e.m]) W := by
        have : k = 0 ∨ k = 1 ∨ k = 2 ∨ k = 3 := by omega
        rcases this with rfl | rfl | rfl | rfl
        · exact ⟨e0, rfl, HI0.out⟩
        · exact ⟨e1, rfl, HI1.out⟩
        · exact ⟨e2, rfl, HI2.out⟩
        · exact ⟨e3, rfl, HI3.out⟩
      have HNU := Lib.hid (fun W => entNums_any e.b e.s e.d e.m W)
      unfold entV at HNU
      have HEQ := Lib.hid (show numsV (headL q n o m ++ entsL ([e0, e1, e2, e3].take k)) ++ numsV (entL e.b e.s e.d e.m) = numsV (headL q n o m ++ entsL ([e0, e1, e2, e3].take (k + 1))) by
        rw [he, entsL_append, ← numsV_append, List.append_assoc]
        simp [entsL])
      have HX := Lib.hid hF
      clear he hF
      go_wp2_with fail
      refine (HNU.out _).mono ?_
      rintro e' w1 ⟨g, rfl, hN, hg, hF'⟩
      have hFr1 := ((Fr.refl [] wr).alloc (.cells #[.int .i64 e.b, .int .i64 e.s, .bool e.d, .int .i64 e.m] 83)).trans hF'
      have hO1 := owns_fr HO.out hFr1 (by simp)
      have hs1 := hFr1.size
      have HB1' := Lib.hid (HB.out.fr hFr1 (by simp))
      have HT1' := Lib.hid (HT.out.fr hFr1 (by simp))
      have HX1 := Lib.hid (HX.out.trans hFr1)
      clear hFr1 hF' hg
      go_wp2_with (at_builtin; refine wpList_append_lies _ rfl _ _ 141 rfl (w.heap.size + 2) 143 j0 (.agg #[.int .i64 0, .int .i64 0]) 2 16 Tryd.underlying141 hi hz0 hz1 hz2 rfl (by decide) _ (4 + 4 * k) _ rfl hO1 ⟨g, 0, none⟩ 4 4 (numsV (entL e.b e.s e.d e.m)) rfl (numsV_len _) (blk_news hN) (numsV_one _) (by decide) (by unfold maxLen; omega) (by omega) (by omega) _ rfl ?_)
      intro g5 cap5 w5 hown hgrow hor hlt5
      have hge := owns_ge hO1
      have hF5 : Fr [] w w5 := HX1.out.grown hgrow (fun k hk => .inr (by have := hge k hk; omega))
      have hB5 := HB1'.out.grown hgrow (by intro hk; have := hge _ hk; omega)
      have hT5 := HT1'.out.grown hgrow (by intro hk; have := hge _ hk; omega)
      rw [HEQ.out] at hown
      have HO5 := Lib.hid hown
      clear hown hgrow hor hge hO1 hN
      go_wp2
      go_roundw
      case rel => exact ⟨k + 1, by omega, by go_num, by rw [show 4 + 4 * (k + 1) = 4 + 4 * k + 4 by omega]; exact HO5.out, hB5, hT5, hF5⟩
      case measure => simp [intOf]; omega
    · obtain rfl : k = 4 := by omega
      have hP := HO.out
      rw [show [e0, e1, e2, e3].take 4 = [e0, e1, e2, e3] from rfl] at hP
      obtain ⟨g, cap, hv, hg, hglt⟩ := hP.form (by omega)
      rw [hv] at hP
      have HP := Lib.hid (owns_pairs (ps := pageNL q n o m [e0, e1, e2, e3]) hP)
      subst hv
      clear hP HO
      go_wp2_with (refine wpList_load_all rfl 129 _ rfl HB.out rfl (by rw [HSZ.out]; kernel_rfl) ?_)
      refine (HR.out _).mono ?_
      rintro e' w6 ⟨rfl, hF6⟩
      go_wp2_with fail
      refine (HPUT.out _ _ _ (pairs_fr HP.out hF6) (HH.out.keep (hF.trans hF6) (by simp))).mono ?_
      rintro e' w7 ⟨rfl, hF7⟩
      obtain ⟨w9, hst, hB9, hF9, hs9⟩ := store_all (P := Tryd.prog) ((HT.out.fr hF6 (by simp)).fr hF7 (by simp)) _ (by rw [HLEN.out, bv_size]; rfl)
      have hF09 : Fr [] w w9 := ((hF.trans hF6).trans hF7).comp hF9 (by simp)
      clear hF6 hF7 hF
      go_wp2_with fail
      have hld := load_var (P := Tryd.prog) (o := 0) hB9 _ (bv_self _) Tryd.underlying88 (by kernel_rfl) HLEN.out
      exact bodyPost_ret (res_cell_at Tryd.results87 rfl rfl hld) rfl ⟨rfl, hF09⟩
end Go.Proofs.YtgmjhpappamenaaDoor
