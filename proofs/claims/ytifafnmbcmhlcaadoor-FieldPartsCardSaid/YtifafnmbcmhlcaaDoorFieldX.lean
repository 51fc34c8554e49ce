/- FieldPuts: the walk. -/
import Derived.Test.YtifafnmbcmhlcaaDoorFieldW
import Derived.Test.YtifafnmbcmhlcaaDoorFieldO
import Derived.Test.YtifafnmbcmhlcaaDoorDrawn
import Derived.Lib.Builder
namespace Go.Proofs.YtifafnmbcmhlcaaDoor
open Go.RowKit Go.Shelf

theorem FieldPuts_long (oa : Option Addr) (len cap : Nat) (w : World) (hH : Halves w) (h70 : 70 < len) :
    Calls Tryd.prog 3 #[.slice oa len cap] w fun e w' => e = .returned (.bool true) ∧ Fr [] w w' := by
  have HH := Lib.hid hH
  clear hH
  go_enter Tryd.func3, Tryd.ntmps3
  go_wp2_with fail
  refine (Write_any _).mono ?_
  rintro e w1 ⟨rfl, hW1, hF1⟩
  clear hW1
  go_wp2_with fail
  refine (awake_any w1 (HH.out.keep hF1 (by simp))).mono ?_
  rintro e w2 ⟨rfl, hF2⟩
  go_wp2_with fail
  go_ret
  exact ⟨rfl, hF1.trans hF2⟩

theorem owns_lt {w : World} {base e : Nat} {v : Value} {n : Nat} {xs : List Value} (h : w.ownsRow base e 1 v n xs) : ∀ g, v.ownBlock = some g → g < w.heap.size := by
  intro g hg
  obtain ⟨_, ⟨rfl, _⟩ | ⟨g', cap, cur, rfl, _, hb, _⟩⟩ := owns_cases h
  · cases hg
  · cases hg; exact hb.lt

set_option maxRecDepth 100000 in
set_option maxHeartbeats 2000000 in
theorem FieldPuts_in (oa : Option Addr) (cap : Nat) (ps : List (Int × Int)) (w : World) (hH : Halves w) (hP : IsPairs w oa ps) (hR : ∀ (i : Nat) (h : i < ps.length), ps[i].1 < 9223372036854775808) (h70 : ps.length ≤ 70) :
    Calls Tryd.prog 3 #[.slice oa ps.length cap] w fun e w' => e = .returned (.bool true) ∧ Fr [] w w' := by
  have hz : ∀ w, (zeroValue 33).run Tryd.prog w = .ok (.agg (bv zeros64)) w := fun _ => by kernel_rfl
  have HH := Lib.hid hH
  have HP := Lib.hid hP
  have HR := Lib.hid hR
  obtain ⟨n, hn⟩ : ∃ n, n = ps.length := ⟨_, rfl⟩
  rw [← hn] at h70 ⊢
  have HN := Lib.hid hn
  have h70' : ¬ 70 < n := by omega
  have hpp : ∀ (w : World) (a : Addr), (binOp .neq 23 (.pointer (some a)) (.pointer (some a))).run Tryd.prog w = .ok (.bool false) w := fun w a => by
    obtain ⟨j, hj⟩ : ∃ j, Tryd.prog.info? 71 = some j := Option.isSome_iff_exists.1 (by kernel_rfl)
    exact Lib.run_neq_ptr_same w a Tryd.underlying23 hj
  clear hH hP hR hn
  go_enter Tryd.func3, Tryd.ntmps3
  go_wp2_with fail
  refine (Write_any _).mono ?_
  rintro e w1 ⟨rfl, hW1, hF1⟩
  have HW1 := Lib.hid hW1
  have hs1 := hF1.size
  have hlt1 := hW1.blk.lt
  clear hW1
  go_wp2_with fail
  go_loopw [4, 5, 6] (fun vb ve i wr => ∃ k : Nat, k ≤ n ∧ i = .int .i64 k ∧ ve = .int .i64 (putN ps k).2 ∧ IsWriter wr w.heap.size (putN ps k).1 (putN ps k).2 ∧ wr.ownsRow w1.heap.size 5 1 vb (putN ps k).1.length (u8s (putN ps k).1) ∧ Fr [w.heap.size] w1 wr) (fun _ _ i _ => n - (intOf i).toNat)
  case atStart => exact ⟨0, Nat.zero_le _, rfl, rfl, HW1.out, World.ownsRow_nil _ _ _ _, Fr.refl _ _⟩
  case round =>
    obtain ⟨k, hk, rfl, rfl, hW, hown, hF⟩ := hrel
    have HW := Lib.hid hW
    have HO := Lib.hid hown
    have hFw : Fr [] w wr := hF1.comp hF (by simp)
    have hszw := hFw.size
    have hszr := hF.size
    clear hW hown
    by_cases hlt : k < n
    · have hlt' : k < ps.length := by rw [← HN.out]; exact hlt
      obtain ⟨ab, off, hoa, c0, c1⟩ := HP.out k hlt'
      have hab := cell_lt c0
      have k1 := (hFw.cell _ (cell_lt c0) (by simp)).trans c0
      have k2 := (hFw.cell _ (cell_lt c1) (by simp)).trans c1
      have HS := Lib.hid (putN_succ ps k hlt')
      have hxr := HR.out k hlt'
      have HMEM := Lib.hid (putN_mem ps (k + 1) (by omega))
      have HCALL := Lib.hid (Put_all w.heap.size (putN ps k) ps[k].1 ps[k].2 wr.drew (HW.out.fr (Fr.refl [] wr).drew (by simp)))
      generalize ps[k].1 = x at k1 HCALL HS hxr
      generalize ps[k].2 = y at k2 HCALL HS
      have HXR := Lib.hid hxr
      rw [HS.out] at HMEM
      rw [hoa]
      clear c0 c1 hoa hlt' hxr
      generalize putN ps k = s at HW HO HCALL HS HMEM ⊢
      go_wp2_with fail
      go_region_held3 (fun w' => w'.cell? ⟨ab, off + k * 2, none⟩ = some (.int .i64 x) ∧ w'.cell? ⟨ab, off + k * 2 + 1, none⟩ = some (.int .i64 y))
        (first | exact ⟨k1, k2⟩ | exact ⟨j1, j2⟩)
        (first | (go_at_call 12; refine HCALL.out.mono ?_; rintro e w4 ⟨rfl, hW4, hF4⟩; have j1 := (hF4.cell ⟨ab, off + k * 2, none⟩ (by simp; omega) (by simp; omega)).trans k1; have j2 := (hF4.cell ⟨ab, off + k * 2 + 1, none⟩ (by simp; omega) (by simp; omega)).trans k2))
      all_goals
        have HW4 := Lib.hid hW4
        have HO4 := Lib.hid (owns_fr HO.out ((Fr.refl [w.heap.size] wr).drew.trans hF4) (fun g hg => by have := owns_ge HO.out g hg; simp; omega))
        have hF04 := (Fr.refl [w.heap.size] wr).drew.trans hF4
        have hs4 := hF04.size
        clear hW4 hF4 k1 k2
        go_upto_if 43 with fail
        go_cut [4, 5] (fun vb ve wr' => ∃ w5, w5 = wr' ∧ ve = .int .i64 (putS s x y).2 ∧ IsWriter w5 w.heap.size (putS s x y).1 (putS s x y).2 ∧ w5.ownsRow w1.heap.size 5 1 vb (putS s x y).1.length (u8s (putS s x y).1) ∧ Fr [w.heap.size] wr w5)
        case first =>
          by_cases he : s.2 = 0
          · have hl60 := HW.out.len
            have HREF := Lib.hid (fun w' (hF' : Fr [w.heap.size] wr w') => refPut_any w1.heap.size _ s.1 x y w' (owns_fr HO.out hF' (fun g hg => by have := owns_ge HO.out g hg; simp; omega)) (by have := hF'.size; omega) hl60 HXR.out)
            have b0 : (s.2 == 0) = true := by simp [he]
            have HPS := Lib.hid (show putS s x y = (putL s.1 x y, putE s.1.length x y) by rw [putS, if_pos he])
            clear he
            go_wp2_with fail
            go_region_held3 (fun w' => w'.cell? ⟨ab, off + k * 2, none⟩ = some (.int .i64 x) ∧ w'.cell? ⟨ab, off + k * 2 + 1, none⟩ = some (.int .i64 y))
              (first | exact ⟨j1, j2⟩ | exact ⟨m1, m2⟩)
              (first | (go_at_call 13; refine (HREF.out _ hF04.drew).mono ?_; rintro e w6 ⟨v6, rfl, hown6, hF6⟩; have m1 := (hF6.cell ⟨ab, off + k * 2, none⟩ (by simp; omega) (by simp)).trans j1; have m2 := (hF6.cell ⟨ab, off + k * 2 + 1, none⟩ (by simp; omega) (by simp)).trans j2))
            all_goals
              have HO6 := Lib.hid hown6
              clear hown6
              go_wp2_with fail
              go_meet
              exact ⟨_, rfl, by rw [HPS.out], (HW4.out.fr (Fr.refl [] w4).drew (by simp)).fr hF6 (by simp), by rw [HPS.out]; exact HO6.out, hF04.drew.comp hF6 (by simp)⟩
          · have b0 : (s.2 == 0) = false := beq_eq_false_iff_ne.2 he
            have HPS := Lib.hid (show putS s x y = s by rw [putS, if_neg he])
            clear he
            go_wp2_with fail
            go_meet
            exact ⟨_, rfl, by rw [HPS.out], HW4.out, by rw [HPS.out]; exact HO4.out, hF04⟩
        case rest =>
          obtain ⟨w5, rfl, rfl, hW5, hown5, hF5⟩ := hcut
          clear HCALL HW HO HO4 HW4 hF04 j1 j2 hs4
          generalize putS s x y = s2 at HMEM HS hW5 hown5 ⊢
          have HW5 := Lib.hid hW5
          have HO5 := Lib.hid hown5
          have hF05 : Fr [] w w5 := hFw.comp hF5 (by simp)
          have hs5 := hF5.size
          clear hW5 hown5
          go_wp2_with fail
          refine (Seal_all w.heap.size s2 w5 HW5.out (HH.out.keep hF05 (by simp)) HMEM.out).mono ?_
          rintro e w6 ⟨rfl, hF6⟩
          have hlen := sealV_len s2 HW5.out.len
          have hl60 := HW5.out.len
          have hs6 := hF6.size
          obtain ⟨B, hBe⟩ : ∃ B, B = sealV s2 := ⟨_, rfl⟩
          rw [← hBe] at hlen ⊢
          have HBE := Lib.hid hBe
          have hszB : (bv B).size = 64 := by rw [bv_size, hlen]
          have hown6 := owns_fr HO5.out hF6 (by simp)
          obtain ⟨w7, hst, hB7, hF7, hs7⟩ := store_all (P := Tryd.prog) (Blk.new w6 (bv zeros64) 33) B (by rw [hlen, bv_size]; rfl)
          have HO7 := Lib.hid (owns_fr (owns_alloc hown6 (.cells (bv zeros64) 33)) hF7 (fun g hg => by have := owns_lt hown6 g hg; simp; omega))
          have hF57 : Fr [] w5 w7 := (hF6.alloc _).comp hF7 (by simp; omega)
          have hR7 := range_bv hB7
          have hG7 : w6.heap.size < w7.heap.size := by rw [hs7]; simp
          have HW7 := Lib.hid (HW5.out.fr hF57 (by simp))
          have hF7w : Fr [w.heap.size] wr w7 := hF5.comp hF57 (by simp)
          have hu := Tryd.underlying33
          have hi : (Tryd.prog.info? 33).map (·.size) = some (u8s B).length := by rw [show (u8s B).length = 64 by simp [u8s, hlen]]; kernel_rfl
          have hn8 : (u8s B).length = 64 := by simp [u8s, hlen]
          have ho8 : ∀ v ∈ u8s B, v.oneCell' = true := u8s_one B
          have hgd := guard_neq_blocks
          clear hBe hown6 hB7 hF7 hF6 HO5 HW5
          by_cases he : s2.2 = 0
          · have HRB := Lib.hid (fun (w' : World) (hF' : Fr [] w7 w') => refBlock_any w1.heap.size _ s2.1 w' (owns_fr HO7.out hF' (by simp)) hl60 HMEM.out)
            have hnq : ∀ w, (binOp .neq 33 (.agg (bv B)) (.agg (bv (sealed s2.1)))).run Tryd.prog w = .ok (.bool false) w := fun w => by
              have := neq_blocks B (sealed s2.1) hlen (sealed_len _ hl60) w
              rw [show decide (B = sealed s2.1) = true by rw [decide_eq_true_eq, HBE.out, sealV, if_pos he]] at this
              exact this
            have b0 : (s2.2 == 0) = true := by simp [he]
            have b1 : (s2.2 != 0) = false := by simp [he]
            have HE := Lib.hid he
            have HLN := Lib.hid hlen
            clear he hlen
            go_wp2_with fail
            have hRc : w7.drew.rangeAt w6.heap.size 0 (u8s B) := hR7
            have hFr := hF
            refine region_ord [] (.take 0 (.take 1 (.take 2 (.take 3 (.take 4 (.take 5 (.take 6 (.take 7 (.take 8 (.pick 9 (.take 10 (.take 11 (.take 12 (.take 13 (.take 14 (.take 15 (.take 16 (.take 17 (.take 18 (.take 19 (.take 20 (.take 21 .done)))))))))))) .none)))))))))) (by kernel_rfl) (by kernel_rfl) ?_
            simp only [ordList, Ord.map, List.getD_cons_zero, List.getD_cons_succ]
            refine' ord_pure (v := _) ?_ rfl ?_; rotate_left; focus (intro w; go_simp; try with_reducible rfl; done)
            simp only [Act.put, List.setIfInBounds_toArray, List.set_cons_zero, List.set_cons_succ]
            refine' ord_pure (v := _) ?_ rfl ?_; rotate_left; focus (intro w; go_simp; try with_reducible rfl; done)
            simp only [Act.put, List.setIfInBounds_toArray, List.set_cons_zero, List.set_cons_succ]
            refine' ord_pure (v := _) ?_ rfl ?_; rotate_left; focus (intro w; go_simp; try with_reducible rfl; done)
            simp only [Act.put, List.setIfInBounds_toArray, List.set_cons_zero, List.set_cons_succ]
            refine' ord_pure (v := _) ?_ rfl ?_; rotate_left; focus (intro w; go_simp; try with_reducible rfl; done)
            simp only [Act.put, List.setIfInBounds_toArray, List.set_cons_zero, List.set_cons_succ]
            refine' ord_pure (v := _) ?_ rfl ?_; rotate_left; focus (intro w; go_simp; try with_reducible rfl; done)
            simp only [Act.put, List.setIfInBounds_toArray, List.set_cons_zero, List.set_cons_succ]
            refine' ord_pure (v := _) ?_ rfl ?_; rotate_left; focus (intro w; go_simp; try with_reducible rfl; done)
            simp only [Act.put, List.setIfInBounds_toArray, List.set_cons_zero, List.set_cons_succ]
            refine' ord_pure (v := _) ?_ rfl ?_; rotate_left; focus (intro w; go_simp; try with_reducible rfl; done)
            simp only [Act.put, List.setIfInBounds_toArray, List.set_cons_zero, List.set_cons_succ]
            refine ord_bv hRc (by simp) HLN.out rfl rfl (by kernel_rfl) rfl ?_
            simp only [Act.put, List.setIfInBounds_toArray, List.set_cons_zero, List.set_cons_succ]
            refine' ord_pure (v := _) ?_ rfl ?_; rotate_left; focus (intro w; go_simp; try with_reducible rfl; done)
            simp only [Act.put, List.setIfInBounds_toArray, List.set_cons_zero, List.set_cons_succ]
            -- 9: t73 := CALL lavabo/lavaboref04.Block(t72)   [if op6=true]   {6,8}
            refine' ord_call (f := 15) (args := _) ?_ rfl ?_; rotate_left; focus (go_simp; try with_reducible rfl; done)
            refine (HRB.out _ (Fr.refl [] w7).drew).mono ?_
            rintro e w8 ⟨rfl, hF⟩
            have hF8 := hF
            refine ⟨_, rfl, hF, ?_⟩
            simp only [Act.put, List.setIfInBounds_toArray, List.set_cons_zero, List.set_cons_succ]
            refine' ord_pure (v := _) ?_ rfl ?_; rotate_left; focus (intro w; go_simp; try with_reducible rfl; done)
            simp only [Act.put, List.setIfInBounds_toArray, List.set_cons_zero, List.set_cons_succ]
            refine' ord_pure (v := _) ?_ rfl ?_; rotate_left; focus (intro w; go_simp; try with_reducible rfl; done)
            simp only [Act.put, List.setIfInBounds_toArray, List.set_cons_zero, List.set_cons_succ]
            refine' ord_pure (v := _) ?_ rfl ?_; rotate_left; focus (intro w; go_simp; try with_reducible rfl; done)
            simp only [Act.put, List.setIfInBounds_toArray, List.set_cons_zero, List.set_cons_succ]
            refine' ord_pure (v := _) ?_ rfl ?_; rotate_left; focus (intro w; go_simp; try with_reducible rfl; done)
            simp only [Act.put, List.setIfInBounds_toArray, List.set_cons_zero, List.set_cons_succ]
            refine' ord_pure (v := _) ?_ rfl ?_; rotate_left; focus (intro w; go_simp; try with_reducible rfl; done)
            simp only [Act.put, List.setIfInBounds_toArray, List.set_cons_zero, List.set_cons_succ]
            refine' ord_pure (v := _) ?_ rfl ?_; rotate_left; focus (intro w; go_simp; try with_reducible rfl; done)
            simp only [Act.put, List.setIfInBounds_toArray, List.set_cons_zero, List.set_cons_succ]
            refine' ord_pure (v := _) ?_ rfl ?_; rotate_left; focus (intro w; go_simp; try with_reducible rfl; done)
            simp only [Act.put, List.setIfInBounds_toArray, List.set_cons_zero, List.set_cons_succ]
            refine ord_shut rfl ?_
            simp only [Act.put, List.setIfInBounds_toArray, List.set_cons_zero, List.set_cons_succ]
            refine ord_shut rfl ?_
            simp only [Act.put, List.setIfInBounds_toArray, List.set_cons_zero, List.set_cons_succ]
            refine ord_shut rfl ?_
            simp only [Act.put, List.setIfInBounds_toArray, List.set_cons_zero, List.set_cons_succ]
            refine' ord_pure (v := _) ?_ rfl ?_; rotate_left; focus (intro w; go_simp; try with_reducible rfl; done)
            simp only [Act.put, List.setIfInBounds_toArray, List.set_cons_zero, List.set_cons_succ]
            refine' ord_pure (v := _) ?_ rfl ?_; rotate_left; focus (intro w; go_simp; try with_reducible rfl; done)
            simp only [Act.put, List.setIfInBounds_toArray, List.set_cons_zero, List.set_cons_succ]
            refine ord_nil ?_
            all_goals
              go_wp2
              go_roundw
              case rel => exact ⟨k + 1, by omega, by go_num, by rw [HS.out], by rw [HS.out]; exact (HW7.out.fr (Fr.refl [] w7).drew (by simp)).fr hF8 (by simp), by rw [HS.out]; exact owns_fr (owns_fr HO7.out (Fr.refl [] w7).drew (by simp)) hF8 (by simp), (hFr.trans hF7w).drew.comp hF8 (by simp)⟩
              case measure => simp [intOf]; omega
          · have hnq : ∀ w, (binOp .neq 33 (.agg (bv B)) (.agg (bv zeros64))).run Tryd.prog w = .ok (.bool false) w := fun w => by
              have := neq_blocks B zeros64 hlen rfl w
              rw [show decide (B = zeros64) = true by rw [decide_eq_true_eq, HBE.out, sealV, if_neg he]] at this
              exact this
            have b0 : (s2.2 == 0) = false := beq_eq_false_iff_ne.2 he
            have b1 : (s2.2 != 0) = true := bne_iff_ne.2 he
            have HLN := Lib.hid hlen
            clear he hlen
            go_wp2_with fail
            have hRc : w7.drew.rangeAt w6.heap.size 0 (u8s B) := hR7
            have hFr := hF
            refine region_ord [] (.take 0 (.take 1 (.take 2 (.take 3 (.take 4 (.take 5 (.take 6 (.take 7 (.take 8 (.take 9 (.take 10 (.take 11 (.take 12 (.take 13 (.take 14 (.take 15 (.take 16 (.take 17 (.take 18 (.take 19 (.take 20 (.take 21 .done)))))))))))))))))))))) (by kernel_rfl) (by kernel_rfl) ?_
            simp only [ordList, Ord.map, List.getD_cons_zero, List.getD_cons_succ]
            refine' ord_pure (v := _) ?_ rfl ?_; rotate_left; focus (intro w; go_simp; try with_reducible rfl; done)
            simp only [Act.put, List.setIfInBounds_toArray, List.set_cons_zero, List.set_cons_succ]
            refine' ord_pure (v := _) ?_ rfl ?_; rotate_left; focus (intro w; go_simp; try with_reducible rfl; done)
            simp only [Act.put, List.setIfInBounds_toArray, List.set_cons_zero, List.set_cons_succ]
            refine' ord_pure (v := _) ?_ rfl ?_; rotate_left; focus (intro w; go_simp; try with_reducible rfl; done)
            simp only [Act.put, List.setIfInBounds_toArray, List.set_cons_zero, List.set_cons_succ]
            refine' ord_pure (v := _) ?_ rfl ?_; rotate_left; focus (intro w; go_simp; try with_reducible rfl; done)
            simp only [Act.put, List.setIfInBounds_toArray, List.set_cons_zero, List.set_cons_succ]
            refine' ord_pure (v := _) ?_ rfl ?_; rotate_left; focus (intro w; go_simp; try with_reducible rfl; done)
            simp only [Act.put, List.setIfInBounds_toArray, List.set_cons_zero, List.set_cons_succ]
            refine' ord_pure (v := _) ?_ rfl ?_; rotate_left; focus (intro w; go_simp; try with_reducible rfl; done)
            simp only [Act.put, List.setIfInBounds_toArray, List.set_cons_zero, List.set_cons_succ]
            refine' ord_pure (v := _) ?_ rfl ?_; rotate_left; focus (intro w; go_simp; try with_reducible rfl; done)
            simp only [Act.put, List.setIfInBounds_toArray, List.set_cons_zero, List.set_cons_succ]
            refine ord_shut rfl ?_
            simp only [Act.put, List.setIfInBounds_toArray, List.set_cons_zero, List.set_cons_succ]
            refine ord_shut rfl ?_
            simp only [Act.put, List.setIfInBounds_toArray, List.set_cons_zero, List.set_cons_succ]
            refine ord_shut rfl ?_
            simp only [Act.put, List.setIfInBounds_toArray, List.set_cons_zero, List.set_cons_succ]
            refine ord_shut rfl ?_
            simp only [Act.put, List.setIfInBounds_toArray, List.set_cons_zero, List.set_cons_succ]
            refine' ord_pure (v := _) ?_ rfl ?_; rotate_left; focus (intro w; go_simp; try with_reducible rfl; done)
            simp only [Act.put, List.setIfInBounds_toArray, List.set_cons_zero, List.set_cons_succ]
            refine' ord_pure (v := _) ?_ rfl ?_; rotate_left; focus (intro w; go_simp; try with_reducible rfl; done)
            simp only [Act.put, List.setIfInBounds_toArray, List.set_cons_zero, List.set_cons_succ]
            refine' ord_pure (v := _) ?_ rfl ?_; rotate_left; focus (intro w; go_simp; try with_reducible rfl; done)
            simp only [Act.put, List.setIfInBounds_toArray, List.set_cons_zero, List.set_cons_succ]
            refine' ord_pure (v := _) ?_ rfl ?_; rotate_left; focus (intro w; go_simp; try with_reducible rfl; done)
            simp only [Act.put, List.setIfInBounds_toArray, List.set_cons_zero, List.set_cons_succ]
            refine' ord_pure (v := _) ?_ rfl ?_; rotate_left; focus (intro w; go_simp; try with_reducible rfl; done)
            simp only [Act.put, List.setIfInBounds_toArray, List.set_cons_zero, List.set_cons_succ]
            refine' ord_pure (v := _) ?_ rfl ?_; rotate_left; focus (intro w; go_simp; try with_reducible rfl; done)
            simp only [Act.put, List.setIfInBounds_toArray, List.set_cons_zero, List.set_cons_succ]
            refine ord_bv hRc (by simp) HLN.out rfl rfl (by kernel_rfl) rfl ?_
            simp only [Act.put, List.setIfInBounds_toArray, List.set_cons_zero, List.set_cons_succ]
            refine' ord_pure (v := _) ?_ rfl ?_; rotate_left; focus (intro w; go_simp; try with_reducible rfl; done)
            simp only [Act.put, List.setIfInBounds_toArray, List.set_cons_zero, List.set_cons_succ]
            refine' ord_pure (v := _) ?_ rfl ?_; rotate_left; focus (intro w; go_simp; try with_reducible rfl; done)
            simp only [Act.put, List.setIfInBounds_toArray, List.set_cons_zero, List.set_cons_succ]
            refine' ord_pure (v := _) ?_ rfl ?_; rotate_left; focus (intro w; go_simp; try with_reducible rfl; done)
            simp only [Act.put, List.setIfInBounds_toArray, List.set_cons_zero, List.set_cons_succ]
            refine' ord_pure (v := _) ?_ rfl ?_; rotate_left; focus (intro w; go_simp; try with_reducible rfl; done)
            simp only [Act.put, List.setIfInBounds_toArray, List.set_cons_zero, List.set_cons_succ]
            refine ord_nil ?_
            all_goals
              go_wp2
              go_roundw
              case rel => exact ⟨k + 1, by omega, by go_num, by rw [HS.out], by rw [HS.out]; exact HW7.out.fr (Fr.refl [] w7).drew (by simp), by rw [HS.out]; exact owns_fr HO7.out (Fr.refl [] w7).drew (by simp), (hFr.trans hF7w).drew⟩
              case measure => simp [intOf]; omega
    · obtain rfl : k = n := by omega
      go_wp2_with fail
      refine (awake_any wr (HH.out.keep hFw (by simp))).mono ?_
      rintro e w2 ⟨rfl, hF2⟩
      go_wp2_with fail
      go_ret
      exact ⟨rfl, hFw.trans hF2⟩

theorem wf_lt {n : Int} (h : (Lit.int .i64 n).wf = true) : -9223372036854775808 ≤ n ∧ n < 9223372036854775808 := by
  simp only [Lit.wf, Bool.and_eq_true, decide_eq_true_eq] at h
  have h1 : IntKind.i64.min = -9223372036854775808 := by decide
  have h2 : IntKind.i64.max = 9223372036854775807 := by decide
  omega
theorem pairs_lt {w : World} {oa : Option Addr} {ps : List (Int × Int)} (hP : IsPairs w oa ps)
    (h : ∀ i, i < ps.length → ∃ b off, oa = some ⟨b, off, none⟩ ∧ ∀ (j : Nat) (k : Option IntKind), [some IntKind.i64, some IntKind.i64][j]? = some k → ∃ u, w.cell? ⟨b, off + i * [some IntKind.i64, some IntKind.i64].length + j, none⟩ = some u ∧ isK k u) :
    ∀ (i : Nat) (h : i < ps.length), ps[i].1 < 9223372036854775808 := by
  intro i hi
  obtain ⟨b, off, rfl, h0, _⟩ := hP i hi
  obtain ⟨b', off', e, hc⟩ := h i hi
  cases e
  obtain ⟨u, hu, x, rfl, hx⟩ := hc 0 (some .i64) rfl
  simp only [List.length_cons, List.length_nil, Nat.reduceAdd, Nat.add_zero] at hu
  rw [h0] at hu
  cases hu
  exact (wf_lt hx).2
end Go.Proofs.YtifafnmbcmhlcaaDoor
