/- FieldSeals: the walk. -/
import Derived.Test.YtifafnmbcmhlcaaDoorFieldR
import Derived.Test.YtifafnmbcmhlcaaDoorDrawn
namespace Go.Proofs.YtifafnmbcmhlcaaDoor
open Go.RowKit Go.Shelf

set_option maxRecDepth 100000 in
set_option maxHeartbeats 2000000 in
theorem FieldSeals_ok (oa : Option Addr) (cap : Nat) (ps : List (Int × Int)) (l : List Nat) (x y : Int) (w : World) (hH : Halves w) (hP : IsPairs w oa ps) (hl : l.length = 64) (hb : ∀ x, x ∈ l → x < 256) :
    Calls Tryd.prog 4 #[.agg (bv l), .slice oa ps.length cap, .agg #[.int .i64 x, .int .i64 y]] w fun e w' => e = .returned (.bool true) ∧ Fr [] w w' := by
  have hz : ∀ w, (zeroValue 33).run Tryd.prog w = .ok (.agg (bv zeros64)) w := fun _ => by kernel_rfl
  have HH := Lib.hid hH
  have HP := Lib.hid hP
  have HB := Lib.hid hb
  have HLL := Lib.hid hl
  have HII := Lib.hid (show (Tryd.prog.info? 33).map (·.size) = some 64 by kernel_rfl)
  have hu := Tryd.underlying33
  have hi : (Tryd.prog.info? 33).map (·.size) = some (u8s l).length := by rw [show (u8s l).length = 64 by simp [u8s, hl]]; kernel_rfl
  have hn : (u8s l).length = 64 := by simp [u8s, hl]
  have ho : ∀ v ∈ u8s l, v.oneCell' = true := by simp [u8s, Value.oneCell']
  obtain ⟨n, hn'⟩ : ∃ n, n = ps.length := ⟨_, rfl⟩
  rw [← hn']
  have HN := Lib.hid hn'
  have hT0 := (Blk.new w (bv l) 33).alloc (.cells #[.int .i64 x, .int .i64 y] 29)
  have hF0 : Fr [] w ((w.alloc (.cells (bv l) 33)).alloc (.cells #[.int .i64 x, .int .i64 y] 29)).drew := (((Fr.refl [] w).alloc _).alloc _).drew
  have hR0 : (((w.alloc (.cells (bv l) 33)).alloc (.cells #[.int .i64 x, .int .i64 y] 29)).drew).rangeAt w.heap.size 0 (u8s l) := (range_bv hT0)
  have hsz : (bv l).size = 64 := by rw [bv_size, hl]
  have hge : w.heap.size < (((w.alloc (.cells (bv l) 33)).alloc (.cells #[.int .i64 x, .int .i64 y] 29)).drew).heap.size := by simp; omega
  obtain ⟨z, hz1, hz2⟩ : ∃ z : Nat, y.tmod 256 % 256 = (z : Int) ∧ z < 256 := ⟨(y.tmod 256 % 256).toNat, by omega, by omega⟩
  have HZ := Lib.hid hz1
  have HNUM := Lib.hid (isSealed_num l hl hb)
  clear hH hP hb hl hn' hT0 hz1
  go_enter Tryd.func4, Tryd.ntmps4
  go_upto_region 3 with fail
  rw [HZ.out]
  go_cut [35] (fun t wr => t = .bool false ∧ ∃ w4, w4 = wr ∧ Fr [] w w4)
  case first =>
    have hFc := hF0
    have hRc := hR0
    have hGc := hge
    have HRS := Lib.hid (fun W => refSealed_any l W HLL.out HB.out)
    have HFS := Lib.hid (fun W (hW : Halves W) => Sealed_any l W hW HLL.out HB.out)
    rw [HNUM.out] at HRS
    cases hS : isSealed l
    · rw [hS] at HRS HFS
      clear hS
      simp only [Bool.false_eq_true, if_false] at HFS
      refine region_ord [] (.take 0 (.take 2 (.pick 1 (.pick 3 (.take 4 (.take 5 (.take 6 (.take 7 (.pick 8 (.take 9 (.take 10 (.take 11 (.pick 12 (.take 13 (.take 14 (.take 15 .done))) .none)))) .none))))) .none) .none))) (by kernel_rfl) (by kernel_rfl) ?_
      simp only [ordList, Ord.map, List.getD_cons_zero, List.getD_cons_succ]
      refine ord_bv hRc (by simp) HLL.out rfl rfl (by kernel_rfl) rfl ?_
      simp only [Act.put, List.setIfInBounds_toArray, List.set_cons_zero, List.set_cons_succ]
      refine ord_bv hRc (by simp) HLL.out rfl rfl (by kernel_rfl) rfl ?_
      simp only [Act.put, List.setIfInBounds_toArray, List.set_cons_zero, List.set_cons_succ]
      -- 1: t21 := CALL lavabo/lavaboref04.Sealed(t20)   {0}
      refine' ord_call (f := 16) (args := _) ?_ rfl ?_; rotate_left; focus (go_simp; try with_reducible rfl; done)
      refine (HRS.out _).mono ?_
      rintro e w1 ⟨rfl, hF⟩
      have hRc := hF.range hRc hGc (by simp)
      have hFc := hFc.trans hF
      have hGc := Nat.lt_of_lt_of_le hGc hF.size
      refine ⟨_, rfl, hF, ?_⟩
      simp only [Act.put, List.setIfInBounds_toArray, List.set_cons_zero, List.set_cons_succ]
      -- 3: t23 := CALL lavabo/field.Sealed(t22)   {1,2}
      refine' ord_call (f := 17) (args := _) ?_ rfl ?_; rotate_left; focus (go_simp; try with_reducible rfl; done)
      refine (HFS.out _ (HH.out.keep hFc (by simp))).mono ?_
      rintro e w1 ⟨rfl, hF⟩
      have hRc := hF.range hRc hGc (by simp)
      have hFc := hFc.trans hF
      have hGc := Nat.lt_of_lt_of_le hGc hF.size
      refine ⟨_, rfl, hF, ?_⟩
      simp only [Act.put, List.setIfInBounds_toArray, List.set_cons_zero, List.set_cons_succ]
      refine' ord_pure (v := _) ?_ rfl ?_; rotate_left; focus (intro w; go_simp; try with_reducible rfl; done)
      simp only [Act.put, List.setIfInBounds_toArray, List.set_cons_zero, List.set_cons_succ]
      refine' ord_pure (v := _) ?_ rfl ?_; rotate_left; focus (intro w; go_simp; try with_reducible rfl; done)
      simp only [Act.put, List.setIfInBounds_toArray, List.set_cons_zero, List.set_cons_succ]
      refine' ord_pure (v := _) ?_ rfl ?_; rotate_left; focus (intro w; go_simp; try with_reducible rfl; done)
      simp only [Act.put, List.setIfInBounds_toArray, List.set_cons_zero, List.set_cons_succ]
      refine ord_bv hRc (by simp) HLL.out rfl rfl (by kernel_rfl) rfl ?_
      simp only [Act.put, List.setIfInBounds_toArray, List.set_cons_zero, List.set_cons_succ]
      -- 8: t28 := CALL lavabo/field.Sealed(t27)   [if op6=false]   {6,7}
      refine' ord_call (f := 17) (args := _) ?_ rfl ?_; rotate_left; focus (go_simp; try with_reducible rfl; done)
      refine (HFS.out _ (HH.out.keep hFc (by simp))).mono ?_
      rintro e w1 ⟨rfl, hF⟩
      have hRc := hF.range hRc hGc (by simp)
      have hFc := hFc.trans hF
      have hGc := Nat.lt_of_lt_of_le hGc hF.size
      refine ⟨_, rfl, hF, ?_⟩
      simp only [Act.put, List.setIfInBounds_toArray, List.set_cons_zero, List.set_cons_succ]
      refine' ord_pure (v := _) ?_ rfl ?_; rotate_left; focus (intro w; go_simp; try with_reducible rfl; done)
      simp only [Act.put, List.setIfInBounds_toArray, List.set_cons_zero, List.set_cons_succ]
      refine' ord_pure (v := _) ?_ rfl ?_; rotate_left; focus (intro w; go_simp; try with_reducible rfl; done)
      simp only [Act.put, List.setIfInBounds_toArray, List.set_cons_zero, List.set_cons_succ]
      refine ord_bv hRc (by simp) HLL.out rfl rfl (by kernel_rfl) rfl ?_
      simp only [Act.put, List.setIfInBounds_toArray, List.set_cons_zero, List.set_cons_succ]
      -- 12: t32 := CALL lavabo/field.Sealed(t31)   [if op10=true]   {10,11}
      refine' ord_call (f := 17) (args := _) ?_ rfl ?_; rotate_left; focus (go_simp; try with_reducible rfl; done)
      refine (HFS.out _ (HH.out.keep hFc (by simp))).mono ?_
      rintro e w1 ⟨rfl, hF⟩
      have hRc := hF.range hRc hGc (by simp)
      have hFc := hFc.trans hF
      have hGc := Nat.lt_of_lt_of_le hGc hF.size
      refine ⟨_, rfl, hF, ?_⟩
      simp only [Act.put, List.setIfInBounds_toArray, List.set_cons_zero, List.set_cons_succ]
      refine' ord_pure (v := _) ?_ rfl ?_; rotate_left; focus (intro w; go_simp; try with_reducible rfl; done)
      simp only [Act.put, List.setIfInBounds_toArray, List.set_cons_zero, List.set_cons_succ]
      refine' ord_pure (v := _) ?_ rfl ?_; rotate_left; focus (intro w; go_simp; try with_reducible rfl; done)
      simp only [Act.put, List.setIfInBounds_toArray, List.set_cons_zero, List.set_cons_succ]
      refine' ord_pure (v := _) ?_ rfl ?_; rotate_left; focus (intro w; go_simp; try with_reducible rfl; done)
      simp only [Act.put, List.setIfInBounds_toArray, List.set_cons_zero, List.set_cons_succ]
      refine ord_nil ?_
      go_wp2_with fail
      go_meet
      exact ⟨rfl, _, rfl, hFc⟩
    · rw [hS] at HRS HFS
      clear hS
      simp only [if_true] at HFS
      refine region_ord [] (.take 0 (.take 2 (.pick 1 (.pick 3 (.take 4 (.take 5 (.take 6 (.take 7 (.pick 8 (.take 9 (.take 10 (.take 11 (.take 12 (.take 13 (.take 14 (.take 15 .done))))))) .none))))) .none) .none))) (by kernel_rfl) (by kernel_rfl) ?_
      simp only [ordList, Ord.map, List.getD_cons_zero, List.getD_cons_succ]
      refine ord_bv hRc (by simp) HLL.out rfl rfl (by kernel_rfl) rfl ?_
      simp only [Act.put, List.setIfInBounds_toArray, List.set_cons_zero, List.set_cons_succ]
      refine ord_bv hRc (by simp) HLL.out rfl rfl (by kernel_rfl) rfl ?_
      simp only [Act.put, List.setIfInBounds_toArray, List.set_cons_zero, List.set_cons_succ]
      -- 1: t21 := CALL lavabo/lavaboref04.Sealed(t20)   {0}
      refine' ord_call (f := 16) (args := _) ?_ rfl ?_; rotate_left; focus (go_simp; try with_reducible rfl; done)
      refine (HRS.out _).mono ?_
      rintro e w1 ⟨rfl, hF⟩
      have hRc := hF.range hRc hGc (by simp)
      have hFc := hFc.trans hF
      have hGc := Nat.lt_of_lt_of_le hGc hF.size
      refine ⟨_, rfl, hF, ?_⟩
      simp only [Act.put, List.setIfInBounds_toArray, List.set_cons_zero, List.set_cons_succ]
      -- 3: t23 := CALL lavabo/field.Sealed(t22)   {1,2}
      refine' ord_call (f := 17) (args := _) ?_ rfl ?_; rotate_left; focus (go_simp; try with_reducible rfl; done)
      refine (HFS.out _ (HH.out.keep hFc (by simp))).mono ?_
      rintro e w1 ⟨rfl, hF⟩
      have hRc := hF.range hRc hGc (by simp)
      have hFc := hFc.trans hF
      have hGc := Nat.lt_of_lt_of_le hGc hF.size
      refine ⟨_, rfl, hF, ?_⟩
      simp only [Act.put, List.setIfInBounds_toArray, List.set_cons_zero, List.set_cons_succ]
      refine' ord_pure (v := _) ?_ rfl ?_; rotate_left; focus (intro w; go_simp; try with_reducible rfl; done)
      simp only [Act.put, List.setIfInBounds_toArray, List.set_cons_zero, List.set_cons_succ]
      refine' ord_pure (v := _) ?_ rfl ?_; rotate_left; focus (intro w; go_simp; try with_reducible rfl; done)
      simp only [Act.put, List.setIfInBounds_toArray, List.set_cons_zero, List.set_cons_succ]
      refine' ord_pure (v := _) ?_ rfl ?_; rotate_left; focus (intro w; go_simp; try with_reducible rfl; done)
      simp only [Act.put, List.setIfInBounds_toArray, List.set_cons_zero, List.set_cons_succ]
      refine ord_bv hRc (by simp) HLL.out rfl rfl (by kernel_rfl) rfl ?_
      simp only [Act.put, List.setIfInBounds_toArray, List.set_cons_zero, List.set_cons_succ]
      -- 8: t28 := CALL lavabo/field.Sealed(t27)   [if op6=false]   {6,7}
      refine' ord_call (f := 17) (args := _) ?_ rfl ?_; rotate_left; focus (go_simp; try with_reducible rfl; done)
      refine (HFS.out _ (HH.out.keep hFc (by simp))).mono ?_
      rintro e w1 ⟨rfl, hF⟩
      have hRc := hF.range hRc hGc (by simp)
      have hFc := hFc.trans hF
      have hGc := Nat.lt_of_lt_of_le hGc hF.size
      refine ⟨_, rfl, hF, ?_⟩
      simp only [Act.put, List.setIfInBounds_toArray, List.set_cons_zero, List.set_cons_succ]
      refine' ord_pure (v := _) ?_ rfl ?_; rotate_left; focus (intro w; go_simp; try with_reducible rfl; done)
      simp only [Act.put, List.setIfInBounds_toArray, List.set_cons_zero, List.set_cons_succ]
      refine' ord_pure (v := _) ?_ rfl ?_; rotate_left; focus (intro w; go_simp; try with_reducible rfl; done)
      simp only [Act.put, List.setIfInBounds_toArray, List.set_cons_zero, List.set_cons_succ]
      refine ord_shut rfl ?_
      simp only [Act.put, List.setIfInBounds_toArray, List.set_cons_zero, List.set_cons_succ]
      refine ord_shut rfl ?_
      simp only [Act.put, List.setIfInBounds_toArray, List.set_cons_zero, List.set_cons_succ]
      refine ord_shut rfl ?_
      simp only [Act.put, List.setIfInBounds_toArray, List.set_cons_zero, List.set_cons_succ]
      refine' ord_pure (v := _) ?_ rfl ?_; rotate_left; focus (intro w; go_simp; try with_reducible rfl; done)
      simp only [Act.put, List.setIfInBounds_toArray, List.set_cons_zero, List.set_cons_succ]
      refine' ord_pure (v := _) ?_ rfl ?_; rotate_left; focus (intro w; go_simp; try with_reducible rfl; done)
      simp only [Act.put, List.setIfInBounds_toArray, List.set_cons_zero, List.set_cons_succ]
      refine ord_nil ?_
      go_wp2_with fail
      go_meet
      exact ⟨rfl, _, rfl, hFc⟩
  case rest =>
    obtain ⟨rfl, w4, rfl, hF4⟩ := hcut
    clear hR0 hge hF0
    go_wp2_with fail
    refine (Write_any _).mono ?_
    rintro e w5 ⟨rfl, hW5, hF5⟩
    have hF05 := hF4.trans hF5
    have hs4 := hF4.size
    have hs5 := hF5.size
    have HW5 := Lib.hid hW5
    have hlt5 := hW5.blk.lt
    clear hW5 hF4
    by_cases hr : 20 < n ∨ x < 0 ∨ 63 < x
    · by_cases h1 : 20 < n
      · clear hr
        go_wp2_with fail
        refine (awake_any w5 (HH.out.keep hF05 (by simp))).mono ?_
        rintro e w6 ⟨rfl, hF6⟩
        go_wp2_with fail
        go_ret
        exact ⟨rfl, hF05.trans hF6⟩
      · by_cases h2 : x < 0
        · clear hr
          go_wp2_with fail
          refine (awake_any w5 (HH.out.keep hF05 (by simp))).mono ?_
          rintro e w6 ⟨rfl, hF6⟩
          go_wp2_with fail
          go_ret
          exact ⟨rfl, hF05.trans hF6⟩
        · have h3 : 63 < x := by omega
          clear hr
          go_wp2_with fail
          refine (awake_any w5 (HH.out.keep hF05 (by simp))).mono ?_
          rintro e w6 ⟨rfl, hF6⟩
          go_wp2_with fail
          go_ret
          exact ⟨rfl, hF05.trans hF6⟩
    · have h1 : ¬ 20 < n := fun h => hr (.inl h)
      have h2 : ¬ x < 0 := fun h => hr (.inr (.inl h))
      have h3 : ¬ 63 < x := fun h => hr (.inr (.inr h))
      clear hr
      go_wp2_with fail
      go_loopw [10] (fun i wr => ∃ k : Nat, k ≤ n ∧ i = .int .i64 k ∧ IsWriter wr w4.heap.size (putN ps k).1 (putN ps k).2 ∧ Fr [w4.heap.size] w5 wr) (fun i _ => n - (intOf i).toNat)
      case atStart => exact ⟨0, Nat.zero_le _, rfl, HW5.out, Fr.refl _ _⟩
      case round =>
        obtain ⟨k, hk, rfl, hW, hF⟩ := hrel
        have HW := Lib.hid hW
        have hFw : Fr [] w wr := hF05.comp hF (by simp; omega)
        clear hW
        by_cases hlt : k < n
        · have hlt' : k < ps.length := by rw [← HN.out]; exact hlt
          obtain ⟨ab, off, hoa, c0, c1⟩ := HP.out k hlt'
          have hab := cell_lt c0
          have k1 := (hFw.cell _ (cell_lt c0) (by simp)).trans c0
          have k2 := (hFw.cell _ (cell_lt c1) (by simp)).trans c1
          have HS := Lib.hid (putN_succ ps k hlt')
          have HCALL := Lib.hid (Put_all w4.heap.size (putN ps k) ps[k].1 ps[k].2 wr.drew (HW.out.fr (Fr.refl [] wr).drew (by simp)))
          have hsz := hFw.size
          generalize ps[k].1 = x at k1 HCALL HS
          generalize ps[k].2 = y at k2 HCALL HS
          rw [hoa]
          clear c0 c1 hoa hlt'
          go_wp2_with fail
          go_region_held3 (fun w' => w'.cell? ⟨ab, off + k * 2, none⟩ = some (.int .i64 x) ∧ w'.cell? ⟨ab, off + k * 2 + 1, none⟩ = some (.int .i64 y))
            (first | exact ⟨k1, k2⟩ | exact ⟨j1, j2⟩)
            (first | (go_at_call 12; refine HCALL.out.mono ?_; rintro e w4 ⟨rfl, hW4, hF4⟩; have j1 := (hF4.cell ⟨ab, off + k * 2, none⟩ (by simp; omega) (by simp; omega)).trans k1; have j2 := (hF4.cell ⟨ab, off + k * 2 + 1, none⟩ (by simp; omega) (by simp; omega)).trans k2))
          all_goals
            go_wp2
            go_roundw
            case rel => exact ⟨k + 1, by omega, by go_num, by rw [HS.out]; exact hW4, (hF.drew).trans hF4⟩
            case measure => simp [intOf]; omega
        · obtain rfl : k = n := by omega
          go_wp2_with fail
          have hmem := putN_mem ps k (by rw [← HN.out]; exact Nat.le_refl _)
          refine (Seal_all w4.heap.size (putN ps k) wr HW.out (HH.out.keep hFw (by simp)) hmem).mono ?_
          rintro e w6 ⟨rfl, hF6⟩
          have hl60 := HW.out.len
          have hlen := sealV_len (putN ps k) hl60
          have HMEM := Lib.hid (sealV_mem (putN ps k) hmem)
          have HSE := Lib.hid (fun (h : (putN ps k).2 = 0) => show sealV (putN ps k) = sealed (putN ps k).1 by rw [sealV, if_pos h])
          have HSN := Lib.hid (fun (h : ¬ (putN ps k).2 = 0) => show sealV (putN ps k) = zeros64 by rw [sealV, if_neg h])
          generalize sealV (putN ps k) = B at hlen HMEM HSE HSN ⊢
          obtain ⟨ee, hee⟩ : ∃ ee, ee = (putN ps k).2 := ⟨_, rfl⟩
          rw [← hee] at HSE HSN ⊢
          have HEE := Lib.hid hee
          have hszB : (bv B).size = 64 := by rw [bv_size, hlen]
          obtain ⟨w7, hst, hB7, hF7, hs7⟩ := store_all (P := Tryd.prog) (Blk.new w6 (bv zeros64) 33) B (by rw [hlen, bv_size]; rfl)
          have hszw := hFw.size
          have hs6 := hF6.size
          have hszr := hF.size
          have hF07 : Fr [] w w7 := ((hFw.trans hF6).alloc _).comp hF7 (by simp; omega)
          have HL60 := Lib.hid hl60
          have HB7 := Lib.hid hB7
          have HLEN := Lib.hid hlen
          clear hee hlen hmem hB7 hF7 hF6 hF hl60 HW5
          have hq := eql_blocks B zeros64 HLEN.out rfl
          have hg := guard_eql_blocks
          obtain ⟨i, rfl⟩ := Int.eq_ofNat_of_zero_le (show 0 ≤ x by omega)
          have hi64 : i < 64 := by omega
          have hs7' : w7.heap.size = w6.heap.size + 1 := by rw [hs7]; simp
          by_cases he : ee = 0
          · have b0 : (ee != 0) = false := by simp [he]
            have hBs := HSE.out he
            have hS1 : isSealed B = true := by rw [hBs]; exact isSealed_sealed _ HL60.out
            have hS2 := isSealed_set B i z HLEN.out HMEM.out hS1 hi64 hz2
            obtain ⟨C, hC⟩ : ∃ C, C = B.set i z := ⟨_, rfl⟩
            rw [← hC] at hS2
            have hlC : C.length = 64 := by rw [hC, List.length_set]; exact HLEN.out
            have HMC := Lib.hid (show ∀ x, x ∈ C → x < 256 by
              intro x hx
              rw [hC] at hx
              rcases List.mem_or_eq_of_mem_set hx with h | rfl
              · exact HMEM.out x h
              · exact hz2)
            have hbs : (bv B).setIfInBounds i (.int .u8 (z : Int)) = bv C := by
              rw [hC]
              apply Array.ext'
              simp [bv, u8s, List.map_set]
            have hnew := Blk.new w7 (bv zeros64) 33
            rw [hs7'] at hnew
            obtain ⟨w8, hst8, hB8, hF8, hs8⟩ := store_all (P := Tryd.prog) hnew B (by rw [HLEN.out, bv_size]; rfl)
            have hB9 := hB8.set i (.int .u8 (z : Int))
            rw [hbs] at hB9
            have hc8 : w8.cell? ⟨w6.heap.size + 1, i, none⟩ = some (.int .u8 (B[i]'(by rw [HLEN.out]; exact hi64) : Nat)) := hB8.cell (bv_get B i _)
            have hf8 := hB8.frozen i
            have hA9 : Blk (w8.setCell ⟨w6.heap.size + 1, i, none⟩ (.int .u8 (z : Int))) w6.heap.size 33 (bv B) := (((HB7.out).alloc (.cells (bv zeros64) 33)).fr hF8 (by simp)).set_ne _ _ (by simp)
            have hF9 : Fr [] w (w8.setCell ⟨w6.heap.size + 1, i, none⟩ (.int .u8 (z : Int))) := ((hF07.alloc _).comp hF8 (by simp; omega)).setCell _ (.inr (by simp; omega)) _
            have HA9 := Lib.hid hA9
            have HB9 := Lib.hid hB9
            have HC := Lib.hid hC
            have HLC := Lib.hid hlC
            have HS1 := Lib.hid hS1
            have HS2 := Lib.hid hS2
            have HSIX := Lib.hid (show w6.heap.size + 1 < w8.heap.size from hB8.lt)
            clear hB9 hA9 hC hlC hS1 hS2 hbs hnew hB8 hF8 hBs
            go_wp2_with (refine wpList_load_bv rfl 33 _ rfl w6.heap.size 0 rfl B (range_bv HB7.out) Tryd.underlying33 HII.out HLEN.out ?_)
            have hRB : ((w8.setCell ⟨w6.heap.size + 1, i, none⟩ (.int .u8 (z : Int))).drew).rangeAt w6.heap.size 0 (u8s B) := range_bv HA9.out.drew
            have hRC : ((w8.setCell ⟨w6.heap.size + 1, i, none⟩ (.int .u8 (z : Int))).drew).rangeAt (w6.heap.size + 1) 0 (u8s C) := range_bv HB9.out.drew
            have hGB : w6.heap.size < ((w8.setCell ⟨w6.heap.size + 1, i, none⟩ (.int .u8 (z : Int))).drew).heap.size := HA9.out.lt
            have hGC : w6.heap.size + 1 < ((w8.setCell ⟨w6.heap.size + 1, i, none⟩ (.int .u8 (z : Int))).drew).heap.size := HB9.out.lt
            have hFw9 := hF9.drew
            have hHw := HH.out.keep hFw9 (by simp)
            clear hq hF9
            have hq := eql_blocks B C HLEN.out HLC.out
            have HSEAL1 := fun W hW => Sealed_any B W hW HLEN.out HMEM.out
            have HSEAL2 := fun W hW => Sealed_any C W hW HLC.out HMC.out
            rw [HS1.out] at HSEAL1
            rw [HS2.out] at HSEAL2
            by_cases hBC : B = C
            · rw [decide_eq_true hBC] at HSEAL2
              simp only [decide_eq_true hBC, if_true] at hq HSEAL1 HSEAL2
              have HBC := Lib.hid hBC
              clear hBC
              refine region_ord [] (.take 0 (.pick 1 (.take 2 (.take 3 (.take 4 (.take 7 (.take 8 (.take 9 (.pick 5 (.take 6 (.take 10 (.take 11 (.take 12 (.pick 13 (.take 14 (.take 15 .done)) .none))))) .none))))))) .none)) (by kernel_rfl) (by kernel_rfl) ?_
              simp only [ordList, Ord.map, List.getD_cons_zero, List.getD_cons_succ]
              refine ord_bv hRB (by simp) HLEN.out rfl rfl (by kernel_rfl) rfl ?_
              simp only [Act.put, List.setIfInBounds_toArray, List.set_cons_zero, List.set_cons_succ]
              -- 1: t93 := CALL lavabo/field.Sealed(t92)   {0}
              refine' ord_call (f := 17) (args := _) ?_ rfl ?_; rotate_left; focus (go_simp; try with_reducible rfl; done)
              refine (HSEAL1 _ hHw).mono ?_
              rintro e w1 ⟨rfl, hF⟩
              have hRB := hF.range hRB hGB (by simp)
              have hRC := hF.range hRC hGC (by simp)
              have hGB := Nat.lt_of_lt_of_le hGB hF.size
              have hGC := Nat.lt_of_lt_of_le hGC hF.size
              have hHw := hHw.keep hF (by simp)
              have hFw9 := hFw9.trans hF
              refine ⟨_, rfl, hF, ?_⟩
              simp only [Act.put, List.setIfInBounds_toArray, List.set_cons_zero, List.set_cons_succ]
              refine' ord_pure (v := _) ?_ rfl ?_; rotate_left; focus (intro w; go_simp; try with_reducible rfl; done)
              simp only [Act.put, List.setIfInBounds_toArray, List.set_cons_zero, List.set_cons_succ]
              refine' ord_pure (v := _) ?_ rfl ?_; rotate_left; focus (intro w; go_simp; try with_reducible rfl; done)
              simp only [Act.put, List.setIfInBounds_toArray, List.set_cons_zero, List.set_cons_succ]
              refine ord_bv hRC (by simp) HLC.out rfl rfl (by kernel_rfl) rfl ?_
              simp only [Act.put, List.setIfInBounds_toArray, List.set_cons_zero, List.set_cons_succ]
              refine ord_bv hRB (by simp) HLEN.out rfl rfl (by kernel_rfl) rfl ?_
              simp only [Act.put, List.setIfInBounds_toArray, List.set_cons_zero, List.set_cons_succ]
              refine ord_bv hRC (by simp) HLC.out rfl rfl (by kernel_rfl) rfl ?_
              simp only [Act.put, List.setIfInBounds_toArray, List.set_cons_zero, List.set_cons_succ]
              refine' ord_pure (v := _) ?_ rfl ?_; rotate_left; focus (intro w; go_simp; try with_reducible rfl; done)
              simp only [Act.put, List.setIfInBounds_toArray, List.set_cons_zero, List.set_cons_succ]
              -- 5: t97 := CALL lavabo/field.Sealed(t96)   [if op3=true]   {3,4}
              refine' ord_call (f := 17) (args := _) ?_ rfl ?_; rotate_left; focus (go_simp; try with_reducible rfl; done)
              refine (HSEAL2 _ hHw).mono ?_
              rintro e w1 ⟨rfl, hF⟩
              have hRB := hF.range hRB hGB (by simp)
              have hRC := hF.range hRC hGC (by simp)
              have hGB := Nat.lt_of_lt_of_le hGB hF.size
              have hGC := Nat.lt_of_lt_of_le hGC hF.size
              have hHw := hHw.keep hF (by simp)
              have hFw9 := hFw9.trans hF
              refine ⟨_, rfl, hF, ?_⟩
              simp only [Act.put, List.setIfInBounds_toArray, List.set_cons_zero, List.set_cons_succ]
              refine' ord_pure (v := _) ?_ rfl ?_; rotate_left; focus (intro w; go_simp; try with_reducible rfl; done)
              simp only [Act.put, List.setIfInBounds_toArray, List.set_cons_zero, List.set_cons_succ]
              refine' ord_pure (v := _) ?_ rfl ?_; rotate_left; focus (intro w; go_simp; try with_reducible rfl; done)
              simp only [Act.put, List.setIfInBounds_toArray, List.set_cons_zero, List.set_cons_succ]
              refine' ord_pure (v := _) ?_ rfl ?_; rotate_left; focus (intro w; go_simp; try with_reducible rfl; done)
              simp only [Act.put, List.setIfInBounds_toArray, List.set_cons_zero, List.set_cons_succ]
              refine' ord_pure (v := _) ?_ rfl ?_; rotate_left; focus (intro w; go_simp; try with_reducible rfl; done)
              simp only [Act.put, List.setIfInBounds_toArray, List.set_cons_zero, List.set_cons_succ]
              -- 13: t105 := CALL lavabo/lavabolaw04.awake()   [if op12=true]   {12}
              refine' ord_call (f := 11) (args := _) ?_ rfl ?_; rotate_left; focus (go_simp; try with_reducible rfl; done)
              refine (awake_any _ hHw).mono ?_
              rintro e w1 ⟨rfl, hF⟩
              have hFw9 := hFw9.trans hF
              refine ⟨_, rfl, hF, ?_⟩
              simp only [Act.put, List.setIfInBounds_toArray, List.set_cons_zero, List.set_cons_succ]
              refine' ord_pure (v := _) ?_ rfl ?_; rotate_left; focus (intro w; go_simp; try with_reducible rfl; done)
              simp only [Act.put, List.setIfInBounds_toArray, List.set_cons_zero, List.set_cons_succ]
              refine' ord_pure (v := _) ?_ rfl ?_; rotate_left; focus (intro w; go_simp; try with_reducible rfl; done)
              simp only [Act.put, List.setIfInBounds_toArray, List.set_cons_zero, List.set_cons_succ]
              refine ord_nil ?_
              go_wp2_with fail
              go_ret
              exact ⟨rfl, hFw9⟩
            · rw [decide_eq_false hBC] at HSEAL2
              simp only [decide_eq_false hBC, if_true, Bool.false_eq_true, if_false] at hq HSEAL1 HSEAL2
              have HBC := Lib.hid hBC
              clear hBC
              refine region_ord [] (.take 0 (.pick 1 (.take 2 (.take 3 (.take 4 (.take 7 (.take 8 (.take 9 (.pick 5 (.take 6 (.take 10 (.take 11 (.take 12 (.pick 13 (.take 14 (.take 15 .done)) .none))))) .none))))))) .none)) (by kernel_rfl) (by kernel_rfl) ?_
              simp only [ordList, Ord.map, List.getD_cons_zero, List.getD_cons_succ]
              refine ord_bv hRB (by simp) HLEN.out rfl rfl (by kernel_rfl) rfl ?_
              simp only [Act.put, List.setIfInBounds_toArray, List.set_cons_zero, List.set_cons_succ]
              -- 1: t93 := CALL lavabo/field.Sealed(t92)   {0}
              refine' ord_call (f := 17) (args := _) ?_ rfl ?_; rotate_left; focus (go_simp; try with_reducible rfl; done)
              refine (HSEAL1 _ hHw).mono ?_
              rintro e w1 ⟨rfl, hF⟩
              have hRB := hF.range hRB hGB (by simp)
              have hRC := hF.range hRC hGC (by simp)
              have hGB := Nat.lt_of_lt_of_le hGB hF.size
              have hGC := Nat.lt_of_lt_of_le hGC hF.size
              have hHw := hHw.keep hF (by simp)
              have hFw9 := hFw9.trans hF
              refine ⟨_, rfl, hF, ?_⟩
              simp only [Act.put, List.setIfInBounds_toArray, List.set_cons_zero, List.set_cons_succ]
              refine' ord_pure (v := _) ?_ rfl ?_; rotate_left; focus (intro w; go_simp; try with_reducible rfl; done)
              simp only [Act.put, List.setIfInBounds_toArray, List.set_cons_zero, List.set_cons_succ]
              refine' ord_pure (v := _) ?_ rfl ?_; rotate_left; focus (intro w; go_simp; try with_reducible rfl; done)
              simp only [Act.put, List.setIfInBounds_toArray, List.set_cons_zero, List.set_cons_succ]
              refine ord_bv hRC (by simp) HLC.out rfl rfl (by kernel_rfl) rfl ?_
              simp only [Act.put, List.setIfInBounds_toArray, List.set_cons_zero, List.set_cons_succ]
              refine ord_bv hRB (by simp) HLEN.out rfl rfl (by kernel_rfl) rfl ?_
              simp only [Act.put, List.setIfInBounds_toArray, List.set_cons_zero, List.set_cons_succ]
              refine ord_bv hRC (by simp) HLC.out rfl rfl (by kernel_rfl) rfl ?_
              simp only [Act.put, List.setIfInBounds_toArray, List.set_cons_zero, List.set_cons_succ]
              refine' ord_pure (v := _) ?_ rfl ?_; rotate_left; focus (intro w; go_simp; try with_reducible rfl; done)
              simp only [Act.put, List.setIfInBounds_toArray, List.set_cons_zero, List.set_cons_succ]
              -- 5: t97 := CALL lavabo/field.Sealed(t96)   [if op3=true]   {3,4}
              refine' ord_call (f := 17) (args := _) ?_ rfl ?_; rotate_left; focus (go_simp; try with_reducible rfl; done)
              refine (HSEAL2 _ hHw).mono ?_
              rintro e w1 ⟨rfl, hF⟩
              have hRB := hF.range hRB hGB (by simp)
              have hRC := hF.range hRC hGC (by simp)
              have hGB := Nat.lt_of_lt_of_le hGB hF.size
              have hGC := Nat.lt_of_lt_of_le hGC hF.size
              have hHw := hHw.keep hF (by simp)
              have hFw9 := hFw9.trans hF
              refine ⟨_, rfl, hF, ?_⟩
              simp only [Act.put, List.setIfInBounds_toArray, List.set_cons_zero, List.set_cons_succ]
              refine' ord_pure (v := _) ?_ rfl ?_; rotate_left; focus (intro w; go_simp; try with_reducible rfl; done)
              simp only [Act.put, List.setIfInBounds_toArray, List.set_cons_zero, List.set_cons_succ]
              refine' ord_pure (v := _) ?_ rfl ?_; rotate_left; focus (intro w; go_simp; try with_reducible rfl; done)
              simp only [Act.put, List.setIfInBounds_toArray, List.set_cons_zero, List.set_cons_succ]
              refine' ord_pure (v := _) ?_ rfl ?_; rotate_left; focus (intro w; go_simp; try with_reducible rfl; done)
              simp only [Act.put, List.setIfInBounds_toArray, List.set_cons_zero, List.set_cons_succ]
              refine' ord_pure (v := _) ?_ rfl ?_; rotate_left; focus (intro w; go_simp; try with_reducible rfl; done)
              simp only [Act.put, List.setIfInBounds_toArray, List.set_cons_zero, List.set_cons_succ]
              -- 13: t105 := CALL lavabo/lavabolaw04.awake()   [if op12=true]   {12}
              refine' ord_call (f := 11) (args := _) ?_ rfl ?_; rotate_left; focus (go_simp; try with_reducible rfl; done)
              refine (awake_any _ hHw).mono ?_
              rintro e w1 ⟨rfl, hF⟩
              have hFw9 := hFw9.trans hF
              refine ⟨_, rfl, hF, ?_⟩
              simp only [Act.put, List.setIfInBounds_toArray, List.set_cons_zero, List.set_cons_succ]
              refine' ord_pure (v := _) ?_ rfl ?_; rotate_left; focus (intro w; go_simp; try with_reducible rfl; done)
              simp only [Act.put, List.setIfInBounds_toArray, List.set_cons_zero, List.set_cons_succ]
              refine' ord_pure (v := _) ?_ rfl ?_; rotate_left; focus (intro w; go_simp; try with_reducible rfl; done)
              simp only [Act.put, List.setIfInBounds_toArray, List.set_cons_zero, List.set_cons_succ]
              refine ord_nil ?_
              go_wp2_with fail
              go_ret
              exact ⟨rfl, hFw9⟩
          · have b0 : (ee != 0) = true := by simp [he]
            have hB0 := HSN.out he
            subst hB0
            simp only [decide_true] at hq
            go_wp2_with (refine wpList_load_bv rfl 33 _ rfl w6.heap.size 0 rfl zeros64 (range_bv HB7.out) Tryd.underlying33 HII.out HLEN.out ?_)
            refine (awake_any w7 (HH.out.keep hF07 (by simp))).mono ?_
            rintro e w8 ⟨rfl, hF8⟩
            have hF08 := hF07.trans hF8
            go_wp2_with fail
            go_ret
            exact ⟨rfl, hF08⟩
end Go.Proofs.YtifafnmbcmhlcaaDoor
