/- FieldParts: plain facts, the walk. -/
import Derived.Test.YtifafnmbcmhlcaaDoorFieldO
import Derived.Test.YtifafnmbcmhlcaaDoorDrawn
namespace Go.Proofs.YtifafnmbcmhlcaaDoor
open Go.RowKit Go.Shelf

def pw (k : Nat) : Nat := 256 ^ k
theorem pw_succ (k : Nat) : pw (k + 1) = 256 * pw k := by unfold pw; rw [Nat.pow_succ, Nat.mul_comm]
theorem pw_eq (k : Nat) : pw k = 2 ^ (8 * k) := by unfold pw; rw [show (256 : Nat) = 2 ^ 8 by rfl, ← Nat.pow_mul]
theorem pw_le (k : Nat) (h : k ≤ 6) : pw k ≤ 281474976710656 := by
  unfold pw
  have h1 : 256 ^ k ≤ 256 ^ 6 := Nat.pow_le_pow_right (by omega) h
  have h2 : (256 : Nat) ^ 6 = 281474976710656 := by simp
  rw [h2] at h1
  exact h1
theorem pw_pos (k : Nat) : 0 < pw k := Nat.pow_pos (by omega)
theorem byteOf_low (n a i : Nat) (h : i < a) : byteOf (n % 2 ^ (8 * a)) i = byteOf n i := by
  unfold byteOf
  have e : 2 ^ (8 * a) = 2 ^ (8 * i) * (256 * 2 ^ (8 * (a - i - 1))) := by
    rw [show (256 : Nat) = 2 ^ 8 by rfl, ← Nat.pow_add, ← Nat.pow_add]; congr 1; omega
  rw [e, Nat.mod_mul_right_div_self, Nat.mod_mul_right_mod]
theorem byteOf_high (n a i : Nat) : byteOf (n / 2 ^ (8 * a)) i = byteOf n (a + i) := by
  unfold byteOf
  rw [Nat.div_div_eq_div_mul, ← Nat.pow_add, Nat.mul_add]
theorem bytesOf_parts (n a b : Nat) : bytesOf n (a + b) = bytesOf (n % pw a) a ++ bytesOf (n / pw a) b := by
  rw [pw_eq]
  unfold bytesOf
  rw [List.range_add, List.map_append, List.map_map]
  congr 1
  · apply List.map_congr_left
    intro i hi
    exact (byteOf_low n a i (by simpa using hi)).symm
  · apply List.map_congr_left
    intro i _
    exact (byteOf_high n a i).symm
theorem fits_parts (n a b : Nat) : n / pw a / 2 ^ (8 * b) = n / 2 ^ (8 * (a + b)) := by
  rw [pw_eq, Nat.div_div_eq_div_mul, ← Nat.pow_add, Nat.mul_add]
theorem putE_fits (len n s : Nat) (h1 : 1 ≤ s) (h7 : s ≤ 7) (hl : len + s ≤ 60) : putE len n s = if n / 2 ^ (8 * s) = 0 then 0 else 11 := by
  have hw : wrongE (s : Int) (60 - (len : Int)) = 0 := by unfold wrongE; rw [if_neg (by omega), if_neg (by omega)]
  unfold putE
  rw [hw, if_neg (by omega)]
  have e : ((n : Int) / 2 ^ (8 * (s : Int).toNat) = 0) ↔ n / 2 ^ (8 * s) = 0 := by
    rw [Int.toNat_natCast]
    constructor
    · intro h; exact_mod_cast h
    · intro h; exact_mod_cast h
  by_cases h : n / 2 ^ (8 * s) = 0
  · rw [if_pos h, if_neg (by rw [e]; omega)]
  · rw [if_neg h, if_pos (Or.inr (by rw [e]; exact h))]
/-- one number, and its two parts -/
theorem parts_same (n a b : Nat) (ha : 1 ≤ a) (hb : 1 ≤ b) (h7 : a + b ≤ 7) :
    (putS ([], 0) n ((a + b : Nat) : Int)).2 = (putS (putS ([], 0) ((n % pw a : Nat) : Int) a) ((n / pw a : Nat) : Int) b).2 ∧
    sealV (putS ([], 0) n ((a + b : Nat) : Int)) = sealV (putS (putS ([], 0) ((n % pw a : Nat) : Int) a) ((n / pw a : Nat) : Int) b) := by
  have h0 : putE 0 ((n % pw a : Nat) : Int) (a : Int) = 0 := by
    rw [putE_fits 0 _ a ha (by omega) (by omega), if_pos (by rw [← pw_eq]; exact Nat.div_eq_of_lt (Nat.mod_lt _ (pw_pos a)))]
  have e1 : putS ([], 0) ((n % pw a : Nat) : Int) a = (bytesOf (n % pw a) a, 0) := by
    simp only [putS, if_true, List.length_nil, putL, h0, List.nil_append, Int.toNat_natCast]
  rw [e1]
  have h1 := putE_fits 0 n (a + b) (by omega) h7 (by omega)
  have h2 := putE_fits a (n / pw a) b hb (by omega) (by omega)
  rw [fits_parts] at h2
  have hS1 : putS ([], 0) n ((a + b : Nat) : Int) = (putL [] n ((a + b : Nat) : Int), putE 0 n ((a + b : Nat) : Int)) := by rw [putS, if_pos rfl]; rfl
  have hS2 : putS (bytesOf (n % pw a) a, 0) ((n / pw a : Nat) : Int) b = (putL (bytesOf (n % pw a) a) ((n / pw a : Nat) : Int) b, putE a ((n / pw a : Nat) : Int) b) := by rw [putS, if_pos rfl]; simp only [bytesOf_len]
  rw [hS1, hS2]
  unfold putL
  simp only [List.length_nil, bytesOf_len, h1, h2, List.nil_append, Int.toNat_natCast, true_and]
  by_cases h : n / 2 ^ (8 * (a + b)) = 0
  · rw [if_pos h, if_pos rfl, if_pos rfl, bytesOf_parts]
  · rw [if_neg h, if_neg (by simp), if_neg (by simp)]
    unfold sealV
    rw [if_neg (by simp), if_neg (by simp)]

set_option maxRecDepth 100000 in
theorem FieldParts_bad (n a b : Int) (w : World) (hH : Halves w) (h : a < 1 ∨ b < 1 ∨ 7 < a ∨ 7 < b ∨ 7 < a + b ∨ n < 0) :
    Calls Tryd.prog 5 #[.int .i64 n, .agg #[.int .i64 a, .int .i64 b]] w fun e w' => e = .returned (.bool true) ∧ Fr [] w w' := by
  have HH := Lib.hid hH
  have hF0 := (Fr.refl [] w).alloc (.cells #[.int .i64 a, .int .i64 b] 29)
  clear hH
  by_cases h1 : a < 1
  · clear h
    go_enter Tryd.func5, Tryd.ntmps5
    go_wp2_with fail
    refine (awake_any _ (HH.out.keep hF0 (by simp))).mono ?_
    rintro e w1 ⟨rfl, hF1⟩
    go_wp2_with fail
    go_ret
    exact ⟨rfl, hF0.trans hF1⟩
  ·
    by_cases h2 : b < 1
    · clear h
      go_enter Tryd.func5, Tryd.ntmps5
      go_wp2_with fail
      refine (awake_any _ (HH.out.keep hF0 (by simp))).mono ?_
      rintro e w1 ⟨rfl, hF1⟩
      go_wp2_with fail
      go_ret
      exact ⟨rfl, hF0.trans hF1⟩
    · by_cases h3 : 7 < wrap64 (a + b)
      · have h3' : decide (7 < wrap64 (a + b)) = true := by simpa using h3
        clear h h3
        go_enter Tryd.func5, Tryd.ntmps5
        go_wp2_with fail
        refine (awake_any _ (HH.out.keep hF0 (by simp))).mono ?_
        rintro e w1 ⟨rfl, hF1⟩
        go_wp2_with fail
        go_ret
        exact ⟨rfl, hF0.trans hF1⟩
      · have h3' : decide (7 < wrap64 (a + b)) = false := by simpa using h3
        by_cases h4 : 7 < a
        · clear h h3
          go_enter Tryd.func5, Tryd.ntmps5
          go_wp2_with fail
          refine (awake_any _ (HH.out.keep hF0 (by simp))).mono ?_
          rintro e w1 ⟨rfl, hF1⟩
          go_wp2_with fail
          go_ret
          exact ⟨rfl, hF0.trans hF1⟩
        · by_cases h5 : 7 < b
          · clear h h3
            go_enter Tryd.func5, Tryd.ntmps5
            go_wp2_with fail
            refine (awake_any _ (HH.out.keep hF0 (by simp))).mono ?_
            rintro e w1 ⟨rfl, hF1⟩
            go_wp2_with fail
            go_ret
            exact ⟨rfl, hF0.trans hF1⟩
          · rw [IntWalk.wrap64_in (a + b) ⟨by omega, by omega⟩] at h3
            clear h3'
            have h6 : n < 0 := by
              rcases h with h | h | h | h | h | h
              · omega
              · omega
              · omega
              · omega
              · omega
              · exact h
            clear h
            go_enter Tryd.func5, Tryd.ntmps5
            go_wp2_with fail
            refine (awake_any _ (HH.out.keep hF0 (by simp))).mono ?_
            rintro e w1 ⟨rfl, hF1⟩
            go_wp2_with fail
            go_ret
            exact ⟨rfl, hF0.trans hF1⟩

set_option maxRecDepth 100000 in
set_option maxHeartbeats 2000000 in
theorem FieldParts_in (n a b : Nat) (w : World) (hH : Halves w) (ha : 1 ≤ a) (hb : 1 ≤ b) (h7 : a + b ≤ 7) (hn : n < 9223372036854775808) :
    Calls Tryd.prog 5 #[.int .i64 n, .agg #[.int .i64 a, .int .i64 b]] w fun e w' => e = .returned (.bool true) ∧ Fr [] w w' := by
  have hz : ∀ w, (zeroValue 33).run Tryd.prog w = .ok (.agg (bv zeros64)) w := fun _ => by kernel_rfl
  have HH := Lib.hid hH
  have HII := Lib.hid (show (Tryd.prog.info? 33).map (·.size) = some 64 by kernel_rfl)
  have hF0 := (Fr.refl [] w).alloc (.cells #[.int .i64 (a : Int), .int .i64 (b : Int)] 29)
  have HSAME := Lib.hid (parts_same n a b ha hb h7)
  clear hH
  go_enter Tryd.func5, Tryd.ntmps5
  go_wp2_with fail
  go_loop [7, 8] (fun u i => ∃ k : Nat, k ≤ a ∧ i = .int .i64 k ∧ u = .int .i64 (pw k)) (fun _ i => a - (intOf i).toNat)
  case atStart => exact ⟨0, Nat.zero_le _, rfl, rfl⟩
  case round =>
    obtain ⟨k, hk, rfl, rfl⟩ := hrel
    have hp := pw_le k (by omega)
    have HS := Lib.hid (pw_succ k)
    have hpos := pw_pos k
    generalize hpk : pw k = u at hp HS hpos ⊢
    have HPK := Lib.hid hpk
    clear hpk
    by_cases hlt : k < a
    · go_wp2
      go_round
      case rel => exact ⟨k + 1, by omega, by go_num, by rw [HS.out]; go_num⟩
      case measure => simp [intOf]; omega
    · obtain rfl : k = a := by omega
      go_wp2_with fail
      refine (Write_any _).mono ?_
      rintro e w1 ⟨rfl, hW1, hF1⟩
      rw [World.size_alloc] at hW1
      have hF01 := hF0.trans hF1
      have hs1 := hF1.size
      rw [World.size_alloc] at hs1
      have hlt1 := hW1.blk.lt
      have HW1 := Lib.hid hW1
      clear hW1 hF1 hF0
      go_wp2_with fail
      refine (Write_any _).mono ?_
      rintro e w2 ⟨rfl, hW2, hF2⟩
      have hF02 := hF01.trans hF2
      have hs2 := hF2.size
      have hlt2 := hW2.blk.lt
      have HW2 := Lib.hid hW2
      have HW12 := Lib.hid (HW1.out.fr hF2 (by simp))
      clear hW2 hF2 hF01 HW1
      go_wp2_with fail
      refine (Put_all (w.heap.size + 1) ([], 0) n (k + b) w2 HW12.out).mono ?_
      rintro e w3 ⟨rfl, hW3, hF3⟩
      have hF03 : Fr [] w w3 := hF02.comp hF3 (by simp)
      have hs3 := hF3.size
      have HW3 := Lib.hid hW3
      have HV3 := Lib.hid (HW2.out.fr hF3 (by simp; omega))
      have HM1 := Lib.hid (putS_mem ([], 0) n (k + b) (by simp))
      have HS1 := Lib.hid HSAME.out.1
      have HS2 := Lib.hid HSAME.out.2
      rw [Int.natCast_add, Int.ofNat_tmod, Int.ofNat_tdiv, HPK.out] at HS1 HS2
      clear hW3 hF3 hF02 HW12 HW2 HSAME
      generalize hS1 : putS ([], 0) (n : Int) ((k : Int) + (b : Int)) = S1 at HW3 HM1 HS1 HS2 ⊢
      clear hS1
      go_wp2_with fail
      refine (Seal_all (w.heap.size + 1) S1 w3 HW3.out (HH.out.keep hF03 (by simp)) HM1.out).mono ?_
      rintro e w4 ⟨rfl, hF4⟩
      have hlen := sealV_len S1 HW3.out.len
      have hs4 := hF4.size
      obtain ⟨w5, hst, hB5, hF5, hs5⟩ := store_all (P := Tryd.prog) (Blk.new w4 (bv zeros64) 33) (sealV S1) (by rw [hlen, bv_size]; rfl)
      have hF35 : Fr [] w3 w5 := (hF4.alloc _).comp hF5 (by simp; omega)
      have hF05 := hF03.trans hF35
      have HV5 := Lib.hid (HV3.out.fr hF35 (by simp))
      have HB5 := Lib.hid hB5
      have HLEN := Lib.hid hlen
      have hlt5 : w4.heap.size < w5.heap.size := by rw [hs5]; simp
      have hlt15 : w1.heap.size < w4.heap.size := by omega
      have hszB : (bv (sealV S1)).size = 64 := by rw [bv_size, HLEN.out]
      clear hB5 hF5 hF35 hF4 hlen hs5
      go_wp2_with fail
      have hVw : IsWriter w5.drew w1.heap.size ([] : List Nat) 0 := HV5.out.fr (Fr.refl [] w5).drew (by simp)
      have hFw := hF05.drew
      have hBw : Blk w5.drew w4.heap.size 33 (bv (sealV S1)) := HB5.out
      clear hst
      have hu0 : ¬ u = 0 := by omega
      have hqq : IntKind.i64.wrap ((n : Int) / (u : Int)) = (n : Int).tdiv u := by
        have h1 : (n : Int) / (u : Int) = ((n / u : Nat) : Int) := (Int.natCast_ediv n u).symm
        have h2 : n / u ≤ n := Nat.div_le_self n u
        rw [h1, ← Int.ofNat_tdiv]
        generalize n / u = q at h2 ⊢
        exact IntWalk.i64_in _ ⟨by omega, by omega⟩
      refine region_free (.take 0 (.take 1 (.take 2 (.take 3 (.take 4 (.take 6 (.take 7 (.take 8 (.take 9 (.pick 5 (.pick 10 (.pick 11 (.take 12 (.take 13 (.take 14 (.pick 15 (.pick 16 (.take 17 .done) .none) .none)))) (.pick 15 (.pick 11 (.take 12 (.take 13 (.take 14 (.pick 16 (.take 17 .done) .none)))) .none) .none)) (.pick 15 (.pick 10 (.pick 11 (.take 12 (.take 13 (.take 14 (.pick 16 (.take 17 .done) .none)))) .none) .none) .none)) (.pick 15 (.pick 5 (.pick 10 (.pick 11 (.take 12 (.take 13 (.take 14 (.pick 16 (.take 17 .done) .none)))) .none) .none) .none) .none))))))))))) (by kernel_rfl) (by kernel_rfl) ?_
      simp only [ordList, Ord.map, List.getD_cons_zero, List.getD_cons_succ]
      refine' ord_pure (v := _) ?_ rfl ?_; rotate_left; focus (intro w; go_simp <;> (first | (with_reducible rfl) | (constructor <;> with_reducible rfl)))
      simp only [Act.put, List.setIfInBounds_toArray, List.set_cons_zero, List.set_cons_succ]
      refine' ord_pure (v := _) ?_ rfl ?_; rotate_left; focus (intro w; go_simp <;> (first | (with_reducible rfl) | (constructor <;> with_reducible rfl)))
      simp only [Act.put, List.setIfInBounds_toArray, List.set_cons_zero, List.set_cons_succ]
      refine' ord_pure (v := _) ?_ rfl ?_; rotate_left; focus (intro w; go_simp <;> (first | (with_reducible rfl) | (constructor <;> with_reducible rfl)))
      simp only [Act.put, List.setIfInBounds_toArray, List.set_cons_zero, List.set_cons_succ]
      refine' ord_pure (v := _) ?_ rfl ?_; rotate_left; focus (intro w; go_simp <;> (first | (with_reducible rfl) | (constructor <;> with_reducible rfl)))
      simp only [Act.put, List.setIfInBounds_toArray, List.set_cons_zero, List.set_cons_succ]
      refine' ord_pure (v := _) ?_ rfl ?_; rotate_left; focus (intro w; go_simp <;> (first | (with_reducible rfl) | (constructor <;> with_reducible rfl)))
      simp only [Act.put, List.setIfInBounds_toArray, List.set_cons_zero, List.set_cons_succ]
      refine' ord_pure (v := _) ?_ rfl ?_; rotate_left; focus (intro w; go_simp <;> (first | (with_reducible rfl) | (constructor <;> with_reducible rfl)))
      simp only [Act.put, List.setIfInBounds_toArray, List.set_cons_zero, List.set_cons_succ]
      refine' ord_pure (v := _) ?_ rfl ?_; rotate_left; focus (intro w; go_simp <;> (first | (with_reducible rfl) | (constructor <;> with_reducible rfl)))
      simp only [Act.put, List.setIfInBounds_toArray, List.set_cons_zero, List.set_cons_succ]
      refine' ord_pure (v := _) ?_ rfl ?_; rotate_left; focus (intro w; go_simp <;> (first | (with_reducible rfl) | (constructor <;> with_reducible rfl)))
      simp only [Act.put, List.setIfInBounds_toArray, List.set_cons_zero, List.set_cons_succ]
      refine' ord_pure (v := _) ?_ rfl ?_; rotate_left; focus (intro w; go_simp <;> (first | (with_reducible rfl) | (constructor <;> with_reducible rfl)))
      simp only [Act.put, List.setIfInBounds_toArray, List.set_cons_zero, List.set_cons_succ]
      refine ord_fork ?_ ?_
      -- 5: t75 := CALL (*lavabo/field.Writer).Put(t70, t73, t74)   {0,3,4}
      refine' ord_call (f := 12) (args := _) ?_ rfl ?_; rotate_left; focus (go_simp <;> (first | (with_reducible rfl) | (constructor <;> with_reducible rfl)))
      refine (Put_all w1.heap.size ([], 0) _ _ _ hVw).mono ?_
      rintro e w6 ⟨rfl, hVw, hFs⟩
      have hFw := hFw.comp hFs (by simp; omega)
      have hBw := hBw.fr hFs (by simp; omega)
      try have hNew := hNew.fr hFs (by simp; omega)
      refine ⟨_, rfl, trivial, ?_⟩
      simp only [Act.put, List.setIfInBounds_toArray, List.set_cons_zero, List.set_cons_succ]
      refine ord_fork ?_ ?_
      -- 10: t80 := CALL (*lavabo/field.Writer).Put(t75, t78, t79)   {5,8,9}
      refine' ord_call (f := 12) (args := _) ?_ rfl ?_; rotate_left; focus (go_simp <;> (first | (with_reducible rfl) | (constructor <;> with_reducible rfl)))
      refine (Put_all w1.heap.size (putS ([], 0) ((n : Int).tmod u) k) _ _ _ hVw).mono ?_
      rintro e w7 ⟨rfl, hVw, hFs⟩
      have hFw := hFw.comp hFs (by simp; omega)
      have hBw := hBw.fr hFs (by simp; omega)
      try have hNew := hNew.fr hFs (by simp; omega)
      refine ⟨_, rfl, trivial, ?_⟩
      simp only [Act.put, List.setIfInBounds_toArray, List.set_cons_zero, List.set_cons_succ]
      refine ord_fork ?_ ?_
      -- 11: t81 := CALL (*lavabo/field.Writer).Seal(t80)   {10}
      refine' ord_call (f := 14) (args := _) ?_ rfl ?_; rotate_left; focus (go_simp <;> (first | (with_reducible rfl) | (constructor <;> with_reducible rfl)))
      refine (Seal_all w1.heap.size (putS (putS ([], 0) ((n : Int).tmod u) k) ((n : Int).tdiv u) b) _ hVw (HH.out.keep hFw (by simp)) (putS_mem _ _ _ (putS_mem _ _ _ (by simp)))).mono ?_
      rintro e w8 ⟨rfl, hFs⟩
      rw [← HS2.out, ← HS1.out]
      have hFw := hFw.trans hFs
      have hBw := hBw.fr hFs (by simp)
      have hVw := hVw.fr hFs (by simp)
      try have hNew := hNew.fr hFs (by simp)
      refine ⟨_, rfl, trivial, ?_⟩
      simp only [Act.put, List.setIfInBounds_toArray, List.set_cons_zero, List.set_cons_succ]
      refine' ord_pure (v := _) ?_ rfl ?_; rotate_left; focus (intro w; go_simp <;> (first | (with_reducible rfl) | (constructor <;> with_reducible rfl)))
      simp only [Act.put, List.setIfInBounds_toArray, List.set_cons_zero, List.set_cons_succ]
      refine' ord_pure (v := _) ?_ rfl ?_; rotate_left; focus (intro w; go_simp <;> (first | (with_reducible rfl) | (constructor <;> with_reducible rfl)))
      simp only [Act.put, List.setIfInBounds_toArray, List.set_cons_zero, List.set_cons_succ]
      refine' ord_pure (v := _) ?_ rfl ?_; rotate_left; focus (intro w; go_simp <;> (first | (with_reducible rfl) | (constructor <;> with_reducible rfl)))
      simp only [Act.put, List.setIfInBounds_toArray, List.set_cons_zero, List.set_cons_succ]
      -- 15: t13 := alloc <api.Block = lavabo/api.Block>    {}
      have hVlt := hVw.blk.lt
      have hBlt := hBw.lt
      have hNlt := hFw.size
      have hNew := blk_new hFw (bv zeros64) 33
      try simp only [World.size_drew] at hVlt hBlt hNlt hNew
      refine' ord_do (v := _) (w' := _) ?_ trivial rfl ?_
      rotate_left 2
      focus (go_simp <;> (first | (with_reducible rfl) | (constructor <;> with_reducible rfl)))
      have hFw := hFw.alloc (.cells (bv zeros64) 33)
      have hVw := hVw.fr ((Fr.refl [] _).alloc (.cells (bv zeros64) 33)) (by simp)
      have hBw := hBw.alloc (.cells (bv zeros64) 33)
      simp only [Act.put, List.setIfInBounds_toArray, List.set_cons_zero, List.set_cons_succ]
      -- 16: t_ := store <api.Block = lavabo/api.Block> t13 t82   {0,1,2,3,4,5,6,7,8,9,10,11,12,13,14,15}
      obtain ⟨w9, hst, hB9, hF9, hs9⟩ := store_all (P := Tryd.prog) hNew (sealV S1) (by rw [HLEN.out, bv_size]; rfl)
      refine' ord_skip (w' := _) ?_ trivial rfl ?_
      rotate_left 1
      focus (go_simp <;> (first | (with_reducible rfl) | (constructor <;> with_reducible rfl)))
      have hBw := hBw.fr hF9 (by simp; omega)
      have hFw := hFw.comp hF9 (by simp; omega)
      clear hst
      simp only [Act.put, List.setIfInBounds_toArray, List.set_cons_zero, List.set_cons_succ]
      refine' ord_pure (v := _) ?_ rfl ?_; rotate_left; focus (intro w; go_simp <;> (first | (with_reducible rfl) | (constructor <;> with_reducible rfl)))
      simp only [Act.put, List.setIfInBounds_toArray, List.set_cons_zero, List.set_cons_succ]
      refine ord_nil ?_
      rotate_left
      -- 15: t13 := alloc <api.Block = lavabo/api.Block>    {}
      have hVlt := hVw.blk.lt
      have hBlt := hBw.lt
      have hNlt := hFw.size
      have hNew := blk_new hFw (bv zeros64) 33
      try simp only [World.size_drew] at hVlt hBlt hNlt hNew
      refine' ord_do (v := _) (w' := _) ?_ trivial rfl ?_
      rotate_left 2
      focus (go_simp <;> (first | (with_reducible rfl) | (constructor <;> with_reducible rfl)))
      have hFw := hFw.alloc (.cells (bv zeros64) 33)
      have hVw := hVw.fr ((Fr.refl [] _).alloc (.cells (bv zeros64) 33)) (by simp)
      have hBw := hBw.alloc (.cells (bv zeros64) 33)
      simp only [Act.put, List.setIfInBounds_toArray, List.set_cons_zero, List.set_cons_succ]
      -- 11: t81 := CALL (*lavabo/field.Writer).Seal(t80)   {10}
      refine' ord_call (f := 14) (args := _) ?_ rfl ?_; rotate_left; focus (go_simp <;> (first | (with_reducible rfl) | (constructor <;> with_reducible rfl)))
      refine (Seal_all w1.heap.size (putS (putS ([], 0) ((n : Int).tmod u) k) ((n : Int).tdiv u) b) _ hVw (HH.out.keep hFw (by simp)) (putS_mem _ _ _ (putS_mem _ _ _ (by simp)))).mono ?_
      rintro e w8 ⟨rfl, hFs⟩
      rw [← HS2.out, ← HS1.out]
      have hFw := hFw.trans hFs
      have hBw := hBw.fr hFs (by simp)
      have hVw := hVw.fr hFs (by simp)
      try have hNew := hNew.fr hFs (by simp)
      refine ⟨_, rfl, trivial, ?_⟩
      simp only [Act.put, List.setIfInBounds_toArray, List.set_cons_zero, List.set_cons_succ]
      refine' ord_pure (v := _) ?_ rfl ?_; rotate_left; focus (intro w; go_simp <;> (first | (with_reducible rfl) | (constructor <;> with_reducible rfl)))
      simp only [Act.put, List.setIfInBounds_toArray, List.set_cons_zero, List.set_cons_succ]
      refine' ord_pure (v := _) ?_ rfl ?_; rotate_left; focus (intro w; go_simp <;> (first | (with_reducible rfl) | (constructor <;> with_reducible rfl)))
      simp only [Act.put, List.setIfInBounds_toArray, List.set_cons_zero, List.set_cons_succ]
      refine' ord_pure (v := _) ?_ rfl ?_; rotate_left; focus (intro w; go_simp <;> (first | (with_reducible rfl) | (constructor <;> with_reducible rfl)))
      simp only [Act.put, List.setIfInBounds_toArray, List.set_cons_zero, List.set_cons_succ]
      -- 16: t_ := store <api.Block = lavabo/api.Block> t13 t82   {0,1,2,3,4,5,6,7,8,9,10,11,12,13,14,15}
      obtain ⟨w9, hst, hB9, hF9, hs9⟩ := store_all (P := Tryd.prog) hNew (sealV S1) (by rw [HLEN.out, bv_size]; rfl)
      refine' ord_skip (w' := _) ?_ trivial rfl ?_
      rotate_left 1
      focus (go_simp <;> (first | (with_reducible rfl) | (constructor <;> with_reducible rfl)))
      have hBw := hBw.fr hF9 (by simp; omega)
      have hFw := hFw.comp hF9 (by simp; omega)
      clear hst
      simp only [Act.put, List.setIfInBounds_toArray, List.set_cons_zero, List.set_cons_succ]
      refine' ord_pure (v := _) ?_ rfl ?_; rotate_left; focus (intro w; go_simp <;> (first | (with_reducible rfl) | (constructor <;> with_reducible rfl)))
      simp only [Act.put, List.setIfInBounds_toArray, List.set_cons_zero, List.set_cons_succ]
      refine ord_nil ?_
      rotate_left
      -- 15: t13 := alloc <api.Block = lavabo/api.Block>    {}
      have hVlt := hVw.blk.lt
      have hBlt := hBw.lt
      have hNlt := hFw.size
      have hNew := blk_new hFw (bv zeros64) 33
      try simp only [World.size_drew] at hVlt hBlt hNlt hNew
      refine' ord_do (v := _) (w' := _) ?_ trivial rfl ?_
      rotate_left 2
      focus (go_simp <;> (first | (with_reducible rfl) | (constructor <;> with_reducible rfl)))
      have hFw := hFw.alloc (.cells (bv zeros64) 33)
      have hVw := hVw.fr ((Fr.refl [] _).alloc (.cells (bv zeros64) 33)) (by simp)
      have hBw := hBw.alloc (.cells (bv zeros64) 33)
      simp only [Act.put, List.setIfInBounds_toArray, List.set_cons_zero, List.set_cons_succ]
      -- 10: t80 := CALL (*lavabo/field.Writer).Put(t75, t78, t79)   {5,8,9}
      refine' ord_call (f := 12) (args := _) ?_ rfl ?_; rotate_left; focus (go_simp <;> (first | (with_reducible rfl) | (constructor <;> with_reducible rfl)))
      refine (Put_all w1.heap.size (putS ([], 0) ((n : Int).tmod u) k) _ _ _ hVw).mono ?_
      rintro e w7 ⟨rfl, hVw, hFs⟩
      have hFw := hFw.comp hFs (by simp; omega)
      have hBw := hBw.fr hFs (by simp; omega)
      try have hNew := hNew.fr hFs (by simp; omega)
      refine ⟨_, rfl, trivial, ?_⟩
      simp only [Act.put, List.setIfInBounds_toArray, List.set_cons_zero, List.set_cons_succ]
      -- 11: t81 := CALL (*lavabo/field.Writer).Seal(t80)   {10}
      refine' ord_call (f := 14) (args := _) ?_ rfl ?_; rotate_left; focus (go_simp <;> (first | (with_reducible rfl) | (constructor <;> with_reducible rfl)))
      refine (Seal_all w1.heap.size (putS (putS ([], 0) ((n : Int).tmod u) k) ((n : Int).tdiv u) b) _ hVw (HH.out.keep hFw (by simp)) (putS_mem _ _ _ (putS_mem _ _ _ (by simp)))).mono ?_
      rintro e w8 ⟨rfl, hFs⟩
      rw [← HS2.out, ← HS1.out]
      have hFw := hFw.trans hFs
      have hBw := hBw.fr hFs (by simp)
      have hVw := hVw.fr hFs (by simp)
      try have hNew := hNew.fr hFs (by simp)
      refine ⟨_, rfl, trivial, ?_⟩
      simp only [Act.put, List.setIfInBounds_toArray, List.set_cons_zero, List.set_cons_succ]
      refine' ord_pure (v := _) ?_ rfl ?_; rotate_left; focus (intro w; go_simp <;> (first | (with_reducible rfl) | (constructor <;> with_reducible rfl)))
      simp only [Act.put, List.setIfInBounds_toArray, List.set_cons_zero, List.set_cons_succ]
      refine' ord_pure (v := _) ?_ rfl ?_; rotate_left; focus (intro w; go_simp <;> (first | (with_reducible rfl) | (constructor <;> with_reducible rfl)))
      simp only [Act.put, List.setIfInBounds_toArray, List.set_cons_zero, List.set_cons_succ]
      refine' ord_pure (v := _) ?_ rfl ?_; rotate_left; focus (intro w; go_simp <;> (first | (with_reducible rfl) | (constructor <;> with_reducible rfl)))
      simp only [Act.put, List.setIfInBounds_toArray, List.set_cons_zero, List.set_cons_succ]
      -- 16: t_ := store <api.Block = lavabo/api.Block> t13 t82   {0,1,2,3,4,5,6,7,8,9,10,11,12,13,14,15}
      obtain ⟨w9, hst, hB9, hF9, hs9⟩ := store_all (P := Tryd.prog) hNew (sealV S1) (by rw [HLEN.out, bv_size]; rfl)
      refine' ord_skip (w' := _) ?_ trivial rfl ?_
      rotate_left 1
      focus (go_simp <;> (first | (with_reducible rfl) | (constructor <;> with_reducible rfl)))
      have hBw := hBw.fr hF9 (by simp; omega)
      have hFw := hFw.comp hF9 (by simp; omega)
      clear hst
      simp only [Act.put, List.setIfInBounds_toArray, List.set_cons_zero, List.set_cons_succ]
      refine' ord_pure (v := _) ?_ rfl ?_; rotate_left; focus (intro w; go_simp <;> (first | (with_reducible rfl) | (constructor <;> with_reducible rfl)))
      simp only [Act.put, List.setIfInBounds_toArray, List.set_cons_zero, List.set_cons_succ]
      refine ord_nil ?_
      rotate_left
      -- 15: t13 := alloc <api.Block = lavabo/api.Block>    {}
      have hVlt := hVw.blk.lt
      have hBlt := hBw.lt
      have hNlt := hFw.size
      have hNew := blk_new hFw (bv zeros64) 33
      try simp only [World.size_drew] at hVlt hBlt hNlt hNew
      refine' ord_do (v := _) (w' := _) ?_ trivial rfl ?_
      rotate_left 2
      focus (go_simp <;> (first | (with_reducible rfl) | (constructor <;> with_reducible rfl)))
      have hFw := hFw.alloc (.cells (bv zeros64) 33)
      have hVw := hVw.fr ((Fr.refl [] _).alloc (.cells (bv zeros64) 33)) (by simp)
      have hBw := hBw.alloc (.cells (bv zeros64) 33)
      simp only [Act.put, List.setIfInBounds_toArray, List.set_cons_zero, List.set_cons_succ]
      -- 5: t75 := CALL (*lavabo/field.Writer).Put(t70, t73, t74)   {0,3,4}
      refine' ord_call (f := 12) (args := _) ?_ rfl ?_; rotate_left; focus (go_simp <;> (first | (with_reducible rfl) | (constructor <;> with_reducible rfl)))
      refine (Put_all w1.heap.size ([], 0) _ _ _ hVw).mono ?_
      rintro e w6 ⟨rfl, hVw, hFs⟩
      have hFw := hFw.comp hFs (by simp; omega)
      have hBw := hBw.fr hFs (by simp; omega)
      try have hNew := hNew.fr hFs (by simp; omega)
      refine ⟨_, rfl, trivial, ?_⟩
      simp only [Act.put, List.setIfInBounds_toArray, List.set_cons_zero, List.set_cons_succ]
      -- 10: t80 := CALL (*lavabo/field.Writer).Put(t75, t78, t79)   {5,8,9}
      refine' ord_call (f := 12) (args := _) ?_ rfl ?_; rotate_left; focus (go_simp <;> (first | (with_reducible rfl) | (constructor <;> with_reducible rfl)))
      refine (Put_all w1.heap.size (putS ([], 0) ((n : Int).tmod u) k) _ _ _ hVw).mono ?_
      rintro e w7 ⟨rfl, hVw, hFs⟩
      have hFw := hFw.comp hFs (by simp; omega)
      have hBw := hBw.fr hFs (by simp; omega)
      try have hNew := hNew.fr hFs (by simp; omega)
      refine ⟨_, rfl, trivial, ?_⟩
      simp only [Act.put, List.setIfInBounds_toArray, List.set_cons_zero, List.set_cons_succ]
      -- 11: t81 := CALL (*lavabo/field.Writer).Seal(t80)   {10}
      refine' ord_call (f := 14) (args := _) ?_ rfl ?_; rotate_left; focus (go_simp <;> (first | (with_reducible rfl) | (constructor <;> with_reducible rfl)))
      refine (Seal_all w1.heap.size (putS (putS ([], 0) ((n : Int).tmod u) k) ((n : Int).tdiv u) b) _ hVw (HH.out.keep hFw (by simp)) (putS_mem _ _ _ (putS_mem _ _ _ (by simp)))).mono ?_
      rintro e w8 ⟨rfl, hFs⟩
      rw [← HS2.out, ← HS1.out]
      have hFw := hFw.trans hFs
      have hBw := hBw.fr hFs (by simp)
      have hVw := hVw.fr hFs (by simp)
      try have hNew := hNew.fr hFs (by simp)
      refine ⟨_, rfl, trivial, ?_⟩
      simp only [Act.put, List.setIfInBounds_toArray, List.set_cons_zero, List.set_cons_succ]
      refine' ord_pure (v := _) ?_ rfl ?_; rotate_left; focus (intro w; go_simp <;> (first | (with_reducible rfl) | (constructor <;> with_reducible rfl)))
      simp only [Act.put, List.setIfInBounds_toArray, List.set_cons_zero, List.set_cons_succ]
      refine' ord_pure (v := _) ?_ rfl ?_; rotate_left; focus (intro w; go_simp <;> (first | (with_reducible rfl) | (constructor <;> with_reducible rfl)))
      simp only [Act.put, List.setIfInBounds_toArray, List.set_cons_zero, List.set_cons_succ]
      refine' ord_pure (v := _) ?_ rfl ?_; rotate_left; focus (intro w; go_simp <;> (first | (with_reducible rfl) | (constructor <;> with_reducible rfl)))
      simp only [Act.put, List.setIfInBounds_toArray, List.set_cons_zero, List.set_cons_succ]
      -- 16: t_ := store <api.Block = lavabo/api.Block> t13 t82   {0,1,2,3,4,5,6,7,8,9,10,11,12,13,14,15}
      obtain ⟨w9, hst, hB9, hF9, hs9⟩ := store_all (P := Tryd.prog) hNew (sealV S1) (by rw [HLEN.out, bv_size]; rfl)
      refine' ord_skip (w' := _) ?_ trivial rfl ?_
      rotate_left 1
      focus (go_simp <;> (first | (with_reducible rfl) | (constructor <;> with_reducible rfl)))
      have hBw := hBw.fr hF9 (by simp; omega)
      have hFw := hFw.comp hF9 (by simp; omega)
      clear hst
      simp only [Act.put, List.setIfInBounds_toArray, List.set_cons_zero, List.set_cons_succ]
      refine' ord_pure (v := _) ?_ rfl ?_; rotate_left; focus (intro w; go_simp <;> (first | (with_reducible rfl) | (constructor <;> with_reducible rfl)))
      simp only [Act.put, List.setIfInBounds_toArray, List.set_cons_zero, List.set_cons_succ]
      refine ord_nil ?_
      all_goals
        have HB9 := Lib.hid hB9
        have HBW := Lib.hid hBw
        have HFW := Lib.hid hFw
        have hq := eql_blocks (sealV S1) (sealV S1) HLEN.out HLEN.out
        simp only [decide_true] at hq
        have hg := guard_eql_blocks
        clear hB9 hBw hFw hVw hNew hF9 hs9 hVlt hBlt hNlt hqq
        go_wp2_with (first
          | (refine wpList_load_bv rfl 33 _ rfl _ 0 rfl (sealV S1) (range_bv HBW.out) Tryd.underlying33 HII.out HLEN.out ?_)
          | (refine wpList_load_bv rfl 33 _ rfl _ 0 rfl (sealV S1) (range_bv HB9.out) Tryd.underlying33 HII.out HLEN.out ?_))
        refine (awake_any w9 (HH.out.keep HFW.out (by simp))).mono ?_
        rintro e w10 ⟨rfl, hF10⟩
        have hFF := HFW.out.trans hF10
        go_wp2_with fail
        go_ret
        exact ⟨rfl, hFF⟩
end Go.Proofs.YtifafnmbcmhlcaaDoor
