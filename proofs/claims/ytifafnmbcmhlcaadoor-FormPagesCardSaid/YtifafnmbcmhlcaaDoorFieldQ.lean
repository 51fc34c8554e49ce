/- Contracts of the references of layers 1 and 4: sums and numbers. -/
import Derived.Test.YtifafnmbcmhlcaaDoorFieldN
namespace Go.Proofs.YtifafnmbcmhlcaaDoor
open Go.RowKit Go.Shelf

theorem xor_poly (s : Nat) (h : s < 4294967296) : bits .xor .i64 (((s / 2 : Nat)) : Int) 2197175160 = (((s / 2) ^^^ poly : Nat) : Int) := by
  have := bits_xor_i64 (s / 2) 2197175160 (by omega) (by omega)
  exact this
theorem refStep_any (s b : Nat) (w : World) (hs : s < 4294967296) (hb : b < 2) :
    Calls Tryd.prog 65 #[.int .i64 s, .int .i64 b] w fun e w' => e = .returned (.int .i64 (refStep s b : Nat)) ∧ w = w' := by
  have hx := xor_poly s hs
  have h1 : ((s : Int).tmod 2) = ((s % 2 : Nat) : Int) := by rw [Int.tmod_eq_emod_of_nonneg (by omega)]; omega
  have h2 : ((s : Int).tdiv 2) = ((s / 2 : Nat) : Int) := by rw [Int.tdiv_eq_ediv_of_nonneg (by omega)]; omega
  have HX := Lib.hid hx
  by_cases hc : (s % 2 + b) % 2 = 1
  · rw [show refStep s b = (s / 2) ^^^ poly by simp [refStep, hc]]
    have h3 : (((s : Int) % 2 + (b : Int)) % 2) = 1 := by omega
    go_enter Tryd.func65, Tryd.ntmps65
    go_wp2
    rw [show ((s : Int) / 2) = ((s / 2 : Nat) : Int) by omega, HX.out]
    go_ret
    exact ⟨rfl, rfl⟩
  · rw [show refStep s b = s / 2 by unfold refStep; rw [if_neg hc]]
    have h3 : ¬ (((s : Int) % 2 + (b : Int)) % 2) = 1 := by omega
    go_enter Tryd.func65, Tryd.ntmps65
    go_wp2
    rw [show ((s : Int) / 2) = ((s / 2 : Nat) : Int) by omega]
    go_ret
    exact ⟨rfl, rfl⟩

theorem refStep_lt (s b : Nat) (hs : s < 4294967296) (hb : b < 2) : refStep s b < 4294967296 := by
  rw [refStep_eq s b hb]
  exact stepB_lt _ (xor_lt32 s b hs (by omega))
theorem refBits8 (s x : Nat) (hx : x < 256) : refBits 8 s x = nextB s x := by rw [refBits_eq 8 s x (by simpa using hx), nextB_steps]
theorem refGo_any (c o cap : Nat) (l : List Nat) (s : Nat) (w : World) (hB : BytesAt w c o l) (hc : c < w.heap.size) (hl : ∀ x, x ∈ l → x < 256) (hs : s < 4294967296) (h60 : l.length ≤ 100) :
    Calls Tryd.prog 53 #[.int .i64 s, .slice (some ⟨c, o, none⟩) l.length cap] w fun e w' => e = .returned (.int .i64 (crcF s l : Nat)) ∧ w = w' := by
  have HB := Lib.hid hB
  have HL := Lib.hid hl
  obtain ⟨n, hn⟩ : ∃ n, n = l.length := ⟨_, rfl⟩
  rw [← hn] at h60 ⊢
  have HN := Lib.hid hn
  clear hB hl hn
  go_enter Tryd.func53, Tryd.ntmps53
  go_wp2_with fail
  go_loopw [0, 5] (fun t i wr => ∃ k : Nat, k ≤ n ∧ i = .int .i64 k ∧ t = .int .i64 (crcF s (l.take k) : Nat) ∧ wr = w) (fun _ i _ => n - (intOf i).toNat)
  case atStart => exact ⟨0, Nat.zero_le _, rfl, rfl, rfl⟩
  case round =>
    obtain ⟨k, hk, rfl, rfl, rfl⟩ := hrel
    by_cases hlt : k < n
    · have hlt' : k < l.length := by rw [← HN.out]; exact hlt
      have c0 := HB.out k hlt'
      have hx := HL.out _ (List.getElem_mem hlt')
      have hsk : crcF s (l.take k) < 4294967296 := crcF_lt _ s hs (fun x hx => HL.out x (List.mem_of_mem_take hx))
      have HS := Lib.hid (show crcF s (l.take (k + 1)) = nextB (crcF s (l.take k)) l[k] by rw [List.take_succ_eq_append_getElem hlt', crcF_snoc])
      generalize l[k] = x at c0 hx HS
      generalize crcF s (l.take k) = sk at hsk HS ⊢
      have HR := Lib.hid (refBits8 sk x hx)
      clear hlt'
      go_wp2_with fail
      go_loopw [0, 6, 7] (fun t m i wr' => ∃ (q : Nat) (s' n' : Nat), q ≤ 8 ∧ i = .int .i64 q ∧ t = .int .i64 s' ∧ m = .int .i64 n' ∧ refBits (8 - q) s' n' = refBits 8 sk x ∧ s' < 4294967296 ∧ n' < 256 ∧ wr' = wr) (fun _ _ i _ => 8 - (intOf i).toNat)
      case atStart => exact ⟨0, sk, x, by omega, rfl, rfl, rfl, rfl, hsk, hx, rfl⟩
      case round =>
        obtain ⟨q, s', n', hq, rfl, rfl, rfl, hr, hs', hn', rfl⟩ := hrel
        have HRB := Lib.hid hr
        clear hr
        by_cases hql : q < 8
        · have hc := refStep_any s' (n' % 2) wr hs' (by omega)
          rw [show ((n' % 2 : Nat) : Int) = (n' : Int) % 2 by omega] at hc
          have HC := Lib.hid hc
          clear hc
          go_wp2_with fail
          refine HC.out.mono ?_
          rintro e w' ⟨rfl, rfl⟩
          go_wp2_with fail
          go_roundw
          case rel =>
            refine ⟨q + 1, refStep s' (n' % 2), n' / 2, by omega, by go_num, rfl, by rw [show ((n' / 2 : Nat) : Int) = (n' : Int) / 2 by omega], ?_, refStep_lt _ _ hs' (by omega), by omega, trivial⟩
            rw [← HRB.out, show 8 - q = (8 - (q + 1)) + 1 by omega]
            rfl
          case measure => simp [intOf]; omega
        · obtain rfl : q = 8 := by omega
          have HV := Lib.hid (show s' = nextB sk x by rw [← HR.out, ← HRB.out]; rfl)
          go_wp2_with fail
          go_roundw
          case rel => exact ⟨k + 1, by omega, by go_num, by rw [HS.out, ← HV.out], trivial⟩
          case measure => simp [intOf]; omega
    · obtain rfl : k = n := by omega
      go_wp2_with fail
      go_ret
      exact ⟨by rw [HN.out, List.take_length]; rfl, rfl⟩
theorem refSum_any (c o cap : Nat) (l : List Nat) (w : World) (hB : BytesAt w c o l) (hc : c < w.heap.size) (hl : ∀ x, x ∈ l → x < 256) (h60 : l.length ≤ 100) :
    Calls Tryd.prog 34 #[.slice (some ⟨c, o, none⟩) l.length cap] w fun e w' => e = .returned (.int .i64 (crc l : Nat)) ∧ w = w' := by
  have hg := refGo_any c o cap l all32 w hB hc hl (by decide) h60
  have hlt := crcF_lt l all32 (by decide) hl
  have he := crc_eq l hl
  rw [show ((all32 : Nat) : Int) = 4294967295 from rfl] at hg
  have HE := Lib.hid (show ((crc l : Nat) : Int) = 4294967295 - ((crcF all32 l : Nat) : Int) by rw [he]; unfold all32 at hlt ⊢; omega)
  have HG := Lib.hid hg
  clear hg he hB hl
  generalize crcF all32 l = y at hlt HE HG
  generalize crc l = z at HE ⊢
  go_enter Tryd.func34, Tryd.ntmps34
  go_wp2_with fail
  refine HG.out.mono ?_
  rintro e w' ⟨rfl, rfl⟩
  go_wp2_with fail
  go_ret
  exact ⟨by rw [HE.out]; rfl, rfl⟩
/-- the number of up to six bytes -/
theorem refNumber_any (c o cap : Nat) (l : List Nat) (w : World) (hB : BytesAt w c o l) (hl : ∀ x, x ∈ l → x < 256) (h7 : l.length ≤ 6) :
    Calls Tryd.prog 35 #[.slice (some ⟨c, o, none⟩) l.length cap] w fun e w' => e = .returned (.int .i64 (numOf l : Nat)) ∧ w = w' := by
  have HB := Lib.hid hB
  have HL := Lib.hid hl
  obtain ⟨n, hn⟩ : ∃ n, n = l.length := ⟨_, rfl⟩
  rw [← hn] at h7 ⊢
  have HN := Lib.hid hn
  have HD := Lib.hid (show numOf (l.drop n) = 0 by rw [hn, List.drop_length]; rfl)
  clear hB hl hn
  go_enter Tryd.func35, Tryd.ntmps35
  go_wp2_with fail
  go_loopw [3, 4] (fun t i wr => ∃ k : Nat, k ≤ n ∧ i = .int .i64 ((k : Int) - 1) ∧ t = .int .i64 (numOf (l.drop k) : Nat) ∧ wr = w) (fun _ i _ => (intOf i + 1).toNat)
  case atStart => exact ⟨n, Nat.le_refl _, rfl, by rw [HD.out]; rfl, rfl⟩
  case round =>
    obtain ⟨k, hk, rfl, rfl, rfl⟩ := hrel
    by_cases hlt : 0 < k
    · obtain ⟨j, rfl⟩ : ∃ j, k = j + 1 := ⟨k - 1, by omega⟩
      have hlt' : j < l.length := by rw [← HN.out]; omega
      have c0 := HB.out j hlt'
      have hx := HL.out _ (List.getElem_mem hlt')
      have HS := Lib.hid (show numOf (l.drop j) = l[j] + 256 * numOf (l.drop (j + 1)) by rw [List.drop_eq_getElem_cons hlt', numOf])
      have hlt2 := numOf_lt (l.drop (j + 1)) (fun x hx => HL.out x (List.mem_of_mem_drop hx))
      have hpw : 2 ^ (8 * (l.drop (j + 1)).length) ≤ 1099511627776 := (Nat.pow_le_pow_right (by omega) (by simp; rw [← HN.out]; omega) : _ ≤ 2 ^ 40)
      have hlt3 : numOf (l.drop (j + 1)) < 1099511627776 := Nat.lt_of_lt_of_le hlt2 hpw
      generalize l[j] = x at c0 hx HS
      generalize numOf (l.drop (j + 1)) = y at hlt3 HS ⊢
      rw [show (((j + 1 : Nat)) : Int) - 1 = (j : Int) by omega]
      clear hlt' hlt2 hpw
      go_wp2_with fail
      go_roundw
      case rel => exact ⟨j, by omega, rfl, by rw [HS.out]; go_num, trivial⟩
      case measure => simp [intOf]
    · obtain rfl : k = 0 := by omega
      go_wp2_with fail
      go_ret
      exact ⟨rfl, rfl⟩

theorem refSealed_any (l : List Nat) (w : World) (hl : l.length = 64) (hb : ∀ x, x ∈ l → x < 256) :
    Calls Tryd.prog 16 #[.agg (bv l)] w fun e w' => e = .returned (.bool (decide (crc (l.take 60) = numOf (l.drop 60)))) ∧ Fr [] w w' := by
  have hB := Blk.new w (bv l) 33
  have hB1 := (bv_bytes hB 0 60).fr ((Fr.refl [] _).drew) (by simp) (by simp)
  have hB2 := (bv_bytes hB 60 4).fr ((Fr.refl [] _).drew) (by simp) (by simp)
  rw [List.drop_zero] at hB1
  rw [List.take_of_length_le (by simp [hl])] at hB2
  have h1 : (l.take 60).length = 60 := by simp [hl]
  have h2 : (l.drop 60).length = 4 := by simp [hl]
  have hs := refSum_any w.heap.size 0 64 (l.take 60) _ hB1 (by simp) (fun x hx => hb x (List.mem_of_mem_take hx)) (by omega)
  have hn := refNumber_any w.heap.size 60 4 (l.drop 60) _ hB2 (fun x hx => hb x (List.mem_of_mem_drop hx)) (by omega)
  rw [h1] at hs
  rw [h2] at hn
  have hsz : (bv l).size = 64 := by rw [bv_size, hl]
  have HS := Lib.hid hs
  have HN := Lib.hid hn
  clear hs hn hB hB1 hB2 h1 h2 hb hl
  generalize crc (l.take 60) = x at HS ⊢
  generalize numOf (l.drop 60) = y at HN ⊢
  go_enter Tryd.func16, Tryd.ntmps16
  go_wp2_with fail
  go_region_with (first | (go_at_call 34; refine HS.out.mono ?_; rintro e w1 ⟨rfl, rfl⟩) | (go_at_call 35; refine HN.out.mono ?_; rintro e w1 ⟨rfl, rfl⟩))
  all_goals
    go_wp2_with fail
    go_ret
    refine ⟨?_, ((Fr.refl _ _).alloc _).drew⟩
    have hxy : ((x : Int) == (y : Int)) = decide (x = y) := by
      by_cases h : x = y
      · simp [h]
      · rw [decide_eq_false h]; exact beq_eq_false_iff_ne.2 (by omega)
    rw [← hxy]
    rfl
end Go.Proofs.YtifafnmbcmhlcaaDoor
