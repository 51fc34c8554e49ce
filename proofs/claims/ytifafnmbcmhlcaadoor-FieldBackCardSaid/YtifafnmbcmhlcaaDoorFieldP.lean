/- FieldBack: the walk. -/
import Derived.Test.YtifafnmbcmhlcaaDoorFieldO
namespace Go.Proofs.YtifafnmbcmhlcaaDoor
open Go.RowKit Go.Shelf

theorem threeV_sl (l : List Nat) (sl : Value) (hl : l.length = 64) : (threeV l sl)[64]? = some sl := by
  simp [threeV, u8s, List.getElem?_append, hl]
theorem threeV_b (l : List Nat) (sl : Value) : ∀ (j : Nat) (v : Value), (u8s l)[j]? = some v → (threeV l sl)[0 + j]? = some v := by
  intro j v hj
  have hj' := (List.getElem?_eq_some_iff.1 hj).1
  rw [Nat.zero_add]
  simp only [threeV, List.getElem?_toArray]
  rw [List.getElem?_append_left hj']
  exact hj

set_option maxRecDepth 100000 in
set_option maxHeartbeats 1000000 in
theorem FieldBack_long (oa ob : Option Addr) (len cap m cap2 : Nat) (l : List Nat) (w : World) (hH : Halves w) (hl : l.length = 64) (h30 : 30 < len ∨ ¬ 30 < len ∧ 30 < m) :
    Calls Tryd.prog 7 #[.slice oa len cap, .agg (threeV l (.slice ob m cap2))] w fun e w' => e = .returned (.bool true) ∧ Fr [] w w' := by
  have HH := Lib.hid hH
  have hT0 := Blk.new w (threeV l (.slice ob m cap2)) 48
  have hsl := threeV_sl l (.slice ob m cap2) hl
  clear hH
  generalize threeV l (.slice ob m cap2) = tv at hT0 hsl ⊢
  go_enter Tryd.func7, Tryd.ntmps7
  go_wp2_with fail
  refine (Write_any _).mono ?_
  rintro e w1 ⟨rfl, hW1, hF1⟩
  have hF01 : Fr [] w w1 := ((Fr.refl [] w).alloc _).comp hF1 (by simp)
  have k0 := (hT0.fr hF1 (by simp)).cell hsl
  clear hT0 hsl hW1 hF1
  rcases h30 with h | ⟨h, h'⟩
  · go_wp2_with fail
    refine (awake_any w1 (HH.out.keep hF01 (by simp))).mono ?_
    rintro e w2 ⟨rfl, hF2⟩
    go_wp2_with fail
    go_ret
    exact ⟨rfl, hF01.trans hF2⟩
  · go_wp2_with fail
    refine (awake_any w1 (HH.out.keep hF01 (by simp))).mono ?_
    rintro e w2 ⟨rfl, hF2⟩
    go_wp2_with fail
    go_ret
    exact ⟨rfl, hF01.trans hF2⟩

set_option maxRecDepth 100000 in
set_option maxHeartbeats 2000000 in
theorem FieldBack_in (oa ob : Option Addr) (cap cap2 : Nat) (ps : List (Int × Int)) (ns : List Int) (l : List Nat) (w : World) (hH : Halves w) (hP : IsPairs w oa ps) (hI : IsInts w ob ns) (hl : l.length = 64) (hb : ∀ x, x ∈ l → x < 256)
    (h30 : ps.length ≤ 30) (hn30 : ns.length ≤ 30) :
    Calls Tryd.prog 7 #[.slice oa ps.length cap, .agg (threeV l (.slice ob ns.length cap2))] w fun e w' => e = .returned (.bool true) ∧ Fr [] w w' := by
  have hz : ∀ w, (zeroValue 33).run Tryd.prog w = .ok (.agg (bv zeros64)) w := fun _ => by kernel_rfl
  have HH := Lib.hid hH
  have HP := Lib.hid hP
  have HI := Lib.hid hI
  have HB := Lib.hid hb
  have HLL := Lib.hid hl
  have HII := Lib.hid (show (Tryd.prog.info? 33).map (·.size) = some 64 by kernel_rfl)
  obtain ⟨n, hn⟩ : ∃ n, n = ps.length := ⟨_, rfl⟩
  obtain ⟨m, hm⟩ : ∃ m, m = ns.length := ⟨_, rfl⟩
  rw [← hn] at h30 ⊢
  rw [← hm] at hn30 ⊢
  have HN := Lib.hid hn
  have HM := Lib.hid hm
  have hT0 := Blk.new w (threeV l (.slice ob m cap2)) 48
  have hsl := threeV_sl l (.slice ob m cap2) hl
  have htb := threeV_b l (.slice ob m cap2)
  have hq := eql_blocks l l hl hl
  simp only [decide_true] at hq
  have hg := guard_eql_blocks
  have hsl64 : (bv l).size = 64 := by rw [bv_size, hl]
  clear hH hP hI hb hl hn hm
  generalize threeV l (.slice ob m cap2) = tv at hT0 hsl htb ⊢
  have HSL := Lib.hid hsl
  have HTB := Lib.hid htb
  clear htb
  go_enter Tryd.func7, Tryd.ntmps7
  go_wp2_with fail
  refine (Write_any _).mono ?_
  rintro e w1 ⟨rfl, hW1, hF1⟩
  have hF01 : Fr [] w w1 := ((Fr.refl [] w).alloc _).comp hF1 (by simp)
  have hT1 := hT0.fr hF1 (by simp)
  have k0 := hT1.cell hsl
  have hsz1 := hF1.size
  rw [World.size_alloc] at hW1 hsz1
  have HT1 := Lib.hid hT1
  have HW1 := Lib.hid hW1
  have hn30' : ¬ 30 < n := by omega
  have hm30' : ¬ 30 < m := by omega
  clear hT0 hsl hW1 hF1 hT1
  go_wp2_with fail
  go_loopw [6] (fun i wr => ∃ k : Nat, k ≤ n ∧ i = .int .i64 k ∧ IsWriter wr (w.heap.size + 1) (putN ps k).1 (putN ps k).2 ∧ Fr [w.heap.size + 1] w1 wr) (fun i _ => n - (intOf i).toNat)
  case atStart => exact ⟨0, Nat.zero_le _, rfl, HW1.out, Fr.refl _ _⟩
  case round =>
    obtain ⟨k, hk, rfl, hW, hF⟩ := hrel
    have HW := Lib.hid hW
    have hFw : Fr [] w wr := hF01.comp hF (by simp)
    clear hW
    by_cases hlt : k < n
    · have hlt' : k < ps.length := by rw [← HN.out]; exact hlt
      obtain ⟨ab, off, hoa, c0, c1⟩ := HP.out k hlt'
      have hab := cell_lt c0
      have k1 := (hFw.cell _ (cell_lt c0) (by simp)).trans c0
      have k2 := (hFw.cell _ (cell_lt c1) (by simp)).trans c1
      have HS := Lib.hid (putN_succ ps k hlt')
      have HCALL := Lib.hid (Put_all (w.heap.size + 1) (putN ps k) ps[k].1 ps[k].2 wr.drew (HW.out.fr (Fr.refl [] wr).drew (by simp)))
      have hsz := hFw.size
      generalize ps[k].1 = x at k1 HCALL HS
      generalize ps[k].2 = y at k2 HCALL HS
      rw [hoa]
      clear c0 c1 hoa hlt'
      go_wp2_with fail
      go_region_held3 (fun w' => w'.cell? ⟨ab, off + k * 2, none⟩ = some (.int .i64 x) ∧ w'.cell? ⟨ab, off + k * 2 + 1, none⟩ = some (.int .i64 y))
        (first | exact ⟨k1, k2⟩ | exact ⟨j1, j2⟩)
        (first | (go_at_call 12; refine HCALL.out.mono ?_; rintro e w4 ⟨rfl, hW4, hF4⟩; have j1 := (hF4.cell ⟨ab, off + k * 2, none⟩ (by simp; omega) (by simp; omega)).trans k1; have j2 := (hF4.cell ⟨ab, off + k * 2 + 1, none⟩ (by simp; omega) (by simp; omega)).trans k2))
      all_goals
        go_wp2
        go_roundw
        case rel => exact ⟨k + 1, by omega, by go_num, by rw [HS.out]; exact hW4, (hF.drew).trans hF4⟩
        case measure => simp [intOf]; omega
    · obtain rfl : k = n := by omega
      go_wp2_with fail
      have hmem := putN_mem ps k (by rw [← HN.out]; exact Nat.le_refl _)
      refine (Seal_all (w.heap.size + 1) (putN ps k) wr HW.out (HH.out.keep hFw (by simp)) hmem).mono ?_
      rintro e w2 ⟨rfl, hF2⟩
      have hlen := sealV_len (putN ps k) HW.out.len
      have HMEM := Lib.hid (sealV_mem (putN ps k) hmem)
      have HSE := Lib.hid (fun (h : (putN ps k).2 = 0) => show sealV (putN ps k) = sealed (putN ps k).1 by rw [sealV, if_pos h])
      generalize sealV (putN ps k) = B at hlen HMEM HSE ⊢
      obtain ⟨ee, hee⟩ : ∃ ee, ee = (putN ps k).2 := ⟨_, rfl⟩
      rw [← hee] at HSE ⊢
      have HEE := Lib.hid hee
      have hsz : (bv B).size = 64 := by rw [bv_size, hlen]
      obtain ⟨w3, hst, hB3, hF3, hs3⟩ := store_all (P := Tryd.prog) (Blk.new w2 (bv zeros64) 33) B (by rw [hlen, bv_size]; rfl)
      have hszw := hFw.size
      have hsz2 := hF2.size
      have hszr := hF.size
      have HT3 := Lib.hid ((((HT1.out.fr hF (by simp)).fr hF2 (by simp)).alloc (.cells (bv zeros64) 33)).fr hF3 (by simp; omega))
      have hF03 : Fr [] w w3 := ((hFw.trans hF2).alloc _).comp hF3 (by simp; omega)
      have HW3 := Lib.hid (HW.out.len)
      have HR3 := Lib.hid (range_bv hB3)
      have HLEN := Lib.hid hlen
      clear hee hlen hmem hB3 hF3 hF2 k0 HT1 HW1 hF
      go_upto_if 59 with fail
      go_cut [] (fun wr' => ∃ w4, w4 = wr' ∧ Fr [] w3 w4)
      case first =>
        by_cases he : ee = 0
        · subst he
          have hse := Lib.hid (HSE.out rfl)
          go_wp2_with (refine wpList_load_bv rfl 33 _ rfl w2.heap.size 0 rfl B HR3.out Tryd.underlying33 HII.out HLEN.out ?_)
          refine (Read_any B w3 HLEN.out HMEM.out).mono ?_
          rintro e w5 ⟨rb, rfl, hR5, hF5, hge⟩
          have HR5 := Lib.hid hR5
          have HB5 := Lib.hid (hF5.range HR3.out (by rw [hs3]; simp) (by simp))
          have hs5 := hF5.size
          clear hR5
          go_wp2_with (refine wpList_load_bvg (by rfl) 33 _ rfl w2.heap.size 0 rfl B HB5.out Tryd.underlying33 HII.out HLEN.out ?_)
          refine (Sealed_any B w5 (HH.out.keep (hF03.trans hF5) (by simp)) HLEN.out HMEM.out).mono ?_
          rintro e w6 ⟨rfl, hF6⟩
          rw [show isSealed B = true by rw [hse.out]; exact isSealed_sealed _ HW3.out, if_pos rfl]
          have HR6 := Lib.hid (HR5.out.fr hF6 (by simp))
          have hs6 := hF6.size
          have hF36 := hF5.trans hF6
          clear hF5 hF6
          go_wp2_with fail
          go_loopw [10] (fun i wr => ∃ j : Nat, j ≤ k ∧ i = .int .i64 j ∧ IsReader wr rb B (putN ps j).1.length 0 ∧ Fr [rb] w6 wr) (fun i _ => k - (intOf i).toNat)
          case atStart => exact ⟨0, Nat.zero_le _, rfl, HR6.out, Fr.refl _ _⟩
          case round =>
            obtain ⟨j, hj, rfl, hR, hF⟩ := hrel
            have HR := Lib.hid hR
            have hF3w : Fr [] w3 wr := hF36.comp hF (by simp; omega)
            have hF0w : Fr [] w wr := hF03.trans hF3w
            have hszj := hF0w.size
            have hszk := hF03.size
            clear hR
            by_cases hlt : j < k
            · have hlt' : j < ps.length := by rw [← HN.out]; exact hlt
              obtain ⟨ab, off, hoa, c0, c1⟩ := HP.out j hlt'
              have hab := cell_lt c0
              have k1 := (hF0w.cell _ (cell_lt c0) (by simp)).trans c0
              have k2 := (hF0w.cell _ (cell_lt c1) (by simp)).trans c1
              obtain ⟨t1, t2⟩ := take_back ps j hlt' (by rw [← HN.out]; exact HEE.out.symm)
              have hcall := Take_all rb B ((putN ps j).1.length, 0) ps[j].2 wr.drew (HR.out.fr (Fr.refl [] wr).drew (by simp))
              rw [hse.out, HN.out, t1, t2, ← HN.out, ← hse.out] at hcall
              have HCALL := Lib.hid hcall
              clear hcall t1 t2
              generalize ps[j].1 = x at k1 HCALL
              generalize ps[j].2 = y at k2 HCALL
              rw [hoa]
              clear c0 c1 hoa hlt'
              go_wp2_with fail
              go_region_held3 (fun w' => w'.cell? ⟨ab, off + j * 2, none⟩ = some (.int .i64 x) ∧ w'.cell? ⟨ab, off + j * 2 + 1, none⟩ = some (.int .i64 y))
                (first | exact ⟨k1, k2⟩ | exact ⟨j1, j2⟩)
                (first | (go_at_call 18; refine HCALL.out.mono ?_; rintro e w4 ⟨rfl, hR4, hF4⟩; have j1 := (hF4.cell ⟨ab, off + j * 2, none⟩ (by simp; omega) (by simp; omega)).trans k1; have j2 := (hF4.cell ⟨ab, off + j * 2 + 1, none⟩ (by simp; omega) (by simp; omega)).trans k2))
              all_goals
                go_wp2
                go_roundw
                case rel => exact ⟨j + 1, by omega, by go_num, hR4, (hF.drew).trans hF4⟩
                case measure => simp [intOf]; omega
            · obtain rfl : j = k := by omega
              go_wp2_with fail
              have hend := end_back (putN ps j).1 HW3.out
              have hE := End_all rb B ((putN ps j).1.length, 0) wr HR.out
              rw [show endV B ((putN ps j).1.length, 0) = 0 by rw [hse.out]; exact hend] at hE
              refine hE.mono ?_
              rintro e w7 ⟨rfl, hF7⟩
              go_wp2_with fail
              go_meet
              exact ⟨_, rfl, hF3w.trans hF7⟩
        · go_wp2_with fail
          go_meet
          exact ⟨_, rfl, Fr.refl _ _⟩
      case rest =>
        obtain ⟨w4, rfl, hF4⟩ := hcut
        have hF04 := hF03.trans hF4
        have hs4 := hF04.size
        have HT4 := Lib.hid (HT3.out.fr hF4 (by simp))
        have HRA := Lib.hid (HT4.out.range 0 (u8s l) HTB.out)
        have hT4lt := HT4.out.lt
        clear hst hs3 hsz2 hszr hF4
        go_wp2_with (refine wpList_load_bv rfl 33 _ rfl w.heap.size 0 rfl l HRA.out Tryd.underlying33 HII.out HLL.out ?_)
        refine (Read_any l w4 HLL.out HB.out).mono ?_
        rintro e w5 ⟨rb, rfl, hR5, hF5, hge5⟩
        have HR5 := Lib.hid hR5
        have hs5 := hF5.size
        have hrb := hR5.blk.lt
        clear hR5
        go_wp2_with fail
        refine (Write_any w5).mono ?_
        rintro e w6 ⟨rfl, hW6, hF6⟩
        have HR6 := Lib.hid (HR5.out.fr hF6 (by simp))
        have HW6 := Lib.hid hW6
        have hs6 := hF6.size
        have hF46 := hF5.trans hF6
        have hd : ¬ rb = w5.heap.size := by omega
        clear hW6 hF5 hF6
        go_wp2_with fail
        go_loopw [13] (fun i wr => ∃ j : Nat, j ≤ m ∧ i = .int .i64 j ∧ (∃ (r : Nat × Int) (s : List Nat × Int), IsReader wr rb l r.1 r.2 ∧ IsWriter wr w5.heap.size s.1 s.2 ∧ (∀ x, x ∈ s.1 → x < 256) ∧ (r.2 = 0 → r.1 ≤ 60 ∧ s = (l.take r.1, 0))) ∧ Fr [rb, w5.heap.size] w6 wr) (fun i _ => m - (intOf i).toNat)
        case atStart => exact ⟨0, Nat.zero_le _, rfl, ⟨(0, 0), ([], 0), HR6.out, HW6.out, by simp, by simp⟩, Fr.refl _ _⟩
        case round =>
          obtain ⟨j, hj, rfl, ⟨r, s, hR, hW, hsm, hrel0⟩, hF⟩ := hrel
          have HR := Lib.hid hR
          have HW := Lib.hid hW
          have HSM := Lib.hid hsm
          have HREL := Lib.hid hrel0
          have hF4w : Fr [] w4 wr := hF46.comp hF (by simp; omega)
          have hF0w : Fr [] w wr := hF04.trans hF4w
          have hs4w := hF4w.size
          have hszj := hF0w.size
          have kt := (HT4.out.fr hF4w (by simp)).cell HSL.out
          clear hR hW hsm hrel0
          by_cases hlt : j < m
          · have hlt' : j < ns.length := by rw [← HM.out]; exact hlt
            obtain ⟨ab, off, hob, c0⟩ := HI.out j hlt'
            have hab := cell_lt c0
            have k1 := (hF0w.cell _ (cell_lt c0) (by simp)).trans c0
            have HCALL := Lib.hid (Take_all rb l r ns[j] wr.drew (HR.out.fr (Fr.refl [] wr).drew (by simp)))
            have HCALL2 := Lib.hid (fun (w7 : World) (hF7 : Fr [rb] wr.drew w7) => Put_all w5.heap.size s (takeV l r ns[j]) ns[j] w7 ((HW.out.fr (Fr.refl [] wr).drew (by simp)).fr hF7 (by simp; omega)))
            have HSTEP := Lib.hid (fun (h0 : (takeS r (ns[j]'hlt')).2 = 0) => step_again l r s ns[j] HLL.out HB.out HREL.out h0)
            generalize ns[j] = y at k1 HCALL HCALL2 HSTEP
            rw [hob] at kt
            clear c0 hob hlt'
            go_wp2_with fail
            go_region_held3 (fun w' => w'.cell? ⟨w.heap.size, 64, none⟩ = some (.slice (some ⟨ab, off, none⟩) m cap2) ∧ w'.cell? ⟨ab, off + j, none⟩ = some (.int .i64 y))
              (first | exact ⟨kt, k1⟩ | exact ⟨j1, j2⟩ | exact ⟨j3, j4⟩)
              (first
                | (go_at_call 18; refine HCALL.out.mono ?_; rintro e w7 ⟨rfl, hR7, hF7⟩; have hs7 := hF7.size; have j1 := (hF7.cell ⟨w.heap.size, 64, none⟩ (by simp; omega) (by simp; omega)).trans kt; have j2 := (hF7.cell ⟨ab, off + j, none⟩ (by simp; omega) (by simp; omega)).trans k1)
                | (go_at_call 12; refine (HCALL2.out _ hF7).mono ?_; rintro e w8 ⟨rfl, hW8, hF8⟩; have j3 := (hF8.cell ⟨w.heap.size, 64, none⟩ (by simp at *; omega) (by simp; omega)).trans j1; have j4 := (hF8.cell ⟨ab, off + j, none⟩ (by simp at *; omega) (by simp; omega)).trans j2))
            all_goals
              go_wp2
              go_roundw
              case rel => exact ⟨j + 1, by omega, by go_num, ⟨takeS r y, putS s (takeV l r y) y, hR7.fr hF8 (by simp; omega), hW8, putS_mem _ _ _ HSM.out, fun h0 => HSTEP.out h0⟩, ((hF.drew).trans (hF7.sub (by simp))).trans (hF8.sub (by simp))⟩
              case measure => simp [intOf]; omega
          · obtain rfl : j = m := by omega
            go_wp2_with fail
            refine (End_all rb l r wr HR.out).mono ?_
            rintro e w7 ⟨rfl, hF7⟩
            have hF07 := hF0w.trans hF7
            have HW7 := Lib.hid (HW.out.fr hF7 (by simp))
            have HT7 := Lib.hid ((HT4.out.fr hF4w (by simp)).fr hF7 (by simp))
            have HRA7 := Lib.hid (HT7.out.range 0 (u8s l) HTB.out)
            by_cases hend : endV l r = 0
            · rw [hend]
              go_wp2_with (refine wpList_load_bvg (by rfl) 33 _ rfl w.heap.size 0 rfl l HRA7.out Tryd.underlying33 HII.out HLL.out ?_)
              refine (Sealed_any l w7 (HH.out.keep hF07 (by simp)) HLL.out HB.out).mono ?_
              rintro e w8 ⟨rfl, hF8⟩
              have hF08 := hF07.trans hF8
              cases hS : isSealed l
              · rw [if_neg (by simp)]
                go_wp2_with fail
                refine (awake_any w8 (HH.out.keep hF08 (by simp))).mono ?_
                rintro e w9 ⟨rfl, hF9⟩
                go_wp2_with fail
                go_ret
                exact ⟨rfl, hF08.trans hF9⟩
              · rw [if_pos rfl]
                have hr0 : r.2 = 0 := by
                  unfold endV at hend
                  split at hend
                  · assumption
                  · exact hend
                obtain ⟨hr60, hs⟩ := HREL.out hr0
                rw [endV, if_pos hr0] at hend
                have hback := back_again l r.1 HLL.out hr60 hend hS
                subst hs
                have HBK := Lib.hid hback
                have HW8 := Lib.hid (HW7.out.fr hF8 (by simp))
                clear hend hS hr0 hback
                go_wp2_with fail
                refine (Seal_all w5.heap.size (l.take r.1, 0) w8 HW8.out (HH.out.keep hF08 (by simp)) HSM.out).mono ?_
                rintro e w9 ⟨rfl, hF9⟩
                rw [show sealV (l.take r.1, 0) = l by rw [sealV, if_pos rfl]; exact HBK.out]
                have hs9 := hF9.size
                have hs08 := hF08.size
                have hT7lt := HT7.out.lt
                have hs78 := hF8.size
                obtain ⟨w10, hst, hB10, hF10, hs10⟩ := store_all (P := Tryd.prog) (Blk.new w9 (bv zeros64) 33) l (by rw [HLL.out, bv_size]; rfl)
                have HRA10 := Lib.hid (((((HT7.out.fr hF8 (by simp)).fr hF9 (by simp)).alloc (.cells (bv zeros64) 33)).fr hF10 (by simp; omega)).range 0 (u8s l) HTB.out)
                have HRB10 := Lib.hid (range_bv hB10)
                have hF010 : Fr [] w w10 := ((hF08.trans hF9).alloc _).comp hF10 (by simp; omega)
                clear hB10 hF10
                go_wp2_with (first
                  | refine wpList_load_bvg (by rfl) 33 _ rfl w.heap.size 0 rfl l HRA10.out Tryd.underlying33 HII.out HLL.out ?_
                  | refine wpList_load_bvg (by rfl) 33 _ rfl w9.heap.size 0 rfl l HRB10.out Tryd.underlying33 HII.out HLL.out ?_)
                refine (awake_any w10 (HH.out.keep hF010 (by simp))).mono ?_
                rintro e w11 ⟨rfl, hF11⟩
                go_wp2_with fail
                go_ret
                exact ⟨rfl, hF010.trans hF11⟩
            · have b0 : (endV l r != 0) = true := bne_iff_ne.2 hend
              go_wp2_with fail
              refine (awake_any w7 (HH.out.keep hF07 (by simp))).mono ?_
              rintro e w9 ⟨rfl, hF9⟩
              go_wp2_with fail
              go_ret
              exact ⟨rfl, hF07.trans hF9⟩
end Go.Proofs.YtifafnmbcmhlcaaDoor
