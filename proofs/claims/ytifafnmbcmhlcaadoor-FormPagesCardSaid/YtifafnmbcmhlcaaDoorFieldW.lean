/- Contracts of the reference of layer 4: Block. -/
import Derived.Test.YtifafnmbcmhlcaaDoorFieldV
namespace Go.Proofs.YtifafnmbcmhlcaaDoor
open Go.RowKit Go.Shelf

theorem bv_set (A : List Nat) (i x : Nat) : (bv A).setIfInBounds i (.int .u8 (x : Nat)) = bv (A.set i x) := by
  unfold bv
  rw [List.setIfInBounds_toArray]
  simp [u8s, List.map_set]
theorem pad_set (l : List Nat) (k : Nat) (n : Nat) (hk : k < l.length) (hn : l.length ≤ n) : (pad n (l.take k)).set k l[k] = pad n (l.take (k + 1)) := by
  have h1 : (l.take k).length = k := by simp; omega
  have h2 : (l.take (k + 1)).length = k + 1 := by simp; omega
  unfold pad
  rw [h1, h2, List.set_append_right _ _ (by omega), h1, Nat.sub_self, show n - k = (n - (k + 1)) + 1 by omega, List.replicate_succ, List.set_cons_zero, List.take_succ_eq_append_getElem hk, List.append_assoc]
  rfl
theorem pad4_set (c i : Nat) (h : i < 4) : (pad 4 (bytesOf c i)).set i (byteOf c i) = pad 4 (bytesOf c (i + 1)) := by
  have hl := bytesOf_len c i
  unfold pad
  rw [bytesOf_succ, show 4 - (bytesOf c i).length = (4 - (bytesOf c i ++ [byteOf c i]).length) + 1 by simp [hl]; omega, List.replicate_succ, List.set_append_right _ _ (by omega)]
  simp [hl]

set_option maxRecDepth 100000 in
set_option maxHeartbeats 1000000 in
theorem refBlock_any (base : Nat) (v : Value) (l : List Nat) (w : World) (hown : w.ownsRow base 5 1 v l.length (u8s l)) (hl : l.length ≤ 60) (hb : ∀ x, x ∈ l → x < 256) :
    Calls Tryd.prog 15 #[v] w fun e w' => e = .returned (.agg (bv (sealed l))) ∧ Fr [] w w' := by
  have hz : ∀ w, (zeroValue 33).run Tryd.prog w = .ok (.agg (bv zeros64)) w := fun _ => by kernel_rfl
  have HII := Lib.hid (show (Tryd.prog.info? 33).map (·.size) = some 64 by kernel_rfl)
  have HB := Lib.hid hb
  obtain ⟨oa, c, rfl, hat⟩ := owns_at hown
  have HAT := Lib.hid hat
  obtain ⟨n, hn⟩ : ∃ n, n = l.length := ⟨_, rfl⟩
  rw [← hn] at hl ⊢
  have HN := Lib.hid hn
  have hR0 := (Blk.new w (bv zeros64) 33).alloc (.cells (bv zeros64) 33)
  have hO0 := Blk.new (w.alloc (.cells (bv zeros64) 33)) (bv zeros64) 33
  rw [World.size_alloc] at hO0
  have HR0 := Lib.hid hR0
  have HO0 := Lib.hid (show Blk _ _ _ (bv (pad 64 (l.take 0))) from hO0)
  have hF0 : Fr [] w ((w.alloc (.cells (bv zeros64) 33)).alloc (.cells (bv zeros64) 33)) := ((Fr.refl [] w).alloc _).alloc _
  clear hb hat hown hn hR0 hO0
  go_enter Tryd.func15, Tryd.ntmps15
  go_wp2_with fail
  go_loopw [4] (fun i wr => ∃ k : Nat, k ≤ n ∧ i = .int .i64 k ∧ Blk wr (w.heap.size + 1) 33 (bv (pad 64 (l.take k))) ∧ Blk wr w.heap.size 33 (bv zeros64) ∧ Fr [] w wr) (fun i _ => n - (intOf i).toNat)
  case atStart => exact ⟨0, Nat.zero_le _, rfl, HO0.out, HR0.out, hF0⟩
  case round =>
    obtain ⟨k, hk, rfl, hO, hR, hF⟩ := hrel
    have HO := Lib.hid hO
    have HR := Lib.hid hR
    have hsz := hF.size
    have hOl := hO.lt
    by_cases hlt : k < n
    · have hlt' : k < l.length := by rw [← HN.out]; exact hlt
      obtain ⟨g, cur, rfl, hg, hblk, hc⟩ := HAT.out k (.int .u8 (l[k] : Nat)) (by simp [u8s, hlt'])
      have c0 := (hblk.fr hF (by simp)).cell hc
      have f := hO.frozen k
      have hpl : (pad 64 (l.take k)).length = 64 := pad_len 64 _ (by simp; omega)
      obtain ⟨y, hy⟩ : ∃ y : Nat, (bv (pad 64 (l.take k)))[k]? = some (.int .u8 (y : Nat)) := ⟨_, bv_get _ k (by rw [hpl]; omega)⟩
      have c1 := hO.cell hy
      have HSET := Lib.hid (bv_set (pad 64 (l.take k)) k l[k])
      have HPS := Lib.hid (pad_set l k 64 hlt' (by rw [← HN.out]; omega))
      have hx := HB.out _ (List.getElem_mem hlt')
      generalize l[k] = x at c0 hx HSET HPS
      clear hO hR hblk hc hlt' hpl hy
      go_wp2_with fail
      go_roundw
      case rel => exact ⟨k + 1, by omega, by go_num, by have := HO.out.set k (.int .u8 (x : Nat)); rw [HSET.out, HPS.out] at this; exact this, HR.out.set_ne _ _ (by simp), hF.setCell _ (.inr (by simp)) _⟩
      case measure => simp [intOf]; omega
    · obtain rfl : k = n := by omega
      go_wp2_with fail
      have hlen : (pad 64 l).length = 64 := pad_len 64 l (by rw [← HN.out]; omega)
      have htl : l.take k = l := by rw [HN.out]; exact List.take_length
      rw [htl] at hO
      have hp60 : (pad 64 l).take 60 = pad 60 l := by
        rw [pad64_60 l (by rw [← HN.out]; omega)]
        exact List.take_left' (pad_len 60 l (by rw [← HN.out]; omega))
      have h60 : (pad 60 l).length = 60 := pad_len 60 l (by rw [← HN.out]; omega)
      have hby : BytesAt wr (w.heap.size + 1) 0 (pad 60 l) := by
        have := bv_bytes hO 0 60
        rw [List.drop_zero, hp60] at this
        exact this
      have hpm := pad_mem 60 l HB.out
      have hS := refSum_any (w.heap.size + 1) 0 64 (pad 60 l) wr hby hOl hpm (by omega)
      rw [h60] at hS
      have HS := Lib.hid hS
      have hcl := crc_lt (pad 60 l) hpm
      have hsd : sealed l = pad 60 l ++ pad 4 (bytesOf (crc (pad 60 l)) 4) := by
        rw [sealed, show pad 4 (bytesOf (crc (pad 60 l)) 4) = bytesOf (crc (pad 60 l)) 4 by simp [pad, bytesOf_len]]
      have hst0 : pad 64 l = pad 60 l ++ pad 4 (bytesOf (crc (pad 60 l)) 0) := by
        rw [pad64_60 l (by rw [← HN.out]; omega)]
        rfl
      rw [hst0] at hO
      have HSD := Lib.hid hsd
      have HO1 := Lib.hid hO
      have H60 := Lib.hid h60
      clear hO htl hp60 hby hpm hS hsd hst0 hlen h60
      generalize pad 60 l = p at HS hcl HSD HO1 H60
      generalize crc p = cs at HS hcl HSD HO1
      go_wp2_with fail
      refine HS.out.mono ?_
      rintro e w' ⟨rfl, rfl⟩
      go_wp2_with fail
      refine (refBytes_ok cs 4 wr (by omega) (by omega)).mono ?_
      rintro e w2 ⟨v2, rfl, hown2, hF2⟩
      obtain ⟨oa2, c2, rfl, hat2⟩ := owns_at hown2
      have HAT2 := Lib.hid hat2
      have HO2 := Lib.hid (HO1.out.fr hF2 (by simp))
      have HR2 := Lib.hid (HR.out.fr hF2 (by simp))
      have hF02 := hF.trans hF2
      have hs2 := hF2.size
      clear hown2 hat2 hF2 hR
      generalize decide (cs / 2 ^ (8 * 4) = 0) = bb
      go_wp2_with fail
      go_loopw [7] (fun i wr' => ∃ q : Nat, q ≤ 4 ∧ i = .int .i64 q ∧ Blk wr' (w.heap.size + 1) 33 (bv (p ++ pad 4 (bytesOf cs q))) ∧ Blk wr' w.heap.size 33 (bv zeros64) ∧ Fr [w.heap.size + 1] w2 wr') (fun i _ => 4 - (intOf i).toNat)
      case atStart => exact ⟨0, Nat.zero_le _, rfl, HO2.out, HR2.out, Fr.refl _ _⟩
      case round =>
        obtain ⟨q, hq, rfl, hO, hR, hFq⟩ := hrel
        have HO := Lib.hid hO
        have HR := Lib.hid hR
        have hszq := hFq.size
        have hOq := hO.lt
        have hFw : Fr [] w wr := hF02.comp hFq (by simp)
        by_cases hql : q < 4
        · obtain ⟨g, cur, rfl, hg, hblk, hc⟩ := HAT2.out q (.int .u8 (byteOf cs q : Nat)) (by simp [u8s, bytesOf, hql])
          have c0 := (hblk.fr hFq (by simp; omega)).cell hc
          have f := hO.frozen (60 + q)
          have hpl : (p ++ pad 4 (bytesOf cs q)).length = 64 := by rw [List.length_append, H60.out, pad_len 4 _ (by rw [bytesOf_len]; omega)]
          obtain ⟨y, hy⟩ : ∃ y : Nat, (bv (p ++ pad 4 (bytesOf cs q)))[60 + q]? = some (.int .u8 (y : Nat)) := ⟨_, bv_get _ (60 + q) (by rw [hpl]; omega)⟩
          have c1 := hO.cell hy
          have HSET := Lib.hid (show (bv (p ++ pad 4 (bytesOf cs q))).setIfInBounds (60 + q) (.int .u8 (byteOf cs q : Nat)) = bv (p ++ pad 4 (bytesOf cs (q + 1))) by
            rw [bv_set, List.set_append_right _ _ (by rw [H60.out]; omega), H60.out, show 60 + q - 60 = q by omega, pad4_set cs q hql])
          have hx := byteOf_lt cs q
          generalize byteOf cs q = x at c0 HSET hx
          clear hO hR hblk hc hpl hy
          go_wp2_with fail
          go_roundw
          case rel => exact ⟨q + 1, by omega, by go_num, by have := HO.out.set (60 + q) (.int .u8 (x : Nat)); rw [HSET.out] at this; exact this, HR.out.set_ne _ _ (by simp), hFq.setCell _ (.inl (by simp)) _⟩
          case measure => simp [intOf]; omega
        · obtain rfl : q = 4 := by omega
          rw [← HSD.out] at hO
          have hlen : (sealed l).length = 64 := sealed_len l (by rw [← HN.out]; omega)
          have hsz64 : (bv (sealed l)).size = 64 := by rw [bv_size, hlen]
          have HRA := Lib.hid (range_bv hO)
          have HLEN := Lib.hid hlen
          obtain ⟨w6, hst, hB6, hF6, hs6⟩ := store_all (P := Tryd.prog) hR (sealed l) (by rw [hlen, bv_size]; rfl)
          clear hO hR hlen
          go_wp2_with (refine wpList_load_bv rfl 33 _ rfl (w.heap.size + 1) 0 rfl (sealed l) HRA.out Tryd.underlying33 HII.out HLEN.out ?_)
          have hld := load_var (P := Tryd.prog) (o := 0) hB6 (sealed l) (bv_self _) Tryd.underlying33 HII.out HLEN.out
          refine bodyPost_ret (res_cell Tryd.results15 rfl hld) rfl ⟨rfl, ?_⟩
          exact hFw.comp hF6 (by simp)
end Go.Proofs.YtifafnmbcmhlcaaDoor
