/- Contracts of package field: Put in one, sum. -/
import Derived.Test.YtgmjhpappamenaaDoorFieldD
namespace Go.Proofs.YtgmjhpappamenaaDoor
open Go.RowKit Go.Shelf

theorem Put_any (b : Nat) (l : List Nat) (n size : Int) (w : World) (h : IsWriter w b l 0) :
    Calls Tryd.prog 107 #[.pointer (some ⟨b, 0, none⟩), .int .i64 n, .int .i64 size] w fun e' w' => e' = .returned (.pointer (some ⟨b, 0, none⟩)) ∧ IsWriter w' b (putL l n size) (putE l.length n size) ∧ Fr [b] w w' := by
  have hl := h.len
  by_cases hs : size < 1 ∨ 7 < size
  · have e1 : putE l.length n size = 1 := by simp [putE, wrongE, hs]
    have e2 : putL l n size = l := by simp [putL, e1]
    rw [e1, e2]
    exact Put_arg b l n size w h hs
  · obtain ⟨s, rfl⟩ := Int.eq_ofNat_of_zero_le (show 0 ≤ size by omega)
    have hw : ¬ wrongE (s : Int) (60 - (l.length : Int)) = 1 := by unfold wrongE; rw [if_neg hs]; split <;> omega
    by_cases hn : n < 0 ∨ 0 ≤ n ∧ ¬ n.toNat / 2 ^ (8 * s) = 0
    · have e1 : putE l.length n s = 11 := by
        unfold putE
        rw [if_neg hw, if_pos]
        rcases hn with hn | hn
        · exact .inl hn
        · refine .inr (fun e => hn.2 ?_)
          obtain ⟨k, rfl⟩ := Int.eq_ofNat_of_zero_le hn.1
          have : (((k / 2 ^ (8 * s) : Nat) : Int)) = 0 := by simpa using e
          simp only [Int.toNat_natCast]
          omega
      have e2 : putL l n s = l := by simp [putL, e1]
      rw [e1, e2]
      exact Put_over b l n s w h (by omega) (by omega) hn
    · obtain ⟨k, rfl⟩ := Int.eq_ofNat_of_zero_le (show 0 ≤ n by omega)
      have hk : k / 2 ^ (8 * s) = 0 := by
        rcases Nat.eq_zero_or_pos (k / 2 ^ (8 * s)) with h | h
        · exact h
        · exact absurd (.inr ⟨by omega, by simpa using (show ¬ k / 2 ^ (8 * s) = 0 by omega)⟩) hn
      have e0 : ((k : Int)) / 2 ^ (8 * s) = 0 := by
        have : ((k : Int) / 2 ^ (8 * s)) = ((k / 2 ^ (8 * s) : Nat) : Int) := by simp
        rw [this, hk]; rfl
      have e1 : putE l.length k s = wrongE s (60 - l.length) := by
        unfold putE
        rw [if_neg hw, if_neg]
        simp only [Int.toNat_natCast]
        rw [e0]; omega
      by_cases hf : 60 < l.length + s
      · have e3 : wrongE (s : Int) (60 - (l.length : Int)) = 17 := by unfold wrongE; rw [if_neg hs, if_pos (by omega)]
        have e2 : putL l k s = l := by simp [putL, e1, e3]
        rw [e1, e2, e3]
        exact Put_full b l k s w h (by omega) (by omega) hk hf
      · have e3 : wrongE (s : Int) (60 - (l.length : Int)) = 0 := by unfold wrongE; rw [if_neg hs, if_neg (by omega)]
        have e2 : putL l k s = l ++ bytesOf k s := by simp [putL, e1, e3]
        rw [e1, e2, e3]
        exact Put_ok b l k s w h (by omega) (by omega) hk (by omega)

theorem bv_bytes {w : World} {b T : Nat} {l : List Nat} (h : Blk w b T (bv l)) (o : Nat) (m : Nat) : BytesAt w b o ((l.drop o).take m) := by
  intro j hj
  simp at hj
  refine h.cell ?_
  rw [bv_get l (o + j) (by omega)]
  simp

theorem sum1_any (cn co : Nat) (c : Array Value) (i n : Nat) (w : World) (hn : Blk w cn 3 #[.int .i64 n]) (ho : Blk w co 186 c) (hc : c.size = 4) (hci : ∃ x : Int, c[i]? = some (.int .u8 x)) (hi : i < 4) (hnb : n < 72057594037927936) :
    Calls Tryd.prog 136 #[.int .i64 i, .int .i64 (8 * i : Nat), .pointer (some ⟨cn, 0, none⟩), .pointer (some ⟨co, 0, none⟩)] w fun e' w' => e' = .returned (.tuple #[]) ∧
      Blk w' co 186 (c.setIfInBounds i (.int .u8 (byteOf n i : Nat))) ∧ Fr [co] w w' := by
  obtain ⟨x, hx⟩ := hci
  have c1 : w.cell? ⟨cn, 0, none⟩ = some (.int .i64 n) := hn.cell (i := 0) rfl
  have c3 := ho.cell hx
  have f := ho.frozen i
  have HC := Lib.hid (ho.set i (.int .u8 (byteOf n i : Nat)))
  clear hx hc
  go_enter Tryd.func136, Tryd.ntmps136
  go_wp2
  go_end0
  rw [byteOf_int]
  exact ⟨rfl, HC.out, ((Fr.refl _ _).setCell _ (by simp) _)⟩

theorem bv4_set (n i : Nat) (h : i < 4) : (bv (pad 4 (bytesOf n i))).setIfInBounds i (.int .u8 (byteOf n i : Nat)) = bv (pad 4 (bytesOf n (i + 1))) := by
  have hl := bytesOf_len n i
  have hp : (pad 4 (bytesOf n i)).set i (byteOf n i) = pad 4 (bytesOf n (i + 1)) := by
    unfold pad
    rw [bytesOf_succ, show 4 - (bytesOf n i).length = (4 - (bytesOf n i ++ [byteOf n i]).length) + 1 by simp [hl]; omega, List.replicate_succ, List.set_append_right _ _ (by omega)]
    simp [hl]
  unfold bv
  rw [← hp, List.setIfInBounds_toArray]
  simp [u8s, List.map_set]
theorem bv4_all (n : Nat) : bv (bytesOf n 4) = #[.int .u8 (byteOf n 0 : Nat), .int .u8 (byteOf n 1 : Nat), .int .u8 (byteOf n 2 : Nat), .int .u8 (byteOf n 3 : Nat)] := rfl
theorem bv4_pad (n : Nat) : pad 4 (bytesOf n 4) = bytesOf n 4 := by simp [pad, bytesOf_len]
theorem sum_any (l : List Nat) (w : World) (hH : Halves w) (hl : l.length = 64) (hb : ∀ x, x ∈ l → x < 256) :
    Calls Tryd.prog 120 #[.agg (bv l)] w fun e w' => e = .returned (.agg (bv (bytesOf (crc (l.take 60)) 4))) ∧ Fr [] w w' := by
  have HH := Lib.hid hH
  have HL := Lib.hid hl
  clear hH hl
  go_enter Tryd.func120, Tryd.ntmps120
  go_wp2_with fail
  have B0 := ((Blk.new w (bv l) 88).alloc (.cells #[.int .u8 0, .int .u8 0, .int .u8 0, .int .u8 0] 186)).alloc (.cells #[.slice (some ⟨w.heap.size, 0, none⟩) 60 64] 188)
  have R0 := (Blk.new (w.alloc (.cells (bv l) 88)) #[.int .u8 0, .int .u8 0, .int .u8 0, .int .u8 0] 186).alloc (.cells #[.slice (some ⟨w.heap.size, 0, none⟩) 60 64] 188)
  have G0 := Blk.new ((w.alloc (.cells (bv l) 88)).alloc (.cells #[.int .u8 0, .int .u8 0, .int .u8 0, .int .u8 0] 186)) #[.slice (some ⟨w.heap.size, 0, none⟩) 60 64] 188
  simp only [World.size_alloc] at R0 G0
  have hF1 : Fr [] w (((w.alloc (.cells (bv l) 88)).alloc (.cells #[.int .u8 0, .int .u8 0, .int .u8 0, .int .u8 0] 186)).alloc (.cells #[.slice (some ⟨w.heap.size, 0, none⟩) 60 64] 188)) := (((Fr.refl _ _).alloc _).alloc _).alloc _
  have hlen : (l.take 60).length = 60 := by simp [HL.out]
  have hby : BytesAt (((w.alloc (.cells (bv l) 88)).alloc (.cells #[.int .u8 0, .int .u8 0, .int .u8 0, .int .u8 0] 186)).alloc (.cells #[.slice (some ⟨w.heap.size, 0, none⟩) 60 64] 188)) w.heap.size 0 (l.take 60) := by
    have := bv_bytes B0 0 60
    simpa using this
  have hs := Sum_one (w.heap.size + 1 + 1) w.heap.size 0 1 64 (l.take 60) _ (HH.out.keep hF1 (by simp)) (by rw [hlen]; exact G0.cell (i := 0) rfl) hby B0.lt (fun x hx => hb x (List.mem_of_mem_take hx)) (by omega)
  refine hs.mono ?_
  rintro e w1 ⟨rfl, hF2⟩
  have hcl : crc (l.take 60) < 4294967296 := crc_lt _ (fun x hx => hb x (List.mem_of_mem_take hx))
  obtain ⟨n, hn⟩ : ∃ n, n = crc (l.take 60) := ⟨_, rfl⟩
  rw [← hn] at hcl ⊢
  have HN := Lib.hid hn
  have hF3 := hF1.trans hF2
  have R1 := R0.fr hF2 (by simp)
  have hsz1 := hF2.size
  simp only [World.size_alloc] at hsz1
  clear hs hby G0 B0 R0 hF2 hn hlen hF1
  go_wp2_with fail
  have N1 := (Blk.new w1 #[.int .i64 n] 3).alloc (.cells #[.int .u8 0, .int .u8 0, .int .u8 0, .int .u8 0] 186)
  have O1 := Blk.new (w1.alloc (.cells #[.int .i64 n] 3)) #[.int .u8 0, .int .u8 0, .int .u8 0, .int .u8 0] 186
  rw [World.size_alloc] at O1
  have R2 := (R1.alloc (.cells #[.int .i64 n] 3)).alloc (.cells #[.int .u8 0, .int .u8 0, .int .u8 0, .int .u8 0] 186)
  have he := each_any 136 (.pointer (some ⟨w1.heap.size, 0, none⟩)) (.pointer (some ⟨w1.heap.size + 1, 0, none⟩)) 4
    (fun i wr => Blk wr w1.heap.size 3 #[.int .i64 n] ∧ Blk wr (w1.heap.size + 1) 186 (bv (pad 4 (bytesOf n i))) ∧ Blk wr (w.heap.size + 1) 186 #[.int .u8 0, .int .u8 0, .int .u8 0, .int .u8 0] ∧ Fr [] w wr) _
    (enters_of Tryd.func136 (by kernel_rfl) rfl) (by omega) ⟨N1, O1, R2, (hF3.alloc _).alloc _⟩ (by
      rintro i wr hi ⟨q1, q2, q3, q4⟩
      have hsz : (bv (pad 4 (bytesOf n i))).size = 4 := by rw [bv_size, pad_len _ _ (by rw [bytesOf_len]; omega)]
      refine (sum1_any w1.heap.size (w1.heap.size + 1) _ i n wr q1 q2 hsz ⟨_, bv_get _ i (by rw [pad_len _ _ (by rw [bytesOf_len]; omega)]; omega)⟩ hi (by omega)).mono ?_
      rintro e w' ⟨rfl, r1, r2⟩
      exact ⟨rfl, q1.fr r2 (by simp), by rw [← bv4_set n i hi]; exact r1, q3.fr r2 (by simp; omega), q4.comp r2 (by simp; omega)⟩)
  rw [show ((4 : Nat) : Int) = 4 from rfl] at he
  refine he.mono ?_
  rintro e w2 ⟨rfl, q1, q2, q3, q4⟩
  rw [bv4_pad, bv4_all] at q2
  have k0 : w2.cell? ⟨w1.heap.size + 1, 0, none⟩ = some (.int .u8 (byteOf n 0 : Nat)) := q2.cell (i := 0) rfl
  have k1 : w2.cell? ⟨w1.heap.size + 1, 1, none⟩ = some (.int .u8 (byteOf n 1 : Nat)) := q2.cell (i := 1) rfl
  have k2 : w2.cell? ⟨w1.heap.size + 1, 2, none⟩ = some (.int .u8 (byteOf n 2 : Nat)) := q2.cell (i := 2) rfl
  have k3 : w2.cell? ⟨w1.heap.size + 1, 3, none⟩ = some (.int .u8 (byteOf n 3 : Nat)) := q2.cell (i := 3) rfl
  have m0 : w2.cell? ⟨w.heap.size + 1, 0, none⟩ = some (.int .u8 0) := q3.cell (i := 0) rfl
  have m1 : w2.cell? ⟨w.heap.size + 1, 1, none⟩ = some (.int .u8 0) := q3.cell (i := 1) rfl
  have m2 : w2.cell? ⟨w.heap.size + 1, 2, none⟩ = some (.int .u8 0) := q3.cell (i := 2) rfl
  have m3 : w2.cell? ⟨w.heap.size + 1, 3, none⟩ = some (.int .u8 0) := q3.cell (i := 3) rfl
  have mf := q3.frozen
  clear N1 O1 R2 he q1 q2 q3
  go_wp2_with fail
  refine bodyPost_ret (v := .agg #[.int .u8 (byteOf n 0 : Nat), .int .u8 (byteOf n 1 : Nat), .int .u8 (byteOf n 2 : Nat), .int .u8 (byteOf n 3 : Nat)]) (by simp [results, Tryd.results120, go_sem, m0, m1, m2, m3]) rfl ⟨by rw [← HN.out, bv4_all], ?_⟩
  have hle : w.heap.size ≤ w.heap.size + 1 := by omega
  exact (((q4.setCell ⟨w.heap.size + 1, 0, none⟩ (.inr hle) _).setCell ⟨w.heap.size + 1, 1, none⟩ (.inr hle) _).setCell ⟨w.heap.size + 1, 2, none⟩ (.inr hle) _).setCell ⟨w.heap.size + 1, 3, none⟩ (.inr hle) _
end Go.Proofs.YtgmjhpappamenaaDoor

/- Contracts of package field: Write, Seal, Sealed. -/
namespace Go.Proofs.YtgmjhpappamenaaDoor
open Go.RowKit Go.Shelf

theorem Write_any (w : World) :
    Calls Tryd.prog 106 #[] w fun e w' => e = .returned (.pointer (some ⟨w.heap.size, 0, none⟩)) ∧ IsWriter w' w.heap.size [] 0 ∧ Fr [] w w' := by
  go_enter Tryd.func106, Tryd.ntmps106
  go_wp2
  go_ret
  exact ⟨rfl, ⟨by simp, Blk.new w (wcA [] 0 0) _⟩, (Fr.refl _ _).alloc _⟩

/-- the sealed sector of bytes -/
def sealed (l : List Nat) : List Nat := pad 60 l ++ bytesOf (crc (pad 60 l)) 4
def zeros64 : List Nat := List.replicate 64 0

set_option maxRecDepth 100000 in
theorem Seal_nil (w : World) :
    Calls Tryd.prog 108 #[.pointer none] w fun e w' => e = .returned (.tuple #[.agg (bv zeros64), .int .i64 2]) ∧ Fr [] w w' := by
  have hz : ∀ w, (zeroValue 88).run Tryd.prog w = .ok (.agg (bv zeros64)) w := fun _ => by kernel_rfl
  go_enter Tryd.func108, Tryd.ntmps108
  obtain ⟨W1, hst, hB1, hF1, hs1⟩ := store_all (P := Tryd.prog) (Blk.new w (bv zeros64) 88) zeros64 (by simp [bv_size])
  go_wp2_with fail
  have hld := load_var (P := Tryd.prog) (o := 0) hB1 zeros64 (bv_self _) Tryd.underlying88 (by kernel_rfl) (by simp [zeros64])
  refine bodyPost_ret (res_cell_tmp Tryd.results108 rfl hld) rfl ⟨rfl, ?_⟩
  exact ((Fr.refl [] w).alloc _).comp hF1 (by simp)
set_option maxRecDepth 100000 in
theorem Seal_err (b : Nat) (l : List Nat) (e : Int) (w : World) (h : IsWriter w b l e) (he : ¬ e = 0) :
    Calls Tryd.prog 108 #[.pointer (some ⟨b, 0, none⟩)] w fun e' w' => e' = .returned (.tuple #[.agg (bv zeros64), .int .i64 e]) ∧ Fr [] w w' := by
  have hz : ∀ w, (zeroValue 88).run Tryd.prog w = .ok (.agg (bv zeros64)) w := fun _ => by kernel_rfl
  have hb := h.blk.lt
  have c1 := h.blk.cell (wcA_e l l.length e (by have := h.len; omega))
  have b0 : (e != 0) = true := bne_iff_ne.2 he
  obtain ⟨W1, hst, hB1, hF1, hs1⟩ := store_all (P := Tryd.prog) (Blk.new w (bv zeros64) 88).drew zeros64 (by simp [bv_size])
  have c2 : W1.cell? ⟨b, 65, none⟩ = some (.int .i64 e) := (hF1.cell ⟨b, 65, none⟩ (by simp; omega) (by simp; omega)).trans (((h.blk.alloc _).drew).cell (wcA_e l l.length e (by have := h.len; omega)))
  have hsz : (bv zeros64).size = 64 := by simp [bv_size, zeros64]
  clear he
  go_enter Tryd.func108, Tryd.ntmps108
  go_wp2_with fail
  go_region
  all_goals
    go_wp2_with fail
    have hld := load_var (P := Tryd.prog) (o := 0) hB1 zeros64 (bv_self _) Tryd.underlying88 (by kernel_rfl) (by simp [zeros64])
    refine bodyPost_ret (res_cell_tmp Tryd.results108 rfl hld) rfl ⟨rfl, ?_⟩
    exact ((Fr.refl [] w).alloc _).drew.comp hF1 (by simp)
end Go.Proofs.YtgmjhpappamenaaDoor
