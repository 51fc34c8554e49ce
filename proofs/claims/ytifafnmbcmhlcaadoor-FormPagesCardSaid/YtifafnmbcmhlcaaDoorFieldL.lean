/- The law package's own watch: awake. -/
import Derived.Test.YtifafnmbcmhlcaaDoorFieldJ
namespace Go.Proofs.YtifafnmbcmhlcaaDoor
open Go.RowKit Go.Shelf

theorem sealed_len (l : List Nat) (h : l.length ≤ 60) : (sealed l).length = 64 := by simp [sealed, bytesOf_len, pad_len 60 l h]
theorem sealed_take (l : List Nat) (h : l.length ≤ 60) : (sealed l).take 60 = pad 60 l := List.take_left' (pad_len 60 l h)
theorem sealed_drop (l : List Nat) (h : l.length ≤ 60) : (sealed l).drop 60 = bytesOf (crc (pad 60 l)) 4 := List.drop_left' (pad_len 60 l h)
theorem isSealed_sealed (l : List Nat) (h : l.length ≤ 60) : isSealed (sealed l) = true := by
  unfold isSealed
  rw [sealed_take l h, sealed_drop l h]
  simp
theorem bytesOf_mem (n k x : Nat) (h : x ∈ bytesOf n k) : x < 256 := by
  simp only [bytesOf, List.mem_map] at h
  obtain ⟨i, _, rfl⟩ := h
  exact byteOf_lt n i
theorem pad_mem (n : Nat) (l : List Nat) (hl : ∀ x, x ∈ l → x < 256) : ∀ x, x ∈ pad n l → x < 256 := by
  intro x hx
  simp only [pad, List.mem_append, List.mem_replicate] at hx
  rcases hx with hx | ⟨_, rfl⟩
  · exact hl x hx
  · omega
theorem sealed_mem (l : List Nat) (hl : ∀ x, x ∈ l → x < 256) : ∀ x, x ∈ sealed l → x < 256 := by
  intro x hx
  rcases List.mem_append.1 hx with h | h
  · exact pad_mem 60 l hl x h
  · exact bytesOf_mem _ _ x h
theorem putL_mem (l : List Nat) (n size : Int) (hl : ∀ x, x ∈ l → x < 256) : ∀ x, x ∈ putL l n size → x < 256 := by
  intro x hx
  unfold putL at hx
  split at hx
  · rcases List.mem_append.1 hx with h | h
    · exact hl x h
    · exact bytesOf_mem _ _ x h
  · exact hl x hx

set_option maxRecDepth 100000 in
set_option maxHeartbeats 1000000 in
theorem awake_any (w : World) (hH : Halves w) :
    Calls Tryd.prog 11 #[] w fun e w' => e = .returned (.bool true) ∧ Fr [] w w' := by
  have hz : ∀ w, (zeroValue 33).run Tryd.prog w = .ok (.agg (bv zeros64)) w := fun _ => by kernel_rfl
  have HH := Lib.hid hH
  have HII := Lib.hid (show (Tryd.prog.info? 33).map (·.size) = some 64 by kernel_rfl)
  have hlt := hH.lt
  clear hH
  go_enter Tryd.func11, Tryd.ntmps11
  go_wp2_with fail
  refine (Write_any _).mono ?_
  rintro e w1 ⟨rfl, hW1, hF1⟩
  go_wp2_with fail
  refine (Put_any w.heap.size [] 258 2 w1 hW1).mono ?_
  rintro e w2 ⟨rfl, hW2, hF2⟩
  have hF02 : Fr [] w w2 := hF1.comp hF2 (by simp)
  rw [show putL [] 258 2 = [2, 1] by rfl, show putE ([] : List Nat).length 258 2 = 0 by rfl] at hW2
  go_wp2_with fail
  refine (Put_any w.heap.size [2, 1] 7 1 w2 hW2).mono ?_
  rintro e w3 ⟨rfl, hW3, hF3⟩
  have hF03 : Fr [] w w3 := hF02.comp hF3 (by simp)
  rw [show putL [2, 1] 7 1 = [2, 1, 7] by rfl, show putE [2, 1].length 7 1 = 0 by rfl] at hW3
  go_wp2_with fail
  refine (Seal_ok w.heap.size [2, 1, 7] w3 hW3 (HH.out.keep hF03 (by simp)) (by simp)).mono ?_
  rintro e w4 ⟨rfl, hF4⟩
  have hF04 : Fr [] w w4 := hF03.comp hF4 (by simp)
  have hlen := sealed_len [2, 1, 7] (by simp)
  have hmem := sealed_mem [2, 1, 7] (by simp)
  have hs := isSealed_sealed [2, 1, 7] (by simp)
  have g0 : (bv (sealed [2, 1, 7]))[0]? = some (.int .u8 2) := rfl
  have g1 : (bv (sealed [2, 1, 7]))[1]? = some (.int .u8 1) := rfl
  have g2 : (bv (sealed [2, 1, 7]))[2]? = some (.int .u8 7) := rfl
  have g3 : (bv (sealed [2, 1, 7]))[3]? = some (.int .u8 0) := rfl
  generalize sealed [2, 1, 7] = S at hlen hmem hs g0 g1 g2 g3 ⊢
  have hsz : (bv S).size = 64 := by rw [bv_size, hlen]
  obtain ⟨w5, hst, hB, hF5, hs5⟩ := store_all (P := Tryd.prog) (Blk.new w4 (bv zeros64) 33) S (by rw [hlen, bv_size]; rfl)
  have k0 := hB.cell g0
  have k1 := hB.cell g1
  have k2 := hB.cell g2
  have k3 := hB.cell g3
  have hra := Lib.hid (range_bv hB)
  have HLEN := Lib.hid hlen
  have hF05 : Fr [] w w5 := (hF04.alloc _).comp hF5 (by have := hF04.size; simp; omega)
  have HM := Lib.hid hmem
  clear g0 g1 g2 g3 hB hlen hmem hW1 hW2 hW3 hF1 hF2 hF3 hF4 hF5 hF02 hF03 hF04
  go_wp2_with (refine wpList_load_bvg (by rfl) 33 _ rfl w4.heap.size 0 rfl S hra.out Tryd.underlying33 HII.out HLEN.out ?_)
  refine (Sealed_any S w5 (HH.out.keep hF05 (by simp)) HLEN.out HM.out).mono ?_
  rintro e w6 ⟨rfl, hF6⟩
  have hF06 := hF05.trans hF6
  rw [hs, if_pos rfl]
  go_wp2_with fail
  go_ret
  exact ⟨rfl, hF06⟩
end Go.Proofs.YtifafnmbcmhlcaaDoor
