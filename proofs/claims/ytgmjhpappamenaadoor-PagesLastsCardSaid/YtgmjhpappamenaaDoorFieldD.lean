/- Contracts of package field: Put, where the number fits. -/
import Derived.Test.YtgmjhpappamenaaDoorFieldC
import Derived.Shelf.Abstract
namespace Go.Proofs.YtgmjhpappamenaaDoor
open Go.RowKit Go.Shelf

set_option maxHeartbeats 1600000 in
theorem Put_ok (b : Nat) (l : List Nat) (k : Nat) (s : Nat) (w : World) (h : IsWriter w b l 0) (hs1 : 1 ≤ s) (hs2 : s ≤ 7) (hn : k / 2 ^ (8 * s) = 0) (hfits : l.length + s ≤ 60) :
    Calls Tryd.prog 107 #[.pointer (some ⟨b, 0, none⟩), .int .i64 k, .int .i64 s] w fun e' w' => e' = .returned (.pointer (some ⟨b, 0, none⟩)) ∧ IsWriter w' b (l ++ bytesOf k s) 0 ∧ Fr [b] w w' := by
  have hl := h.len
  have c0 := h.blk.cell (wcA_at l l.length 0 (by omega))
  have c1 := h.blk.cell (wcA_e l l.length 0 (by omega))
  have f := h.blk.frozen
  have hb := h.blk.lt
  have HB := Lib.hid h.blk
  have he : wrongE s (60 - l.length) = 0 := by unfold wrongE; rw [if_neg (by omega), if_neg (by omega)]
  have HE := Lib.hid he
  have HS := Lib.hid (wcA_setE l l.length 0 0 (by omega))
  have b1 := fits_so k s hn
  have hkb : k < 72057594037927936 := by
    have h1 : k < 2 ^ (8 * s) := (Nat.div_eq_zero_iff_lt (Nat.two_pow_pos _)).1 hn
    have h2 : 2 ^ (8 * s) ≤ 2 ^ 56 := Nat.pow_le_pow_right (by omega) (by omega)
    exact Nat.lt_of_lt_of_le h1 h2
  clear he h hn
  obtain ⟨m, hm⟩ : ∃ m, m = l.length := ⟨_, rfl⟩
  rw [← hm] at c0 hl HE hfits
  have HM := Lib.hid hm
  clear hm
  go_enter Tryd.func107, Tryd.ntmps107
  go_upto_region 3 with fail
  go_cut [] (fun wr => ∃ w3, w3 = wr ∧ Blk w3 b 201 (wcA l l.length 0) ∧ Blk w3 (w.heap.size + 1) 3 #[.int .i64 k] ∧ Blk w3 w.heap.size 167 #[.pointer (some ⟨b, 0, none⟩)] ∧ Fr [b] w w3 ∧ w.heap.size + 2 ≤ w3.heap.size)
  case first =>
    go_wp2_with fail
    have hw : IntKind.i64.wrap (60 - (m : Int)) = 60 - m := by rw [IntKind.wrap_i64]; omega
    go_region_with (go_at_call 121; refine (wrong_any _ _ _).mono ?_; rintro e w1 ⟨rfl, rfl⟩; rw [HE.out])
    all_goals
      clear hw
      go_wp2_with fail
      go_meet
      have hsz : (w.setCell ⟨b, 65, none⟩ (.int .i64 0)).heap.size = w.heap.size := by simp [World.setCell]
      have h3 := (((HB.out.set 65 (.int .i64 0)).alloc (.cells #[.pointer (some ⟨b, 0, none⟩)] 167)).alloc (.cells #[.int .i64 k] 3)).drew
      rw [HS.out] at h3
      have h4 := ((Blk.new (w.setCell ⟨b, 65, none⟩ (.int .i64 0)) #[.pointer (some ⟨b, 0, none⟩)] 167).alloc (.cells #[.int .i64 k] 3)).drew
      have h5 := (Blk.new ((w.setCell ⟨b, 65, none⟩ (.int .i64 0)).alloc (.cells #[.pointer (some ⟨b, 0, none⟩)] 167)) #[.int .i64 k] 3).drew
      rw [World.size_alloc, hsz] at h5
      rw [hsz] at h4
      exact ⟨_, rfl, h3, h5, h4, ((((Fr.refl [b] w).setCell ⟨b, 65, none⟩ (.inl (by simp)) _).alloc _).alloc _).drew, by simp [World.setCell]⟩
  case rest =>
    obtain ⟨w3, rfl, hb3, hn3, hw3, hF3, hsz3⟩ := hcut
    clear c0 c1 f
    have c0 := hb3.cell (wcA_at l l.length 0 (by rw [← HM.out]; omega))
    have c1 := hb3.cell (wcA_e l l.length 0 (by rw [← HM.out]; omega))
    rw [← HM.out] at c0
    have c2 : w3.cell? ⟨w.heap.size + 1, 0, none⟩ = some (.int .i64 k) := hn3.cell (i := 0) rfl
    have c3 : w3.cell? ⟨w.heap.size, 0, none⟩ = some (.pointer (some ⟨b, 0, none⟩)) := hw3.cell (i := 0) rfl
    have HE3 := Lib.hid (each_any 128 (.pointer (some ⟨w.heap.size + 1, 0, none⟩)) (.pointer (some ⟨w.heap.size, 0, none⟩)) s
      (fun i wr => Blk wr b 201 (wcA (l ++ bytesOf k i) m 0) ∧ Blk wr (w.heap.size + 1) 3 #[.int .i64 k] ∧ Blk wr w.heap.size 167 #[.pointer (some ⟨b, 0, none⟩)] ∧ Fr [b] w wr) w3
      (enters_of Tryd.func128 (by kernel_rfl) rfl) (by omega) ⟨by simpa [bytesOf, HM.out] using hb3, hn3, hw3, hF3⟩ (by
        rintro i wr hi ⟨q1, q2, q3, q4⟩
        refine (Put1_any b (w.heap.size + 1) w.heap.size (l ++ bytesOf k i) m i k 0 wr q1 q2 q3 (by simp [bytesOf_len, ← HM.out]) (by simp [bytesOf_len, ← HM.out]; omega) (by omega) hkb (by omega) (by omega)).mono ?_
        rintro e w' ⟨rfl, r1, r2⟩
        exact ⟨rfl, by rw [bytesOf_succ, ← List.append_assoc]; exact r1, q2.fr r2 (by simp; omega), q3.fr r2 (by simp; omega), q4.trans r2⟩))
    clear hb3 hn3 hw3 hF3
    go_wp2_with fail
    refine HE3.out.mono ?_
    rintro e w4 ⟨rfl, q1, q2, q3, q4⟩
    have hlen : (l ++ bytesOf k s).length = m + s := by simp [bytesOf_len, ← HM.out]
    have d0 := q1.cell (wcA_at (l ++ bytesOf k s) m 0 (by omega))
    have d3 : w4.cell? ⟨w.heap.size, 0, none⟩ = some (.pointer (some ⟨b, 0, none⟩)) := q3.cell (i := 0) rfl
    have f4 := q1.frozen
    have hset := q1.set 64 (.int .i64 (m + s : Nat))
    rw [wcA_setA _ _ _ _ (by omega)] at hset
    have HSET := Lib.hid hset
    have HLEN := Lib.hid hlen
    clear hset hlen q1 q2 q3
    go_wp2_with fail
    go_ret
    refine ⟨rfl, ⟨by rw [HLEN.out]; omega, by rw [HLEN.out]; exact HSET.out⟩, q4.setCell ⟨b, 64, none⟩ (.inl (by simp)) _⟩
end Go.Proofs.YtgmjhpappamenaaDoor
