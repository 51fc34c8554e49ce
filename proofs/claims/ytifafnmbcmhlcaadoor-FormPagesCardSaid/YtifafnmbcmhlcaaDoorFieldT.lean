/- Contracts of the reference of layer 4: bytes of numbers. -/
import Derived.Test.YtifafnmbcmhlcaaDoorFieldQ
import Derived.OwnWalk
namespace Go.Proofs.YtifafnmbcmhlcaaDoor
open Go.RowKit Go.Shelf

theorem infoByte : (Tryd.prog.info? 5).map (fun i => (i.zero, i.size, i.bytes)) = some (some (.int .u8 0), 1, 1) := by kernel_rfl
theorem refBytes_neg (n size : Int) (w : World) (hn : n < 0) :
    Calls Tryd.prog 32 #[.int .i64 n, .int .i64 size] w fun e w' => e = .returned (.tuple #[.slice none 0 0, .bool false]) ∧ w = w' := by
  go_enter Tryd.func32, Tryd.ntmps32
  go_wp2
  go_ret2
  exact ⟨rfl, rfl⟩
theorem u8s_append (a b : List Nat) : u8s (a ++ b) = u8s a ++ u8s b := by simp [u8s]
set_option maxRecDepth 100000 in
theorem refBytes_ok (k s : Nat) (w : World) (hk : k < 9223372036854775808) (hs : s ≤ 7) :
    Calls Tryd.prog 32 #[.int .i64 k, .int .i64 s] w fun e w' => ∃ v, e = .returned (.tuple #[v, .bool (decide (k / 2 ^ (8 * s) = 0))]) ∧ w'.ownsRow w.heap.size 5 1 v s (u8s (bytesOf k s)) ∧ Fr [] w w' := by
  obtain ⟨i0, hi, hz0, hz1, hz2⟩ := info_parts infoByte
  go_enter Tryd.func32, Tryd.ntmps32
  go_wp2_with fail
  go_loopw [0, 6, 7] (fun t v i wr => ∃ (q : Nat) (k' : Nat), q ≤ s ∧ i = .int .i64 q ∧ k' = k / 2 ^ (8 * q) ∧ t = .int .i64 k' ∧ wr.ownsRow w.heap.size 5 1 v q (u8s (bytesOf k q)) ∧ Fr [] w wr) (fun _ _ i _ => s - (intOf i).toNat)
  case atStart => exact ⟨0, k, Nat.zero_le _, rfl, by simp, rfl, World.ownsRow_nil _ _ _ _, Fr.refl _ _⟩
  case round =>
    obtain ⟨q, k', hq, rfl, hk', rfl, hown, hF⟩ := hrel
    have HK := Lib.hid hk'
    have hkl : k' < 9223372036854775808 := by rw [hk']; exact Nat.lt_of_le_of_lt (Nat.div_le_self _ _) hk
    clear hk'
    by_cases hlt : q < s
    · have HO := Lib.hid hown
      clear hown
      have HX := Lib.hid (show ((k' : Int) % 256) = ((byteOf k q : Nat) : Int) by rw [HK.out]; unfold byteOf; omega)
      have HK1 := Lib.hid (show ((k' / 256 : Nat)) = k / 2 ^ (8 * (q + 1)) by rw [HK.out, Nat.div_div_eq_div_mul, show 8 * (q + 1) = 8 * q + 8 by omega, Nat.pow_add])
      go_wp2_with (at_builtin; refine wpList_append_own _ rfl _ _ 26 rfl w.heap.size 5 i0 (.int .u8 0) 1 1 Tryd.underlying26 hi hz0 hz1 hz2 rfl (by decide) _ _ _ rfl (HO.out.alloc _) ⟨wr.heap.size, 0, none⟩ 1 1 [.int .u8 ((k' : Int) % 256)] rfl rfl ?c1 ?c2 ?c3 ?c4 ?c5 ?_)
      case c1 => exact new_cells _ _ _ _ rfl
      case c2 => simp [Value.oneCell']
      case c3 => unfold maxLen; omega
      case c4 => omega
      case c5 => have := hF.size; simp; omega
      intro v' w1 hown' hgrow _
      have hF1 : Fr (u6.ownBlock.toList) wr w1 := ((Fr.refl (u6.ownBlock.toList) wr).alloc _).grown hgrow (fun g hg => .inl (by simp [hg]))
      have hF2 : Fr [] w w1 := hF.comp hF1 (fun i hi => .inr (by have := owns_ge HO.out i (by simpa using hi); omega))
      have hb : u8s (bytesOf k q) ++ [.int .u8 ((k' : Int) % 256)] = u8s (bytesOf k (q + 1)) := by
        rw [bytesOf_succ, u8s_append, HX.out]
        rfl
      rw [hb] at hown'
      have HO' := Lib.hid hown'
      clear hown' hb
      go_wp2
      go_roundw
      case rel => exact ⟨q + 1, k' / 256, by omega, by go_num, HK1.out, by rw [show ((k' / 256 : Nat) : Int) = (k' : Int) / 256 by omega], HO'.out, hF2⟩
      case measure => simp [intOf]; omega
    · obtain rfl : q = s := by omega
      go_wp2_with fail
      have hbq : ((k' : Int) == 0) = decide (k / 2 ^ (8 * q) = 0) := by
        rw [← HK.out]
        by_cases h : k' = 0
        · simp [h]
        · rw [decide_eq_false h]; exact beq_eq_false_iff_ne.2 (by omega)
      go_ret2
      refine ⟨u6, ?_, hown, hF⟩
      rw [← hbq]
      rfl
end Go.Proofs.YtifafnmbcmhlcaaDoor
