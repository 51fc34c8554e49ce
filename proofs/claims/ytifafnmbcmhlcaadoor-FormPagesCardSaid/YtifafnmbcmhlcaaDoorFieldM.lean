/- FieldNil: the walk. -/
import Derived.Test.YtifafnmbcmhlcaaDoorFieldL
namespace Go.Proofs.YtifafnmbcmhlcaaDoor
open Go.RowKit Go.Shelf

theorem eql_blocks (A B : List Nat) (hA : A.length = 64) (hB : B.length = 64) (w : World) : (binOp .eql 33 (.agg (bv A)) (.agg (bv B))).run Tryd.prog w = .ok (.bool (decide (A = B))) w := by
  obtain ⟨i, hi⟩ : ∃ i, Tryd.prog.info? 5 = some i := Option.isSome_iff_exists.1 (by kernel_rfl)
  exact run_eql_bytes (P := Tryd.prog) Tryd.underlying33 Tryd.underlying5 (by kernel_rfl) hi (by kernel_rfl) A B hA hB w
theorem neq_blocks (A B : List Nat) (hA : A.length = 64) (hB : B.length = 64) (w : World) : (binOp .neq 33 (.agg (bv A)) (.agg (bv B))).run Tryd.prog w = .ok (.bool (!decide (A = B))) w := by
  obtain ⟨i, hi⟩ : ∃ i, Tryd.prog.info? 5 = some i := Option.isSome_iff_exists.1 (by kernel_rfl)
  exact run_neq_bytes (P := Tryd.prog) Tryd.underlying33 Tryd.underlying5 (by kernel_rfl) hi (by kernel_rfl) A B hA hB w
theorem guard_eql_blocks (x y : Operand) (A B : Array Value) (w : World) : (eqGuard .eql 33 x y (.agg A) (.agg B)).run Tryd.prog w = .ok () w := run_guard_eql w (by kernel_rfl)
theorem guard_neq_blocks (x y : Operand) (A B : Array Value) (w : World) : (eqGuard .neq 33 x y (.agg A) (.agg B)).run Tryd.prog w = .ok () w := run_guard_neq w (by kernel_rfl)

set_option maxRecDepth 100000 in
set_option maxHeartbeats 1000000 in
theorem FieldNil_ok (n size : Int) (w : World) (hH : Halves w) :
    Calls Tryd.prog 6 #[.int .i64 n, .int .i64 size] w fun e w' => e = .returned (.bool true) ∧ Fr [] w w' := by
  have hz : ∀ w, (zeroValue 33).run Tryd.prog w = .ok (.agg (bv zeros64)) w := fun _ => by kernel_rfl
  have hq := eql_blocks zeros64 zeros64 rfl rfl
  simp only [decide_true] at hq
  have hg := guard_eql_blocks
  have HH := Lib.hid hH
  have HII := Lib.hid (show (Tryd.prog.info? 33).map (·.size) = some 64 by kernel_rfl)
  have HLEN := Lib.hid (show zeros64.length = 64 by rfl)
  have hsz : (bv zeros64).size = 64 := by simp [bv_size, zeros64]
  clear hH
  go_enter Tryd.func6, Tryd.ntmps6
  go_wp2_with fail
  refine (Seal_nil w).mono ?_
  rintro e w1 ⟨rfl, hF1⟩
  obtain ⟨w2, hst, hB, hF2, hs2⟩ := store_all (P := Tryd.prog) (Blk.new w1 (bv zeros64) 33) zeros64 (by simp [bv_size])
  have hF02 : Fr [] w w2 := (hF1.alloc _).comp hF2 (by have := hF1.size; simp; omega)
  go_wp2_with fail
  refine (Put_nil n size w2).mono ?_
  rintro e w3 ⟨rfl, hF3⟩
  have hra := Lib.hid (hF3.range (range_bv hB) (by rw [hs2]; simp) (by simp))
  have hF03 := Lib.hid (hF02.trans hF3)
  go_wp2_with (refine wpList_load_bvg (by rfl) 33 _ rfl w1.heap.size 0 rfl zeros64 hra.out Tryd.underlying33 HII.out HLEN.out ?_)
  refine (Take_nil size w3).mono ?_
  rintro e w4 ⟨rfl, hF4⟩
  go_wp2_with fail
  refine (End_nil w4).mono ?_
  rintro e w5 ⟨rfl, hF5⟩
  have hF05 := (hF03.out.trans hF4).trans hF5
  go_wp2_with fail
  refine (awake_any w5 (HH.out.keep hF05 (by simp))).mono ?_
  rintro e w6 ⟨rfl, hF6⟩
  have hF06 := hF05.trans hF6
  go_wp2_with fail
  go_ret
  exact ⟨rfl, hF06⟩
end Go.Proofs.YtifafnmbcmhlcaaDoor
