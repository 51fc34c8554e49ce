/- forms: put. -/
import Derived.Test.YtifafnmbcmhlcaaDoorFormB
import Derived.Test.YtifafnmbcmhlcaaDoorFieldO
namespace Go.Proofs.YtifafnmbcmhlcaaDoor
open Go.RowKit Go.Shelf

theorem res_cell_at {P : Program} {fn : Func} {p u : Tmp} {ty : TypeId} (h : fn.results = #[.cell p ty, .tmp u]) {tmps : Array Value} {w : World} {a : Addr} {v x : Value} (ht : tmps.getD p undef = .pointer (some a))
    (hu : tmps.getD u undef = x) (hl : (loadVar ty a).run P w = .ok v w) : (results fn tmps).run P w = .ok (.tuple #[v, x]) w := by
  rw [res_cell_tmp h ht hl, hu]
/-- what put answers: the sector, and the error -/
def putSt (kind : Int) (ps : List (Int × Int)) : List Nat × Int := putN ((kind, 1) :: ps) (ps.length + 1)
set_option maxRecDepth 100000 in
theorem put_no (kind : Int) (sl : Value) (w : World) :
    Calls Tryd.prog 37 #[.int .i64 kind, .bool false, sl] w fun e w' => e = .returned (.tuple #[.agg (bv zeros64), .int .i64 10]) ∧ Fr [] w w' := by
  have hz : ∀ w, (zeroValue 33).run Tryd.prog w = .ok (.agg (bv zeros64)) w := fun _ => by kernel_rfl
  obtain ⟨W1, hst, hB1, hF1, hs1⟩ := store_all (P := Tryd.prog) (Blk.new w (bv zeros64) 33) zeros64 (by simp [bv_size])
  have hsz : (bv zeros64).size = 64 := by simp [bv_size, zeros64]
  go_enter Tryd.func37, Tryd.ntmps37
  go_wp2_with fail
  have hld := load_var (P := Tryd.prog) (o := 0) hB1 zeros64 (bv_self _) Tryd.underlying33 (by kernel_rfl) (by simp [zeros64])
  refine bodyPost_ret (res_cell_at Tryd.results37 rfl rfl hld) rfl ⟨rfl, ?_⟩
  exact ((Fr.refl [] w).alloc _).comp hF1 (by simp)
set_option maxRecDepth 100000 in
set_option maxHeartbeats 1000000 in
theorem put_yes (kind : Int) (oa : Option Addr) (ps : List (Int × Int)) (cap : Nat) (w : World) (hP : IsPairs w oa ps) (hH : Halves w) (hl : ps.length ≤ 1000) :
    Calls Tryd.prog 37 #[.int .i64 kind, .bool true, .slice oa ps.length cap] w fun e w' => e = .returned (.tuple #[.agg (bv (sealV (putSt kind ps))), .int .i64 (putSt kind ps).2]) ∧ Fr [] w w' := by
  have hz : ∀ w, (zeroValue 33).run Tryd.prog w = .ok (.agg (bv zeros64)) w := fun _ => by kernel_rfl
  have HP := Lib.hid hP
  have HH := Lib.hid hH
  have hT0 := (Blk.new w (bv zeros64) 33)
  have hF0 := (Fr.refl [] w).alloc (.cells (bv zeros64) 33)
  obtain ⟨n, hn⟩ : ∃ n, n = ps.length := ⟨_, rfl⟩
  unfold putSt
  rw [← hn] at hl ⊢
  have HN := Lib.hid hn
  have HN1 := Lib.hid (show putN ((kind, 1) :: ps) 1 = putS ([], 0) kind 1 from rfl)
  clear hP hH hn
  go_enter Tryd.func37, Tryd.ntmps37
  go_wp2_with fail
  refine (Write_any _).mono ?_
  rintro e w1 ⟨rfl, hW1, hF1⟩
  rw [World.size_alloc] at hW1
  have hF01 := hF0.trans hF1
  have hs1 := hF1.size
  rw [World.size_alloc] at hs1
  have hlt1 := hW1.blk.lt
  have hT1 := hT0.fr hF1 (by simp)
  clear hT0 hF0 hF1
  go_wp2_with fail
  refine (Put_all (w.heap.size + 1) ([], 0) kind 1 w1 hW1).mono ?_
  rintro e w2 ⟨rfl, hW2, hF2⟩
  rw [← HN1.out] at hW2
  have HW2 := Lib.hid hW2
  have hs2 := hF2.size
  have HT2 := Lib.hid (hT1.fr hF2 (by simp))
  have hF02 : Fr [] w w2 := hF01.comp hF2 (by simp)
  clear hT1 hF2 hF01 hW1 hW2
  go_wp2_with fail
  go_loopw [19] (fun i wr => ∃ k : Nat, k ≤ n ∧ i = .int .i64 k ∧ IsWriter wr (w.heap.size + 1) (putN ((kind, 1) :: ps) (k + 1)).1 (putN ((kind, 1) :: ps) (k + 1)).2 ∧ Fr [w.heap.size + 1] w2 wr) (fun i _ => n - (intOf i).toNat)
  case atStart => exact ⟨0, Nat.zero_le _, rfl, HW2.out, Fr.refl _ _⟩
  case round =>
    obtain ⟨k, hk, rfl, hW, hF⟩ := hrel
    have HW := Lib.hid hW
    have hFw : Fr [] w wr := hF02.comp hF (by simp)
    have hszr := hF.size
    have hszw := hFw.size
    clear hW
    by_cases hlt : k < n
    · have hlt' : k < ps.length := by rw [← HN.out]; exact hlt
      obtain ⟨ab, off, hoa, c0, c1⟩ := HP.out k hlt'
      have hab := cell_lt c0
      have k1 := (hFw.cell _ (cell_lt c0) (by simp)).trans c0
      have k2 := (hFw.cell _ (cell_lt c1) (by simp)).trans c1
      have HS := Lib.hid (show putN ((kind, 1) :: ps) (k + 1 + 1) = putS (putN ((kind, 1) :: ps) (k + 1)) ps[k].1 ps[k].2 from putN_succ ((kind, 1) :: ps) (k + 1) (by simp; omega))
      have HCALL := Lib.hid (fun W hF' => Put_all (w.heap.size + 1) (putN ((kind, 1) :: ps) (k + 1)) ps[k].1 ps[k].2 W (HW.out.fr (S := []) hF' (by simp)))
      generalize ps[k].1 = x at k1 HCALL HS
      generalize ps[k].2 = y at k2 HCALL HS
      rw [hoa]
      clear c0 c1 hoa hlt'
      go_wp2_with fail
      refine (HCALL.out _ ((Fr.refl [] wr).alloc _)).mono ?_
      rintro e w4 ⟨rfl, hW4, hF4⟩
      have hF24 : Fr [w.heap.size + 1] w2 w4 := (hF.alloc _).trans hF4
      go_wp2
      go_roundw
      case rel => exact ⟨k + 1, by omega, by go_num, by rw [HS.out]; exact hW4, hF24⟩
      case measure => simp [intOf]; omega
    · obtain rfl : k = n := by omega
      go_wp2_with fail
      have hmem := putN_mem ((kind, 1) :: ps) (k + 1) (by rw [HN.out]; simp)
      refine (Seal_all (w.heap.size + 1) (putN ((kind, 1) :: ps) (k + 1)) wr HW.out (HH.out.keep hFw (by simp)) hmem).mono ?_
      rintro e w5 ⟨rfl, hF5⟩
      have hlen := sealV_len (putN ((kind, 1) :: ps) (k + 1)) HW.out.len
      generalize hS : putN ((kind, 1) :: ps) (k + 1) = S at hlen ⊢
      have HLEN := Lib.hid hlen
      obtain ⟨w6, hst, hB6, hF6, hs6⟩ := store_all (P := Tryd.prog) ((HT2.out.fr hF (by simp)).fr hF5 (by simp)) (sealV S) (by rw [hlen, bv_size]; rfl)
      have hsz : (bv (sealV S)).size = 64 := by rw [bv_size, hlen]
      have hF06 : Fr [] w w6 := (hFw.trans hF5).comp hF6 (by simp)
      have HSS := Lib.hid hS
      clear hS hlen
      go_wp2_with fail
      have hld := load_var (P := Tryd.prog) (o := 0) hB6 (sealV S) (bv_self _) Tryd.underlying33 (by kernel_rfl) HLEN.out
      exact bodyPost_ret (res_cell_at Tryd.results37 rfl rfl hld) rfl ⟨by rw [HSS.out]; rfl, hF06⟩
end Go.Proofs.YtifafnmbcmhlcaaDoor
