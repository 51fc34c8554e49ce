/- second: Ints, and the chapter's example. -/
import Derived.Test.YthhkgknolclakaaSecL
namespace Go.Proofs.Ythhkgknolclakaa
open Go Go.RowKit Go.Shelf Go.Maps

theorem owns_isInts {w : World} {base : Nat} {v : Value} {xs : List Int} (h : w.ownsRow base 3 1 v xs.length (intC xs)) : ∃ oa c, v = .slice oa xs.length c ∧ IsInts w oa xs := by
  obtain ⟨oa, c, rfl, hc⟩ := owns_cells h
  refine ⟨oa, c, rfl, fun i hi => ?_⟩
  obtain ⟨g, cur, rfl, hb, hv⟩ := hc i (.int .i64 xs[i]) (by simp [intC, hi])
  exact ⟨g, 0, rfl, by rw [Nat.zero_add]; exact hb.cell hv⟩
theorem Ints_same (oa ob : Option Addr) (ca cb : Nat) (xs : List Int) (w : World) (ha : IsInts w oa xs) (hb : IsInts w ob xs) (hl : xs.length ≤ 140737488351232) :
    Calls Try.prog 18 #[.slice oa xs.length ca, .slice ob xs.length cb] w fun e w' => e = .returned (.bool true) ∧ Fr [] w w' := by
  have HA := Lib.hid ha
  have HB := Lib.hid hb
  clear ha hb
  obtain ⟨n, hn⟩ : ∃ n, n = xs.length := ⟨_, rfl⟩
  rw [← hn] at hl ⊢
  have HN := Lib.hid hn
  clear hn
  go_enter Try.func18, Try.ntmps18
  go_wp2_with fail
  go_loopw [5] (fun i wr => ∃ k : Nat, k ≤ n ∧ i = .int .i64 k ∧ Fr [] w wr) (fun i _ => n - (intOf i).toNat)
  case atStart => exact ⟨0, Nat.zero_le _, rfl, Fr.refl _ _⟩
  case round =>
    obtain ⟨k, hk, rfl, hF⟩ := hrel
    by_cases hlt : k < n
    · have hlt' : k < xs.length := by rw [← HN.out]; exact hlt
      obtain ⟨ga, offa, hoa, hva⟩ := HA.out k hlt'
      obtain ⟨gb, offb, hob, hvb⟩ := HB.out k hlt'
      have ka := cell_fr hF (by simp) hva
      have kb := cell_fr hF (by simp) hvb
      obtain ⟨x, hx⟩ : ∃ x, x = xs[k] := ⟨_, rfl⟩
      rw [← hx] at ka kb
      clear hx hva hvb
      rw [hoa, hob]
      clear hoa hob
      go_wp2
      go_quiet (fail)
      go_wp2
      go_roundw
      case rel => exact ⟨k + 1, by omega, by go_num, hF.drewN _⟩
      case measure => simp [intOf]; omega
    · obtain rfl : k = n := by omega
      go_wp2
      go_ret
      exact ⟨rfl, hF⟩
theorem keys_any {w : World} {b : Nat} {D : List Nat} {x : Clk} (h : IsClk w b D x) :
    Calls Try.prog 15 #[.pointer (some ⟨b, 0, none⟩)] w fun e w' => ∃ v1 v2, e = .returned (.tuple #[v1, v2, .bool true]) ∧
      w'.ownsRow w.heap.size 3 1 v1 x.L.length (intC (kofs x.L)) ∧ w'.ownsRow w.heap.size 4 1 v2 x.L.length (boolC (x.L.map (·.2))) ∧ Fr [] w w' :=
  keys_of _ _ w (by obtain ⟨mb, lv, gv, rfl, h⟩ := h; exact Nat.le_trans h.ok.most h.most) fun w1 hF => AllS_any (h.fr hF (by simp))
theorem ghosts_any {w : World} {b : Nat} {D : List Nat} {x : Clk} (h : IsClk w b D x) :
    Calls Try.prog 17 #[.pointer (some ⟨b, 0, none⟩)] w fun e w' => ∃ v, e = .returned (.tuple #[v, .bool true]) ∧
      w'.ownsRow w.heap.size 3 1 v x.G.length (intC x.G) ∧ Fr [] w w' :=
  ghosts_of _ _ w (by obtain ⟨mb, lv, gv, rfl, h⟩ := h; exact Nat.le_trans h.ok.few h.few) fun w1 hF => Ghosts_any (h.fr hF (by simp))
theorem awake_ok (w : World) : Calls Try.prog 8 #[] w fun e w' => e = .returned (.bool true) ∧ Fr [] w w' := by
  go_enter Try.func8, Try.ntmps8
  go_wp2_with fail
  refine (New_in 4 4 w (by decide) (by decide) (by decide)).mono ?_
  rintro e w1 ⟨b, D, rfl, h1, hF1, hD1⟩
  go_wp2_with fail
  refine (Add_any h1 (k := 11) (by decide)).mono ?_
  rintro e w2 ⟨rfl, D2, T2⟩
  go_wp2_with fail
  refine (Add_any T2.is (k := 12) (by decide)).mono ?_
  rintro e w3 ⟨rfl, D3, T3⟩
  go_wp2_with fail
  refine (Touch_any T3.is (k := 11) (by decide)).mono ?_
  rintro e w4 ⟨rfl, D4, T4⟩
  go_wp2_with fail
  have hev := Evict_any T4.is 0
  rw [show ckEvict (ckTouch (ckAdd (ckAdd ⟨[], [], 4, 4⟩ 11) 12) 11) (goB 0) = (⟨[(11, false)], [12], 4, 4⟩, 12, 0) by rfl] at hev
  refine hev.mono ?_
  rintro e w5 ⟨rfl, D5, T5⟩
  go_wp2_with fail
  refine (keys_any T5.is).mono ?_
  rintro e w6 ⟨v1, v2, rfl, ho1, ho2, hF6⟩
  have T := ((T2.trans T3).trans T4).trans T5
  have hFa : Fr [] w w6 := (hF1.comp T.fr (fun i hi => .inr (hD1 i hi))).trans (hF6.sub (by simp))
  obtain ⟨oa, ca, rfl, hI⟩ := owns_isInts (xs := [11]) ho1
  obtain ⟨ob, cb, rfl, hc⟩ := owns_cells ho2
  obtain ⟨g, cur, rfl, hb, hv⟩ := hc 0 (.bool false) rfl
  have cg := hb.cell hv
  have hN : IsInts (w6.alloc (.cells #[.int .i64 11] 3)) (some ⟨w6.heap.size, 0, none⟩) [11] := fun i hi => ⟨w6.heap.size, 0, rfl, by
    obtain rfl : i = 0 := by simpa using hi
    exact (Blk.new w6 #[.int .i64 11] 3).cell rfl⟩
  have hS := Ints_same oa (some ⟨w6.heap.size, 0, none⟩) ca 1 [11] _ (ints_fr hI ((Fr.refl [] w6).alloc (.cells #[.int .i64 11] 3)) (by simp)) hN (by decide)
  have HS := Lib.hid hS
  have HF := Lib.hid hFa
  have HB := Lib.hid hb
  clear hS hN hI hc ho1 ho2 T T2 T3 T4 T5 hF1 hF6 hev h1 hD1 hFa hb hv
  go_wp2_with fail
  refine HS.out.mono ?_
  rintro e w7 ⟨rfl, hF7⟩
  have cg7 : w7.cell? ⟨g, 0, none⟩ = some (.bool false) := cell_fr (((Fr.refl [] w6).alloc (.cells #[.int .i64 11] 3)).trans hF7) (by simp) cg
  go_wp2_with fail
  go_ret
  exact ⟨rfl, ((HF.out.alloc _).trans hF7)⟩
end Go.Proofs.Ythhkgknolclakaa
