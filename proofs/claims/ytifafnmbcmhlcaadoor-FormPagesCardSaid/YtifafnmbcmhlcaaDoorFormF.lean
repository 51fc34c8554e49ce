/- forms: kinds; the chapter's example. -/
import Derived.Test.YtifafnmbcmhlcaaDoorFormE
namespace Go.Proofs.YtifafnmbcmhlcaaDoor
open Go.RowKit Go.Shelf

def kindOk (l : List Nat) : Bool := isSealed l && wI (l.getD 0 0 : Nat) 1 6
def kindE (l : List Nat) : Int := if isSealed l then (if wI (l.getD 0 0 : Nat) 1 6 then 0 else 12) else 13
def kindK (l : List Nat) : Int := if isSealed l then (if wI (l.getD 0 0 : Nat) 1 6 then (l.getD 0 0 : Nat) else 0) else 0
set_option maxRecDepth 100000 in
set_option maxHeartbeats 1000000 in
theorem Kind_any (l : List Nat) (w : World) (hH : Halves w) (hl : l.length = 64) (hb : ∀ x, x ∈ l → x < 256) :
    Calls Tryd.prog 47 #[.agg (bv l)] w fun e w' => e = .returned (.tuple #[.int .i64 (kindK l), .int .i64 (kindE l)]) ∧ Fr [] w w' := by
  have HS := Lib.hid (fun W hW => Sealed_any l W hW hl hb)
  have HII := Lib.hid (show (Tryd.prog.info? 33).map (·.size) = some 64 by kernel_rfl)
  have HH := Lib.hid hH
  have HL := Lib.hid hl
  have hT0 := (Blk.new w (bv l) 33)
  have hF0 := (Fr.refl [] w).alloc (.cells (bv l) 33)
  have hx : (l.getD 0 0) < 256 := by
    rw [List.getD_eq_getElem?_getD, List.getElem?_eq_getElem (by omega)]
    exact hb _ (List.getElem_mem _)
  have hsz : (bv l).size = 64 := by rw [bv_size, hl]
  have hc0 : (bv l)[0]? = some (.int .u8 ((l.getD 0 0 : Nat) : Int)) := by
    rw [bv_get l 0 (by omega)]
    simp [List.getD, hl]
  clear hH hl hb
  unfold kindK kindE
  generalize hX : l.getD 0 0 = x at hx hc0 ⊢
  have HX := Lib.hid hX
  clear hX
  cases h0 : isSealed l
  · rw [h0] at HS
    simp only [Bool.false_eq_true, if_false] at HS ⊢
    clear h0
    go_enter Tryd.func47, Tryd.ntmps47
    go_wp2_with (refine wpList_load_bv rfl 33 _ rfl w.heap.size 0 rfl l (range_bv hT0) Tryd.underlying33 HII.out HL.out ?_)
    refine (HS.out _ (HH.out.keep hF0 (by simp))).mono ?_
    rintro e w1 ⟨rfl, hF1⟩
    go_wp2_with fail
    go_ret2
    exact ⟨rfl, hF0.trans hF1⟩
  · rw [h0] at HS
    simp only [if_true] at HS ⊢
    clear h0
    cases h1 : wI (x : Int) 1 6
    all_goals
      simp only [Bool.false_eq_true, if_false, if_true]
      go_enter Tryd.func47, Tryd.ntmps47
      go_wp2_with (refine wpList_load_bv rfl 33 _ rfl w.heap.size 0 rfl l (range_bv hT0) Tryd.underlying33 HII.out HL.out ?_)
      refine (HS.out _ (HH.out.keep hF0 (by simp))).mono ?_
      rintro e w1 ⟨rfl, hF1⟩
      have hc1 : w1.cell? ⟨w.heap.size, 0, none⟩ = some (.int .u8 (x : Int)) := (hT0.fr hF1 (by simp)).cell hc0
      go_wp2_with (go_at_call 55; refine (within_val _ _ _ _ _ h1).mono ?_; rintro e w' ⟨rfl, rfl⟩)
      go_ret2
      exact ⟨rfl, hF0.trans hF1⟩

def awB : List Nat := putB 4 (intR 5 9 3 2) (intL 5 9 3 2)
theorem awB_len : awB.length = 64 := putB_len _ _ _
theorem awB_eq : awB = sealed [4, 5, 0, 0, 0, 0, 0, 9, 0, 0, 0, 0, 0, 3, 0, 2, 0] := by decide +kernel
theorem awB_er : putEr 4 (intR 5 9 3 2) (intL 5 9 3 2) = 0 := by decide +kernel
theorem awB_sealed : isSealed awB = true := by rw [awB_eq]; exact isSealed_sealed _ (by simp)
theorem awB_mem : ∀ x, x ∈ awB → x < 256 := by rw [awB_eq]; exact sealed_mem _ (by decide)
theorem awB_get (i : Nat) (h : i < 60) : (bv awB)[i]? = some (.int .u8 (((pad 60 [4, 5, 0, 0, 0, 0, 0, 9, 0, 0, 0, 0, 0, 3, 0, 2, 0]).getD i 0 : Nat) : Int)) := by
  have hp : (pad 60 [4, 5, 0, 0, 0, 0, 0, 9, 0, 0, 0, 0, 0, 3, 0, 2, 0]).length = 60 := pad_len 60 _ (by simp)
  have hl := awB_len
  rw [bv_get awB i (by omega)]
  congr 3
  have e : awB[i]? = (pad 60 [4, 5, 0, 0, 0, 0, 0, 9, 0, 0, 0, 0, 0, 3, 0, 2, 0])[i]? := by
    rw [awB_eq]
    unfold sealed
    rw [List.getElem?_append_left (by omega)]
  rw [List.getElem?_eq_getElem (by omega)] at e
  rw [List.getD_eq_getElem?_getD, ← e]
  rfl
set_option maxRecDepth 100000 in
set_option maxHeartbeats 1000000 in
theorem awake06_any (w : World) (hH : Halves w) :
    Calls Tryd.prog 26 #[] w fun e w' => e = .returned (.bool true) ∧ Fr [] w w' := by
  have hz : ∀ w, (zeroValue 33).run Tryd.prog w = .ok (.agg (bv zeros64)) w := fun _ => by kernel_rfl
  have HP := Lib.hid (fun W hW => PutIntent_any 5 9 3 2 W hW)
  have HK := Lib.hid (fun W hW => Kind_any awB W hW awB_len awB_mem)
  have hk0 : awB.getD 0 0 = 4 := by rw [awB_eq]; rfl
  unfold kindK kindE at HK
  rw [awB_sealed, hk0] at HK
  rw [show wI (4 : Nat) 1 6 = true by decide] at HK
  simp only [if_true] at HK
  rw [show putB 4 (intR 5 9 3 2) (intL 5 9 3 2) = awB from rfl, awB_er] at HP
  unfold intV at HP
  have HII := Lib.hid (show (Tryd.prog.info? 33).map (·.size) = some 64 by kernel_rfl)
  have HH := Lib.hid hH
  have HL := Lib.hid awB_len
  have hsz : (bv awB).size = 64 := by rw [bv_size, awB_len]
  have HG := Lib.hid awB_get
  generalize awB = B at HP HK HL hsz HG
  clear hH hk0
  go_enter Tryd.func26, Tryd.ntmps26
  go_wp2_with fail
  refine (HP.out _ HH.out).mono ?_
  rintro e w1 ⟨rfl, hF1⟩
  obtain ⟨w2, hst, hB2, hF2, hs2⟩ := store_all (P := Tryd.prog) (Blk.new w1 (bv zeros64) 33) B (by rw [HL.out, bv_size]; rfl)
  have hF02 : Fr [] w w2 := (hF1.alloc _).comp hF2 (by have := hF1.size; simp; omega)
  go_wp2_with (refine wpList_load_bv rfl 33 _ rfl w1.heap.size 0 rfl B (range_bv hB2) Tryd.underlying33 HII.out HL.out ?_)
  refine (HK.out _ (HH.out.keep hF02 (by simp))).mono ?_
  rintro e w3 ⟨rfl, hF3⟩
  have hF03 := hF02.trans hF3
  have hB3 := hB2.fr hF3 (by simp)
  have c0 : w3.cell? ⟨w1.heap.size, 0, none⟩ = some (.int .u8 4) := hB3.cell (HG.out 0 (by omega))
  have c1 : w3.cell? ⟨w1.heap.size, 1, none⟩ = some (.int .u8 5) := hB3.cell (HG.out 1 (by omega))
  have c7 : w3.cell? ⟨w1.heap.size, 7, none⟩ = some (.int .u8 9) := hB3.cell (HG.out 7 (by omega))
  have c13 : w3.cell? ⟨w1.heap.size, 13, none⟩ = some (.int .u8 3) := hB3.cell (HG.out 13 (by omega))
  have c15 : w3.cell? ⟨w1.heap.size, 15, none⟩ = some (.int .u8 2) := hB3.cell (HG.out 15 (by omega))
  have c17 : w3.cell? ⟨w1.heap.size, 17, none⟩ = some (.int .u8 0) := hB3.cell (HG.out 17 (by omega))
  clear hst
  go_wp2_with fail
  go_ret
  exact ⟨rfl, hF03⟩
end Go.Proofs.YtifafnmbcmhlcaaDoor
