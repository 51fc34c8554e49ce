/- awake, SlotsMay. -/
import Derived.Test.YtoppbacokbbjdaaDoorSlotsH
namespace Go.Proofs.YtoppbacokbbjdaaDoor
open Go.RowKit Go.Shelf

theorem cell_lt {w : World} {a : Addr} {v : Value} (h : w.cell? a = some v) : a.block < w.heap.size := by
  unfold World.cell? at h
  split at h
  · rename_i hb; exact (Array.getElem?_eq_some_iff.1 hb).1
  · cases h
theorem Turns.lt {w : World} (h : Turns w) : 0 < w.heap.size := cell_lt (h 0 0 (by omega) (by omega))
theorem Turns.keep {S : List Nat} {w w' : World} (h : Turns w) (hf : Fr S w w') (hs : ∀ i, i ∈ S → ¬ i = 0) : Turns w' :=
  h.fr hf h.lt (fun hm => hs _ hm rfl)

set_option maxRecDepth 100000 in
theorem awake_ok (w : World) (hT : Turns w) :
    Calls Tryd.prog 11 #[] w fun e w' => e = .returned (.bool true) ∧ Fr [] w w' := by
  have hg := hT.lt
  have HT := Lib.hid hT
  clear hT
  go_enter Tryd.func11, Tryd.ntmps11
  go_wp2_with fail
  refine (New_ok 3 _ (by omega) (by omega)).mono ?_
  rintro e w1 ⟨b, bl, rfl, hI1, hF1, hb1, hb2⟩
  have HT1 := Lib.hid (HT.out.keep hF1 (by simp))
  go_wp2_with fail
  refine (Alloc_any b bl _ _ hI1).mono ?_
  rintro e w2 ⟨rfl, hI2, hF2⟩
  rw [show allocN (List.replicate 3 0) = 0 from by decide, show allocE (List.replicate 3 0) = 0 from by decide]
  rw [show allocL (List.replicate 3 0) = [1, 0, 0] from by decide] at hI2
  have HT2 := Lib.hid (HT1.out.keep hF2 (by simp; omega))
  go_wp2_with fail
  refine (Turn_any b bl _ 0 2 _ hI2 HT2.out).mono ?_
  rintro e w3 ⟨rfl, hI3, hF3⟩
  rw [show turnE [1, 0, 0] 0 2 = 0 from by decide]
  rw [show turnL [1, 0, 0] 0 2 = [2, 0, 0] from by decide] at hI3
  have HT3 := Lib.hid (HT2.out.keep hF3 (by simp; omega))
  go_wp2_with fail
  refine (Turn_any b bl _ 0 0 _ hI3 HT3.out).mono ?_
  rintro e w4 ⟨rfl, hI4, hF4⟩
  rw [show turnE [2, 0, 0] 0 0 = 16 from by decide]
  rw [show turnL [2, 0, 0] 0 0 = [2, 0, 0] from by decide] at hI4
  go_wp2_with fail
  refine (Alloc_any b bl _ _ hI4).mono ?_
  rintro e w5 ⟨rfl, hI5, hF5⟩
  rw [show allocN [2, 0, 0] = 1 from by decide, show allocE [2, 0, 0] = 0 from by decide]
  go_wp2
  go_ret
  exact ⟨rfl, hF1.comp (((hF2.trans hF3).trans hF4).trans hF5) (by simp; omega)⟩

theorem SlotsMay_ok (a b : Int) (w : World) (hT : Turns w) :
    Calls Tryd.prog 3 #[.int .i64 a, .int .i64 b] w fun e w' => e = .returned (.bool true) ∧ Fr [] w w' := by
  have HT := Lib.hid hT
  clear hT
  go_enter Tryd.func3, Tryd.ntmps3
  go_wp2_with fail
  refine (May_any _ _ _ HT.out).mono ?_
  rintro e w' ⟨rfl, rfl⟩
  go_wp2_with fail
  refine (refMay_any _ _ _).mono ?_
  rintro e w' ⟨rfl, rfl⟩
  go_wp2_with fail
  refine (awake_ok _ HT.out).mono ?_
  rintro e w' ⟨rfl, hF⟩
  go_wp2
  go_ret
  exact ⟨rfl, hF⟩
end Go.Proofs.YtoppbacokbbjdaaDoor
