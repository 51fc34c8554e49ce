/- PagesTurns: whatever place and rows of entries it is called with, the law returns true; they read as they did. The listed table reads as the program's text lays it (the card ties that). -/
import Derived.Test.YtgmjhpappamenaaDoorFieldK
import Derived.Test.YtgmjhpappamenaaDoorPageP
import Derived.Test.YtgmjhpappamenaaDoorPageS
namespace Go.Proofs.YtgmjhpappamenaaDoor
open Go Go.ChangeShapes Go.WideShapes Go.ChangeAt Go.WideMaps Go.WideElems Go.RowKit

set_option maxRecDepth 100000 in
theorem pagesTurns_lifted (os : Os) (started : os.Started) (H : Type) (enc : TypeId × Value → H) :
    ReturnsInHanded {} Tryd.checked os 3 .any (fun w args => (Rows.pagesTurnsSpec.pre enc Tryd.prog Tryd.f3 [] false w args ∧ laidMetH Tryd.prog laidS w) ∧ sizedMet enc Tryd.prog Tryd.f3 (OpenSpec.ofChange Rows.pagesTurnsSpec) false w args)
      (Rows.pagesTurnsSpec.post enc Tryd.prog Tryd.f3 false true false false) := by
  refine returnsInHanded_of_change_and (C := Tryd.checked) (X := fun w _ => laidMetH Tryd.prog laidS w) (fun _ _ _ hh h => h.of_heap hh) own started (by kernel_rfl) Tryd.func3
    (ChangeSpec.witness_shaped (enc := enc) (C := Tryd.checked) (os := os) (X := fun w _ => laidMetH Tryd.prog laidS w) false (World.doorLaid Tryd.prog 400 os) #[.agg #[.int .i64 0, .int .i64 0], .slice none 0 0] 8 rfl (World.shaped_of_RefB (by kernel_rfl) (by kernel_rfl)) (by kernel_rfl) (by kernel_rfl) (by kernel_rfl) (laidMetH_of_parts3 (fuel := 8) (laidMet_of_run' 8 (by kernel_rfl) (by kernel_rfl)) (by kernel_rfl) (by kernel_rfl))) ?_
  intro W base args ds gs before hval0 hW _ _ hL _
  have hval : ∀ (j : Nat) t v, Tryd.f3.params[j]? = some t → args[j]? = some v → Value.okWide Tryd.prog W .any base t v := hval0
  have hW' := hW
  obtain ⟨p, q, hA0, hV, hpq, hfz, hnd⟩ := hW
  have hA : DataW.TrodAll enc Tryd.prog W 0 (fun _ => true) true Tryd.f3.params.toList args.toList ds p := hA0
  rw [Tryd.params3] at hA hval
  obtain ⟨v0, v1, d0, d1, p0, p1, rfl, rfl, hp, h0, h1⟩ := trodAll_two hA
  obtain ⟨rfl, rfl⟩ := trodVars_none hV
  obtain ⟨a, p, rfl, wa, wp⟩ := two_of (f := 4) (by kernel_rfl) (okWide_array Tryd.underlying22 (hval 0 22 v0 rfl rfl)) h0
  obtain ⟨oa1, cap1, rs1, rfl, hlen1, hrs1⟩ := rowsEnts_of (f := 4) Tryd.underlying23 Tryd.underlying29 (by kernel_rfl) (by kernel_rfl) (okWide_slice Tryd.underlying23 (hval 1 23 v1 rfl rfl)) h1
  have hT := of_laid hL
  have : Calls Tryd.prog 3 #[.agg #[.int .i64 a, .int .i64 p], .slice oa1 rs1.length cap1] W fun e w' => e = .returned (.bool true) ∧ Fr [] W w' := by
    by_cases hr : a < 0 ∨ 10 < a ∨ p < 1 ∨ 10 < p ∨ 8 < rs1.length
    · exact PagesTurns_out a p oa1 rs1.length cap1 W hr
    · obtain ⟨a, rfl⟩ := Int.eq_ofNat_of_zero_le (show 0 ≤ a by omega)
      obtain ⟨p, rfl⟩ := Int.eq_ofNat_of_zero_le (show 0 ≤ p by omega)
      exact PagesTurns_in a p oa1 cap1 rs1 W hT hrs1 (by omega) (by omega) (by omega) (by omega)
  refine this.mono fun e W' ⟨he, hF⟩ => ?_
  subst he
  exact ⟨_, rfl, law_post (by kernel_rfl) (by kernel_rfl) rfl Tryd.underlying4 rfl rfl hW' (hF.below (Nat.le_refl _) (by simp))⟩

theorem pagesTurns_holds : Rows.PagesTurnsSaid :=
  OpenClaim.holds_of_wide 3 Tryd.f3 rfl rfl rfl rfl rfl rfl rfl ⟨rfl, rfl, rfl, rfl, rfl⟩ rfl rfl rfl rfl rfl (by kernel_rfl) Tryd.func3 (by kernel_rfl)
    (of_decide_eq_true (by kernel_rfl)) (by unfold Func.isWrapper; first | (rw [if_pos (by decide +kernel)]; kernel_rfl) | (rw [if_neg (by decide +kernel)]; exact ⟨rfl, rfl⟩))
    (fun os started H enc _ => pagesTurns_lifted os started H enc)

theorem pagesTurns_card : Rows.PagesTurnsCardSaid :=
  Claim7.holds_tied_plain_at .later [] [.data] true Rows.pagesTurnsCard.stood.harness false
    pagesTurns_holds (fun _ h => by cases h) (by kernel_rfl) (fun _ h => by cases h) pagesTurns_row_tie rfl ⟨rfl, rfl⟩ (by kernel_rfl) rfl
    (fun f fn hf hfn => by
      obtain rfl : f = 3 := Option.some.inj ((show Tryd.prog.funcNamed "lavabo/lavabolaw13.PagesTurns" = some 3 by kernel_rfl).symm.trans hf) |>.symm
      obtain rfl : fn = Tryd.f3 := (Option.some.inj (Tryd.func3.symm.trans hfn)).symm
      exact ⟨by kernel_rfl, fun j t ht => by
        have hm : t ∈ Tryd.f3.params.toList := by simpa using Array.mem_of_getElem? ht
        have hall : (Tryd.f3.params.toList.all fun u => !Tryd.prog.wantsStandIn u) = true := by kernel_rfl
        exact (show Tryd.prog.wantsStandIn t = false by simpa using List.all_eq_true.1 hall t hm)⟩)
    (by kernel_rfl)
#print axioms pagesTurns_card
end Go.Proofs.YtgmjhpappamenaaDoor
