/- FieldBack: whatever pairs, sector and sizes it is called with, the law returns true; they read as they did. The listed table reads as the program's text lays it (the card ties that). -/
import Derived.Test.YtifafnmbcmhlcaaDoorFieldK
import Derived.Test.YtifafnmbcmhlcaaDoorFieldP
namespace Go.Proofs.YtifafnmbcmhlcaaDoor
open Go Go.ChangeShapes Go.WideShapes Go.ChangeAt Go.WideMaps Go.WideElems Go.RowKit

set_option maxRecDepth 100000 in
theorem fieldBack_lifted (os : Os) (started : os.Started) (H : Type) (enc : TypeId × Value → H) :
    ReturnsInHanded {} Tryd.checked os 7 .any (fun w args => (Rows.fieldBackSpec.pre enc Tryd.prog Tryd.f7 [] false w args ∧ laidMetH Tryd.prog laidS w) ∧ sizedMet enc Tryd.prog Tryd.f7 (OpenSpec.ofChange Rows.fieldBackSpec) false w args)
      (Rows.fieldBackSpec.post enc Tryd.prog Tryd.f7 false true false false) := by
  refine returnsInHanded_of_change_and (C := Tryd.checked) (X := fun w _ => laidMetH Tryd.prog laidS w) (fun _ _ _ hh h => h.of_heap hh) own started (by kernel_rfl) Tryd.func7
    (ChangeSpec.witness_shaped (enc := enc) (C := Tryd.checked) (os := os) (X := fun w _ => laidMetH Tryd.prog laidS w) false (World.doorLaid Tryd.prog 400 os) #[.slice none 0 0, .agg Tryd.zeroCells48] 8 rfl (World.shaped_of_RefB (by kernel_rfl) (by kernel_rfl)) (by kernel_rfl) (by kernel_rfl) (by kernel_rfl) (laidMetH_of_parts3 (fuel := 8) (laidMet_of_run' 8 (by kernel_rfl) (by kernel_rfl)) (by kernel_rfl) (by kernel_rfl))) ?_
  intro W base args ds gs before hval0 hW _ _ hL _
  have hval : ∀ (j : Nat) t v, Tryd.f7.params[j]? = some t → args[j]? = some v → Value.okWide Tryd.prog W .any base t v := hval0
  have hW' := hW
  obtain ⟨p, q, hA0, hV, hpq, hfz, hnd⟩ := hW
  have hA : DataW.TrodAll enc Tryd.prog W 0 (fun _ => true) true Tryd.f7.params.toList args.toList ds p := hA0
  rw [Tryd.params7] at hA hval
  obtain ⟨v0, v1, d0, d1, p0, p1, rfl, rfl, hp, h0, h1⟩ := trodAll_two hA
  obtain ⟨rfl, rfl⟩ := trodVars_none hV
  obtain ⟨oa0, len0, cap0, rfl, hlen0, hcells0⟩ := open_flats (f := 4) (ks := [some .i64, some .i64]) Tryd.underlying22 (by kernel_rfl) (by decide) (okWide_slice Tryd.underlying22 (hval 0 22 v0 rfl rfl)) h0
  obtain ⟨l1, ob1, len1, cap1, ns1, rfl, hl1, hb1, hlen1, hI1⟩ := three_of (f := 4) Tryd.underlying48 rfl rfl (by kernel_rfl) (by kernel_rfl) (by kernel_rfl) (by kernel_rfl) Tryd.underlying46 (by kernel_rfl) (okWide_struct Tryd.underlying48 (hval 1 48 v1 rfl rfl)) h1
  have hT := of_laid hL
  obtain ⟨ps, rfl, hP⟩ := pairs_of hcells0
  have : Calls Tryd.prog 7 #[.slice oa0 ps.length cap0, .agg (threeV l1 (.slice ob1 len1 cap1))] W fun e w' => e = .returned (.bool true) ∧ Fr [] W w' := by
    by_cases hr : 30 < ps.length ∨ ¬ 30 < ps.length ∧ 30 < len1
    · exact FieldBack_long oa0 ob1 ps.length cap0 len1 cap1 l1 W hT hl1 hr
    · subst hlen1
      exact FieldBack_in oa0 ob1 cap0 cap1 ps ns1 l1 W hT hP hI1 hl1 hb1 (by omega) (by omega)
  refine this.mono fun e W' ⟨he, hF⟩ => ?_
  subst he
  exact ⟨_, rfl, law_post (by kernel_rfl) (by kernel_rfl) rfl Tryd.underlying4 rfl rfl hW' (hF.below (Nat.le_refl _) (by simp))⟩

theorem fieldBack_holds : Rows.FieldBackSaid :=
  OpenClaim.holds_of_wide 7 Tryd.f7 rfl rfl rfl rfl rfl rfl rfl ⟨rfl, rfl, rfl, rfl, rfl⟩ rfl rfl rfl rfl rfl (by kernel_rfl) Tryd.func7 (by kernel_rfl)
    (of_decide_eq_true (by kernel_rfl)) (by unfold Func.isWrapper; first | (rw [if_pos (by decide +kernel)]; kernel_rfl) | (rw [if_neg (by decide +kernel)]; exact ⟨rfl, rfl⟩))
    (fun os started H enc _ => fieldBack_lifted os started H enc)

theorem fieldBack_card : Rows.FieldBackCardSaid :=
  Claim7.holds_tied_plain_at .later [] [.data] true Rows.fieldBackCard.stood.harness false
    fieldBack_holds (fun _ h => by cases h) (by kernel_rfl) (fun _ h => by cases h) fieldBack_row_tie rfl ⟨rfl, rfl⟩ (by kernel_rfl) rfl
    (fun f fn hf hfn => by
      obtain rfl : f = 7 := Option.some.inj ((show Tryd.prog.funcNamed "lavabo/lavabolaw04.FieldBack" = some 7 by kernel_rfl).symm.trans hf) |>.symm
      obtain rfl : fn = Tryd.f7 := (Option.some.inj (Tryd.func7.symm.trans hfn)).symm
      exact ⟨by kernel_rfl, fun j t ht => by
        have hm : t ∈ Tryd.f7.params.toList := by simpa using Array.mem_of_getElem? ht
        have hall : (Tryd.f7.params.toList.all fun u => !Tryd.prog.wantsStandIn u) = true := by kernel_rfl
        exact (show Tryd.prog.wantsStandIn t = false by simpa using List.all_eq_true.1 hall t hm)⟩)
    (by kernel_rfl)
#print axioms fieldBack_card
end Go.Proofs.YtifafnmbcmhlcaaDoor
