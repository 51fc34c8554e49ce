/- SecondDrops: whatever calls and key it is called with, the law returns true; both read as they did. -/
import Derived.Test.YthhkgknolclakaaSecT
import Derived.Test.YthhkgknolclakaaRows
namespace Go.Proofs.Ythhkgknolclakaa
open Go Go.ChangeShapes Go.WideShapes Go.ChangeAt Go.WideMaps Go.WideElems Go.RowKit

set_option maxRecDepth 100000 in
theorem secondDrops_lifted (os : Os) (started : os.Started) (H : Type) (enc : TypeId × Value → H) :
    ReturnsInHanded {} Try.checked os 4 .any (Rows.secondDropsSpec.pre6 enc Try.prog Try.f4 Rows.secondDropsRow.domain false)
      (Rows.secondDropsSpec.post enc Try.prog Try.f4 false true false false) := by
  refine returnsInHanded_of_change (C := Try.checked) own started (by kernel_rfl) Try.func4
    (ChangeSpec.witness6 (enc := enc) (C := Try.checked) false ⟨#[], #[.slice none 0 0, .int .i64 0], []⟩ 8 (by kernel_rfl) (by kernel_rfl) (by kernel_rfl) (by kernel_rfl)) ?_
  intro W base args ds gs before hval0 hW _ _
  have hval : ∀ (j : Nat) t v, Try.f4.params[j]? = some t → args[j]? = some v → Value.okWide Try.prog W .any base t v := hval0
  have hW' := hW
  obtain ⟨p, q, hA0, hV, hpq, hfz, hnd⟩ := hW
  have hA : DataW.TrodAll enc Try.prog W 0 (fun _ => true) true Try.f4.params.toList args.toList ds p := hA0
  rw [Try.params4] at hA hval
  obtain ⟨v0, v1, d0, d1, p0, p1, rfl, rfl, hp, h0, h1⟩ := trodAll_two hA
  obtain ⟨rfl, rfl⟩ := trodVars_none hV
  obtain ⟨oa0, len0, cap0, rfl, hlen0, hcells0⟩ := open_flats (f := 4) (ks := [some .i64, some .i64]) Try.underlying22 (by kernel_rfl) (by decide) (okWide_slice Try.underlying22 (hval 0 22 v0 rfl rfl)) h0
  obtain ⟨a, rfl, rfl, _, wa⟩ := open_int Try.underlying3 (hval 1 3 v1 rfl rfl) h1
  have : Calls Try.prog 4 #[.slice oa0 len0 cap0, .int .i64 a] W fun e w' => e = .returned (.bool true) ∧ Fr [] W w' := by
    by_cases hr : 100 < len0
    · exact Drops_out oa0 len0 cap0 a W hr
    · obtain ⟨l, rfl, hI, hwf⟩ := ops_of hcells0
      exact Drops_in oa0 cap0 l a W hI hwf wa (by omega)
  refine this.mono fun e W' ⟨he, hF⟩ => ?_
  subst he
  exact ⟨_, rfl, law_post (by kernel_rfl) (by kernel_rfl) rfl Try.underlying4 rfl rfl hW' (hF.below (Nat.le_refl _) (by simp))⟩

theorem secondDrops_holds : Rows.SecondDropsSaid :=
  OpenClaim.holds_of_wide 4 Try.f4 rfl rfl rfl rfl rfl rfl rfl ⟨rfl, rfl, rfl, rfl, rfl⟩ rfl rfl rfl rfl rfl (by kernel_rfl) Try.func4 (by kernel_rfl)
    (of_decide_eq_true (by kernel_rfl)) (by unfold Func.isWrapper; first | (rw [if_pos (by decide +kernel)]; kernel_rfl) | (rw [if_neg (by decide +kernel)]; exact ⟨rfl, rfl⟩))
    (fun os started H enc _ => secondDrops_lifted os started H enc)
#print axioms secondDrops_holds
end Go.Proofs.Ythhkgknolclakaa
