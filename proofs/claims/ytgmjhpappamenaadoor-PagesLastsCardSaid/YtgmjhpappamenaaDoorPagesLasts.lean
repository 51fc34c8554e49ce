/- PagesLasts: whatever place, entries and numbers it is called with, the law returns true; they read as they did. The listed table reads as the program's text lays it (the card ties that). -/
import Derived.Test.YtgmjhpappamenaaDoorFieldK
import Derived.Test.YtgmjhpappamenaaDoorPageW
import Derived.Test.YtgmjhpappamenaaDoorPageP

namespace Go.Proofs.YtgmjhpappamenaaDoor
open Go Go.ChangeShapes Go.WideShapes Go.ChangeAt Go.WideMaps Go.WideElems Go.RowKit

theorem i64_lt {n : Int} (h : (Lit.int .i64 n).wf = true) : -9223372036854775808 ≤ n ∧ n < 9223372036854775808 := by
  simp only [Lit.wf, Bool.and_eq_true, decide_eq_true_eq] at h
  have h1 : IntKind.i64.min = -9223372036854775808 := by decide
  have h2 : IntKind.i64.max = 9223372036854775807 := by decide
  omega
theorem i64_le {s : Int} (h : (Lit.int .i64 s).wf = true) : s ≤ 9223372036854775807 := by
  have := (i64_lt h).2
  omega
set_option maxRecDepth 100000 in
theorem pagesLasts_lifted (os : Os) (started : os.Started) (H : Type) (enc : TypeId × Value → H) :
    ReturnsInHanded {} Tryd.checked os 5 .any (fun w args => (Rows.pagesLastsSpec.pre enc Tryd.prog Tryd.f5 [] false w args ∧ laidMetH Tryd.prog laidS w) ∧ sizedMet enc Tryd.prog Tryd.f5 (OpenSpec.ofChange Rows.pagesLastsSpec) false w args)
      (Rows.pagesLastsSpec.post enc Tryd.prog Tryd.f5 false true false false) := by
  refine returnsInHanded_of_change_and (C := Tryd.checked) (X := fun w _ => laidMetH Tryd.prog laidS w) (fun _ _ _ hh h => h.of_heap hh) own started (by kernel_rfl) Tryd.func5
    (ChangeSpec.witness_shaped (enc := enc) (C := Tryd.checked) (os := os) (X := fun w _ => laidMetH Tryd.prog laidS w) false (World.doorLaid Tryd.prog 400 os) #[.agg #[.int .i64 0, .int .i64 0], .agg #[.slice none 0 0, .slice none 0 0], .agg #[.int .i64 0, .int .i64 0]] 8 rfl (World.shaped_of_RefB (by kernel_rfl) (by kernel_rfl)) (by kernel_rfl) (by kernel_rfl) (by kernel_rfl) (laidMetH_of_parts3 (fuel := 8) (laidMet_of_run' 8 (by kernel_rfl) (by kernel_rfl)) (by kernel_rfl) (by kernel_rfl))) ?_
  intro W base args ds gs before hval0 hW _ _ hL _
  have hval : ∀ (j : Nat) t v, Tryd.f5.params[j]? = some t → args[j]? = some v → Value.okWide Tryd.prog W .any base t v := hval0
  have hW' := hW
  obtain ⟨p, q, hA0, hV, hpq, hfz, hnd⟩ := hW
  have hA : DataW.TrodAll enc Tryd.prog W 0 (fun _ => true) true Tryd.f5.params.toList args.toList ds p := hA0
  rw [Tryd.params5] at hA hval
  obtain ⟨v0, v1, v2, d0, d1, d2, p0, p1, p2, rfl, rfl, hp, h0, h1, h2⟩ := trodAll_three hA
  obtain ⟨rfl, rfl⟩ := trodVars_none hV
  obtain ⟨a, p, rfl, wa, wp⟩ := two_of (f := 4) (by kernel_rfl) (okWide_array Tryd.underlying22 (hval 0 22 v0 rfl rfl)) h0
  obtain ⟨oa01, cap01, l01, oa11, cap11, l11, rfl, hr01, hr11⟩ := twoEnts_of (f := 4) Tryd.underlying35 Tryd.underlying29 (by kernel_rfl) (by kernel_rfl) (by kernel_rfl) (okWide_array Tryd.underlying35 (hval 1 35 v1 rfl rfl)) h1
  obtain ⟨s, u, rfl, ws, wu⟩ := two_of (f := 4) (by kernel_rfl) (okWide_array Tryd.underlying22 (hval 2 22 v2 rfl rfl)) h2
  have hT := of_laid hL
  have : Calls Tryd.prog 5 #[.agg #[.int .i64 a, .int .i64 p], .agg #[.slice oa01 l01.length cap01, .slice oa11 l11.length cap11], .agg #[.int .i64 s, .int .i64 u]] W fun e w' => e = .returned (.bool true) ∧ Fr [] W w' := by
    by_cases hr : a < 0 ∨ 10 < a ∨ p < 1 ∨ 10 < p ∨ 40 < l01.length ∨ 40 < l11.length ∨ s < 0 ∨ u < 0
    · exact PagesLasts_out a p s u oa01 oa11 l01.length l11.length cap01 cap11 W hr
    · obtain ⟨a, rfl⟩ := Int.eq_ofNat_of_zero_le (show 0 ≤ a by omega)
      obtain ⟨p, rfl⟩ := Int.eq_ofNat_of_zero_le (show 0 ≤ p by omega)
      exact PagesLasts_in a p s u oa01 oa11 cap01 cap11 l01 l11 W hT hr01.2 hr11.2 hr01.1 hr11.1 (by omega) (by omega) (by omega) (by omega) (by omega) (by omega) (by omega) (i64_le ws) (i64_le wu)
  refine this.mono fun e W' ⟨he, hF⟩ => ?_
  subst he
  exact ⟨_, rfl, law_post (by kernel_rfl) (by kernel_rfl) rfl Tryd.underlying4 rfl rfl hW' (hF.below (Nat.le_refl _) (by simp))⟩

theorem pagesLasts_holds : Rows.PagesLastsSaid :=
  OpenClaim.holds_of_wide 5 Tryd.f5 rfl rfl rfl rfl rfl rfl rfl ⟨rfl, rfl, rfl, rfl, rfl⟩ rfl rfl rfl rfl rfl (by kernel_rfl) Tryd.func5 (by kernel_rfl)
    (of_decide_eq_true (by kernel_rfl)) (by unfold Func.isWrapper; first | (rw [if_pos (by decide +kernel)]; kernel_rfl) | (rw [if_neg (by decide +kernel)]; exact ⟨rfl, rfl⟩))
    (fun os started H enc _ => pagesLasts_lifted os started H enc)

theorem pagesLasts_card : Rows.PagesLastsCardSaid :=
  Claim7.holds_tied_plain_at .later [] [.data] true Rows.pagesLastsCard.stood.harness false
    pagesLasts_holds (fun _ h => by cases h) (by kernel_rfl) (fun _ h => by cases h) pagesLasts_row_tie rfl ⟨rfl, rfl⟩ (by kernel_rfl) rfl
    (fun f fn hf hfn => by
      obtain rfl : f = 5 := Option.some.inj ((show Tryd.prog.funcNamed "lavabo/lavabolaw13.PagesLasts" = some 5 by kernel_rfl).symm.trans hf) |>.symm
      obtain rfl : fn = Tryd.f5 := (Option.some.inj (Tryd.func5.symm.trans hfn)).symm
      exact ⟨by kernel_rfl, fun j t ht => by
        have hm : t ∈ Tryd.f5.params.toList := by simpa using Array.mem_of_getElem? ht
        have hall : (Tryd.f5.params.toList.all fun u => !Tryd.prog.wantsStandIn u) = true := by kernel_rfl
        exact (show Tryd.prog.wantsStandIn t = false by simpa using List.all_eq_true.1 hall t hm)⟩)
    (by kernel_rfl)
#print axioms pagesLasts_card
end Go.Proofs.YtgmjhpappamenaaDoor
