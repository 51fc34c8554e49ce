/- Contracts of the reference of layer 4: Put, where the number fits. -/
import Derived.Test.YtifafnmbcmhlcaaDoorFieldU
namespace Go.Proofs.YtifafnmbcmhlcaaDoor
open Go.RowKit Go.Shelf

theorem addr_cell {w : World} {g : Nat} {xs : List Value} (h : ∀ (j : Nat) (u : Value), xs[j]? = some u → w.cell? ⟨g, j, none⟩ = some u) : ∀ (j : Nat) (u : Value), xs[j]? = some u → w.cell? (Addr.add ⟨g, 0, none⟩ j) = some u := by
  intro j u hj
  have hh := h j u hj
  unfold Addr.add
  split
  · subst_vars; exact hh
  · simpa using hh
theorem u8s_len (l : List Nat) : (u8s l).length = l.length := by simp [u8s]
theorem u8s_one (l : List Nat) : ∀ u, u ∈ u8s l → u.oneCell' = true := by
  intro u hu
  simp only [u8s, List.mem_map] at hu
  obtain ⟨x, _, rfl⟩ := hu
  rfl

set_option maxRecDepth 100000 in
theorem refPut_ok (base : Nat) (v : Value) (l : List Nat) (k s : Nat) (w : World) (hown : w.ownsRow base 5 1 v l.length (u8s l)) (hbase : base ≤ w.heap.size)
    (h1 : 1 ≤ s) (h7 : s ≤ 7) (hk : k < 9223372036854775808) (hn : k / 2 ^ (8 * s) = 0) (hf : l.length + s ≤ 60) :
    Calls Tryd.prog 13 #[v, .int .i64 k, .int .i64 s] w fun e w' => ∃ v', e = .returned (.tuple #[v', .int .i64 0]) ∧ w'.ownsRow base 5 1 v' (l.length + s) (u8s (l ++ bytesOf k s)) ∧ Fr [] w w' := by
  obtain ⟨i0, hi, hz0, hz1, hz2⟩ := info_parts infoByte
  have hB := refBytes_ok k s w hk h7
  rw [decide_eq_true hn] at hB
  have HB := Lib.hid hB
  have HBL := Lib.hid (bytesOf_len k s)
  have HOW := Lib.hid hown
  obtain ⟨n, hnl⟩ : ∃ n, n = l.length := ⟨_, rfl⟩
  rw [← hnl] at hf hown ⊢
  have HN := Lib.hid hnl
  obtain ⟨_, hcase⟩ := owns_cases hown
  clear hB hn hk hown
  rcases hcase with ⟨rfl, h0, hx⟩ | ⟨g, cap, cur, rfl, hg, hblk, hnc, hcm, hcs, hct⟩
  · have hl0 : l = [] := List.eq_nil_of_length_eq_zero (by omega)
    subst hl0
    simp only [List.length_nil] at hnl
    subst hnl
    go_enter Tryd.func13, Tryd.ntmps13
    go_wp2_with fail
    refine HB.out.mono ?_
    rintro e w' ⟨v2, rfl, hown2, hF⟩
    have HO2 := Lib.hid hown2
    obtain ⟨_, ⟨_, hs0, _⟩ | ⟨g2, cap2, cur2, rfl, hg2, hblk2, hnc2, hcm2, hcs2, hct2⟩⟩ := owns_cases hown2
    · omega
    · have hcell2 := Lib.hid (addr_cell (w := w') (g := g2) (xs := u8s (bytesOf k s)) (fun j u hj => hblk2.cell (take_get hct2 hj)))
      clear hown2 hct2 hcs2
      go_wp2_with (at_builtin; refine wpList_append_own _ rfl (.tmp 36) (.tmp 37) 26 rfl w'.heap.size 5 i0 (.int .u8 0) 1 1 Tryd.underlying26 hi hz0 hz1 hz2 rfl (by decide) _ 0 [] rfl (World.ownsRow_nil _ _ _ _) ⟨g2, 0, none⟩ s cap2 (u8s (bytesOf k s)) rfl ?c1 hcell2.out (u8s_one _) ?c3 ?c4 ?c5 ?_)
      case c1 => rw [u8s_len, HBL.out]; omega
      case c3 => unfold maxLen; omega
      case c4 => omega
      case c5 => omega
      intro v3 w3 hown3 hgrow _
      have HO3 := Lib.hid hown3
      have hF3 : Fr [] w w3 := hF.comp ((Fr.refl [] w').grown hgrow (by simp [Value.ownBlock])) (by simp)
      clear hown3
      go_wp2
      go_ret2
      refine ⟨v3, rfl, ?_, hF3⟩
      have := owns_base HO3.out (show base ≤ w'.heap.size by have := hF.size; omega)
      simpa using this
  · clear hnl
    go_enter Tryd.func13, Tryd.ntmps13
    go_wp2_with fail
    refine HB.out.mono ?_
    rintro e w' ⟨v2, rfl, hown2, hF⟩
    have HO2 := Lib.hid hown2
    have hlt := hblk.lt
    have hblk' := hblk.fr hF (by simp)
    obtain ⟨_, ⟨_, hs0, _⟩ | ⟨g2, cap2, cur2, rfl, hg2, hblk2, hnc2, hcm2, hcs2, hct2⟩⟩ := owns_cases hown2
    · omega
    · have hcell1 := Lib.hid (addr_cell (w := w') (g := g) (xs := u8s l) (fun j u hj => hblk'.cell (take_get hct hj)))
      have hlt2 := hblk2.lt
      have HB2 := Lib.hid hblk2
      have HC2 := Lib.hid hct2
      clear hown2 hct hct2 hcs hcs2 hblk hblk' hblk2
      go_wp2_with (at_builtin; refine wpList_append_own _ rfl (.tmp 33) (.tmp 34) 26 rfl w'.heap.size 5 i0 (.int .u8 0) 1 1 Tryd.underlying26 hi hz0 hz1 hz2 rfl (by decide) _ 0 [] rfl (World.ownsRow_nil _ _ _ _) ⟨g, 0, none⟩ n cap (u8s l) rfl ?d1 hcell1.out (u8s_one _) ?d3 ?d4 ?d5 ?_)
      case d1 => rw [u8s_len, HN.out]; omega
      case d3 => unfold maxLen; omega
      case d4 => omega
      case d5 => omega
      intro v3 w3 hown3 hgrow _
      have HO3 := Lib.hid hown3
      have hFg : Fr [] w' w3 := (Fr.refl [] w').grown hgrow (by simp [Value.ownBlock])
      have hs3 := hFg.size
      have hcell2 := Lib.hid (addr_cell (w := w3) (g := g2) (xs := u8s (bytesOf k s)) (fun j u hj => (HB2.out.fr hFg (by simp)).cell (take_get HC2.out hj)))
      clear hown3
      go_wp2_with (at_builtin; refine wpList_append_own _ rfl (.tmp 36) (.tmp 37) 26 rfl w'.heap.size 5 i0 (.int .u8 0) 1 1 Tryd.underlying26 hi hz0 hz1 hz2 rfl (by decide) v3 n (u8s l) rfl ?e0 ⟨g2, 0, none⟩ s cap2 (u8s (bytesOf k s)) rfl ?e1 hcell2.out (u8s_one _) ?e3 ?e4 ?e5 ?_)
      case e0 => simpa using HO3.out
      case e1 => rw [u8s_len, HBL.out]; omega
      case e3 => unfold maxLen; omega
      case e4 => omega
      case e5 => omega
      intro v4 w4 hown4 hgrow4 _
      have HO4 := Lib.hid hown4
      have hF4 : Fr [] w w4 := (hF.comp hFg (by simp)).comp ((Fr.refl v3.ownBlock.toList w3).grown hgrow4 (fun g hg => .inl (by simp [hg]))) (fun i hi => .inr (by have := owns_ge HO3.out i (by simpa using hi); have := hF.size; omega))
      clear hown4
      go_wp2
      go_ret2
      refine ⟨v4, rfl, ?_, hF4⟩
      have := owns_base HO4.out (show base ≤ w'.heap.size by have := hF.size; omega)
      rw [u8s_append]
      exact this
theorem refPut_any (base : Nat) (v : Value) (l : List Nat) (n size : Int) (w : World) (hown : w.ownsRow base 5 1 v l.length (u8s l)) (hbase : base ≤ w.heap.size) (hl : l.length ≤ 60) (hn63 : n < 9223372036854775808) :
    Calls Tryd.prog 13 #[v, .int .i64 n, .int .i64 size] w fun e w' => ∃ v', e = .returned (.tuple #[v', .int .i64 (putE l.length n size)]) ∧ w'.ownsRow base 5 1 v' (putL l n size).length (u8s (putL l n size)) ∧ Fr [] w w' := by
  by_cases hs : size < 1 ∨ 7 < size
  · have e1 : putE l.length n size = 1 := by simp [putE, wrongE, hs]
    have e2 : putL l n size = l := by simp [putL, e1]
    rw [e1, e2]
    refine (refPut_arg v n size w hs).mono ?_
    rintro e w' ⟨rfl, rfl⟩
    exact ⟨v, rfl, hown, Fr.refl _ _⟩
  · obtain ⟨s, rfl⟩ := Int.eq_ofNat_of_zero_le (show 0 ≤ size by omega)
    have hw : ¬ wrongE (s : Int) (60 - (l.length : Int)) = 1 := by unfold wrongE; rw [if_neg hs]; split <;> omega
    by_cases hn : n < 0
    · have e1 : putE l.length n s = 11 := by unfold putE; rw [if_neg hw, if_pos (.inl hn)]
      have e2 : putL l n s = l := by simp [putL, e1]
      rw [e1, e2]
      refine (refPut_neg v n s w (by omega) (by omega) hn).mono ?_
      rintro e w' ⟨rfl, rfl⟩
      exact ⟨v, rfl, hown, Fr.refl _ _⟩
    · obtain ⟨k, rfl⟩ := Int.eq_ofNat_of_zero_le (show 0 ≤ n by omega)
      have e0 : ((k : Int)) / 2 ^ (8 * s) = ((k / 2 ^ (8 * s) : Nat) : Int) := by simp
      by_cases hk : k / 2 ^ (8 * s) = 0
      · have e1 : putE l.length k s = wrongE s (60 - l.length) := by
          unfold putE
          rw [if_neg hw, if_neg]
          simp only [Int.toNat_natCast]
          rw [e0]; omega
        by_cases hf : 60 < l.length + s
        · have e3 : wrongE (s : Int) (60 - (l.length : Int)) = 17 := by unfold wrongE; rw [if_neg hs, if_pos (by omega)]
          have e2 : putL l k s = l := by simp [putL, e1, e3]
          rw [e1, e2, e3]
          obtain ⟨oa, c, rfl, _⟩ := owns_at hown
          refine (refPut_full oa l.length c k s w (by omega) (by omega) (by omega) hk hl hf).mono ?_
          rintro e w' ⟨rfl, hF⟩
          refine ⟨_, rfl, owns_fr hown hF (by simp), hF⟩
        · have e3 : wrongE (s : Int) (60 - (l.length : Int)) = 0 := by unfold wrongE; rw [if_neg hs, if_neg (by omega)]
          have e2 : putL l k s = l ++ bytesOf k s := by simp [putL, e1, e3]
          rw [e1, e2, e3, show (l ++ bytesOf k s).length = l.length + s by simp [bytesOf_len]]
          exact refPut_ok base v l k s w hown hbase (by omega) (by omega) (by omega) hk (by omega)
      · have e1 : putE l.length k s = 11 := by
          unfold putE
          rw [if_neg hw, if_pos]
          right
          simp only [Int.toNat_natCast]
          rw [e0]; omega
        have e2 : putL l k s = l := by simp [putL, e1]
        rw [e1, e2]
        refine (refPut_over v k s w (by omega) (by omega) (by omega) hk).mono ?_
        rintro e w' ⟨rfl, hF⟩
        exact ⟨v, rfl, owns_fr hown hF (by simp), hF⟩
end Go.Proofs.YtifafnmbcmhlcaaDoor
