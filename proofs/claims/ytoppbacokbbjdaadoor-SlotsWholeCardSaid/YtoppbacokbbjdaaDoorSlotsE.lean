/- Contracts of package slots: Clone, Copy. -/
import Derived.Test.YtoppbacokbbjdaaDoorSlotsD
import Derived.Deep.RegionHeld3
import Derived.WalkSpells
namespace Go.Proofs.YtoppbacokbbjdaaDoor
open Go.RowKit Go.Shelf

/-- slices.Clone of a row of ints -/
theorem Clone_any (g n cap : Nat) (arr : Array Value) (xs : List Value) (w : World) (h : Blk w g 3 arr) (hx : arr.toList.take n = xs) (hn : xs.length = n) (h1 : ∀ u, u ∈ xs → u.oneCell' = true) (hb : n * 8 ≤ 140737488355328) :
    Calls Tryd.prog 28 #[.slice (some ⟨g, 0, none⟩) n cap] w fun e w' => ∃ g' cap', e = .returned (.slice (some ⟨g', 0, none⟩) n cap') ∧ w'.ownsRow w.heap.size 3 1 (.slice (some ⟨g', 0, none⟩) n cap') n xs ∧ Fr [] w w' := by
  obtain ⟨i0, hi, hz0, hz1, hz2⟩ := info_parts infoInt
  have hcell : ∀ (j : Nat) (u : Value), xs[j]? = some u → (w.alloc (.cells #[] 3)).cell? (Addr.add ⟨g, 0, none⟩ j) = some u := by
    intro j u hj
    have hh := ((h.alloc (.cells #[] 3)).cell (take_get hx hj))
    unfold Addr.add
    split
    · subst_vars; exact hh
    · simpa using hh
  have H := Lib.hid hcell
  have HX := Lib.hid hx
  clear hcell hx
  go_enter Tryd.func28, Tryd.ntmps28
  have q22 : ∀ (w : World) (a : Option Addr) (n c n' c' : Nat), (binOp .eql 36 (.slice a n c) (.slice none n' c')).run Tryd.prog w = .ok (.bool a.isNone) w := fun w a n c n' c' => Lib.run_eql_slice_nil w _ _ a n c n' c' Tryd.underlying36
  go_wp2_with (at_builtin; refine wpList_append_own _ rfl _ _ 36 rfl w.heap.size 3 i0 (.int .i64 0) 1 8 Tryd.underlying36 hi hz0 hz1 hz2 rfl (by decide) _ 0 [] rfl ?c0 ⟨g, 0, none⟩ n cap xs rfl ?c1 H.out h1 ?c3 ?c4 ?c5 ?_)
  case c0 => exact ⟨rfl, .inr ⟨w.heap.size, 0, #[], rfl, Nat.le_refl _, Blk.new _ _ _, Nat.le_refl _, by unfold maxLen; omega, rfl, rfl⟩⟩
  case c1 => simpa using hn
  case c3 => unfold maxLen; omega
  case c4 => omega
  case c5 => simp
  intro v' w1 hown hg hnil
  obtain ⟨g', cap', hv⟩ : ∃ g' cap', v' = .slice (some ⟨g', 0, none⟩) n cap' := by
    obtain ⟨_, ⟨h1, _⟩ | ⟨g', cap', _, h1, _⟩⟩ := owns_cases hown
    · exact absurd h1 hnil
    · exact ⟨g', cap', h1⟩
  rw [hv] at hown ⊢
  clear hnil hv
  go_wp2
  go_ret
  exact ⟨_, _, rfl, hown, ((Fr.refl [] w).alloc _).grown hg (by simp [Value.ownBlock])⟩

theorem Copy_nil (w : World) :
    Calls Tryd.prog 23 #[.pointer none] w fun e w' => e = .returned (.pointer none) ∧ w = w' := by
  go_enter Tryd.func23, Tryd.ntmps23
  go_wp2
  go_ret
  exact ⟨rfl, rfl⟩
theorem copied {w1 : World} {base g cap : Nat} {l : List Nat} {n0 n1 n2 n3 n4 : Nat} (hown : w1.ownsRow base 3 1 (.slice (some ⟨g, 0, none⟩) l.length cap) l.length (l.map fun (i : Nat) => .int .i64 i))
    (e0 : n0 = l.count 0) (e1 : n1 = l.count 1) (e2 : n2 = l.count 2) (e3 : n3 = l.count 3) (e4 : n4 = l.count 4) (h1 : 1 ≤ l.length) (h2 : l.length ≤ 1024) (h3 : ∀ x, x ∈ l → x < 5) :
    IsSlots (w1.alloc (.cells #[.slice (some ⟨g, 0, none⟩) l.length cap, .int .i64 n0, .int .i64 n1, .int .i64 n2, .int .i64 n3, .int .i64 n4] 51)) w1.heap.size g l := by
  obtain ⟨cur, hb, _, hn, hc, hs, hx, hg⟩ := owns_blk hown
  have hlt := hb.lt
  refine ⟨by omega, h1, h2, h3, cap, _, cur, Blk.new _ _ _, hb.alloc _, rfl, rfl, ?_, by omega, ?_, hn, hc⟩
  · intro k hk
    match k, hk with
    | 0, _ => simp [e0]
    | 1, _ => simp [e1]
    | 2, _ => simp [e2]
    | 3, _ => simp [e3]
    | 4, _ => simp [e4]
  · intro i hi
    exact hg i _ (by simp [hi])
theorem Copy_any (b bl : Nat) (l : List Nat) (w : World) (h : IsSlots w b bl l) :
    Calls Tryd.prog 23 #[.pointer (some ⟨b, 0, none⟩)] w fun e w' => ∃ b' bl', e = .returned (.pointer (some ⟨b', 0, none⟩)) ∧ IsSlots w' b' bl' l ∧ Fr [] w w' ∧ w.heap.size ≤ b' ∧ w.heap.size ≤ bl' := by
  obtain ⟨hbl, hl1, hl2, hlt, cap, c, arr, hb, hbl', hc6, hc0, hcc, has, ha, hcap, hcap2⟩ := h
  have c0 := hb.cell hc0
  have c1 := hb.cell (hcc 0 (by omega))
  have c2 := hb.cell (hcc 1 (by omega))
  have c3 := hb.cell (hcc 2 (by omega))
  have c4 := hb.cell (hcc 3 (by omega))
  have c5 := hb.cell (hcc 4 (by omega))
  have hbs := hb.lt
  have hclone := fun w1 (hF : Fr [] w w1) => Clone_any bl l.length cap arr (l.map fun (i : Nat) => .int .i64 i) w1 (hbl'.fr hF (by simp)) (by
    apply List.ext_getElem
    · simp; omega
    · intro i h1 h2
      simp at h2
      have := ha i h2
      simp only [List.getElem_take, List.getElem_map]
      rw [Array.getElem?_eq_some_iff] at this
      simpa using this.2) (by simp) (by simp [Value.oneCell']) (by omega)
  go_enter Tryd.func23, Tryd.ntmps23
  go_wp2
  have HC := Lib.hid hclone
  have H5 := Lib.hid hlt
  clear hclone ha hcc hc0 hlt hbl'
  obtain ⟨n0, e0⟩ : ∃ n, n = l.count 0 := ⟨_, rfl⟩
  obtain ⟨n1, e1⟩ : ∃ n, n = l.count 1 := ⟨_, rfl⟩
  obtain ⟨n2, e2⟩ : ∃ n, n = l.count 2 := ⟨_, rfl⟩
  obtain ⟨n3, e3⟩ : ∃ n, n = l.count 3 := ⟨_, rfl⟩
  obtain ⟨n4, e4⟩ : ∃ n, n = l.count 4 := ⟨_, rfl⟩
  rw [← e0] at c1
  rw [← e1] at c2
  rw [← e2] at c3
  rw [← e3] at c4
  rw [← e4] at c5
  have E0 := Lib.hid e0
  have E1 := Lib.hid e1
  have E2 := Lib.hid e2
  have E3 := Lib.hid e3
  have E4 := Lib.hid e4
  clear e0 e1 e2 e3 e4
  go_region_with (go_at_call 28; refine (HC.out _ (Fr.refl [] w).drew).mono ?_; rintro e w1 ⟨g', cap', rfl, hown, hF⟩; have hcw : ∀ o, w1.cell? ⟨b, o, none⟩ = w.cell? ⟨b, o, none⟩ := fun o => hF.cell ⟨b, o, none⟩ hbs (by simp))
  all_goals
    go_wp2
    go_ret
    refine ⟨_, g', rfl, ?_, ((Fr.refl [] w).drew.trans hF).alloc _, hF.size, ?_⟩
    · exact copied hown E0.out E1.out E2.out E3.out E4.out hl1 hl2 H5.out
    · exact owns_ge hown g' rfl
end Go.Proofs.YtoppbacokbbjdaaDoor
