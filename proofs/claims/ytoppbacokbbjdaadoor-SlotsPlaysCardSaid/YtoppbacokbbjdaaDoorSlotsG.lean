/- Contracts: the reference's All, Ints. -/
import Derived.Test.YtoppbacokbbjdaaDoorSlotsF
namespace Go.Proofs.YtoppbacokbbjdaaDoor
open Go.RowKit Go.Shelf

abbrev natVals (l : List Nat) : List Value := l.map fun (i : Nat) => .int .i64 i
theorem refAll_any (b g : Nat) (l : List Nat) (n : Int) (w : World) (h : IsRef w b g l) :
    Calls Tryd.prog 20 #[.pointer (some ⟨b, 0, none⟩), .int .i64 n] w fun e w' => ∃ v, e = .returned v ∧
      w'.ownsRow w.heap.size 3 1 v (allOf l n l.length).length (natVals (allOf l n l.length)) ∧ Fr [] w w' := by
  obtain ⟨hne, hl, cap, arr, hb, hg, has, ha, hcap, hcap2⟩ := h
  obtain ⟨i0, hi, hz0, hz1, hz2⟩ := info_parts infoInt
  clear hcap hcap2 has
  obtain ⟨m, hm⟩ : ∃ m, m = l.length := ⟨_, rfl⟩
  rw [← hm] at hb hl ⊢
  have HM := Lib.hid hm
  clear hm
  go_enter Tryd.func20, Tryd.ntmps20
  go_wp2_with fail
  go_loopw [5, 6] (fun v i wr => ∃ k : Nat, k ≤ m ∧ i = .int .i64 k ∧ wr.ownsRow w.heap.size 3 1 v (allOf l n k).length (natVals (allOf l n k)) ∧ Fr [] w wr)
    (fun _ i _ => m - (intOf i).toNat)
  case atStart => exact ⟨0, Nat.zero_le _, rfl, World.ownsRow_nil _ _ _ _, Fr.refl _ _⟩
  case round =>
    obtain ⟨k, hk, rfl, hown, hF⟩ := hrel
    have k0 := (hb.fr hF (by simp)).cell (i := 0) rfl
    have hfin : allOf l n (k + 1) = allOf l n k ++ (if (l.getD k 0 : Int) = n then [k] else []) := rfl
    have hle := allOf_len l n k
    by_cases hlt : k < m
    · have hlt' : k < l.length := by rw [← HM.out]; exact hlt
      have k1 := (hg.fr hF (by simp)).cell (ha k hlt')
      have hgd : l.getD k 0 = l[k] := by simp [hlt']
      rw [hgd] at hfin
      obtain ⟨x, hx⟩ : ∃ x, x = l[k] := ⟨_, rfl⟩
      rw [← hx] at k1 hfin
      by_cases hn : (x : Int) = n
      · subst hn
        rw [if_pos rfl] at hfin
        have HF := Lib.hid hfin
        have HO := Lib.hid hown
        clear hfin hgd hx ha hown
        go_wp2_with (at_builtin; refine wpList_append_own _ rfl _ _ 36 rfl w.heap.size 3 i0 (.int .i64 0) 1 8 Tryd.underlying36 hi hz0 hz1 hz2 rfl (by decide) _ _ _ rfl (HO.out.alloc _) ⟨wr.heap.size, 0, none⟩ 1 1 [.int .i64 k] rfl rfl ?c1 ?c2 ?c3 ?c4 ?c5 ?_)
        case c1 => exact new_cells _ _ _ _ rfl
        case c2 => simp [Value.oneCell']
        case c3 => unfold maxLen; omega
        case c4 => omega
        case c5 => have := hF.size; simp; omega
        intro v' w1 hown' hgrow _
        go_wp2
        go_roundw
        case rel => exact ⟨k + 1, by omega, by go_num, by rw [HF.out]; simpa [natVals] using hown', (hF.alloc _).grown hgrow (fun g hg => .inr (owns_ge HO.out g hg))⟩
        case measure => simp [intOf]; omega
      · rw [if_neg hn, List.append_nil] at hfin
        have HF := Lib.hid hfin
        clear hfin hgd hx ha
        go_wp2
        go_roundw
        case rel => exact ⟨k + 1, by omega, by go_num, by rw [HF.out]; exact hown, hF⟩
        case measure => simp [intOf]; omega
    · obtain rfl : k = m := by omega
      clear hfin ha
      go_wp2
      go_ret
      exact ⟨_, rfl, hown, hF⟩

/-- a row of cells that owns, as a slice's value with its cells -/
theorem owns_cells {w : World} {base e : Nat} {v : Value} {n : Nat} {xs : List Value} (h : w.ownsRow base e 1 v n xs) :
    ∃ oa c, v = .slice oa n c ∧ ∀ (j : Nat) (u : Value), xs[j]? = some u → ∃ g cur, oa = some ⟨g, 0, none⟩ ∧ Blk w g e cur ∧ cur[j]? = some u := by
  obtain ⟨hl, ⟨rfl, rfl, rfl⟩ | ⟨g, cap, cur, rfl, _, hb, _, _, _, ht⟩⟩ := owns_cases h
  · exact ⟨none, 0, rfl, by simp⟩
  · exact ⟨_, _, rfl, fun j u hj => ⟨g, cur, rfl, hb, take_get ht hj⟩⟩
/-- two rows of the same ints are the same -/
theorem Ints_same (base base' : Nat) (va vb : Value) (xs : List Nat) (w : World) (ha : w.ownsRow base 3 1 va xs.length (natVals xs)) (hb : w.ownsRow base' 3 1 vb xs.length (natVals xs)) (hl : xs.length ≤ 140737488351232) :
    Calls Tryd.prog 19 #[va, vb] w fun e w' => e = .returned (.bool true) ∧ Fr [] w w' := by
  obtain ⟨oa, ca, rfl, hca⟩ := owns_cells ha
  obtain ⟨ob, cb, rfl, hcb⟩ := owns_cells hb
  have hca' : ∀ j (h : j < xs.length), ∃ g cur, oa = some ⟨g, 0, none⟩ ∧ Blk w g 3 cur ∧ cur[j]? = some (.int .i64 (xs[j] : Nat)) := fun j h => hca j _ (by simp [natVals, h])
  have hcb' : ∀ j (h : j < xs.length), ∃ g cur, ob = some ⟨g, 0, none⟩ ∧ Blk w g 3 cur ∧ cur[j]? = some (.int .i64 (xs[j] : Nat)) := fun j h => hcb j _ (by simp [natVals, h])
  have HA := Lib.hid hca'
  have HB := Lib.hid hcb'
  clear hca hcb hca' hcb' ha hb
  obtain ⟨n, hn⟩ : ∃ n, n = xs.length := ⟨_, rfl⟩
  rw [← hn] at hl ⊢
  have HN := Lib.hid hn
  clear hn
  go_enter Tryd.func19, Tryd.ntmps19
  go_wp2_with fail
  go_loopw [5] (fun i wr => ∃ k : Nat, k ≤ n ∧ i = .int .i64 k ∧ Fr [] w wr) (fun i _ => n - (intOf i).toNat)
  case atStart => exact ⟨0, Nat.zero_le _, rfl, Fr.refl _ _⟩
  case round =>
    obtain ⟨k, hk, rfl, hF⟩ := hrel
    by_cases hlt : k < n
    · have hlt' : k < xs.length := by rw [← HN.out]; exact hlt
      obtain ⟨ga, cura, hoa, hba, hva⟩ := HA.out k hlt'
      obtain ⟨gb, curb, hob, hbb, hvb⟩ := HB.out k hlt'
      have ka := (hba.fr hF (by simp)).cell hva
      have kb := (hbb.fr hF (by simp)).cell hvb
      obtain ⟨x, hx⟩ : ∃ x, x = xs[k] := ⟨_, rfl⟩
      rw [← hx] at ka kb
      clear hx hva hvb hba hbb
      rw [hoa, hob]
      clear hoa hob
      go_wp2
      go_quiet (fail)
      go_wp2
      go_roundw
      case rel => exact ⟨k + 1, by omega, by go_num, hF.drewN _⟩
      case measure => simp [intOf]; omega
    · obtain rfl : k = n := by omega
      go_wp2
      go_ret
      exact ⟨rfl, hF⟩
end Go.Proofs.YtoppbacokbbjdaaDoor
