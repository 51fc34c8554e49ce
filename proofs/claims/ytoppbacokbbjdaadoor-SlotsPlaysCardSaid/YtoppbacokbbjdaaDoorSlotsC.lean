/- Contracts of package slots: New. -/
import Derived.Test.YtoppbacokbbjdaaDoorSlotsB
import Derived.OwnWalk
namespace Go.Proofs.YtoppbacokbbjdaaDoor
open Go.RowKit

theorem infoInt : (Tryd.prog.info? 3).map (fun i => (i.zero, i.size, i.bytes)) = some (some (.int .i64 0), 1, 8) := by kernel_rfl
theorem New_ok (n : Nat) (w : World) (h1 : 1 ≤ n) (h2 : n ≤ 1024) :
    Calls Tryd.prog 12 #[.int .i64 n] w fun e w' => ∃ b bl, e = .returned (.tuple #[.pointer (some ⟨b, 0, none⟩), .int .i64 0]) ∧
      IsSlots w' b bl (List.replicate n 0) ∧ Fr [] w w' ∧ w.heap.size ≤ b ∧ w.heap.size ≤ bl := by
  obtain ⟨i0, hi, hz0, hz1, hz2⟩ := info_parts infoInt
  go_enter Tryd.func12, Tryd.ntmps12
  go_wp2_with (at_make; refine wpList_make_full _ rfl _ _ 36 rfl w.heap.size 3 i0 (.int .i64 0) 1 Tryd.underlying36 hi hz0 hz1 .i64 .i64 n n n rfl rfl rfl rfl ?c1 ?c2 ?c3 ?_)
  case c1 => rw [hz2]; omega
  case c2 => unfold maxLen; omega
  case c3 => exact Nat.le_refl _
  intro w1 hown hg
  obtain ⟨cur, hb, _, hc1, hc2, hc3, hc4, hc5⟩ := owns_blk hown
  have hF : Fr [] w w1 := (Fr.refl _ _).grown hg (by simp)
  have hlt := hb.lt
  have hm := madeCells_one (.int .i64 0) n
  go_wp2
  go_ret2
  refine ⟨w1.heap.size, w.heap.size, rfl, ⟨by omega, by simpa using h1, by simpa using h2, by simp, n, _, cur, Blk.new w1 _ _, hb.alloc _, rfl, by simp, ?_, by simp; omega, ?_, by simp, by unfold maxLen; omega⟩, hF.alloc _, hF.size, Nat.le_refl _⟩
  · intro k hk
    match k, hk with
    | 0, _ => simp
    | 1, _ => simp [List.count_replicate]
    | 2, _ => simp [List.count_replicate]
    | 3, _ => simp [List.count_replicate]
    | 4, _ => simp [List.count_replicate]
  · intro i hi
    refine hc5 i _ ?_
    rw [hm]
    simp at hi
    simp [hi]

/-- the slots of a state, rising -/
def allOf (l : List Nat) (n : Int) : Nat → List Nat
  | 0 => []
  | k + 1 => allOf l n k ++ (if (l.getD k 0 : Int) = n then [k] else [])
theorem allOf_len (l : List Nat) (n : Int) (k : Nat) : (allOf l n k).length ≤ k := by
  induction k with
  | zero => simp [allOf]
  | succ k ih => simp only [allOf, List.length_append]; split <;> simp <;> omega

theorem Values_any (a : Option Addr) (len cap : Nat) (w : World) :
    Calls Tryd.prog 29 #[.slice a len cap] w fun e w' => e = .returned (.func (.func 30) #[] #[.pointer (some ⟨w.heap.size, 0, none⟩)]) ∧ w' = w.alloc (.cells #[.slice a len cap] 36) := by
  go_enter Tryd.func29, Tryd.ntmps29
  go_wp2
  go_ret
  exact ⟨rfl, rfl⟩

/-- All: a function value over a box that holds a slice of the slots of a state -/
theorem All_any (b bl : Nat) (l : List Nat) (n : Int) (w : World) (h : IsSlots w b bl l) :
    Calls Tryd.prog 26 #[.pointer (some ⟨b, 0, none⟩), .int .i64 n] w fun e w' => ∃ bx v, e = .returned (.func (.func 30) #[] #[.pointer (some ⟨bx, 0, none⟩)]) ∧
      Fr [] w w' ∧ Blk w' bx 36 #[v] ∧ w'.ownsRow w.heap.size 3 1 v (allOf l n l.length).length ((allOf l n l.length).map fun (i : Nat) => .int .i64 i) ∧ w.heap.size ≤ bx := by
  have HI := Lib.hid h
  obtain ⟨hbl, hl1, hl2, hlt, cap, c, arr, hb, hbl', hc6, hc0, hcc, has, ha, hcap, hcap2⟩ := h
  obtain ⟨i0, hi, hz0, hz1, hz2⟩ := info_parts infoInt
  have hbs := hb.lt
  have hbls := hbl'.lt
  clear hc6 hcc hcap hcap2 has hlt
  go_enter Tryd.func26, Tryd.ntmps26
  go_wp2_with fail
  refine (Len_any b bl l _ HI.out).mono ?_
  rintro e w' ⟨rfl, rfl⟩
  go_wp2_with fail
  go_loopw [5, 9] (fun v i wr => ∃ k : Nat, k ≤ l.length ∧ i = .int .i64 k ∧ wr.ownsRow w.heap.size 3 1 v (allOf l n k).length ((allOf l n k).map fun (j : Nat) => .int .i64 j) ∧ Fr [] w wr)
    (fun _ i _ => l.length - (intOf i).toNat)
  case atStart => exact ⟨0, Nat.zero_le _, rfl, World.ownsRow_nil _ _ _ _, Fr.refl _ _⟩
  case round =>
    obtain ⟨k, hk, rfl, hown, hF⟩ := hrel
    have hfin : allOf l n (k + 1) = allOf l n k ++ (if (l.getD k 0 : Int) = n then [k] else []) := rfl
    have hle := allOf_len l n k
    by_cases hlt : k < l.length
    · have k0 := (hb.fr hF (by simp)).cell hc0
      have k1 := (hbl'.fr hF (by simp)).cell (ha k hlt)
      have hg : l.getD k 0 = l[k] := by simp [hlt]
      rw [hg] at hfin
      obtain ⟨x, hx⟩ : ∃ x, x = l[k] := ⟨_, rfl⟩
      rw [← hx] at k1 hfin
      by_cases hn : (x : Int) = n
      · subst hn
        rw [if_pos rfl] at hfin
        have HF := Lib.hid hfin
        have HO := Lib.hid hown
        clear hfin hg hx ha hc0 hown
        go_wp2_with (at_builtin; refine wpList_append_own _ rfl _ _ 36 rfl w.heap.size 3 i0 (.int .i64 0) 1 8 Tryd.underlying36 hi hz0 hz1 hz2 rfl (by decide) _ _ _ rfl (HO.out.alloc _) ⟨wr.heap.size, 0, none⟩ 1 1 [.int .i64 k] rfl rfl ?c1 ?c2 ?c3 ?c4 ?c5 ?_)
        case c1 => exact new_cells _ _ _ _ rfl
        case c2 => simp [Value.oneCell']
        case c3 => unfold maxLen; omega
        case c4 => omega
        case c5 => have := hF.size; simp; omega
        intro v' w1 hown' hgrow _
        go_wp2
        go_roundw
        case rel => exact ⟨k + 1, by omega, by go_num, by rw [HF.out]; simpa using hown', (hF.alloc _).grown hgrow (fun g hg => .inr (owns_ge HO.out g hg))⟩
        case measure => simp [intOf]; omega
      · rw [if_neg hn, List.append_nil] at hfin
        go_wp2
        go_roundw
        case rel => exact ⟨k + 1, by omega, by go_num, by rw [hfin]; exact hown, hF⟩
        case measure => simp [intOf]; omega
    · obtain rfl : k = l.length := by omega
      have hsz := hF.size
      obtain ⟨hol, ⟨rfl, hn0, _⟩ | ⟨g, cap', cur, rfl, _⟩⟩ := owns_cases hown
      all_goals
        go_wp2_with fail
        refine (Values_any _ _ _ _).mono ?_
        rintro e w' ⟨rfl, rfl⟩
        go_wp2
        go_ret
        exact ⟨wr.heap.size, _, rfl, hF.alloc _, Blk.new _ _ _, hown.alloc _, hsz⟩
end Go.Proofs.YtoppbacokbbjdaaDoor
