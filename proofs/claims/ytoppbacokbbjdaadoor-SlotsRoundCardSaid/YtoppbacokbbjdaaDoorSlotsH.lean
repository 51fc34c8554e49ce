/- Contracts: the laws' All (a range over an iterator that collects). -/
import Derived.Test.YtoppbacokbbjdaaDoorSlotsG
import Derived.RangeFuncBox
import Derived.Maps.AppendAt
namespace Go.Proofs.YtoppbacokbbjdaaDoor
open Go.RowKit Go.Shelf
attribute [local go_sem] Oper.semAt_some

set_option maxRecDepth 100000 in
theorem lawAll_of (a : Option Addr) (l : List Nat) (n : Int) (w : World) (hl2 : l.length ≤ 1024)
    (hAll : ∀ w1, Fr [] w w1 → Calls Tryd.prog 26 #[.pointer a, .int .i64 n] w1 fun e w' => ∃ bx v, e = .returned (.func (.func 30) #[] #[.pointer (some ⟨bx, 0, none⟩)]) ∧
      Fr [] w1 w' ∧ Blk w' bx 36 #[v] ∧ w'.ownsRow w1.heap.size 3 1 v (allOf l n l.length).length ((allOf l n l.length).map fun (i : Nat) => .int .i64 i) ∧ w1.heap.size ≤ bx) :
    Calls Tryd.prog 18 #[.pointer a, .int .i64 n] w fun e w' => ∃ v, e = .returned (.tuple #[v, .bool true]) ∧
      w'.ownsRow w.heap.size 3 1 v (allOf l n l.length).length (natVals (allOf l n l.length)) ∧ Fr [] w w' := by
  refine (callsIn_wide (n := 6)).1 ?_
  have hro : Fence.wide.round = none := rfl
  refine callsIn_of_wp_marks Tryd.func18 rfl trivial ?_ hro
  simp only [Tryd.ntmps18, List.size_toArray, List.length_cons, List.length_nil, Nat.reduceAdd, Nat.reduceSub, Array.replicate_succ, Array.replicate_zero, List.push_toArray, List.append_toArray, List.nil_append, List.cons_append]
  obtain ⟨i0, hi, hz0, hz1, hz2⟩ := info_parts infoInt
  have HALL := Lib.hid hAll
  clear hAll
  have hlen : (allOf l n l.length).length ≤ l.length := allOf_len _ _ _
  gi_wp2_with fail
  refine ⟨trivial, (callsIn_wide.2 (HALL.out _ (((Fr.refl [] w).alloc _).alloc _))).mono ?_⟩
  rintro e w1 ⟨bx, v, rfl, hF1, hbx, hown, hbx2⟩
  have hR0 := ((Blk.new w #[.slice none 0 0] 36).alloc (.cells #[.bool false] 4)).fr hF1 (by simp)
  have hR1 := (Blk.new (w.alloc (.cells #[.slice none 0 0] 36)) #[.bool false] 4).fr hF1 (by simp)
  rw [World.size_alloc] at hR1
  have hsz : w.heap.size + 2 ≤ w1.heap.size := by have := hF1.size; simpa using this
  have hglt := owns_block_lt hown
  have hbxlt := hbx.lt
  obtain ⟨zs, hzs⟩ : ∃ zs, zs = allOf l n l.length := ⟨_, rfl⟩
  rw [← hzs] at hown hlen
  have HZ := Lib.hid hzs
  clear hzs
  have hF0 : Fr [] w w1 := (((Fr.refl [] w).alloc _).alloc _).trans (hF1.sub (by simp))
  have qf : ∀ (W : World) x y, (binOp .eql 55 (.func (.func 30) x y) .nilFunc).run Tryd.prog W = .ok (.bool false) W := fun W x y => run_eql_func_nil W _ _ x y Tryd.underlying55
  gi_wp2
  clear qf
  obtain ⟨W2, hW2⟩ : ∃ W2, W2 = w1.alloc (.cells #[.slice none 0 0] 36) := ⟨_, rfl⟩
  rw [← hW2]
  have hO : Blk W2 w1.heap.size 36 #[.slice none 0 0] := by rw [hW2]; exact Blk.new _ _ _
  have hs2 : W2.heap.size = w1.heap.size + 1 := by rw [hW2]; simp
  have hbx2 : Blk W2 bx 36 #[v] := by rw [hW2]; exact hbx.alloc _
  have hown2 : W2.ownsRow ((w.alloc (.cells #[.slice none 0 0] 36)).alloc (.cells #[.bool false] 4)).heap.size 3 1 v zs.length (natVals zs) := by rw [hW2]; exact hown.alloc _
  have hR0' : Blk W2 w.heap.size 36 #[.slice none 0 0] := by rw [hW2]; exact hR0.alloc _
  have hR1' : Blk W2 (w.heap.size + 1) 4 #[.bool false] := by rw [hW2]; exact hR1.alloc _
  have hF02 : Fr [] w W2 := by rw [hW2]; exact hF0.alloc _
  clear hW2
  have HS2 := Lib.hid hs2
  clear hs2
  refine wpIn_rangeFunc_ownG hro (by omega) (gf := 30) (lb := #[.pointer (some ⟨bx, 0, none⟩)]) rfl trivial (enters_of Tryd.func30 (by kernel_rfl) rfl)
    (values_stops Fence.wide (6 - 1) trivial hro (by omega) bx _ v zs (by omega) W2 hbx2 hown2) KpL.trans (KpL.put (owns_block_lt hown2)) (Below.refl _ _) (fun _ => rfl)
    (fun pre W => (∃ v, Blk W w1.heap.size 36 #[v] ∧ W.ownsRow (w1.heap.size + 1) 3 1 v pre.length (natVals pre)) ∧ Fr [w1.heap.size] W2 W)
    (fun _ _ _ => False)
    (Stable.own fun s => (Stable.ex fun x => (Stable.blk _ _ _ _).and (Stable.owns _ _ _ _ _ _ _)).and (Stable.fr _ _ (Nat.le_refl _)))
    (fun c => Stable.own fun s => Stable.pure _ _)
    ⟨⟨_, hO, World.ownsRow_nil _ _ _ _⟩, Fr.refl _ _⟩ ?a1 ?assign ?body ?done ?stop
  case assign =>
    intro l x W K hK
    gi_wp2
    exact hK
  case body =>
    rintro l0 pre x W ⟨⟨u, hb, hu⟩, hF⟩ hpre
    have hc := hb.cell (i := 0) rfl
    have hf := hb.frozen 0
    have hWl := hb.lt
    have HO := Lib.hid hu
    have hge := owns_ge hu
    have hlt := owns_block_lt hu
    clear hu
    gi_wp2_with (gi_at_builtin; refine wpListIn_append_own _ rfl _ _ 36 rfl (w1.heap.size + 1) 3 i0 (.int .i64 0) 1 8 Tryd.underlying36 hi hz0 hz1 hz2 rfl (by decide) _ _ _ rfl (HO.out.alloc _) ⟨W.heap.size, 0, none⟩ 1 1 [.int .i64 x] rfl rfl ?c1 ?c2 ?c3 ?c4 ?c5 ?_)
    case c1 => exact new_cells _ _ _ _ rfl
    case c2 => simp [Value.oneCell']
    case c3 => unfold maxLen; omega
    case c4 => omega
    case c5 => simp; omega
    intro v' w3 hown' hgrow _
    obtain ⟨g', cap', hv⟩ : ∃ g' cap', v' = .slice (some ⟨g', 0, none⟩) (pre.length + 1) cap' := by
      obtain ⟨_, ⟨h1, h2, _⟩ | ⟨g', cap', _, h1, _⟩⟩ := owns_cases hown'
      · omega
      · exact ⟨g', cap', h1⟩
    rw [hv] at hown' ⊢
    clear hv
    have hF3 : Fr (u.ownBlock.toList) W w3 := ((Fr.refl (u.ownBlock.toList) W).alloc _).grown hgrow (fun g hg => .inl (by simp [hg]))
    have hbn : ¬ w1.heap.size ∈ u.ownBlock.toList := by
      intro hm
      have := hge w1.heap.size (by simpa using hm)
      omega
    have hb3 := hb.fr hF3 hbn
    have hc3 := hb3.cell (i := 0) rfl
    have hf3 := hb3.frozen 0
    gi_wp2
    have h2 := HS2.out
    have hF4 : Fr (w1.heap.size :: u.ownBlock.toList) W (w3.setCell ⟨w1.heap.size, 0, none⟩ (.slice (some ⟨g', 0, none⟩) (pre.length + 1) cap')) :=
      (hF3.sub (T := w1.heap.size :: u.ownBlock.toList) (fun i hi => .inl (by simp at hi ⊢; exact .inr hi))).setCell _ (by simp) _
    have hge' : ∀ i, i ∈ u.ownBlock.toList → w1.heap.size + 1 ≤ i := fun i hi => hge i (by simpa using hi)
    refine ⟨hF4.keeps ?_, KpL.of_fr hF4 ?_, ⟨_, hb3.set 0 _, ?_⟩, hF.comp hF4 ?_⟩
    · intro r hr
      rcases List.mem_cons.1 hr with rfl | hr
      · exact .inl (by omega)
      · exact .inr (.inr (let ⟨c, hc⟩ := owns_is_blk HO.out r hr; ⟨_, c, hc⟩))
    · intro k hk hm
      have h3 := hglt k hk
      rcases List.mem_cons.1 hm with rfl | hm
      · omega
      · have := hge' k hm; omega
    · have := owns_fr hown' ((Fr.refl [w1.heap.size] w3).setCell ⟨w1.heap.size, 0, none⟩ (by simp) (.slice (some ⟨g', 0, none⟩) (pre.length + 1) cap')) (fun g hg => by have := owns_ge hown' g hg; simp; omega)
      simpa [natVals] using this
    · intro i hi
      rcases List.mem_cons.1 hi with rfl | hi
      · simp
      · exact .inr (by have := hge' i hi; omega)
  case done =>
    rintro D ys W hD rfl ⟨⟨u, hb, hu⟩, hF⟩ hK
    have h2 := HS2.out
    have hc := hb.cell (i := 0) rfl
    have q0 := hR0'.fr hF (by simp; omega)
    have q1 := hR1'.fr hF (by simp; omega)
    have hr0 := q0.cell (i := 0) rfl
    have hr1 := q1.cell (i := 0) rfl
    have fr0 := q0.frozen 0
    have fr1 := q1.frozen 0
    have hu' := owns_base hu (show w.heap.size ≤ w1.heap.size + 1 by omega)
    have hFz : Fr [] w W := hF02.comp hF (by simp; omega)
    obtain ⟨oa, ca, hv, _⟩ := owns_cells hu
    rw [hv] at hc hu'
    have HV := Lib.hid hv
    clear hv
    gi_wp2
    have hv := HV.out
    obtain ⟨W3, hW3⟩ : ∃ W3, W3 = (W.setCell ⟨w.heap.size, 0, none⟩ (.slice oa ys.length ca)).setCell ⟨w.heap.size + 1, 0, none⟩ (.bool true) := ⟨_, rfl⟩
    have B0 : Blk W3 w.heap.size 36 #[.slice oa ys.length ca] := by rw [hW3]; exact (q0.set 0 _).set_ne _ _ (by simp)
    have B1 : Blk W3 (w.heap.size + 1) 4 #[.bool true] := by rw [hW3]; exact (q1.set_ne _ _ (by simp)).set 0 _
    have hF3 : Fr [w.heap.size, w.heap.size + 1] W W3 := by rw [hW3]; exact ((Fr.refl _ _).setCell _ (by simp) _).setCell _ (by simp) _
    have hK3 : W3.heap[D]? = some (.deferred (some [])) := (hF3.block D (Array.getElem?_eq_some_iff.1 hK).1 (by simp; omega)).trans hK
    have hP : Fr [D] W3 (W3.putObj D (.deferred none)) := (Fr.refl [D] W3).put' D (by simp) _
    have C0 := (B0.fr hP (by simp; omega)).cell (i := 0) rfl
    have C1 := (B1.fr hP (by simp; omega)).cell (i := 0) rfl
    rw [← hW3]
    refine ⟨by simp, .inl ⟨_, _, rfl, run_takeDeferred hK3, ?_⟩⟩
    refine ⟨.tuple #[.slice oa ys.length ca, .bool true], by simp [results, Tryd.results18, go_sem, C0, C1], ?_⟩
    have hZ := HZ.out
    refine ⟨_, rfl, ?_, ((hFz.comp hF3 (by simp)).put D (by omega) _)⟩
    have hown3 : W3.ownsRow (w1.heap.size + 1) 3 1 (.slice oa ys.length ca) ys.length (natVals ys) := owns_fr (hv ▸ hu) hF3 (fun g hg => by have := owns_ge (hv ▸ hu) g hg; simp; omega)
    have hown4 := owns_base (owns_fr hown3 hP (fun g hg => by
      obtain ⟨c, hc⟩ := owns_is_blk hown3 g (by simp [hg])
      intro e
      obtain rfl : g = D := by simpa using e
      unfold Blk at hc
      rw [hK3] at hc
      cases hc)) (show w.heap.size ≤ w1.heap.size + 1 by omega)
    rw [← hZ]
    exact hown4
  case stop =>
    rintro D c pre W _ _ h _
    exact h.elim

theorem lawAll_any (b bl : Nat) (l : List Nat) (n : Int) (w : World) (h : IsSlots w b bl l) :
    Calls Tryd.prog 18 #[.pointer (some ⟨b, 0, none⟩), .int .i64 n] w fun e w' => ∃ v, e = .returned (.tuple #[v, .bool true]) ∧
      w'.ownsRow w.heap.size 3 1 v (allOf l n l.length).length (natVals (allOf l n l.length)) ∧ Fr [] w w' :=
  lawAll_of _ l n w h.len fun w1 hF => All_any b bl l n w1 (h.fr hF (by simp) (by simp))
theorem All_nil (n : Int) (w : World) :
    Calls Tryd.prog 26 #[.pointer none, .int .i64 n] w fun e w' => ∃ bx v, e = .returned (.func (.func 30) #[] #[.pointer (some ⟨bx, 0, none⟩)]) ∧
      Fr [] w w' ∧ Blk w' bx 36 #[v] ∧ w'.ownsRow w.heap.size 3 1 v (allOf [] n 0).length ((allOf [] n 0).map fun (i : Nat) => .int .i64 i) ∧ w.heap.size ≤ bx := by
  go_enter Tryd.func26, Tryd.ntmps26
  go_wp2_with fail
  refine (Len_nil _).mono ?_
  rintro e w' ⟨rfl, rfl⟩
  go_wp2_with fail
  go_loop [5, 9] (fun v i => v = .slice none 0 0 ∧ i = .int .i64 0) (fun _ _ => 0)
  case atStart => exact ⟨rfl, rfl⟩
  case round =>
    obtain ⟨rfl, rfl⟩ := hrel
    go_wp2_with fail
    refine (Values_any _ _ _ _).mono ?_
    rintro e w' ⟨rfl, rfl⟩
    go_wp2
    go_ret
    refine ⟨w.heap.size, .slice none 0 0, rfl, (Fr.refl _ _).alloc _, Blk.new _ _ _, ?_, Nat.le_refl _⟩
    exact World.ownsRow_nil _ _ _ _
theorem lawAll_nil (n : Int) (w : World) :
    Calls Tryd.prog 18 #[.pointer none, .int .i64 n] w fun e w' => ∃ oa cap, e = .returned (.tuple #[.slice oa 0 cap, .bool true]) ∧ Fr [] w w' := by
  refine (lawAll_of none [] n w (by simp) fun w1 _ => All_nil n w1).mono ?_
  rintro e w' ⟨v, rfl, ho, hF⟩
  obtain ⟨_, ⟨rfl, _, _⟩ | ⟨g, cap, cur, rfl, _⟩⟩ := owns_cases ho
  · exact ⟨_, _, rfl, hF⟩
  · exact ⟨_, _, rfl, hF⟩
end Go.Proofs.YtoppbacokbbjdaaDoor
