/- second: a call with both. -/
import Derived.Test.YthhkgknolclakaaSecQ
namespace Go.Proofs.Ythhkgknolclakaa
open Go Go.RowKit Go.Shelf Go.Maps

/-- what becomes of a clock by a call -/
def opX (x : Clk) (o : Int × Int) : Clk :=
  if o.1 = 0 then ckAdd x o.2 else if o.1 = 1 then ckTouch x o.2 else if o.1 = 2 then ckDrop x o.2 else (ckEvict x (goB o.2)).1
/-- a bool comes back -/
def IsB (e : Ending) : Prop := ∃ r, e = .returned (.bool r)
structure Turn2 (w w' : World) (b rb : Nat) (D : List Nat) (x' : Clk) (D' : List Nat) : Prop where
  is : IsClk w' b D' x'
  fr : Fr (rb :: D) w w'
  sub : ∀ i, i ∈ D' → i ∈ D ∨ w.heap.size ≤ i
theorem turn2_of {w w1 w2 w3 : World} {b rb : Nat} {D D' : List Nat} {x' : Clk} (h1 : Fr [] w w1) (T : Turn w1 w2 b D x' D') (h2 : Fr [rb] w2 w3) (hr : rb < w.heap.size) (hd : ¬ rb ∈ D) : Turn2 w w3 b rb D x' D' := by
  have hn : ¬ rb ∈ D' := fun hm => by
    rcases T.sub rb hm with h | h
    · exact hd h
    · have := h1.size; omega
  refine ⟨T.is.fr h2 (fun i hi hm => hn (by simp at hm; exact hm ▸ hi)), ((h1.sub (by simp)).trans (T.fr.sub (fun i hi => .inl (by simp [hi])))).trans (h2.sub (fun i hi => .inl (by simp at hi; simp [hi]))), fun i hi => ?_⟩
  exact (T.sub i hi).imp id (fun h => Nat.le_trans h1.size h)
theorem does_any {w : World} {b rb : Nat} {D : List Nat} {x : Clk} (h : IsClk w b D x) (hr : RefAt w rb) (hd : ¬ rb ∈ D) (a k : Int) (hk : (Lit.int .i64 k).wf = true) :
    Calls Try.prog 9 #[.pointer (some ⟨b, 0, none⟩), .pointer (some ⟨rb, 0, none⟩), .agg #[.int .i64 a, .int .i64 k]] w fun e w' => IsB e ∧ ∃ D', Turn2 w w' b rb D (opX x (a, k)) D' := by
  have hO := Blk.new w #[.int .i64 a, .int .i64 k] 35
  have hF := (Fr.refl [] w).alloc (.cells #[.int .i64 a, .int .i64 k] 35)
  have h1 := h.fr hF (by simp)
  have hr1 : RefAt (w.alloc (.cells #[.int .i64 a, .int .i64 k] 35)) rb := Blk.fr hr hF (by simp)
  have hrl : rb < w.heap.size := Blk.lt hr
  have hS : ¬ w.heap.size ∈ rb :: D := by
    intro hm
    rcases List.mem_cons.1 hm with e | hm
    · omega
    · have := h.lt _ hm; omega
  have HS := Lib.hid hS
  have HF := Lib.hid hF
  have H1 := Lib.hid h1
  have HR1 := Lib.hid hr1
  have HD := Lib.hid hd
  have hF1d : Fr [] (w.alloc (.cells #[.int .i64 a, .int .i64 k] 35)) (w.alloc (.cells #[.int .i64 a, .int .i64 k] 35)).drew := (Fr.refl _ _).drew
  have HF1D := Lib.hid hF1d
  clear hS hF h1 hr1 h hr hd hF1d
  by_cases e0 : a = 0
  · subst e0
    have HX := Lib.hid (show opX x (0, k) = ckAdd x k from rfl)
    go_enter Try.func9, Try.ntmps9
    go_wp2_with fail
    generalize hw1 : w.alloc (.cells #[.int .i64 0, .int .i64 k] 35) = w1 at *
    clear hw1
    refine region_ord (rb :: D) (.take 0 (.take 1 (.take 2 (.take 4 (.take 5 (.take 6 (.pick 3 (.pick 7 (.take 8 (.take 9 .done)) .none) .none))))))) (by kernel_rfl) (by kernel_rfl) ?_
    simp only [ordList, Ord.map, List.getD_cons_zero, List.getD_cons_succ]
    refine' ord_pure (v := _) ?_ rfl ?_; rotate_left; focus (intro w; go_simp <;> (first | (with_reducible rfl) | (constructor <;> with_reducible rfl)))
    simp only [Act.put, List.setIfInBounds_toArray, List.set_cons_zero, List.set_cons_succ]
    refine' ord_pure (v := _) ?_ rfl ?_; rotate_left; focus (intro w; go_simp <;> (first | (with_reducible rfl) | (constructor <;> with_reducible rfl)))
    simp only [Act.put, List.setIfInBounds_toArray, List.set_cons_zero, List.set_cons_succ]
    refine ord_cell hO HS.out rfl rfl (by kernel_rfl) rfl rfl ?_
    simp only [Act.put, List.getElem_toArray, List.getElem_cons_zero, List.getElem_cons_succ, List.setIfInBounds_toArray, List.set_cons_zero, List.set_cons_succ]
    refine' ord_pure (v := _) ?_ rfl ?_; rotate_left; focus (intro w; go_simp <;> (first | (with_reducible rfl) | (constructor <;> with_reducible rfl)))
    simp only [Act.put, List.setIfInBounds_toArray, List.set_cons_zero, List.set_cons_succ]
    refine' ord_pure (v := _) ?_ rfl ?_; rotate_left; focus (intro w; go_simp <;> (first | (with_reducible rfl) | (constructor <;> with_reducible rfl)))
    simp only [Act.put, List.setIfInBounds_toArray, List.set_cons_zero, List.set_cons_succ]
    refine ord_cell hO HS.out rfl rfl (by kernel_rfl) rfl rfl ?_
    simp only [Act.put, List.getElem_toArray, List.getElem_cons_zero, List.getElem_cons_succ, List.setIfInBounds_toArray, List.set_cons_zero, List.set_cons_succ]
    -- 3: t18 := CALL (*lavabo/second.Clock[int]).Add(t15, t17)   {0,2}
    refine' ord_call (f := 14) (args := _) ?_ rfl ?_; rotate_left; focus (go_simp <;> (first | (with_reducible rfl) | (constructor <;> with_reducible rfl)))
    refine (Add_any (H1.out.fr HF1D.out (by simp)) hk).mono ?_
    rintro e w2 ⟨rfl, D2, T⟩
    have HT := Lib.hid T
    have hr2 : RefAt w2 rb := Blk.fr (HR1.out.drew) T.fr HD.out
    have hF : Fr (rb :: D) _ w2 := T.fr.sub (fun i hi => .inl (by simp [hi]))
    clear T
    refine ⟨_, rfl, hF, ?_⟩
    simp only [Act.put, List.setIfInBounds_toArray, List.set_cons_zero, List.set_cons_succ]
    -- 7: t22 := CALL (*lavabo/lavaboref07.Clock).Add(t19, t21)   {3,4,6}
    refine' ord_call (f := 26) (args := _) ?_ rfl ?_; rotate_left; focus (go_simp <;> (first | (with_reducible rfl) | (constructor <;> with_reducible rfl)))
    refine (Add_ref hr2 k).mono ?_
    rintro e w3 ⟨rfl, hF3⟩
    have hF : Fr (rb :: D) _ w3 := hF3.sub (fun i hi => .inl (by simp at hi; simp [hi]))
    refine ⟨_, rfl, hF, ?_⟩
    simp only [Act.put, List.setIfInBounds_toArray, List.set_cons_zero, List.set_cons_succ]
    refine' ord_pure (v := _) ?_ rfl ?_; rotate_left; focus (intro w; go_simp <;> (first | (with_reducible rfl) | (constructor <;> with_reducible rfl)))
    simp only [Act.put, List.setIfInBounds_toArray, List.set_cons_zero, List.set_cons_succ]
    refine' ord_pure (v := _) ?_ rfl ?_; rotate_left; focus (intro w; go_simp <;> (first | (with_reducible rfl) | (constructor <;> with_reducible rfl)))
    simp only [Act.put, List.setIfInBounds_toArray, List.set_cons_zero, List.set_cons_succ]
    refine ord_nil ?_
    go_wp2_with fail
    go_ret
    exact ⟨⟨_, rfl⟩, D2, by rw [HX.out]; exact turn2_of (HF.out.trans HF1D.out) HT.out hF3 hrl HD.out⟩
  · by_cases e1 : a = 1
    · subst e1
      have HX := Lib.hid (show opX x (1, k) = ckTouch x k from rfl)
      go_enter Try.func9, Try.ntmps9
      go_wp2_with fail
      generalize hw1 : w.alloc (.cells #[.int .i64 1, .int .i64 k] 35) = w1 at *
      clear hw1
      refine region_ord (rb :: D) (.take 0 (.take 1 (.take 2 (.take 4 (.take 5 (.take 6 (.pick 3 (.pick 7 (.take 8 (.take 9 .done)) .none) .none))))))) (by kernel_rfl) (by kernel_rfl) ?_
      simp only [ordList, Ord.map, List.getD_cons_zero, List.getD_cons_succ]
      refine' ord_pure (v := _) ?_ rfl ?_; rotate_left; focus (intro w; go_simp <;> (first | (with_reducible rfl) | (constructor <;> with_reducible rfl)))
      simp only [Act.put, List.setIfInBounds_toArray, List.set_cons_zero, List.set_cons_succ]
      refine' ord_pure (v := _) ?_ rfl ?_; rotate_left; focus (intro w; go_simp <;> (first | (with_reducible rfl) | (constructor <;> with_reducible rfl)))
      simp only [Act.put, List.setIfInBounds_toArray, List.set_cons_zero, List.set_cons_succ]
      refine ord_cell hO HS.out rfl rfl (by kernel_rfl) rfl rfl ?_
      simp only [Act.put, List.getElem_toArray, List.getElem_cons_zero, List.getElem_cons_succ, List.setIfInBounds_toArray, List.set_cons_zero, List.set_cons_succ]
      refine' ord_pure (v := _) ?_ rfl ?_; rotate_left; focus (intro w; go_simp <;> (first | (with_reducible rfl) | (constructor <;> with_reducible rfl)))
      simp only [Act.put, List.setIfInBounds_toArray, List.set_cons_zero, List.set_cons_succ]
      refine' ord_pure (v := _) ?_ rfl ?_; rotate_left; focus (intro w; go_simp <;> (first | (with_reducible rfl) | (constructor <;> with_reducible rfl)))
      simp only [Act.put, List.setIfInBounds_toArray, List.set_cons_zero, List.set_cons_succ]
      refine ord_cell hO HS.out rfl rfl (by kernel_rfl) rfl rfl ?_
      simp only [Act.put, List.getElem_toArray, List.getElem_cons_zero, List.getElem_cons_succ, List.setIfInBounds_toArray, List.set_cons_zero, List.set_cons_succ]
      -- 3: t29 := CALL (*lavabo/second.Clock[int]).Touch(t26, t28)   {0,2}
      refine' ord_call (f := 16) (args := _) ?_ rfl ?_; rotate_left; focus (go_simp <;> (first | (with_reducible rfl) | (constructor <;> with_reducible rfl)))
      have hto := Touch_any (H1.out.fr HF1D.out (by simp)) hk
      generalize (if ckHas x k = true then (0 : Int) else 14) = q at hto
      refine hto.mono ?_
      clear hto
      rintro e w2 ⟨rfl, D2, T⟩
      have HT := Lib.hid T
      have hr2 : RefAt w2 rb := Blk.fr (HR1.out.drew) T.fr HD.out
      have hF : Fr (rb :: D) _ w2 := T.fr.sub (fun i hi => .inl (by simp [hi]))
      clear T
      refine ⟨_, rfl, hF, ?_⟩
      simp only [Act.put, List.setIfInBounds_toArray, List.set_cons_zero, List.set_cons_succ]
      -- 7: t33 := CALL (*lavabo/lavaboref07.Clock).Touch(t30, t32)   {3,4,6}
      refine' ord_call (f := 27) (args := _) ?_ rfl ?_; rotate_left; focus (go_simp <;> (first | (with_reducible rfl) | (constructor <;> with_reducible rfl)))
      refine (Touch_ref hr2 k).mono ?_
      rintro e w3 ⟨rfl, hw3⟩
      have hF3 : Fr [rb] w2 w3 := (by rw [hw3]; exact Fr.refl _ _)
      have hF : Fr (rb :: D) _ w3 := hF3.sub (fun i hi => .inl (by simp at hi; simp [hi]))
      refine ⟨_, rfl, hF, ?_⟩
      simp only [Act.put, List.setIfInBounds_toArray, List.set_cons_zero, List.set_cons_succ]
      refine' ord_pure (v := _) ?_ rfl ?_; rotate_left; focus (intro w; go_simp <;> (first | (with_reducible rfl) | (constructor <;> with_reducible rfl)))
      simp only [Act.put, List.setIfInBounds_toArray, List.set_cons_zero, List.set_cons_succ]
      refine' ord_pure (v := _) ?_ rfl ?_; rotate_left; focus (intro w; go_simp <;> (first | (with_reducible rfl) | (constructor <;> with_reducible rfl)))
      simp only [Act.put, List.setIfInBounds_toArray, List.set_cons_zero, List.set_cons_succ]
      refine ord_nil ?_
      go_wp2_with fail
      go_ret
      exact ⟨⟨_, rfl⟩, D2, by rw [HX.out]; exact turn2_of (HF.out.trans HF1D.out) HT.out hF3 hrl HD.out⟩
    · by_cases e2 : a = 2
      · subst e2
        have HX := Lib.hid (show opX x (2, k) = ckDrop x k from rfl)
        go_enter Try.func9, Try.ntmps9
        go_wp2_with fail
        generalize hw1 : w.alloc (.cells #[.int .i64 2, .int .i64 k] 35) = w1 at *
        clear hw1
        refine region_ord (rb :: D) (.take 0 (.take 1 (.take 2 (.take 4 (.take 5 (.take 6 (.pick 3 (.pick 7 (.take 8 (.take 9 .done)) .none) .none))))))) (by kernel_rfl) (by kernel_rfl) ?_
        simp only [ordList, Ord.map, List.getD_cons_zero, List.getD_cons_succ]
        refine' ord_pure (v := _) ?_ rfl ?_; rotate_left; focus (intro w; go_simp <;> (first | (with_reducible rfl) | (constructor <;> with_reducible rfl)))
        simp only [Act.put, List.setIfInBounds_toArray, List.set_cons_zero, List.set_cons_succ]
        refine' ord_pure (v := _) ?_ rfl ?_; rotate_left; focus (intro w; go_simp <;> (first | (with_reducible rfl) | (constructor <;> with_reducible rfl)))
        simp only [Act.put, List.setIfInBounds_toArray, List.set_cons_zero, List.set_cons_succ]
        refine ord_cell hO HS.out rfl rfl (by kernel_rfl) rfl rfl ?_
        simp only [Act.put, List.getElem_toArray, List.getElem_cons_zero, List.getElem_cons_succ, List.setIfInBounds_toArray, List.set_cons_zero, List.set_cons_succ]
        refine' ord_pure (v := _) ?_ rfl ?_; rotate_left; focus (intro w; go_simp <;> (first | (with_reducible rfl) | (constructor <;> with_reducible rfl)))
        simp only [Act.put, List.setIfInBounds_toArray, List.set_cons_zero, List.set_cons_succ]
        refine' ord_pure (v := _) ?_ rfl ?_; rotate_left; focus (intro w; go_simp <;> (first | (with_reducible rfl) | (constructor <;> with_reducible rfl)))
        simp only [Act.put, List.setIfInBounds_toArray, List.set_cons_zero, List.set_cons_succ]
        refine ord_cell hO HS.out rfl rfl (by kernel_rfl) rfl rfl ?_
        simp only [Act.put, List.getElem_toArray, List.getElem_cons_zero, List.getElem_cons_succ, List.setIfInBounds_toArray, List.set_cons_zero, List.set_cons_succ]
        -- 3: t40 := CALL (*lavabo/second.Clock[int]).Drop(t37, t39)   {0,2}
        refine' ord_call (f := 12) (args := _) ?_ rfl ?_; rotate_left; focus (go_simp <;> (first | (with_reducible rfl) | (constructor <;> with_reducible rfl)))
        have hto := Drop_any (H1.out.fr HF1D.out (by simp)) hk
        generalize (if ckHas x k = true then (0 : Int) else 14) = q at hto
        refine hto.mono ?_
        clear hto
        rintro e w2 ⟨rfl, D2, T⟩
        have HT := Lib.hid T
        have hr2 : RefAt w2 rb := Blk.fr (HR1.out.drew) T.fr HD.out
        have hF : Fr (rb :: D) _ w2 := T.fr.sub (fun i hi => .inl (by simp [hi]))
        clear T
        refine ⟨_, rfl, hF, ?_⟩
        simp only [Act.put, List.setIfInBounds_toArray, List.set_cons_zero, List.set_cons_succ]
        -- 7: t44 := CALL (*lavabo/lavaboref07.Clock).Drop(t41, t43)   {3,4,6}
        refine' ord_call (f := 28) (args := _) ?_ rfl ?_; rotate_left; focus (go_simp <;> (first | (with_reducible rfl) | (constructor <;> with_reducible rfl)))
        refine (Drop_ref hr2 k).mono ?_
        rintro e w3 ⟨rfl, hw3⟩
        have hF3 : Fr [rb] w2 w3 := (by rw [hw3]; exact Fr.refl _ _)
        have hF : Fr (rb :: D) _ w3 := hF3.sub (fun i hi => .inl (by simp at hi; simp [hi]))
        refine ⟨_, rfl, hF, ?_⟩
        simp only [Act.put, List.setIfInBounds_toArray, List.set_cons_zero, List.set_cons_succ]
        refine' ord_pure (v := _) ?_ rfl ?_; rotate_left; focus (intro w; go_simp <;> (first | (with_reducible rfl) | (constructor <;> with_reducible rfl)))
        simp only [Act.put, List.setIfInBounds_toArray, List.set_cons_zero, List.set_cons_succ]
        refine' ord_pure (v := _) ?_ rfl ?_; rotate_left; focus (intro w; go_simp <;> (first | (with_reducible rfl) | (constructor <;> with_reducible rfl)))
        simp only [Act.put, List.setIfInBounds_toArray, List.set_cons_zero, List.set_cons_succ]
        refine ord_nil ?_
        go_wp2_with fail
        go_ret
        exact ⟨⟨_, rfl⟩, D2, by rw [HX.out]; exact turn2_of (HF.out.trans HF1D.out) HT.out hF3 hrl HD.out⟩
      · have HX := Lib.hid (show opX x (a, k) = (ckEvict x (goB k)).1 by simp [opX, e0, e1, e2])
        have b0 : (a == 0) = false := by simpa using e0
        have b1 : (a == 1) = false := by simpa using e1
        have b2 : (a == 2) = false := by simpa using e2
        go_enter Try.func9, Try.ntmps9
        go_wp2_with fail
        generalize hw1 : w.alloc (.cells #[.int .i64 a, .int .i64 k] 35) = w1 at *
        clear hw1
        have hev := Evict_any H1.out k
        generalize ckEvict x (goB k) = R at *
        obtain ⟨x2, n1, n2⟩ := R
        refine hev.mono ?_
        rintro e w2 ⟨rfl, D2, T⟩
        have HT := Lib.hid T
        have hr2 : RefAt w2 rb := Blk.fr HR1.out T.fr HD.out
        have hO2 := hO.fr T.fr (fun hm => HS.out (List.mem_cons_of_mem _ hm))
        have HR2 := Lib.hid hr2
        have c1 := hO2.cell (i := 1) rfl
        clear T hev hr2
        go_wp2_with fail
        refine (Evict_ref HR2.out _).mono ?_
        rintro e w3 ⟨rfl, rfl⟩
        cases hn : (n1 == 0)
        all_goals
          go_wp2_with fail
          go_ret
          exact ⟨⟨_, rfl⟩, D2, by rw [HX.out]; exact turn2_of HF.out HT.out (Fr.refl _ _) hrl HD.out⟩
end Go.Proofs.Ythhkgknolclakaa
