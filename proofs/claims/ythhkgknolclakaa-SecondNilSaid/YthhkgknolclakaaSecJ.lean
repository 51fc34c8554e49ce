/- second: All: two lists are collected, and an iterator over them is handed back. -/
import Derived.Test.YthhkgknolclakaaSecI
namespace Go.Proofs.Ythhkgknolclakaa
open Go Go.RowKit Go.Shelf Go.Maps

theorem infoBool : ∃ i, Try.prog.info? 4 = some i ∧ i.zero = some (.bool false) ∧ i.size = 1 ∧ i.bytes = 1 := by
  have h : (Try.prog.info? 4).map (fun i => (i.zero, i.size, i.bytes)) = some (some (.bool false), 1, 1) := by kernel_rfl
  cases hi : Try.prog.info? 4 with
  | none => rw [hi] at h; cases h
  | some i =>
    rw [hi] at h
    simp only [Option.map_some, Option.some.injEq, Prod.mk.injEq] at h
    exact ⟨i, rfl, h.1, h.2.1, h.2.2⟩
def boolC (l : List Bool) : List Value := l.map Value.bool
theorem one_int (k : Int) : ∀ u ∈ [Value.int .i64 k], u.oneCell' = true := by simp [Value.oneCell']
theorem one_bool (a : Bool) : ∀ u ∈ [Value.bool a], u.oneCell' = true := by simp [Value.oneCell']
theorem blk_one {w : World} {g : Nat} {T : TypeId} {v : Value} (h : Blk w g T #[v]) : ∀ (j : Nat) (u : Value), [v][j]? = some u → w.cell? (Addr.add ⟨g, 0, none⟩ j) = some u := by
  intro j u hj
  rw [Addr.add_lit, Nat.zero_add]
  exact h.cell (by simpa using hj)
section
variable {P : Program} {ops : Array Oper} {Q : Exit → Act → World → Prop} {o : Oper} {r : Ord Oper} {a : Act} {w : World} {S : List Nat}
theorem ord_look {mb n : Nat} {M : DataW Unit} {m x : Operand} {k c : Int} (hM : w.ownsMap Try.prog 3 (plainElem Try.prog 3) mb n M) (hs : ¬ mb ∈ S) (hk : (Lit.int .i64 k).wf = true)
    (hat : M.atKey (.int .i64 k) (.lit (.int .i64 0)) = .lit (.int .i64 c)) (ho : o.op = .lookup 59 m x false) (hm : a.eval m = .map (some mb)) (hx : a.eval x = .int .i64 k) (hw : Region.wanted o (yielded ops a.tmps) = true)
    (hr : wpOrd Try.prog ops Q (Fr S) r (a.put o.dst (.int .i64 c)) w) : wpOrd Try.prog ops Q (Fr S) (.take o r) a w :=
  ⟨_, .inl ⟨hw, fun w' hF => by
    obtain ⟨c', hrun, hat', _⟩ := (owns_map_fr hM hF hs).lookup_int lawI Try.underlying59 Try.underlying3 (zeroI _) (keyOf_int_mk Try.underlying3 hk)
    have e : c' = c := by
      have := hat'.symm.trans hat
      simpa using this
    subst e
    simp [execOp, ho, hm, hx, hrun, Result.andThen]⟩, hr⟩
end
theorem inS1 {v1 v2 : Value} {i : Nat} (h : v1.ownBlock = some i) : i ∈ v1.ownBlock.toList ++ v2.ownBlock.toList := by simp [h]
theorem inS2 {v1 v2 : Value} {i : Nat} (h : v2.ownBlock = some i) : i ∈ v1.ownBlock.toList ++ v2.ownBlock.toList := by simp [h]
theorem own_apart {v1 v2 : Value} {g1 n W : Nat} (hor : v1.ownBlock = some g1 ∨ g1 = W) (hd : ∀ g, v1.ownBlock = some g → ¬ v2.ownBlock = some g) (hl : ∀ g, g ∈ v2.ownBlock.toList → g < n) (hn : n ≤ W) : ¬ g1 ∈ v2.ownBlock.toList := by
  intro hm
  rcases hor with e | e
  · exact hd g1 e (by simpa using hm)
  · have := hl g1 hm
    omega
theorem own_ne {v2 : Value} {g1 g2 W n : Nat} (h1 : ¬ g1 ∈ v2.ownBlock.toList) (hor : v2.ownBlock = some g2 ∨ g2 = W) (hl : g1 < n) (hn : n ≤ W) : ¬ g1 = g2 := by
  rintro rfl
  rcases hor with e | e
  · exact h1 (by simpa using e)
  · omega
def AllAt (w w' : World) (v1 v2 : Value) (L : List (Int × Bool)) : Prop :=
  Fr [] w w' ∧ Blk w' w.heap.size 31 #[v1] ∧ Blk w' (w.heap.size + 1) 39 #[v2] ∧ w'.ownsRow (w.heap.size + 2) 3 1 v1 L.length (intC (kofs L)) ∧ w'.ownsRow (w.heap.size + 2) 4 1 v2 L.length (boolC (L.map (·.2)))
theorem AllS_nil (w : World) :
    Calls Try.prog 33 #[.pointer none] w fun e w' => e = .returned (.func (.func 43) #[] #[.pointer (some ⟨w.heap.size, 0, none⟩), .pointer (some ⟨w.heap.size + 1, 0, none⟩)]) ∧
      ∃ v1 v2, AllAt w w' v1 v2 [] := by
  go_enter Try.func33, Try.ntmps33
  go_wp2
  go_ret
  refine ⟨rfl, _, _, ((Fr.refl [] w).alloc _).alloc _, (Blk.new w _ _).alloc _, ?_, World.ownsRow_nil _ _ _ _, World.ownsRow_nil _ _ _ _⟩
  have := Blk.new (w.alloc (.cells #[.slice none 0 0] 31)) #[.slice none 0 0] 39
  rwa [World.size_alloc] at this
theorem AllS_any {w : World} {b : Nat} {D : List Nat} {x : Clk} (h : IsClk w b D x) :
    Calls Try.prog 33 #[.pointer (some ⟨b, 0, none⟩)] w fun e w' => e = .returned (.func (.func 43) #[] #[.pointer (some ⟨w.heap.size, 0, none⟩), .pointer (some ⟨w.heap.size + 1, 0, none⟩)]) ∧
      ∃ v1 v2, AllAt w w' v1 v2 x.L := by
  have hlt := h.lt
  obtain ⟨mb, lv, gv, rfl, h⟩ := h
  obtain ⟨oa, cap, hv⟩ := plan_form h.l
  obtain ⟨i0, hi, hz0, hz1, hz2⟩ := infoInt
  obtain ⟨j0, hj, hy0, hy1, hy2⟩ := infoBool
  rw [ks_len] at hv
  subst hv
  have hbl := h.blk.lt
  have hle := Nat.le_trans h.ok.most h.most
  have hF0 : Fr [] w ((w.alloc (.cells #[.slice none 0 0] 31)).alloc (.cells #[.slice none 0 0] 39)) := ((Fr.refl [] w).alloc _).alloc _
  have h2 := h.fr hF0 (by simp)
  have c0 := h2.blk.cell (i := 0) rfl
  have hB1 : Blk ((w.alloc (.cells #[.slice none 0 0] 31)).alloc (.cells #[.slice none 0 0] 39)) w.heap.size 31 #[.slice none 0 0] := (Blk.new w _ _).alloc _
  have hB2 : Blk ((w.alloc (.cells #[.slice none 0 0] 31)).alloc (.cells #[.slice none 0 0] 39)) (w.heap.size + 1) 39 #[.slice none 0 0] := by
    have := Blk.new (w.alloc (.cells #[.slice none 0 0] 31)) #[.slice none 0 0] 39
    rwa [World.size_alloc] at this
  have HH := Lib.hid h
  have HI := Lib.hid (And.intro hi (And.intro hz0 (And.intro hz1 (And.intro hz2 (And.intro hj (And.intro hy0 (And.intro hy1 hy2)))))))
  have HLT := Lib.hid hlt
  clear h h2 hi hz0 hz1 hz2 hj hy0 hy1 hy2 hlt
  go_enter Try.func33, Try.ntmps33
  go_wp2_with fail
  generalize hw2 : (w.alloc (.cells #[.slice none 0 0] 31)).alloc (.cells #[.slice none 0 0] 39) = w2 at *
  have hws : w2.heap.size = w.heap.size + 2 := by rw [← hw2]; simp
  clear hw2
  go_loopw [6, 14] (fun _ i wr => ∃ k : Nat, k ≤ x.L.length ∧ i = .int .i64 k ∧ Fr [] w wr ∧ w.heap.size + 2 ≤ wr.heap.size ∧ ∃ v1 v2, Blk wr w.heap.size 31 #[v1] ∧ Blk wr (w.heap.size + 1) 39 #[v2] ∧
    wr.ownsRow (w.heap.size + 2) 3 1 v1 k (intC (kofs (x.L.take k))) ∧ wr.ownsRow (w.heap.size + 2) 4 1 v2 k (boolC ((x.L.take k).map (·.2))) ∧ ∀ g, v1.ownBlock = some g → ¬ v2.ownBlock = some g) (fun _ i _ => x.L.length - (intOf i).toNat)
  case atStart => exact ⟨0, Nat.zero_le _, rfl, hF0, by omega, _, _, hB1, hB2, World.ownsRow_nil _ _ _ _, World.ownsRow_nil _ _ _ _, by simp [Value.ownBlock]⟩
  case round =>
    obtain ⟨k, hk, rfl, hFr, hws2, v1, v2, hb1, hb2, ho1, ho2, hd⟩ := hrel
    by_cases hlt : k < x.L.length
    · have h := HH.out.fr hFr (by simp)
      generalize hp : x.L[k] = p
      obtain ⟨k1, a1⟩ := p
      have hkk : x.ks[k]'(by rw [ks_len]; exact hlt) = k1 := by simp [Clk.ks, hp]
      obtain ⟨pb, off, hoa, hc⟩ : ∃ pb off, oa = some ⟨pb, off, none⟩ ∧ wr.cell? ⟨pb, off + k, none⟩ = some (.int .i64 k1) := by
        obtain ⟨oa2, c2, he, h1, h2, h3⟩ := h.l
        simp only [Value.slice.injEq] at he
        obtain ⟨rfl, _, rfl⟩ := he
        rw [ks_len] at h1
        obtain ⟨pb, off, rfl, _, hc⟩ := h3 (by omega)
        exact ⟨pb, off, rfl, by rw [← hkk]; exact hc k (by rw [ks_len]; exact hlt)⟩
      subst hoa
      have hmem : (k1, a1) ∈ x.L := by rw [← hp]; exact List.getElem_mem hlt
      have hwf : (Lit.int .i64 k1).wf = true := h.wf k1 (List.mem_map_of_mem (f := (·.1)) hmem)
      obtain ⟨M, hM, hMI⟩ := h.map
      have hat := hMI.at_ k1 a1 hmem
      generalize hcc : (if a1 = true then (1 : Int) else 0) = cc at hat
      have hgt : decide (0 < cc) = a1 := by rw [← hcc]; cases a1 <;> rfl
      have htk : x.L.take (k + 1) = x.L.take k ++ [(k1, a1)] := by rw [← hp]; exact (List.take_append_getElem hlt).symm
      have hblk := h.blk
      have hmb := HH.out.map.lt
      have b0 : decide ((k : Int) < (x.L.length : Nat)) = true := by simp; omega
      have hmxb : k < 1024 := by omega
      have hS : ∀ i, i < w.heap.size + 2 → ¬ i ∈ v1.ownBlock.toList ++ v2.ownBlock.toList := by
        intro i hi hm
        rcases List.mem_append.1 hm with hm | hm
        · have := owns_ge ho1 i (by simpa using hm); omega
        · have := owns_ge ho2 i (by simpa using hm); omega
      have HS := Lib.hid hS
      have hFw := (Fr.refl (v1.ownBlock.toList ++ v2.ownBlock.toList) wr).drew
      have HD := Lib.hid hd
      have H1 : wr.drew.ownsRow _ _ _ _ _ _ := ho1
      have H2 : wr.drew.ownsRow _ _ _ _ _ _ := ho2
      have hl1 := owns_block_lt ho1
      have hl2 := owns_block_lt ho2
      have HO1 := Lib.hid ho1
      have HO2 := Lib.hid ho2
      have HTK := Lib.hid htk
      have HFR := Lib.hid hFr
      have HMM := Lib.hid hmem
      have HL1 := Lib.hid hl1
      have HL2 := Lib.hid hl2
      have hMd : wr.drew.ownsMap Try.prog 3 (plainElem Try.prog 3) mb x.L.length M := hM
      obtain ⟨hi, hz0, hz1, hz2, hj, hy0, hy1, hy2⟩ := HI.out
      clear h ho1 ho2 hd hS htk hFr hmem hcc hkk hp hMI hl1 hl2
      go_wp2_with fail
      refine region_tail [14,15] (v1.ownBlock.toList ++ v2.ownBlock.toList) (.take 0 (.take 1 (.take 4 (.take 5 (.take 6 (.take 7 (.take 8 (.take 9 (.take 10 (.take 11 (.pick 2 (.pick 3 (.pick 12 (.pick 13 (.last 14 (.last 15 .done)) .none) .none) (.pick 12 (.pick 3 (.pick 13 (.last 14 (.last 15 .done)) .none) .none) .none)) (.pick 12 (.pick 2 (.pick 3 (.pick 13 (.last 14 (.last 15 .done)) .none) .none) .none) .none)))))))))))) (by kernel_rfl) (by kernel_rfl) ?_
      simp only [ordList, Ord.map, List.getD_cons_zero, List.getD_cons_succ]
      refine ord_cell hb1 (HS.out _ (by omega)) rfl rfl (by kernel_rfl) rfl rfl ?_
      simp only [Act.put, List.getElem_toArray, List.getElem_cons_zero, List.getElem_cons_succ, List.setIfInBounds_toArray, List.set_cons_zero, List.set_cons_succ]
      refine' ord_pure (v := _) ?_ rfl ?_; rotate_left; focus (intro w; go_simp <;> (first | (with_reducible rfl) | (constructor <;> with_reducible rfl)))
      simp only [Act.put, List.setIfInBounds_toArray, List.set_cons_zero, List.set_cons_succ]
      refine ord_cell hb2 (HS.out _ (by omega)) rfl rfl (by kernel_rfl) rfl rfl ?_
      simp only [Act.put, List.getElem_toArray, List.getElem_cons_zero, List.getElem_cons_succ, List.setIfInBounds_toArray, List.set_cons_zero, List.set_cons_succ]
      refine' ord_pure (v := _) ?_ rfl ?_; rotate_left; focus (intro w; go_simp <;> (first | (with_reducible rfl) | (constructor <;> with_reducible rfl)))
      simp only [Act.put, List.setIfInBounds_toArray, List.set_cons_zero, List.set_cons_succ]
      refine' ord_pure (v := _) ?_ rfl ?_; rotate_left; focus (intro w; go_simp <;> (first | (with_reducible rfl) | (constructor <;> with_reducible rfl)))
      simp only [Act.put, List.setIfInBounds_toArray, List.set_cons_zero, List.set_cons_succ]
      refine' ord_pure (v := _) ?_ rfl ?_; rotate_left; focus (intro w; go_simp <;> (first | (with_reducible rfl) | (constructor <;> with_reducible rfl)))
      simp only [Act.put, List.setIfInBounds_toArray, List.set_cons_zero, List.set_cons_succ]
      refine ord_cell hblk (HS.out _ (by omega)) rfl rfl (by kernel_rfl) rfl rfl ?_
      simp only [Act.put, List.getElem_toArray, List.getElem_cons_zero, List.getElem_cons_succ, List.setIfInBounds_toArray, List.set_cons_zero, List.set_cons_succ]
      refine' ord_pure (v := _) ?_ rfl ?_; rotate_left; focus (intro w; go_simp <;> (first | (with_reducible rfl) | (constructor <;> with_reducible rfl)))
      simp only [Act.put, List.setIfInBounds_toArray, List.set_cons_zero, List.set_cons_succ]
      -- 10: t28 := lookup 59 t26 t27 false   {8,9}
      refine ord_look hMd (HS.out _ (by omega)) hwf hat rfl rfl rfl rfl ?_
      simp only [Act.put, List.setIfInBounds_toArray, List.set_cons_zero, List.set_cons_succ]
      refine' ord_pure (v := _) ?_ rfl ?_; rotate_left; focus (intro w; go_simp <;> (first | (with_reducible rfl) | (constructor <;> with_reducible rfl)))
      simp only [Act.put, List.setIfInBounds_toArray, List.set_cons_zero, List.set_cons_succ]
      refine ord_fork ?_ ?_
      -- 2: t20 := buildSlice <[]int> 1 [(0,t19)]   {1}
      refine' ord_do (v := _) (w' := _) ?_ ?_ rfl ?_
      rotate_left 2
      focus (go_simp <;> (first | (with_reducible rfl) | (constructor <;> with_reducible rfl)))
      focus (exact (Fr.refl _ _).alloc _)
      have hA1 := blk_new hFw #[.int .i64 k1] 3
      try simp only [World.size_drew, World.size_alloc] at hA1
      have H1 := H1.alloc (.cells #[.int .i64 k1] 3)
      have H2 := H2.alloc (.cells #[.int .i64 k1] 3)
      have hFw := hFw.alloc (.cells #[.int .i64 k1] 3)
      try have hA2 := hA2.alloc (.cells #[.int .i64 k1] 3)
      simp only [Act.put, List.setIfInBounds_toArray, List.set_cons_zero, List.set_cons_succ]
      refine ord_fork ?_ ?_
      -- 3: t21 := CALL builtin Builtin.append(t18, t20)   {0,2}
      refine ord_append rfl _ _ 31 rfl (w.heap.size + 2) 3 i0 (.int .i64 0) 1 8 Try.underlying31 hi hz0 hz1 hz2 rfl (by decide) _ k _ rfl H1 _ 1 1 [.int .i64 k1] rfl rfl (blk_one hA1) (one_int k1) (by decide) (by unfold maxLen; omega) (by omega) (Nat.le_trans hws2 hFw.size) (fun w' h => (Fr.refl _ _).grown h (fun i hi => .inl (inS1 hi))) ?_
      intro g1 cap1 w5 O1 hg1 hor1 hlt1
      have hg1 : World.grownBy _ w5 v1.ownBlock := hg1
      have hor1 : v1.ownBlock = some g1 ∨ _ := hor1
      try simp only [World.size_drew, World.size_alloc] at hor1
      have hFw := hFw.grown hg1 (fun i hi => .inl (by simp [hi]))
      have H2 := owns_fr H2 ((Fr.refl v1.ownBlock.toList _).grown hg1 (fun i hi => .inl (by simp [hi]))) (fun g hg hm => HD.out g (by simpa using hm) hg)
      try have hA2 := hA2.grown hg1 (by intro e; have := HL1.out _ (by simpa using e); omega)
      simp only [Act.put, List.setIfInBounds_toArray, List.set_cons_zero, List.set_cons_succ]
      -- 12: t30 := buildSlice <[]bool> 1 [(0,t29)]   {11}
      refine' ord_do (v := _) (w' := _) ?_ ?_ rfl ?_
      rotate_left 2
      focus (go_simp <;> (first | (with_reducible rfl) | (constructor <;> with_reducible rfl)))
      focus (exact (Fr.refl _ _).alloc _)
      have hA2 := blk_new hFw #[.bool a1] 4
      try simp only [World.size_drew, World.size_alloc] at hA2
      have H1 := H1.alloc (.cells #[.bool a1] 4)
      have H2 := H2.alloc (.cells #[.bool a1] 4)
      have hFw := hFw.alloc (.cells #[.bool a1] 4)
      try have hA1 := hA1.alloc (.cells #[.bool a1] 4)
      try have O1 := O1.alloc (.cells #[.bool a1] 4)
      simp only [Act.put, List.setIfInBounds_toArray, List.set_cons_zero, List.set_cons_succ]
      -- 13: t31 := CALL builtin Builtin.append(t22, t30)   {3,4,12}
      refine ord_append rfl _ _ 39 rfl (w.heap.size + 2) 4 j0 (.bool false) 1 1 Try.underlying39 hj hy0 hy1 hy2 rfl (by decide) _ k _ rfl H2 _ 1 1 [.bool a1] rfl rfl (blk_one hA2) (one_bool a1) (by decide) (by unfold maxLen; omega) (by omega) (Nat.le_trans hws2 hFw.size) (fun w' h => (Fr.refl _ _).grown h (fun i hi => .inl (inS2 hi))) ?_
      intro g2 cap2 w6 O2 hg2 hor2 hlt2
      have hg2 : World.grownBy _ w6 v2.ownBlock := hg2
      have hor2 : v2.ownBlock = some g2 ∨ _ := hor2
      try simp only [World.size_drew, World.size_alloc] at hor2
      have hFw := hFw.grown hg2 (fun i hi => .inl (by simp [hi]))
      have O1 := owns_fr O1 ((Fr.refl v2.ownBlock.toList _).grown hg2 (fun i hi => .inl (by simp [hi]))) (fun g hg => by have hgg : g1 = g := (by simpa [Value.ownBlock] using hg); exact hgg ▸ own_apart hor1 HD.out HL2.out (by omega))
      have hd12 : ¬ g1 = g2 := own_ne (own_apart hor1 HD.out HL2.out (by omega)) hor2 hlt1 (by omega)
      simp only [Act.put, List.setIfInBounds_toArray, List.set_cons_zero, List.set_cons_succ]
      -- 14: t_ := store <[]int> t3 t21   {0,1,2,3,4,5,6,7,8,9,10,11,12,13}
      have hc1 := (hb1.fr hFw (HS.out _ (by omega))).cell (i := 0) rfl
      have hf1 := (hb1.fr hFw (HS.out _ (by omega))).frozen 0
      refine' ord_last_skip (w' := w6.setCell ⟨w.heap.size, 0, none⟩ (.slice (some ⟨g1, 0, none⟩) (k + 1) cap1)) ?_ rfl ?_
      focus (go_simp)
      simp only [Act.put, List.setIfInBounds_toArray, List.set_cons_zero, List.set_cons_succ]
      -- 15: t_ := store <[]bool> t4 t31   {0,1,2,3,4,5,6,7,8,9,10,11,12,13,14}
      have hB2' := (hb2.fr hFw (HS.out _ (by omega))).set_ne ⟨w.heap.size, 0, none⟩ (.slice (some ⟨g1, 0, none⟩) (k + 1) cap1) (by simp)
      have hc2 := hB2'.cell (i := 0) rfl
      have hf2 := hB2'.frozen 0
      refine' ord_last_skip (w' := (w6.setCell ⟨w.heap.size, 0, none⟩ (.slice (some ⟨g1, 0, none⟩) (k + 1) cap1)).setCell ⟨w.heap.size + 1, 0, none⟩ (.slice (some ⟨g2, 0, none⟩) (k + 1) cap2)) ?_ rfl ?_
      focus (go_simp)
      simp only [Act.put, List.setIfInBounds_toArray, List.set_cons_zero, List.set_cons_succ]
      refine ord_nil ?_
      rotate_left
      -- 12: t30 := buildSlice <[]bool> 1 [(0,t29)]   {11}
      refine' ord_do (v := _) (w' := _) ?_ ?_ rfl ?_
      rotate_left 2
      focus (go_simp <;> (first | (with_reducible rfl) | (constructor <;> with_reducible rfl)))
      focus (exact (Fr.refl _ _).alloc _)
      have hA2 := blk_new hFw #[.bool a1] 4
      try simp only [World.size_drew, World.size_alloc] at hA2
      have H1 := H1.alloc (.cells #[.bool a1] 4)
      have H2 := H2.alloc (.cells #[.bool a1] 4)
      have hFw := hFw.alloc (.cells #[.bool a1] 4)
      try have hA1 := hA1.alloc (.cells #[.bool a1] 4)
      try have O1 := O1.alloc (.cells #[.bool a1] 4)
      simp only [Act.put, List.setIfInBounds_toArray, List.set_cons_zero, List.set_cons_succ]
      -- 3: t21 := CALL builtin Builtin.append(t18, t20)   {0,2}
      refine ord_append rfl _ _ 31 rfl (w.heap.size + 2) 3 i0 (.int .i64 0) 1 8 Try.underlying31 hi hz0 hz1 hz2 rfl (by decide) _ k _ rfl H1 _ 1 1 [.int .i64 k1] rfl rfl (blk_one hA1) (one_int k1) (by decide) (by unfold maxLen; omega) (by omega) (Nat.le_trans hws2 hFw.size) (fun w' h => (Fr.refl _ _).grown h (fun i hi => .inl (inS1 hi))) ?_
      intro g1 cap1 w5 O1 hg1 hor1 hlt1
      have hg1 : World.grownBy _ w5 v1.ownBlock := hg1
      have hor1 : v1.ownBlock = some g1 ∨ _ := hor1
      try simp only [World.size_drew, World.size_alloc] at hor1
      have hFw := hFw.grown hg1 (fun i hi => .inl (by simp [hi]))
      have H2 := owns_fr H2 ((Fr.refl v1.ownBlock.toList _).grown hg1 (fun i hi => .inl (by simp [hi]))) (fun g hg hm => HD.out g (by simpa using hm) hg)
      try have hA2 := hA2.grown hg1 (by intro e; have := HL1.out _ (by simpa using e); omega)
      simp only [Act.put, List.setIfInBounds_toArray, List.set_cons_zero, List.set_cons_succ]
      -- 13: t31 := CALL builtin Builtin.append(t22, t30)   {3,4,12}
      refine ord_append rfl _ _ 39 rfl (w.heap.size + 2) 4 j0 (.bool false) 1 1 Try.underlying39 hj hy0 hy1 hy2 rfl (by decide) _ k _ rfl H2 _ 1 1 [.bool a1] rfl rfl (blk_one hA2) (one_bool a1) (by decide) (by unfold maxLen; omega) (by omega) (Nat.le_trans hws2 hFw.size) (fun w' h => (Fr.refl _ _).grown h (fun i hi => .inl (inS2 hi))) ?_
      intro g2 cap2 w6 O2 hg2 hor2 hlt2
      have hg2 : World.grownBy _ w6 v2.ownBlock := hg2
      have hor2 : v2.ownBlock = some g2 ∨ _ := hor2
      try simp only [World.size_drew, World.size_alloc] at hor2
      have hFw := hFw.grown hg2 (fun i hi => .inl (by simp [hi]))
      have O1 := owns_fr O1 ((Fr.refl v2.ownBlock.toList _).grown hg2 (fun i hi => .inl (by simp [hi]))) (fun g hg => by have hgg : g1 = g := (by simpa [Value.ownBlock] using hg); exact hgg ▸ own_apart hor1 HD.out HL2.out (by omega))
      have hd12 : ¬ g1 = g2 := own_ne (own_apart hor1 HD.out HL2.out (by omega)) hor2 hlt1 (by omega)
      simp only [Act.put, List.setIfInBounds_toArray, List.set_cons_zero, List.set_cons_succ]
      -- 14: t_ := store <[]int> t3 t21   {0,1,2,3,4,5,6,7,8,9,10,11,12,13}
      have hc1 := (hb1.fr hFw (HS.out _ (by omega))).cell (i := 0) rfl
      have hf1 := (hb1.fr hFw (HS.out _ (by omega))).frozen 0
      refine' ord_last_skip (w' := w6.setCell ⟨w.heap.size, 0, none⟩ (.slice (some ⟨g1, 0, none⟩) (k + 1) cap1)) ?_ rfl ?_
      focus (go_simp)
      simp only [Act.put, List.setIfInBounds_toArray, List.set_cons_zero, List.set_cons_succ]
      -- 15: t_ := store <[]bool> t4 t31   {0,1,2,3,4,5,6,7,8,9,10,11,12,13,14}
      have hB2' := (hb2.fr hFw (HS.out _ (by omega))).set_ne ⟨w.heap.size, 0, none⟩ (.slice (some ⟨g1, 0, none⟩) (k + 1) cap1) (by simp)
      have hc2 := hB2'.cell (i := 0) rfl
      have hf2 := hB2'.frozen 0
      refine' ord_last_skip (w' := (w6.setCell ⟨w.heap.size, 0, none⟩ (.slice (some ⟨g1, 0, none⟩) (k + 1) cap1)).setCell ⟨w.heap.size + 1, 0, none⟩ (.slice (some ⟨g2, 0, none⟩) (k + 1) cap2)) ?_ rfl ?_
      focus (go_simp)
      simp only [Act.put, List.setIfInBounds_toArray, List.set_cons_zero, List.set_cons_succ]
      refine ord_nil ?_
      rotate_left
      -- 12: t30 := buildSlice <[]bool> 1 [(0,t29)]   {11}
      refine' ord_do (v := _) (w' := _) ?_ ?_ rfl ?_
      rotate_left 2
      focus (go_simp <;> (first | (with_reducible rfl) | (constructor <;> with_reducible rfl)))
      focus (exact (Fr.refl _ _).alloc _)
      have hA2 := blk_new hFw #[.bool a1] 4
      try simp only [World.size_drew, World.size_alloc] at hA2
      have H1 := H1.alloc (.cells #[.bool a1] 4)
      have H2 := H2.alloc (.cells #[.bool a1] 4)
      have hFw := hFw.alloc (.cells #[.bool a1] 4)
      try have hA1 := hA1.alloc (.cells #[.bool a1] 4)
      try have O1 := O1.alloc (.cells #[.bool a1] 4)
      simp only [Act.put, List.setIfInBounds_toArray, List.set_cons_zero, List.set_cons_succ]
      -- 2: t20 := buildSlice <[]int> 1 [(0,t19)]   {1}
      refine' ord_do (v := _) (w' := _) ?_ ?_ rfl ?_
      rotate_left 2
      focus (go_simp <;> (first | (with_reducible rfl) | (constructor <;> with_reducible rfl)))
      focus (exact (Fr.refl _ _).alloc _)
      have hA1 := blk_new hFw #[.int .i64 k1] 3
      try simp only [World.size_drew, World.size_alloc] at hA1
      have H1 := H1.alloc (.cells #[.int .i64 k1] 3)
      have H2 := H2.alloc (.cells #[.int .i64 k1] 3)
      have hFw := hFw.alloc (.cells #[.int .i64 k1] 3)
      try have hA2 := hA2.alloc (.cells #[.int .i64 k1] 3)
      simp only [Act.put, List.setIfInBounds_toArray, List.set_cons_zero, List.set_cons_succ]
      -- 3: t21 := CALL builtin Builtin.append(t18, t20)   {0,2}
      refine ord_append rfl _ _ 31 rfl (w.heap.size + 2) 3 i0 (.int .i64 0) 1 8 Try.underlying31 hi hz0 hz1 hz2 rfl (by decide) _ k _ rfl H1 _ 1 1 [.int .i64 k1] rfl rfl (blk_one hA1) (one_int k1) (by decide) (by unfold maxLen; omega) (by omega) (Nat.le_trans hws2 hFw.size) (fun w' h => (Fr.refl _ _).grown h (fun i hi => .inl (inS1 hi))) ?_
      intro g1 cap1 w5 O1 hg1 hor1 hlt1
      have hg1 : World.grownBy _ w5 v1.ownBlock := hg1
      have hor1 : v1.ownBlock = some g1 ∨ _ := hor1
      try simp only [World.size_drew, World.size_alloc] at hor1
      have hFw := hFw.grown hg1 (fun i hi => .inl (by simp [hi]))
      have H2 := owns_fr H2 ((Fr.refl v1.ownBlock.toList _).grown hg1 (fun i hi => .inl (by simp [hi]))) (fun g hg hm => HD.out g (by simpa using hm) hg)
      try have hA2 := hA2.grown hg1 (by intro e; have := HL1.out _ (by simpa using e); omega)
      simp only [Act.put, List.setIfInBounds_toArray, List.set_cons_zero, List.set_cons_succ]
      -- 13: t31 := CALL builtin Builtin.append(t22, t30)   {3,4,12}
      refine ord_append rfl _ _ 39 rfl (w.heap.size + 2) 4 j0 (.bool false) 1 1 Try.underlying39 hj hy0 hy1 hy2 rfl (by decide) _ k _ rfl H2 _ 1 1 [.bool a1] rfl rfl (blk_one hA2) (one_bool a1) (by decide) (by unfold maxLen; omega) (by omega) (Nat.le_trans hws2 hFw.size) (fun w' h => (Fr.refl _ _).grown h (fun i hi => .inl (inS2 hi))) ?_
      intro g2 cap2 w6 O2 hg2 hor2 hlt2
      have hg2 : World.grownBy _ w6 v2.ownBlock := hg2
      have hor2 : v2.ownBlock = some g2 ∨ _ := hor2
      try simp only [World.size_drew, World.size_alloc] at hor2
      have hFw := hFw.grown hg2 (fun i hi => .inl (by simp [hi]))
      have O1 := owns_fr O1 ((Fr.refl v2.ownBlock.toList _).grown hg2 (fun i hi => .inl (by simp [hi]))) (fun g hg => by have hgg : g1 = g := (by simpa [Value.ownBlock] using hg); exact hgg ▸ own_apart hor1 HD.out HL2.out (by omega))
      have hd12 : ¬ g1 = g2 := own_ne (own_apart hor1 HD.out HL2.out (by omega)) hor2 hlt1 (by omega)
      simp only [Act.put, List.setIfInBounds_toArray, List.set_cons_zero, List.set_cons_succ]
      -- 14: t_ := store <[]int> t3 t21   {0,1,2,3,4,5,6,7,8,9,10,11,12,13}
      have hc1 := (hb1.fr hFw (HS.out _ (by omega))).cell (i := 0) rfl
      have hf1 := (hb1.fr hFw (HS.out _ (by omega))).frozen 0
      refine' ord_last_skip (w' := w6.setCell ⟨w.heap.size, 0, none⟩ (.slice (some ⟨g1, 0, none⟩) (k + 1) cap1)) ?_ rfl ?_
      focus (go_simp)
      simp only [Act.put, List.setIfInBounds_toArray, List.set_cons_zero, List.set_cons_succ]
      -- 15: t_ := store <[]bool> t4 t31   {0,1,2,3,4,5,6,7,8,9,10,11,12,13,14}
      have hB2' := (hb2.fr hFw (HS.out _ (by omega))).set_ne ⟨w.heap.size, 0, none⟩ (.slice (some ⟨g1, 0, none⟩) (k + 1) cap1) (by simp)
      have hc2 := hB2'.cell (i := 0) rfl
      have hf2 := hB2'.frozen 0
      refine' ord_last_skip (w' := (w6.setCell ⟨w.heap.size, 0, none⟩ (.slice (some ⟨g1, 0, none⟩) (k + 1) cap1)).setCell ⟨w.heap.size + 1, 0, none⟩ (.slice (some ⟨g2, 0, none⟩) (k + 1) cap2)) ?_ rfl ?_
      focus (go_simp)
      simp only [Act.put, List.setIfInBounds_toArray, List.set_cons_zero, List.set_cons_succ]
      refine ord_nil ?_
      all_goals
        have hF6 : Fr [] w w6 := HFR.out.comp hFw (fun i hi => .inr (by have := HS.out i; simp only [hi, not_true_eq_false, imp_false, Nat.not_lt] at this; omega))
        have HB1 := Lib.hid (hb1.fr hFw (HS.out _ (by omega)))
        have HB2 := Lib.hid hB2'
        have HF6 := Lib.hid hF6
        have HP1 := Lib.hid O1
        have HP2 := Lib.hid O2
        have hsz6 := Nat.le_trans hws2 hFw.size
        clear hF6 O1 O2 hFw hB2' hc1 hf1 hc2 hf2 H1 H2 hA1 hA2 hg1 hg2 hor1 hor2 hlt1 hlt2 hb1 hb2 hc hblk hi hz0 hz1 hz2 hj hy0 hy1 hy2
        go_wp2_with fail
        go_roundw
        case rel =>
          have hP1 := HP1.out
          have hP2 := HP2.out
          rw [show intC (kofs (x.L.take k)) ++ [Value.int .i64 k1] = intC (kofs (x.L.take (k + 1))) by rw [HTK.out]; simp [kofs, intC]] at hP1
          rw [show boolC ((x.L.take k).map (·.2)) ++ [Value.bool a1] = boolC ((x.L.take (k + 1)).map (·.2)) by rw [HTK.out]; simp [boolC]] at hP2
          have hF7 : Fr [w.heap.size, w.heap.size + 1] w6 ((w6.setCell ⟨w.heap.size, 0, none⟩ (.slice (some ⟨g1, 0, none⟩) (k + 1) cap1)).setCell ⟨w.heap.size + 1, 0, none⟩ (.slice (some ⟨g2, 0, none⟩) (k + 1) cap2)) := ((Fr.refl _ _).setCell _ (by simp) _).setCell _ (by simp) _
          refine ⟨k + 1, by omega, by go_num, HF6.out.comp hF7 (by simp), by simpa using hsz6, _, _, by simpa using (HB1.out.set 0 (.slice (some ⟨g1, 0, none⟩) (k + 1) cap1)).set_ne ⟨w.heap.size + 1, 0, none⟩ (.slice (some ⟨g2, 0, none⟩) (k + 1) cap2) (by simp), by simpa using HB2.out.set 0 (.slice (some ⟨g2, 0, none⟩) (k + 1) cap2),
            owns_fr hP1 hF7 (fun g hg => by have := owns_ge hP1 g hg; simp; omega), owns_fr hP2 hF7 (fun g hg => by have := owns_ge hP2 g hg; simp; omega), ?_⟩
          intro g hg hg'
          have e1 : g1 = g := by simpa [Value.ownBlock] using hg
          have e2 : g2 = g := by simpa [Value.ownBlock] using hg'
          exact hd12 (e1.trans e2.symm)
        case measure => simp [intOf]; omega
    · obtain rfl : k = x.L.length := by omega
      have b0 : decide ((x.L.length : Int) < (x.L.length : Nat)) = false := by simp
      rw [List.take_length] at ho1 ho2
      have H1 := Lib.hid ho1
      have H2 := Lib.hid ho2
      clear ho1 ho2
      go_wp2_with fail
      go_ret
      exact ⟨rfl, v1, v2, hFr, hb1, hb2, H1.out, H2.out⟩
end Go.Proofs.Ythhkgknolclakaa
