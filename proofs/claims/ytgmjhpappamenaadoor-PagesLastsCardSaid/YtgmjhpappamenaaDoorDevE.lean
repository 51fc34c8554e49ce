/- dev: Write. -/
import Derived.Test.YtgmjhpappamenaaDoorDevD
import Derived.Great.BuildSlice
namespace Go.Proofs.YtgmjhpappamenaaDoor
open Go.RowKit Go.Shelf

theorem fold_put (off : Nat) : ∀ (l : List Value) (k : Nat) (pre mid post : List Value), pre.length = off + k → mid.length = l.length →
    (l.zipIdx k).foldl (fun (cs : Array Value) (x : Value × Nat) => cs.setIfInBounds (off + x.2) x.1) (pre ++ mid ++ post).toArray = (pre ++ l ++ post).toArray
  | [], k, pre, mid, post, hp, hm => by
    obtain rfl : mid = [] := List.eq_nil_of_length_eq_zero hm
    rfl
  | c :: l, k, pre, m :: mid, post, hp, hm => by
    rw [List.zipIdx_cons, List.foldl_cons]
    have e : ((pre ++ m :: mid ++ post).toArray.setIfInBounds (off + k) c) = ((pre ++ [c]) ++ mid ++ post).toArray := by
      simp [← hp]
    rw [e, fold_put off l (k + 1) (pre ++ [c]) mid post (by simp [hp]; omega) (by simpa using hm)]
    simp
/-- one part of a composite is laid -/
theorem fill_part {place : Nat → Option (Nat × Nat)} {cells : List Value} {i off size : Nat} {v : Value} {rest : List (Nat × Value)} (hp : place i = some (off, size)) (hv : v.cells.size = size) (hs : off + size ≤ cells.length) :
    Instr.fill place cells.toArray ((i, v) :: rest) = Instr.fill place (cells.take off ++ v.cells.toList ++ cells.drop (off + size)).toArray rest := by
  have e : (v.cells.zipIdx.foldl (fun (cs : Array Value) (x : Value × Nat) => cs.setIfInBounds (off + x.2) x.1) cells.toArray) = (cells.take off ++ v.cells.toList ++ cells.drop (off + size)).toArray := by
    rw [← Array.foldl_toList, Array.toList_zipIdx]
    have h := fold_put off v.cells.toList 0 (cells.take off) ((cells.drop off).take size) (cells.drop (off + size)) (by simp; omega) (by simp [hv]; omega)
    rw [← h]
    congr 2
    rw [List.append_assoc, ← List.drop_drop, List.take_append_drop, List.take_append_drop]
  simp only [Instr.fill, hp]
  rw [if_neg (by simp [hv]; omega)]
  rw [← e]
/-- where the parts of a struct lie -/
def placesOf (P : Program) (t : TypeId) : Option (Nat × List (Nat × Nat)) := match P.info? t, P.underlying t with
  | some it, some (.struct fields) => (match it.zero, fields.toList.mapM (fun f => (P.info? f.type).map fun i => (f.offset, i.size)) with
    | some z, some places => some (z.cells.size, places)
    | _, _ => none)
  | _, _ => none
theorem built_of {P : Program} {t : TypeId} {n : Nat} {pl : List (Nat × Nat)} (h : placesOf P t = some (n, pl)) :
    ∃ cs : List Value, cs.length = n ∧ ∀ parts, P.built t parts = Instr.fill (pl.toArray[·]?) cs.toArray parts := by
  unfold placesOf at h
  split at h
  · rename_i it fields hit hu
    split at h
    · rename_i z places hz hp
      simp only [Option.some.injEq, Prod.mk.injEq] at h
      obtain ⟨rfl, rfl⟩ := h
      refine ⟨z.cells.toList, by simp, fun parts => ?_⟩
      unfold Program.built
      simp only [hit, hu, hz, hp]
    · cases h
  · cases h
theorem tieWrite : placesOf Tryd.prog 95 = some (65, [(0, 1), (1, 64)]) := by kernel_rfl
def wrC (s : Nat) (A : List Nat) : List Value := .int .i64 (s : Nat) :: u8s A
theorem builtWrite (s : Nat) (A : List Nat) (hA : A.length = 64) : Tryd.prog.built 95 [(0, .int .i64 (s : Nat)), (1, .agg (bv A))] = some (wrC s A).toArray := by
  obtain ⟨cs, hl, h⟩ := built_of tieWrite
  have p0 : ([(0, 1), (1, 64)] : List (Nat × Nat)).toArray[(0 : Nat)]? = some (0, 1) := rfl
  have p1 : ([(0, 1), (1, 64)] : List (Nat × Nat)).toArray[(1 : Nat)]? = some (1, 64) := rfl
  have c0 : (Value.int .i64 (s : Nat)).cells.size = 1 := rfl
  have c1 : (Value.agg (bv A)).cells.size = 64 := by show (bv A).size = 64; rw [bv_size, hA]
  rw [h, fill_part p0 c0 (by omega), fill_part p1 c1 (by simp [Value.cells]; omega)]
  have : cs.drop 65 = [] := List.drop_of_length_le (by omega)
  simp [Instr.fill, Value.cells, bv, wrC, this]
theorem infoWrite : (Tryd.prog.info? 95).map (fun i => (i.zero.map fun z => z.cells.size, i.size, i.bytes)) = some (some 65, 65, 72) := by kernel_rfl
theorem infoWrite' : ∃ i z, Tryd.prog.info? 95 = some i ∧ i.zero = some z ∧ z.cells.size = 65 ∧ i.size = 65 ∧ i.bytes = 72 := by
  have h := infoWrite
  cases hi : Tryd.prog.info? 95 with
  | none => rw [hi] at h; simp at h
  | some i =>
    rw [hi] at h
    cases hz : i.zero with
    | none => rw [Option.map_some, hz] at h; simp at h
    | some z =>
      rw [Option.map_some, hz] at h
      simp only [Option.map_some, Option.some.injEq, Prod.mk.injEq] at h
      exact ⟨i, z, rfl, hz, h.1, h.2.1, h.2.2⟩
theorem wrC_len (s : Nat) (A : List Nat) (hA : A.length = 64) : (wrC s A).length = 65 := by simp [wrC, u8s, hA]
theorem wrC_one (s : Nat) (A : List Nat) : ∀ u ∈ wrC s A, u.oneCell' = true := by
  intro u hu
  rcases List.mem_cons.1 hu with rfl | hu
  · rfl
  · simp only [u8s, List.mem_map] at hu
    obtain ⟨x, _, rfl⟩ := hu
    rfl
theorem news_of_blk {w : World} {g : Nat} {T : TypeId} {l : List Value} (h : Blk w g T l.toArray) : ∀ (j : Nat) (u : Value), l[j]? = some u → w.cell? (Addr.add ⟨g, 0, none⟩ j) = some u := by
  intro j u hj
  have e : Addr.add ⟨g, 0, none⟩ j = ⟨g, j, none⟩ := by unfold Addr.add; split <;> simp_all
  rw [e]
  exact h.cell (by simpa using hj)
theorem openC_wr (O : List (Nat × List Nat)) (s : Nat) (A : List Nat) : openC (O ++ [(s, A)]) = openC O ++ wrC s A := by simp [openC, wrC]
theorem sliceWrite (w : World) (s : Nat) (A : List Nat) (hA : A.length = 64) (parts : Array (Nat × Value)) (hp : parts.toList = [(0, .agg (wrC s A).toArray)]) :
    (Instr.buildSlice 77 1 parts).run Tryd.prog w = .ok (.slice (some ⟨w.heap.size, 0, none⟩) 1 1) (w.alloc (.cells (wrC s A).toArray 95)) := by
  obtain ⟨i, z, hi, hz, h1, h2, h3⟩ := infoWrite'
  refine run_buildSlice w _ 95 1 _ _ i z Tryd.underlying77 hi hz (by rw [h2]; decide) (by rw [h2]; decide) ?_
  rw [h2, hp]
  have hl : ∀ n : Nat, ((Array.range (1 * 65)).map (z.cells[· % z.cells.size]!)).toList.length = 65 := by intro n; simp
  have e := fill_part (place := fun i => some (i * 65, 65)) (cells := ((Array.range (1 * 65)).map (z.cells[· % z.cells.size]!)).toList) (i := 0) (off := 0 * 65) (size := 65) (v := .agg (wrC s A).toArray) (rest := []) rfl
    (by show (wrC s A).toArray.size = 65; simpa using wrC_len s A hA) (by rw [hl 0]; decide)
  simp only [Array.toArray_toList] at e
  refine e.trans ?_
  rw [List.drop_of_length_le (by rw [hl 0]; decide)]
  simp [Instr.fill, Value.cells]
theorem dev_wrote {W w5 : World} {b bf g cap : Nat} {ov pv : Value} {x : Dev} {s : Nat} {A : List Nat} (h : DevAt W b bf ov pv x)
    (hown : w5.ownsRow 0 95 65 (.slice (some ⟨g, 0, none⟩) (x.O.length + 1) cap) (x.O.length + 1) (openC x.O ++ wrC s A)) (hgrow : W.grownBy w5 ov.ownBlock) (hor : ov.ownBlock = some g ∨ g = W.heap.size)
    (hs : s < x.F.length) (hA : A.length = 64 ∧ ∀ y, y ∈ A → y < 256) :
    DevAt (w5.setCell ⟨b, 1, none⟩ (.slice (some ⟨g, 0, none⟩) (x.O.length + 1) cap)) b bf (.slice (some ⟨g, 0, none⟩) (x.O.length + 1) cap) pv { x with O := x.O ++ [(s, A)] } ∧
    Fr (devD b bf ov pv) W (w5.setCell ⟨b, 1, none⟩ (.slice (some ⟨g, 0, none⟩) (x.O.length + 1) cap)) := by
  have hF5 : Fr ov.ownBlock.toList W w5 := (Fr.refl _ W).grown hgrow (fun k hk => .inl (by rw [hk]; simp))
  have hF6 : Fr [b] w5 (w5.setCell ⟨b, 1, none⟩ (.slice (some ⟨g, 0, none⟩) (x.O.length + 1) cap)) := (Fr.refl _ w5).setCell _ (.inl (by simp)) _
  have hbl := h.blk.lt
  have hfl := h.firm.lt
  have hgb : ¬ g = b := by
    rcases hor with hg | rfl
    · exact (h.no g hg).1
    · omega
  have hgf : ¬ g = bf := by
    rcases hor with hg | rfl
    · exact (h.no g hg).2
    · omega
  have hob : ∀ i, i ∈ ov.ownBlock.toList → ¬ i = b ∧ ¬ i = bf := fun i hi => h.no i (by simpa using hi)
  refine ⟨⟨h.n1, h.n2, h.secs, ?_, ?_, ?_, ?_, ?_, h.ne, ?_, ?_⟩, ?_⟩
  · intro p hp
    rcases List.mem_append.1 hp with hp | hp
    · exact h.opens p hp
    · obtain rfl := List.mem_singleton.1 hp
      exact ⟨hs, hA.1, hA.2⟩
  · have := (h.blk.fr hF5 (fun hi => (hob b hi).1 rfl)).set 1 (.slice (some ⟨g, 0, none⟩) (x.O.length + 1) cap)
    simpa using this
  · exact (h.firm.fr hF5 (fun hi => (hob bf hi).2 rfl)).fr hF6 (by simpa using fun e => h.ne e.symm)
  · rw [openC_wr, List.length_append]
    exact owns_fr hown hF6 (fun k hk => by cases hk; simpa using hgb)
  · exact plan_fr (plan_fr h.plan hF5 (fun k hk hi => (h.np k hk).2.2.1 (by simpa using hi))) hF6 (fun k hk => by simpa using (h.np k hk).1)
  · intro k hk
    cases hk
    exact ⟨hgb, hgf⟩
  · intro k hk
    have hn := h.np k hk
    refine ⟨hn.1, hn.2.1, ?_, Nat.lt_of_lt_of_le hn.2.2.2 (Nat.le_trans hF5.size hF6.size)⟩
    intro e
    have hk' := hn.2.2.2
    obtain rfl : g = k := by simpa [Value.ownBlock] using e
    rcases hor with hg | hg
    · exact hn.2.2.1 hg
    · rw [hg] at hk'
      exact Nat.lt_irrefl _ hk'
  · exact (hF5.sub (fun i hi => .inl (mem_devD.2 (.inr (.inr (.inl (by simpa using hi))))))).comp hF6 (fun i hi => .inl (by simp at hi; subst hi; exact mem_devD.2 (.inl rfl)))
theorem run_exec_build {P : Program} {w : World} {ev : Operand → Value} {o : Oper} {t : TypeId} {parts : Array (Nat × Operand)} {l : List (Nat × Value)} {cells : Array Value} (ho : o.op = .build t parts)
    (hl : parts.toList.map (fun p => (p.1, ev p.2)) = l) (hb : P.built t l = some cells) : (execOp ev o).run P w = .ok (.value (.agg cells)) w := by
  have e : (Instr.build t (parts.map fun (i, x) => (i, ev x))).run P w = .ok (.agg cells) w := run_build w t _ cells (by rw [Array.toList_map]; exact (congrArg (P.built t) hl).trans hb)
  unfold execOp
  simp only [ho, Sem.run_bind, e, Result.andThen_ok, Sem.run_pure]
theorem run_exec_slice {P : Program} {w w' : World} {v : Value} {ev : Operand → Value} {o : Oper} {t : TypeId} {n : Nat} {parts : Array (Nat × Operand)} {l : List (Nat × Value)} (ho : o.op = .buildSlice t n parts)
    (hl : parts.toList.map (fun p => (p.1, ev p.2)) = l) (hb : ∀ ps : Array (Nat × Value), ps.toList = l → (Instr.buildSlice t n ps).run P w = .ok v w') : (execOp ev o).run P w = .ok (.value v) w' := by
  have e : (Instr.buildSlice t n (parts.map fun (i, x) => (i, ev x))).run P w = .ok v w' := hb _ (by rw [Array.toList_map]; exact hl)
  unfold execOp
  simp only [ho, Sem.run_bind, e, Result.andThen_ok, Sem.run_pure]
theorem devWrite1_any (b : Nat) (D : List Nat) (x : Dev) (s : Nat) (A : List Nat) (pd ps pb : Nat) (w : World) (h : IsDev w b D x) (hs : s < x.F.length) (hA : A.length = 64 ∧ ∀ y, y ∈ A → y < 256)
    (hd : Blk w pd 25 #[.pointer (some ⟨b, 0, none⟩)]) (hn : Blk w ps 3 #[.int .i64 (s : Nat)]) (hb : Blk w pb 88 (bv A)) (hO : (x.O.length + 1) * 72 ≤ 140737488355328) (hdis : ∀ i, i = pd ∨ i = ps ∨ i = pb → ¬ i ∈ D) :
    Calls Tryd.prog 82 #[.pointer (some ⟨pd, 0, none⟩), .pointer (some ⟨ps, 0, none⟩), .pointer (some ⟨pb, 0, none⟩)] w fun e w' => e = .returned (.tuple #[]) ∧
      ∃ D', IsDev w' b D' { x with O := x.O ++ [(s, A)] } ∧ Fr D w w' ∧ ∀ i, i ∈ D' → i ∈ D ∨ w.heap.size ≤ i := by
  obtain ⟨bf, ov, pv, rfl, h⟩ := h
  obtain ⟨i0, z0, hi, hz0, hz1, hz2, hz3⟩ := infoWrite'
  have hB := h.blk
  have HH := Lib.hid h
  have HA := Lib.hid hA
  have HI := Lib.hid (And.intro hi (And.intro hz0 (And.intro hz1 (And.intro hz2 hz3))))
  have HS := Lib.hid hs
  have HO := Lib.hid hO
  clear h hA hi hz0 hz1 hz2 hz3 hs hO
  have hRb := range_bv hb
  have HQ' : ∀ i, i = pd ∨ i = ps ∨ i = pb ∨ i = b → ¬ i ∈ ov.ownBlock.toList := by
    intro i hi hm
    rcases hi with hi | hi | hi | hi
    · exact hdis i (.inl hi) (mem_devD.2 (.inr (.inr (.inl (by simpa using hm)))))
    · exact hdis i (.inr (.inl hi)) (mem_devD.2 (.inr (.inr (.inl (by simpa using hm)))))
    · exact hdis i (.inr (.inr hi)) (mem_devD.2 (.inr (.inr (.inl (by simpa using hm)))))
    · exact (HH.out.no i (by simpa using hm)).1 hi
  have HQ := Lib.hid HQ'
  clear hdis HQ'
  go_enter Tryd.func82, Tryd.ntmps82
  refine region_tail [10,11,12] ov.ownBlock.toList (.take 0 (.take 1 (.take 2 (.take 3 (.take 4 (.take 5 (.take 6 (.take 7 (.pick 8 (.pick 9 (.last 10 (.last 11 (.last 12 .done))) .none) .none))))))))) (by kernel_rfl) (by kernel_rfl) ?_
  simp only [ordList, Ord.map, List.getD_cons_zero, List.getD_cons_succ]
  refine ord_cell hd (HQ.out _ (by simp)) rfl rfl (by kernel_rfl) rfl rfl ?_
  simp only [Act.put, List.getElem_toArray, List.getElem_cons_zero, List.getElem_cons_succ, List.setIfInBounds_toArray, List.set_cons_zero, List.set_cons_succ]
  refine ord_cell hd (HQ.out _ (by simp)) rfl rfl (by kernel_rfl) rfl rfl ?_
  simp only [Act.put, List.getElem_toArray, List.getElem_cons_zero, List.getElem_cons_succ, List.setIfInBounds_toArray, List.set_cons_zero, List.set_cons_succ]
  refine' ord_pure (v := _) ?_ rfl ?_; rotate_left; focus (intro w; go_simp <;> (first | (with_reducible rfl) | (constructor <;> with_reducible rfl)))
  simp only [Act.put, List.setIfInBounds_toArray, List.set_cons_zero, List.set_cons_succ]
  refine' ord_pure (v := _) ?_ rfl ?_; rotate_left; focus (intro w; go_simp <;> (first | (with_reducible rfl) | (constructor <;> with_reducible rfl)))
  simp only [Act.put, List.setIfInBounds_toArray, List.set_cons_zero, List.set_cons_succ]
  refine ord_cell hB (HQ.out _ (by simp)) rfl rfl (by kernel_rfl) rfl rfl ?_
  simp only [Act.put, List.getElem_toArray, List.getElem_cons_zero, List.getElem_cons_succ, List.setIfInBounds_toArray, List.set_cons_zero, List.set_cons_succ]
  refine ord_cell hn (HQ.out _ (by simp)) rfl rfl (by kernel_rfl) rfl rfl ?_
  simp only [Act.put, List.getElem_toArray, List.getElem_cons_zero, List.getElem_cons_succ, List.setIfInBounds_toArray, List.set_cons_zero, List.set_cons_succ]
  refine ord_bv hRb (HQ.out _ (by simp)) HA.out.1 rfl rfl (by kernel_rfl) rfl ?_
  simp only [Act.put, List.setIfInBounds_toArray, List.set_cons_zero, List.set_cons_succ]
  -- 7: t10 := build <dev.write = lavabo/dev.write> [(0,t8),(1,t9)]   {5,6}
  refine' ord_pure (v := .agg (wrC s A).toArray) (fun w0 => run_exec_build rfl rfl (builtWrite s A HA.out.1)) rfl ?_
  simp only [Act.put, List.setIfInBounds_toArray, List.set_cons_zero, List.set_cons_succ]
  -- 8: t11 := buildSlice <[]dev.write> 1 [(0,t10)]   {7}
  refine' ord_do (v := .slice (some ⟨w.heap.size, 0, none⟩) 1 1) (w' := w.drew.alloc (.cells (wrC s A).toArray 95)) (run_exec_slice rfl rfl (fun ps hp => sliceWrite w.drew s A HA.out.1 ps hp)) ((Fr.refl _ _).alloc _) rfl ?_
  simp only [Act.put, List.setIfInBounds_toArray, List.set_cons_zero, List.set_cons_succ]
  -- 9: t12 := CALL builtin Builtin.append(t7, t11)   {4,8}
  have hA1 := blk_at w.drew (wrC s A).toArray 95 w.heap.size rfl
  have hD1 := (HH.out.fr (Fr.refl [] w).drew (by simp)).fr ((Fr.refl [] w.drew).alloc (.cells (wrC s A).toArray 95)) (by simp)
  obtain ⟨hi, hz0, hz1, hz2, hz3⟩ := HI.out
  refine ord_append rfl _ _ 77 rfl 0 95 i0 z0 65 72 Tryd.underlying77 hi hz0 hz2 hz3 hz1 (by decide) ov _ _ rfl hD1.own ⟨w.heap.size, 0, none⟩ 1 1 (wrC s A) rfl (wrC_len s A HA.out.1) (news_of_blk hA1) (wrC_one s A) (by decide) (by have := HO.out; unfold maxLen; omega) (by have := HO.out; omega) (Nat.zero_le _) (fun w' h => (Fr.refl _ _).grown h (fun k hk => .inl (by rw [hk]; simp))) ?_
  intro g cap w5 hown hgrow hor hlt
  have hF5 : Fr ov.ownBlock.toList _ w5 := (Fr.refl _ _).grown hgrow (fun k hk => .inl (by rw [hk]; simp))
  have hB5 := hD1.blk.fr hF5 (HQ.out b (by simp))
  have fz := hB5.frozen 1
  have cz : w5.cell? ⟨b, 1, none⟩ = some ov := hB5.cell rfl
  have hW := Lib.hid (dev_wrote hD1 hown hgrow hor HS.out HA.out)
  have HG := Lib.hid hor
  clear hown hgrow hor hlt hi hz0 hz1 hz2 hz3
  simp only [Act.put, List.setIfInBounds_toArray, List.set_cons_zero, List.set_cons_succ]
  -- 10: t13 := nilCheck t3   {0,1,2,3,4,5,6,7,8,9}
  refine' ord_last_pure (v := _) ?_ rfl ?_; rotate_left; focus (intro w; go_simp <;> (first | (with_reducible rfl) | (constructor <;> with_reducible rfl)))
  simp only [Act.put, List.setIfInBounds_toArray, List.set_cons_zero, List.set_cons_succ]
  -- 11: t14 := fieldAddr <dev.Device = lavabo/dev.Device> t13 1   {0,1,2,3,4,5,6,7,8,9,10}
  refine' ord_last_pure (v := _) ?_ rfl ?_; rotate_left; focus (intro w; go_simp <;> (first | (with_reducible rfl) | (constructor <;> with_reducible rfl)))
  simp only [Act.put, List.setIfInBounds_toArray, List.set_cons_zero, List.set_cons_succ]
  -- 12: t_ := store <[]dev.write> t14 t12   {0,1,2,3,4,5,6,7,8,9,11}
  refine' ord_last_skip (w' := _) ?_ rfl ?_; rotate_left; focus (go_simp <;> (first | (with_reducible rfl) | (constructor <;> with_reducible rfl)))
  simp only [Act.put, List.setIfInBounds_toArray, List.set_cons_zero, List.set_cons_succ]
  refine ord_nil ?_
  go_wp2_with fail
  go_end0
  have hF1 : Fr [] w (w.drew.alloc (.cells (wrC s A).toArray 95)) := ((Fr.refl [] w).drew).alloc _
  refine ⟨rfl, _, ⟨_, _, _, rfl, hW.out.1⟩, (hF1.sub (by simp)).trans hW.out.2, ?_⟩
  intro i hi
  rcases mem_devD.1 hi with hi | hi | hi | hi
  · exact .inl (mem_devD.2 (.inl hi))
  · exact .inl (mem_devD.2 (.inr (.inl hi)))
  · obtain rfl : g = i := by simpa [Value.ownBlock] using hi
    rcases HG.out with hg | hg
    · exact .inl (mem_devD.2 (.inr (.inr (.inl hg))))
    · right
      rw [hg]
      exact hF1.size
  · exact .inl (mem_devD.2 (.inr (.inr (.inr hi))))
theorem devE_in {x : Dev} {s : Int} (h : devE x s = 0) : ∃ k : Nat, s = k ∧ k < x.F.length := by
  unfold devE at h
  split at h
  · omega
  · exact ⟨s.toNat, by omega, by omega⟩
/-- what a call leaves: its own effect, where it is done -/
def devPut (x : Dev) (s : Nat) (A : List Nat) : Dev := if x.P.headD 0 = 0 then { nextP x with O := x.O ++ [(s, A)] } else nextP x
def devW (x : Dev) (s : Int) (A : List Nat) : Dev := if devE x s = 0 then devPut x s.toNat A else x
def devWE (x : Dev) (s : Int) : Int := if devE x s = 0 then devR (x.P.headD 0) 20 else devE x s
theorem devWrite_any (b : Nat) (D : List Nat) (x : Dev) (s : Int) (A : List Nat) (w : World) (h : IsDev w b D x) (hA : A.length = 64 ∧ ∀ y, y ∈ A → y < 256) (hO : (x.O.length + 1) * 72 ≤ 140737488355328) :
    Calls Tryd.prog 55 #[.pointer (some ⟨b, 0, none⟩), .int .i64 s, .agg (bv A)] w fun e w' => e = .returned (.int .i64 (devWE x s)) ∧
      ∃ D', IsDev w' b D' (devW x s A) ∧ Fr D w w' ∧ ∀ i, i ∈ D' → i ∈ D ∨ w.heap.size ≤ i := by
  have HL := h.lt
  have HA := Lib.hid hA
  have HO := Lib.hid hO
  have HH := Lib.hid h
  have HC := Lib.hid (fun w1 h1 => devCheck_any b D x s w1 h1)
  clear hA hO h
  have hFW : Fr [] w (((w.alloc (.cells #[.pointer (some ⟨b, 0, none⟩)] 25)).alloc (.cells #[.int .i64 s] 3)).alloc (.cells (bv A) 88)) := ((((Fr.refl [] w).alloc _).alloc _).alloc _)
  have hIW := HH.out.fr hFW (by simp)
  by_cases hE : devE x s = 0
  · obtain ⟨k, rfl, hk⟩ := devE_in hE
    have h1 : Blk (((w.alloc (.cells #[.pointer (some ⟨b, 0, none⟩)] 25)).alloc (.cells #[.int .i64 (k : Nat)] 3)).alloc (.cells (bv A) 88)) w.heap.size 25 #[.pointer (some ⟨b, 0, none⟩)] := ((Blk.new w _ _).alloc _).alloc _
    have h2 : Blk (((w.alloc (.cells #[.pointer (some ⟨b, 0, none⟩)] 25)).alloc (.cells #[.int .i64 (k : Nat)] 3)).alloc (.cells (bv A) 88)) (w.heap.size + 1) 3 #[.int .i64 (k : Nat)] := by
      have := (Blk.new (w.alloc (.cells #[.pointer (some ⟨b, 0, none⟩)] 25)) #[.int .i64 (k : Nat)] 3).alloc (.cells (bv A) 88)
      simpa only [World.size_alloc] using this
    have h3 : Blk (((w.alloc (.cells #[.pointer (some ⟨b, 0, none⟩)] 25)).alloc (.cells #[.int .i64 (k : Nat)] 3)).alloc (.cells (bv A) 88)) (w.heap.size + 1 + 1) 88 (bv A) := by
      have := Blk.new ((w.alloc (.cells #[.pointer (some ⟨b, 0, none⟩)] 25)).alloc (.cells #[.int .i64 (k : Nat)] 3)) (bv A) 88
      simpa only [World.size_alloc] using this
    rw [show devWE x (k : Int) = devR (x.P.headD 0) 20 from if_pos hE, show devW x (k : Int) A = devPut x k A by unfold devW; rw [if_pos hE]; rfl]
    have hcall := devCall_any b D x 20 82 #[.pointer (some ⟨w.heap.size, 0, none⟩), .pointer (some ⟨w.heap.size + 1, 0, none⟩), .pointer (some ⟨w.heap.size + 1 + 1, 0, none⟩)] _ hIW (enters_of Tryd.func82 (by kernel_rfl) rfl)
      (fun w' => ∃ D', IsDev w' b D' (devPut x k A) ∧ Fr D w w' ∧ ∀ i, i ∈ D' → i ∈ D ∨ w.heap.size ≤ i) (by
        intro hp w1 D1 hI1 hF1 hD1
        have hs1 := hFW.size
        have hd1 : ∀ i, w.heap.size ≤ i → ¬ i ∈ D := fun i hi hm => by have := HL i hm; omega
        refine (devWrite1_any b D1 (nextP x) k A _ _ _ w1 hI1 hk HA.out (h1.fr hF1 (hd1 _ (by omega))) (h2.fr hF1 (hd1 _ (by omega))) (h3.fr hF1 (hd1 _ (by omega))) HO.out
          (by intro i hi hm; have := HL i (hD1 i hm); rcases hi with rfl | rfl | rfl <;> omega)).mono ?_
        rintro e w2 ⟨rfl, D2, hI2, hF2, hD2⟩
        refine ⟨rfl, D2, ?_, ((hFW.sub (by simp)).trans hF1).trans (hF2.sub (fun i hi => .inl (hD1 i hi))), ?_⟩
        · unfold devPut
          rw [if_pos hp]
          exact hI2
        · intro i hi
          rcases hD2 i hi with hi | hi
          · exact .inl (hD1 i hi)
          · right
            exact Nat.le_trans (Nat.le_trans hs1 hF1.size) hi)
      (by
        intro hp w1 D1 hI1 hF1 hD1
        refine ⟨D1, ?_, (hFW.sub (by simp)).trans hF1, fun i hi => .inl (hD1 i hi)⟩
        unfold devPut
        rw [if_neg hp]
        exact hI1)
    have HCC := Lib.hid hcall
    have hc := HC.out _ hIW
    rw [hE] at hc
    have HK := Lib.hid hc
    clear hcall hc h1 h2 h3 hIW hFW HC
    generalize devR (x.P.headD 0) 20 = rr at *
    go_enter Tryd.func55, Tryd.ntmps55
    go_wp2_with fail
    refine HK.out.mono ?_
    rintro e w1 ⟨rfl, rfl⟩
    go_wp2_with fail
    refine HCC.out.mono ?_
    rintro e w2 ⟨rfl, hQ⟩
    go_wp2
    go_ret
    exact ⟨rfl, hQ⟩
  · have b0 : (devE x s != 0) = true := by simpa using hE
    rw [show devWE x s = devE x s from if_neg hE, show devW x s A = x from if_neg hE]
    have HK := Lib.hid (HC.out _ hIW)
    have HIW := Lib.hid (And.intro hFW hIW)
    clear HC hIW hFW
    generalize hg : devE x s = ee at *
    go_enter Tryd.func55, Tryd.ntmps55
    go_wp2_with fail
    refine HK.out.mono ?_
    rintro e w1 ⟨rfl, rfl⟩
    go_wp2_with fail
    go_ret
    exact ⟨rfl, D, HIW.out.2, HIW.out.1.sub (by simp), fun i hi => .inl hi⟩
end Go.Proofs.YtgmjhpappamenaaDoor
