/- second: a nil clock, and a clock of texts. -/
import Derived.Test.YthhkgknolclakaaSecP
namespace Go.Proofs.Ythhkgknolclakaa
open Go Go.RowKit Go.Shelf Go.Maps

theorem nil_Has (k : Int) (w : World) : Calls Try.prog 11 #[.pointer none, .int .i64 k] w fun e w' => e = .returned (.bool false) ∧ w' = w := by
  go_enter Try.func11, Try.ntmps11
  go_wp2
  go_ret
  exact ⟨rfl, rfl⟩
theorem nil_Ghost (k : Int) (w : World) : Calls Try.prog 10 #[.pointer none, .int .i64 k] w fun e w' => e = .returned (.bool false) ∧ w' = w := by
  go_enter Try.func10, Try.ntmps10
  go_wp2
  go_ret
  exact ⟨rfl, rfl⟩
theorem nil_Len (w : World) : Calls Try.prog 13 #[.pointer none] w fun e w' => e = .returned (.int .i64 0) ∧ w' = w := by
  go_enter Try.func13, Try.ntmps13
  go_wp2
  go_ret
  exact ⟨rfl, rfl⟩
theorem nil_Add (k : Int) (w : World) : Calls Try.prog 14 #[.pointer none, .int .i64 k] w fun e w' => e = .returned (.int .i64 2) ∧ w' = w := by
  go_enter Try.func14, Try.ntmps14
  go_wp2
  go_ret
  exact ⟨rfl, rfl⟩
theorem nil_Touch (k : Int) (w : World) : Calls Try.prog 16 #[.pointer none, .int .i64 k] w fun e w' => e = .returned (.int .i64 2) ∧ w' = w := by
  go_enter Try.func16, Try.ntmps16
  go_wp2
  go_ret
  exact ⟨rfl, rfl⟩
theorem nil_Drop (k : Int) (w : World) : Calls Try.prog 12 #[.pointer none, .int .i64 k] w fun e w' => e = .returned (.int .i64 2) ∧ w' = w := by
  go_enter Try.func12, Try.ntmps12
  go_wp2
  go_ret
  exact ⟨rfl, rfl⟩
theorem nil_Evict (v : Value) (w : World) : Calls Try.prog 19 #[.pointer none, v] w fun e w' => e = .returned (.tuple #[.int .i64 0, .int .i64 2]) ∧ w' = w := by
  go_enter Try.func19, Try.ntmps19
  go_wp2_with fail
  apply wp_scope_straight
  go_wp2
  rw [Exit.noGoto_ret]
  go_ret2
  exact ⟨rfl, rfl⟩
/-- a clock of texts -/
theorem lawS : Keyed Try.prog 9 := string_keyed Try.underlying9
def keyS (s : ByteArray) : Lit := .string s.data.toList
structure TxtAt (w : World) (b mb : Nat) (lv : Value) (D : DataW Unit) (n : Nat) : Prop where
  blk : Blk w b 75 #[lv, .map (some mb), .slice none 0 0, .int .i64 2, .int .i64 1]
  map : w.ownsMap Try.prog 9 (plainElem Try.prog 3) mb n D
  ne : ¬ b = mb
theorem S_New (w : World) : Calls Try.prog 21 #[.int .i64 2, .int .i64 1] w fun e w' => e = .returned (.tuple #[.pointer (some ⟨w.heap.size + 1, 0, none⟩), .int .i64 0]) ∧ TxtAt w' (w.heap.size + 1) w.heap.size (.slice none 0 0) (.map []) 0 ∧ Fr [] w w' := by
  have hmm := @run_makeMap Try.prog
  go_enter Try.func21, Try.ntmps21
  go_wp2
  go_ret2
  obtain ⟨A, hA⟩ : ∃ A, A = w.alloc (.map #[] 0) := ⟨_, rfl⟩
  have hs : A.heap.size = w.heap.size + 1 := by rw [hA]; simp
  have hM : A.ownsMap Try.prog 9 (plainElem (H := Unit) Try.prog 3) w.heap.size 0 (.map []) := by rw [hA]; exact World.ownsMap_made _ _ _ _
  have hFA : Fr [] w A := by rw [hA]; exact (Fr.refl [] w).alloc _
  rw [← hA]
  have hB := Blk.new A #[.slice none 0 0, .map (some w.heap.size), .slice none 0 0, .int .i64 2, .int .i64 1] 75
  rw [hs] at hB
  exact ⟨rfl, ⟨hB, owns_map_fr hM ((Fr.refl [] A).alloc _) (by simp), by omega⟩, hFA.alloc _⟩
theorem S_Has {w : World} {b mb n : Nat} {lv : Value} {D : DataW Unit} (h : TxtAt w b mb lv D n) {s : ByteArray} (hs : s.size ≤ maxLen) :
    Calls Try.prog 24 #[.pointer (some ⟨b, 0, none⟩), .string s] w fun e w' => e = .returned (.bool (Maps.has D (keyS s))) ∧ w' = w := by
  have c1 := h.blk.cell (i := 1) rfl
  have hM := h.map
  clear h
  unfold keyS
  go_enter Try.func24, Try.ntmps24
  go_wp2_with (at_lookup; refine wpList_lookup_own_ok_int _ rfl _ _ 72 rfl 9 3 .i64 lawS Try.underlying72 Try.underlying3 (zeroI _) mb _ _ rfl hM _ _ rfl (Go.WideMaps.keyOf_string_mk Try.underlying9 hs) ?_; intro c hat hwc)
  go_ret
  exact ⟨rfl, rfl⟩
theorem S_Len {w : World} {b mb n m cap : Nat} {oa : Option Addr} {D : DataW Unit} (h : TxtAt w b mb (.slice oa m cap) D n) :
    Calls Try.prog 25 #[.pointer (some ⟨b, 0, none⟩)] w fun e w' => e = .returned (.int .i64 m) ∧ w' = w := by
  have c0 := h.blk.cell (i := 0) rfl
  clear h
  go_enter Try.func25, Try.ntmps25
  go_wp2
  go_ret
  exact ⟨rfl, rfl⟩
theorem run_equalIn_nil_nil {P : Program} (w : World) (d : Nat) (t : TypeId) {a b : Array TypeId} {c : Bool} (h : P.underlying t = some (.func a b c)) : (Op.equalIn (d + 1) t .nilFunc .nilFunc).run P w = .ok true w := by
  simp [Op.equalIn, run_underlying h]
theorem run_nil_nil {P : Program} (w : World) (t : TypeId) {a b : Array TypeId} {c : Bool} (h : P.underlying t = some (.func a b c)) :
    (binOp .eql t .nilFunc .nilFunc).run P w = .ok (.bool true) w := by
  simp only [binOp]
  simp [Op.equal, Op.maxDepth, run_equalIn_nil_nil w 9999 t h]
theorem S_Evict (b : Nat) (w : World) : Calls Try.prog 23 #[.pointer (some ⟨b, 0, none⟩), .nilFunc] w fun e w' => e = .returned (.tuple #[.string ByteArray.empty, .int .i64 2]) ∧ w' = w := by
  have qf : (binOp .eql 57 .nilFunc .nilFunc).run Try.prog w = .ok (.bool true) w := run_nil_nil w _ Try.underlying57
  go_enter Try.func23, Try.ntmps23
  go_wp2_with fail
  apply wp_scope_straight
  go_wp2
  rw [Exit.noGoto_ret]
  go_ret2
  exact ⟨rfl, rfl⟩
theorem S_Add2 {w : World} {b mb n : Nat} {lv : Value} {D : DataW Unit} (h : TxtAt w b mb lv D n) {s : ByteArray} (hs : s.size ≤ maxLen) (hh : Maps.has D (keyS s) = true) :
    Calls Try.prog 22 #[.pointer (some ⟨b, 0, none⟩), .string s] w fun e w' => e = .returned (.int .i64 15) ∧ w' = w := by
  have hH := Lib.hid (S_Has h hs)
  rw [hh] at hH
  clear hh h
  go_enter Try.func22, Try.ntmps22
  go_wp2_with fail
  refine hH.out.mono ?_
  rintro e w' ⟨rfl, rfl⟩
  go_wp2
  go_ret
  exact ⟨rfl, rfl⟩
theorem infoStr : ∃ i, Try.prog.info? 9 = some i ∧ i.zero = some (.string ByteArray.empty) ∧ i.size = 1 ∧ i.bytes = 16 := by
  have h : (Try.prog.info? 9).map (fun i => (i.zero, i.size, i.bytes)) = some (some (.string ByteArray.empty), 1, 16) := by kernel_rfl
  cases hi : Try.prog.info? 9 with
  | none => rw [hi] at h; cases h
  | some i =>
    rw [hi] at h
    simp only [Option.map_some, Option.some.injEq, Prod.mk.injEq] at h
    exact ⟨i, rfl, h.1, h.2.1, h.2.2⟩
theorem S_Add1 {w : World} {b mb : Nat} (h : TxtAt w b mb (.slice none 0 0) (.map []) 0) {s : ByteArray} (hs : s.size ≤ maxLen) :
    Calls Try.prog 22 #[.pointer (some ⟨b, 0, none⟩), .string s] w fun e w' => e = .returned (.int .i64 0) ∧
      Fr [b, mb] w w' ∧ ∃ g cap D, TxtAt w' b mb (.slice (some ⟨g, 0, none⟩) 1 cap) D 1 ∧ Maps.has D (keyS s) = true := by
  obtain ⟨i0, hi, hz0, hz1, hz2⟩ := infoStr
  have hH := Lib.hid (S_Has h hs)
  rw [show Maps.has (.map [] : DataW Unit) (keyS s) = false from rfl] at hH
  have hIx := Lib.hid (Any.slices_Index_string_empty layIndexS none 0 s w.drew)
  rw [show Lib.idxOfS [] s = -1 from rfl] at hIx
  have hB := h.blk
  have hMd : w.drew.ownsMap Try.prog 9 (plainElem (H := Unit) Try.prog 3) mb 0 (.map []) := h.map
  have c2 := hB.drew.cell (i := 2) rfl
  have c0 := hB.drew.cell (i := 0) rfl
  have hne := h.ne
  have hbl := hB.lt
  have hml := h.map.lt
  clear h
  go_enter Try.func22, Try.ntmps22
  go_wp2_with fail
  refine hH.out.mono ?_
  rintro e w' ⟨rfl, rfl⟩
  go_wp2_with fail
  refine region_ord [] (.take 0 (.take 1 (.take 2 (.take 3 (.take 4 (.take 5 (.take 6 (.take 7 (.take 8 (.take 9 (.take 10 .done))))))))))) (by kernel_rfl) (by kernel_rfl) ?_
  simp only [ordList, Ord.map, List.getD_cons_zero, List.getD_cons_succ]
  refine' ord_pure (v := _) ?_ rfl ?_; rotate_left; focus (intro w; go_simp <;> (first | (with_reducible rfl) | (constructor <;> with_reducible rfl)))
  simp only [Act.put, List.setIfInBounds_toArray, List.set_cons_zero, List.set_cons_succ]
  refine' ord_pure (v := _) ?_ rfl ?_; rotate_left; focus (intro w; go_simp <;> (first | (with_reducible rfl) | (constructor <;> with_reducible rfl)))
  simp only [Act.put, List.setIfInBounds_toArray, List.set_cons_zero, List.set_cons_succ]
  refine' ord_pure (v := _) ?_ rfl ?_; rotate_left; focus (intro w; go_simp <;> (first | (with_reducible rfl) | (constructor <;> with_reducible rfl)))
  simp only [Act.put, List.setIfInBounds_toArray, List.set_cons_zero, List.set_cons_succ]
  refine ord_cell hB (by simp) rfl rfl (by kernel_rfl) rfl rfl ?_
  simp only [Act.put, List.getElem_toArray, List.getElem_cons_zero, List.getElem_cons_succ, List.setIfInBounds_toArray, List.set_cons_zero, List.set_cons_succ]
  refine' ord_pure (v := _) ?_ rfl ?_; rotate_left; focus (intro w; go_simp <;> (first | (with_reducible rfl) | (constructor <;> with_reducible rfl)))
  simp only [Act.put, List.setIfInBounds_toArray, List.set_cons_zero, List.set_cons_succ]
  refine' ord_pure (v := _) ?_ rfl ?_; rotate_left; focus (intro w; go_simp <;> (first | (with_reducible rfl) | (constructor <;> with_reducible rfl)))
  simp only [Act.put, List.setIfInBounds_toArray, List.set_cons_zero, List.set_cons_succ]
  refine' ord_pure (v := _) ?_ rfl ?_; rotate_left; focus (intro w; go_simp <;> (first | (with_reducible rfl) | (constructor <;> with_reducible rfl)))
  simp only [Act.put, List.setIfInBounds_toArray, List.set_cons_zero, List.set_cons_succ]
  refine' ord_pure (v := _) ?_ rfl ?_; rotate_left; focus (intro w; go_simp <;> (first | (with_reducible rfl) | (constructor <;> with_reducible rfl)))
  simp only [Act.put, List.setIfInBounds_toArray, List.set_cons_zero, List.set_cons_succ]
  refine ord_cell hB (by simp) rfl rfl (by kernel_rfl) rfl rfl ?_
  simp only [Act.put, List.getElem_toArray, List.getElem_cons_zero, List.getElem_cons_succ, List.setIfInBounds_toArray, List.set_cons_zero, List.set_cons_succ]
  refine' ord_pure (v := _) ?_ rfl ?_; rotate_left; focus (intro w; go_simp <;> (first | (with_reducible rfl) | (constructor <;> with_reducible rfl)))
  simp only [Act.put, List.setIfInBounds_toArray, List.set_cons_zero, List.set_cons_succ]
  refine' ord_pure (v := _) ?_ rfl ?_; rotate_left; focus (intro w; go_simp <;> (first | (with_reducible rfl) | (constructor <;> with_reducible rfl)))
  simp only [Act.put, List.setIfInBounds_toArray, List.set_cons_zero, List.set_cons_succ]
  refine ord_nil ?_
  go_wp2_with fail
  refine hIx.out.mono ?_
  rintro e w1 ⟨rfl, hw1⟩
  subst hw1
  have hFd : Fr [] w' w'.drew := (Fr.refl _ _).drew
  have hBd := hB.drew
  generalize hu : w'.drew = u at *
  clear hu
  go_wp2_with (at_builtin; refine wpList_append_own _ rfl _ _ 73 rfl u.heap.size 9 i0 (.string ByteArray.empty) 1 16 Try.underlying73 hi hz0 hz1 hz2 rfl (by decide) _ 0 [] rfl (World.ownsRow_nil _ _ _ _) ⟨u.heap.size, 0, none⟩ 1 1 [.string s] rfl rfl ?c1 ?c2 ?c3 ?c4 ?c5 ?_)
  case c1 => exact new_cells _ _ _ _ rfl
  case c2 => simp [Value.oneCell']
  case c3 => decide
  case c4 => decide
  case c5 => simp
  intro v' w3 hown hgrow _
  obtain ⟨g, cap, rfl⟩ : ∃ g cap, v' = .slice (some ⟨g, 0, none⟩) 1 cap := by
    rcases hown with ⟨_, h | ⟨g, cap, cur, rfl, _⟩⟩
    · exact absurd h.2 (by decide)
    · exact ⟨g, cap, rfl⟩
  have hFu : Fr [] u w3 := ((Fr.refl [] u).alloc (.cells #[.string s] 9)).grown hgrow (fun k hk => by cases hk)
  have hB3 := hBd.fr hFu (by simp)
  have hM3 := owns_map_fr hMd hFu (by simp)
  clear hown hgrow
  go_wp2_with first
    | (refine wpList_put (i := 0) rfl rfl hB3 rfl rfl rfl (by kernel_rfl) (by simp) ?_; intro w5 hB5' hF5 hs5; clear hs5; have hB5 : Blk w5 b 75 #[.slice (some ⟨g, 0, none⟩) 1 cap, .map (some mb), .slice none 0 0, .int .i64 2, .int .i64 1] := hB5'; clear hB5'; have c5 := hB5.cell (i := 1) rfl; have hM5 := owns_map_fr hM3 hF5 (by simpa using fun e => hne e.symm))
    | (at_mapUpdate; refine wpList_mapUpdate_own _ rfl _ _ _ 72 rfl 9 3 lawS Try.underlying72 _ mb _ _ rfl hM5 (by decide) _ _ _ rfl rfl (Go.WideMaps.keyOf_string_mk Try.underlying9 hs) _ [] (plainElem_int Try.underlying3 (by decide)) ?_; intro w6 hown6 hgrow6)
  go_ret
  have hF6 : Fr [mb] w5 w6 := (Fr.refl _ _).grown hgrow6 (fun k hk => .inl (by cases hk; simp))
  refine ⟨rfl, (((hFd.trans hFu).sub (by simp)).trans (hF5.sub (by simp))).trans (hF6.sub (by simp)), g, cap, _, ⟨hB5.fr hF6 (by simpa using hne), hown6, hne⟩, ?_⟩
  exact has_put_same (k := keyS s) isMap_empty (show WideAt.IsKeyLit (keyS s) from trivial) _
set_option maxRecDepth 100000 in
set_option maxHeartbeats 1000000 in
theorem SecondNil_ok (s : ByteArray) (n : Int) (w : World) (hs : s.size ≤ maxLen) :
    Calls Try.prog 6 #[.string s, .int .i64 n] w fun e w' => e = .returned (.bool true) ∧ Fr [] w w' := by
  have HS := Lib.hid hs
  clear hs
  go_enter Try.func6, Try.ntmps6
  go_wp2_with fail
  refine (keys_of none [] w (by simp) fun w1 _ => AllS_nil w1).mono ?_
  rintro e w1 ⟨v1, v2, rfl, ho1, ho2, hF1⟩
  obtain ⟨oa1, c1, rfl, _⟩ := owns_isInts (xs := []) ho1
  clear ho1 ho2
  go_wp2_with fail
  refine (ghosts_of none [] w1 (by simp) fun w2 _ => Ghosts_nil w2).mono ?_
  rintro e w2 ⟨v, rfl, ho, hF2⟩
  obtain ⟨oa2, c2, rfl, _⟩ := owns_isInts (xs := []) ho
  clear ho
  have HF := Lib.hid (hF1.trans hF2)
  clear hF1 hF2
  go_wp2_with fail
  refine (nil_Evict _ _).mono ?_
  rintro e w3 ⟨rfl, rfl⟩
  go_wp2_with fail
  refine (S_New _).mono ?_
  rintro e w4 ⟨rfl, hT, hF4⟩
  have HT := Lib.hid hT
  have HF4 := Lib.hid (HF.out.trans hF4)
  have hbn : w3.heap.size + 1 < w4.heap.size := hT.blk.lt
  have hws := HF.out.size
  clear hT hF4
  generalize hbb : w3.heap.size + 1 = b at *
  have hmb : w3.heap.size = b - 1 := by omega
  rw [hmb] at HT
  have HWB := Lib.hid (show w.heap.size ≤ b ∧ w.heap.size ≤ b - 1 by omega)
  clear hbb hmb hbn hws
  go_wp2_with fail
  refine (nil_Add n w4).mono ?_
  rintro e w5 ⟨rfl, rfl⟩
  go_wp2_with fail
  refine (nil_Touch n w5).mono ?_
  rintro e w6 ⟨rfl, rfl⟩
  go_wp2_with fail
  refine (nil_Drop n w6).mono ?_
  rintro e w7 ⟨rfl, rfl⟩
  go_wp2_with fail
  refine (nil_Has n w7).mono ?_
  rintro e w8 ⟨rfl, rfl⟩
  go_wp2_with fail
  refine (nil_Ghost n w8).mono ?_
  rintro e w9 ⟨rfl, rfl⟩
  go_wp2_with fail
  refine (nil_Len w9).mono ?_
  rintro e w10 ⟨rfl, rfl⟩
  go_wp2_with fail
  refine (S_Add1 HT.out HS.out).mono ?_
  rintro e w11 ⟨rfl, hF11, g, cap, D, hT11, hh⟩
  have HF11 := Lib.hid (HF4.out.comp hF11 (fun i hi => by
    have := HWB.out
    rcases List.mem_cons.1 hi with rfl | hi
    · exact .inr this.1
    · simp at hi
      subst hi
      exact .inr this.2))
  have HA := Lib.hid (S_Add2 hT11 HS.out hh)
  have hhas := S_Has hT11 HS.out
  rw [hh] at hhas
  have HH := Lib.hid hhas
  have HL := Lib.hid (S_Len hT11)
  clear hF11 hT11 hh hhas
  go_wp2_with fail
  refine HA.out.mono ?_
  rintro e w12 ⟨rfl, rfl⟩
  go_wp2_with fail
  refine (S_Evict b w12).mono ?_
  rintro e w13 ⟨rfl, rfl⟩
  go_wp2_with fail
  refine HH.out.mono ?_
  rintro e w14 ⟨rfl, rfl⟩
  go_wp2_with fail
  refine HL.out.mono ?_
  rintro e w15 ⟨rfl, rfl⟩
  go_wp2_with fail
  refine (awake_ok _).mono ?_
  rintro e w16 ⟨rfl, hF16⟩
  go_wp2_with fail
  go_ret
  exact ⟨rfl, HF11.out.trans hF16⟩
end Go.Proofs.Ythhkgknolclakaa
