/- pages: page. -/
import Derived.Test.YtgmjhpappamenaaDoorPageA
import Derived.Test.YtgmjhpappamenaaDoorFormQ
import Derived.Test.YtgmjhpappamenaaDoorAids
namespace Go.Proofs.YtgmjhpappamenaaDoor
open Go.RowKit Go.Shelf

theorem run_sliceE (w : World) (a : Option Addr) (len cap f t : Nat) (h1 : f ≤ t) (h2 : t ≤ cap) :
    (Instr.slice 29 (.slice a len cap) (some (.int .i64 (f : Nat))) (some (.int .i64 (t : Nat))) (some (.int .i64 (t : Nat)))).run Tryd.prog w = .ok (.slice (if t = f then a else a.map (·.add (f * 4))) (t - f) (t - f)) w := by
  have e1 : ((t : Int) ≤ (cap : Nat)) := by omega
  have e2 : ((f : Int) ≤ (t : Nat)) := by omega
  unfold Instr.slice Instr.sliceBounds Instr.sliceBound
  go_simp
  done
/-- what a page of a list holds -/
def pgEs (l : List En) (no : Nat) : List En := (l.drop (no * 4)).take 4
def pad4 (es : List En) : List En := es ++ List.replicate (4 - es.length) en0
def pgV (l : List En) (seq : Int) (no : Nat) : List Value := pageL seq no (needN l.length : Nat) ((pgEs l no).length : Nat) (ensC (pad4 (pgEs l no)))
/-- cells that lie behind an address -/
def IsRow (w : World) (oa : Option Addr) (cs : List Value) : Prop := ∀ (j : Nat) (v : Value), cs[j]? = some v → ∃ b off, oa = some ⟨b, off, none⟩ ∧ w.cell? ⟨b, off + j, none⟩ = some v
theorem IsRow.range {w : World} {oa : Option Addr} {cs : List Value} (h : IsRow w oa cs) (hc : 0 < cs.length) : ∃ b off, oa = some ⟨b, off, none⟩ ∧ w.rangeAt b off cs := by
  obtain ⟨b, off, rfl, _⟩ := h 0 cs[0] (by simp)
  refine ⟨b, off, rfl, fun j v hj => ?_⟩
  obtain ⟨b', off', he, h0⟩ := h j v hj
  simp only [Option.some.injEq, Addr.mk.injEq, and_true] at he
  obtain ⟨rfl, rfl⟩ := he
  exact h0
theorem IsRow.fr {S : List Nat} {w w' : World} {oa : Option Addr} {cs : List Value} (h : IsRow w oa cs) (hF : Fr S w w') (hs : ∀ b off, oa = some ⟨b, off, none⟩ → ¬ b ∈ S) : IsRow w' oa cs := by
  intro j v hj
  obtain ⟨b, off, he, h0⟩ := h j v hj
  exact ⟨b, off, he, cell_fr hF (hs b off he) h0⟩
theorem builtPage (q n o m : Int) : Tryd.prog.built 129 [(0, .int .i64 q), (1, .int .i64 n), (2, .int .i64 o), (3, .int .i64 m)] = some (pageL q n o m (ensC [en0, en0, en0, en0])).toArray := by kernel_rfl
theorem zeroPage : ∃ Z : List Value, Z.length = 20 ∧ ∀ w, (zeroValue 129).run Tryd.prog w = .ok (.agg Z.toArray) w :=
  ⟨pageL 0 0 0 0 (ensC [en0, en0, en0, en0]), rfl, fun _ => by kernel_rfl⟩
theorem pgEs_len (l : List En) (no : Nat) : (pgEs l no).length = min l.length (min l.length (no * 4) + 4) - min l.length (no * 4) := by
  simp [pgEs]; omega
theorem pageL_len (q n o m : Int) (ES : List Value) : (pageL q n o m ES).length = 4 + ES.length := by simp [pageL]; omega
theorem pageL_one (q n o m : Int) (es : List En) : ∀ v, v ∈ pageL q n o m (ensC es) → v.oneCell' = true := by
  intro v hv
  simp only [pageL, List.mem_append, List.mem_cons, List.not_mem_nil, or_false] at hv
  rcases hv with (rfl | rfl | rfl | rfl) | hv
  · rfl
  · rfl
  · rfl
  · rfl
  · exact ensC_one es v hv
theorem pad4_len (es : List En) (h : es.length ≤ 4) : (pad4 es).length = 4 := by simp [pad4]; omega
set_option maxRecDepth 100000 in
set_option maxHeartbeats 1000000 in
theorem page_any (oa : Option Addr) (cap : Nat) (l : List En) (seq : Int) (no : Nat) (w : World) (hE : IsRow w oa (ensC l)) (hc : l.length ≤ cap) (hl : l.length ≤ 1099511627776) (hn : no ≤ 1099511627776) :
    Calls Tryd.prog 88 #[.slice oa l.length cap, .int .i64 seq, .int .i64 (no : Nat)] w fun e w' => e = .returned (.agg (pgV l seq no).toArray) ∧ Fr [] w w' := by
  have HN := Lib.hid (fun w0 => need_any l.length w0 (by omega))
  have hlen := pgEs_len l no
  generalize hf : min l.length (no * 4) = f at hlen
  generalize ht : min l.length (f + 4) = t at hlen
  have m1 : (if (no : Int) * 4 < (l.length : Int) then (no : Int) * 4 else (l.length : Int)) = (f : Nat) := by split <;> omega
  have m2 : (if (f : Int) + 4 < (l.length : Int) then (f : Int) + 4 else (l.length : Int)) = (t : Nat) := by split <;> omega
  have m3 : (t : Int) - (f : Nat) = ((t - f : Nat) : Int) := by omega
  have hf0 : f < t → f = no * 4 := by omega
  clear hf ht
  have hft : f ≤ t := by omega
  have htc : t ≤ cap := by omega
  have ht4 : t - f ≤ 4 := by have : (pgEs l no).length ≤ 4 := by simp [pgEs]; omega
                             omega
  obtain ⟨Z, hZ, hz⟩ := zeroPage
  have hzs : Z.toArray.size = 20 := by simpa using hZ
  have hB := builtPage seq no (needN l.length : Nat) ((t - f : Nat) : Int)
  have hone := pageL_one seq no (needN l.length : Nat) ((t - f : Nat) : Int) [en0, en0, en0, en0]
  have hpl : (pageL seq no (needN l.length : Nat) ((t - f : Nat) : Int) (ensC [en0, en0, en0, en0])).length = 20 := rfl
  generalize hPL : pageL seq no (needN l.length : Nat) ((t - f : Nat) : Int) (ensC [en0, en0, en0, en0]) = PL at hB hone hpl
  have hps : PL.toArray.size = 20 := by simpa using hpl
  have HPL := Lib.hid hPL
  have HB := Lib.hid hB
  have HL := Lib.hid hlen
  have HE := Lib.hid hE
  have hBZ := blk_at (w.alloc (.cells Z.toArray 129)) Z.toArray 129 (w.heap.size + 1) (by simp)
  obtain ⟨w2, hst, hB2, hF2, hs2⟩ := store_list (P := Tryd.prog) hBZ PL (by rw [hpl, hzs]) hone
  have hF02 : Fr [] w w2 := (((Fr.refl [] w).alloc (.cells Z.toArray 129)).alloc (.cells Z.toArray 129)).comp hF2 (by simp)
  have hE2 := (hE.fr (hF02.drew) (by simp))
  have HMN : Nat.min (t - f) 4 = t - f := Nat.min_eq_left ht4
  obtain ⟨w3, hcp, hB3, hF3, hs3⟩ := copy_cells (P := Tryd.prog) (w := w2.drew) hB2.drew (dT := 29) (sT := 29) 4 4 4 (if t = f then oa else oa.map (·.add (f * 4))) (t - f) (t - f) 4 (ensC (pgEs l no)) Tryd.underlying29 (by kernel_rfl)
    (by rw [ensC_len, hlen, HMN]) (by
      intro h0
      have hlt : f < t := by rw [ensC_len, hlen] at h0; omega
      rw [if_neg (by omega)]
      have hcs : ∀ (j : Nat) (v : Value), (ensC (pgEs l no))[j]? = some v → (ensC l)[f * 4 + j]? = some v := by
        intro j v hj
        have e : ensC (pgEs l no) = ((ensC l).drop (f * 4)).take (4 * 4) := by
          rw [ensC_drop, ensC_take, hf0 hlt]
          rfl
        rw [e, List.getElem?_take] at hj
        split at hj
        · rwa [List.getElem?_drop] at hj
        · cases hj
      have h1 := (List.getElem?_eq_getElem h0)
      obtain ⟨b, off, rfl, _⟩ := hE2 _ _ (hcs _ _ h1)
      refine ⟨⟨b, off + f * 4, none⟩, by simp [Addr.add], fun j v hj => ?_⟩
      obtain ⟨b', off', he, hcell⟩ := hE2 _ _ (hcs _ _ hj)
      simp only [Option.some.injEq, Addr.mk.injEq, and_true] at he
      obtain ⟨rfl, rfl⟩ := he
      rw [Addr.add_mid, Nat.add_assoc]
      exact hcell) (by rw [ensC_len, hlen, hpl]; omega) (ensC_one _)
  have hfin : PL.take 4 ++ ensC (pgEs l no) ++ PL.drop (4 + (ensC (pgEs l no)).length) = pgV l seq no := by
    rw [← hPL, ensC_len, hlen]
    have e : [en0, en0, en0, en0].drop (t - f) = List.replicate (4 - (t - f)) en0 := by
      rw [show [en0, en0, en0, en0] = List.replicate 4 en0 from rfl, List.drop_replicate]
    unfold pgV pad4 pageL
    rw [← List.drop_drop]
    simp only [List.cons_append, List.nil_append, List.take_succ_cons, List.take_zero, List.drop_succ_cons, List.drop_zero]
    rw [ensC_drop, e, hlen, ensC_append]
  rw [hfin] at hB3
  have hvl : (pgV l seq no).length = 20 := by
    unfold pgV
    rw [pageL_len, ensC_len, pad4_len _ (by omega)]
  have hvs : (pgV l seq no).toArray.size = 20 := by simpa using hvl
  have hv1 : ∀ v, v ∈ pgV l seq no → v.oneCell' = true := pageL_one _ _ _ _ _
  generalize pgV l seq no = R at *
  have hT := ((((Blk.new w Z.toArray 129).alloc (.cells Z.toArray 129)).fr hF2 (by simp)).drew).fr hF3 (by simp)
  obtain ⟨w4, hst4, hB4, hF4, hs4⟩ := store_list (P := Tryd.prog) hT R (by rw [hvl, hzs]) hv1
  have HF := Lib.hid (((hF02.drew).comp hF3 (by simp)).comp hF4 (by simp))
  have HCP := Lib.hid hcp
  have HB3 := Lib.hid hB3
  have HSL := Lib.hid (fun w0 => run_sliceE w0 oa l.length cap f t hft htc)
  rw [HMN] at hcp
  clear hB hone hPL hlen hE hE2 hF02 hF2 hB2 hBZ hT hB3 hF4 hZ hv1 hfin HMN hf0 ht4 hs3 hs2 hs4
  have hcp' := hcp
  clear hcp HCP
  go_enter Tryd.func88, Tryd.ntmps88
  go_wp2_with fail
  refine (HN.out _).mono ?_
  rintro e w1 ⟨rfl, rfl⟩
  go_wp2_with (refine wpList_do (run_exec_build (t := 129) rfl rfl HB.out) rfl ?_)
  refine region_ord [w.heap.size+1] (.take 0 (.take 1 (.take 2 (.take 3 (.take 4 (.take 5 (.take 6 (.pick 7 .done .none)))))))) (by kernel_rfl) (by kernel_rfl) ?_
  simp only [ordList, Ord.map, List.getD_cons_zero, List.getD_cons_succ]
  refine' ord_pure (v := _) ?_ rfl ?_; rotate_left; focus (intro w; go_simp <;> (first | (with_reducible rfl) | (constructor <;> with_reducible rfl)))
  simp only [Act.put, List.setIfInBounds_toArray, List.set_cons_zero, List.set_cons_succ]
  refine' ord_pure (v := _) ?_ rfl ?_; rotate_left; focus (intro w; go_simp <;> (first | (with_reducible rfl) | (constructor <;> with_reducible rfl)))
  simp only [Act.put, List.setIfInBounds_toArray, List.set_cons_zero, List.set_cons_succ]
  refine' ord_pure (v := _) ?_ rfl ?_; rotate_left; focus (intro w; go_simp <;> (first | (with_reducible rfl) | (constructor <;> with_reducible rfl)))
  simp only [Act.put, List.setIfInBounds_toArray, List.set_cons_zero, List.set_cons_succ]
  refine' ord_pure (v := _) ?_ rfl ?_; rotate_left; focus (intro w; go_simp <;> (first | (with_reducible rfl) | (constructor <;> with_reducible rfl)))
  simp only [Act.put, List.setIfInBounds_toArray, List.set_cons_zero, List.set_cons_succ]
  refine' ord_pure (v := _) ?_ rfl ?_; rotate_left; focus (intro w; go_simp <;> (first | (with_reducible rfl) | (constructor <;> with_reducible rfl)))
  simp only [Act.put, List.setIfInBounds_toArray, List.set_cons_zero, List.set_cons_succ]
  refine' ord_pure (v := _) ?_ rfl ?_; rotate_left; focus (intro w; go_simp <;> (first | (with_reducible rfl) | (constructor <;> with_reducible rfl)))
  simp only [Act.put, List.setIfInBounds_toArray, List.set_cons_zero, List.set_cons_succ]
  -- 6: t35 := slice <[]forms.Entry> t31 some(t32) some(t33) some(t34)   {2,3,4,5}
  refine' ord_pure (v := .slice (if t = f then oa else oa.map (·.add (f * 4))) (t - f) (t - f)) (fun w0 => ?_) rfl ?_
  focus (have := HSL.out w0; go_simp)
  simp only [Act.put, List.setIfInBounds_toArray, List.set_cons_zero, List.set_cons_succ]
  -- 7: t36 := CALL builtin Builtin.copy(t30, t35)   {1,6}
  refine' ord_do (v := .int .i64 (t - f : Nat)) (w' := w3) ?_ hF3 rfl ?_
  focus (have := hcp' 3; go_simp <;> (with_reducible rfl))
  simp only [Act.put, List.setIfInBounds_toArray, List.set_cons_zero, List.set_cons_succ]
  refine ord_nil ?_
  go_wp2_with (refine wpList_load_all rfl 129 _ rfl HB3.out rfl (by rw [hvs]; kernel_rfl) ?_)
  all_goals exact bodyPost_ret (res_cell Tryd.results88 rfl (load_all hB4 (by rw [hvs]; kernel_rfl))) rfl ⟨rfl, HF.out⟩
end Go.Proofs.YtgmjhpappamenaaDoor

/- pages: blocks. -/
namespace Go.Proofs.YtgmjhpappamenaaDoor
open Go.RowKit Go.Shelf

theorem four_of {es : List En} (h : es.length = 4) : ∃ e0 e1 e2 e3, es = [e0, e1, e2, e3] := by
  match es, h with
  | [a, b, c, d], _ => exact ⟨a, b, c, d, rfl⟩
/-- a page of a checkpoint: may it be; its numbers; its sector; what is wrong -/
def pgQ (l : List En) (seq : Int) (no : Nat) : Bool := pageR seq no (needN l.length : Nat) ((pgEs l no).length : Nat) (pad4 (pgEs l no))
def pgN (l : List En) (seq : Int) (no : Nat) : List (Int × Int) := pageNL seq no (needN l.length : Nat) ((pgEs l no).length : Nat) (pad4 (pgEs l no))
def pgB (l : List En) (seq : Int) (no : Nat) : List Nat := putB 3 (pgQ l seq no) (pgN l seq no)
def pgEr (l : List En) (seq : Int) (no : Nat) : Int := putEr 3 (pgQ l seq no) (pgN l seq no)
theorem pgB_len (l : List En) (seq : Int) (no : Nat) : (pgB l seq no).length = 64 := putB_len _ _ _
theorem PutPg_any (l : List En) (seq : Int) (no : Nat) (w : World) (hH : Halves w) :
    Calls Tryd.prog 87 #[.agg (pgV l seq no).toArray] w fun e w' => e = .returned (.tuple #[.agg (bv (pgB l seq no)), .int .i64 (pgEr l seq no)]) ∧ Fr [] w w' := by
  obtain ⟨e0, e1, e2, e3, he⟩ := four_of (pad4_len (pgEs l no) (by simp [pgEs]; omega))
  have := PutPage_any seq no (needN l.length : Nat) ((pgEs l no).length : Nat) e0 e1 e2 e3 w hH
  unfold pgB pgEr pgQ pgN pgV
  rw [he]
  exact this
/-- the first number that is none, and what is wrong with it -/
def firstE (f : Nat → Int) (n : Nat) : Int := ((List.range n).map f).find? (· != 0) |>.getD 0
theorem firstE_all {f : Nat → Int} {n : Nat} (h : ∀ k, k < n → f k = 0) : firstE f n = 0 := by
  unfold firstE
  rw [List.find?_eq_none.2]
  · rfl
  · intro x hx
    obtain ⟨k, hk, rfl⟩ := List.mem_map.1 hx
    simp [h k (by simpa using hk)]
theorem firstE_at {f : Nat → Int} {n k : Nat} (hk : k < n) (h : ∀ j, j < k → f j = 0) (h0 : ¬ f k = 0) : firstE f n = f k := by
  unfold firstE
  obtain ⟨m, rfl⟩ : ∃ m, n = k + (m + 1) := ⟨n - k - 1, by omega⟩
  rw [List.range_add, List.map_append, List.find?_append, List.find?_eq_none.2]
  · rw [List.range_succ_eq_map]
    simp [h0]
  · intro x hx
    obtain ⟨j, hj, rfl⟩ := List.mem_map.1 hx
    simp [h j (by simpa using hj)]
def pgBs (l : List En) (seq : Int) (n : Nat) : List (List Nat) := (List.range n).map (pgB l seq)
theorem pgBs_succ (l : List En) (seq : Int) (n : Nat) : pgBs l seq (n + 1) = pgBs l seq n ++ [pgB l seq n] := by simp [pgBs, List.range_succ]
theorem pgBs_len (l : List En) (seq : Int) (n : Nat) : (pgBs l seq n).length = n := by simp [pgBs]
theorem firmC_append (a b : List (List Nat)) : firmC (a ++ b) = firmC a ++ firmC b := by simp [firmC]
theorem firmC_pgBs (l : List En) (seq : Int) (k : Nat) : firmC (pgBs l seq (k + 1)) = firmC (pgBs l seq k) ++ u8s (pgB l seq k) := by
  rw [pgBs_succ, firmC_append]; simp [firmC]
theorem sliceBlock (w : World) (A : List Nat) (hA : A.length = 64) (parts : Array (Nat × Value)) (hp : parts.toList = [(0, .agg (bv A))]) :
    (Instr.buildSlice 76 1 parts).run Tryd.prog w = .ok (.slice (some ⟨w.heap.size, 0, none⟩) 1 1) (w.alloc (.cells (u8s A).toArray 88)) := by
  obtain ⟨i, hi, hz, h2, h3⟩ := info_parts infoBlock
  refine run_buildSlice w _ 88 1 _ _ i (.agg (bv zero64)) Tryd.underlying76 hi hz (by rw [h2]; decide) (by rw [h2]; decide) ?_
  rw [h2, hp]
  have hl : ∀ n : Nat, ((Array.range (1 * 64)).map ((Value.agg (bv zero64)).cells[· % (Value.agg (bv zero64)).cells.size]!)).toList.length = 64 := by intro n; simp
  have e := fill_part (place := fun i => some (i * 64, 64)) (cells := ((Array.range (1 * 64)).map ((Value.agg (bv zero64)).cells[· % (Value.agg (bv zero64)).cells.size]!)).toList) (i := 0) (off := 0 * 64) (size := 64) (v := .agg (bv A)) (rest := []) rfl
    (by show (bv A).size = 64; rw [bv_size, hA]) (by rw [hl 0]; decide)
  simp only [Array.toArray_toList] at e
  refine e.trans ?_
  rw [List.drop_of_length_le (by rw [hl 0]; decide)]
  simp [Instr.fill, Value.cells, bv]
def BlocksOut (l : List En) (seq : Int) (w : World) (e : Ending) (w' : World) : Prop := Fr [] w w' ∧
  ((¬ firstE (pgEr l seq) (needN l.length) = 0 ∧ e = .returned (.tuple #[.slice none 0 0, .int .i64 (firstE (pgEr l seq) (needN l.length))])) ∨
   (firstE (pgEr l seq) (needN l.length) = 0 ∧ ∃ sv, e = .returned (.tuple #[sv, .int .i64 0]) ∧ w'.ownsRow w.heap.size 88 64 sv (needN l.length) (firmC (pgBs l seq (needN l.length)))))
theorem needN_le (n : Nat) : needN n ≤ n / 4 + 1 := by unfold needN; split <;> omega
set_option maxRecDepth 100000 in
set_option maxHeartbeats 2000000 in
theorem blocks_any (oa : Option Addr) (cap : Nat) (l : List En) (seq : Int) (w : World) (hE : IsRow w oa (ensC l)) (hc : l.length ≤ cap) (hl : l.length ≤ 1099511627776) (hH : Halves w) :
    Calls Tryd.prog 64 #[.slice oa l.length cap, .int .i64 seq] w (BlocksOut l seq w) := by
  have HN := Lib.hid (fun w0 => need_any l.length w0 (by omega))
  have hne := needN_le l.length
  have HOUT := Lib.hid (fun e w' (h : BlocksOut l seq w e w') => h)
  obtain ⟨i0, hi, hz0, hz1, hz2⟩ := info_parts infoBlock
  have hz : ∀ w, (zeroValue 88).run Tryd.prog w = .ok (.agg (bv zeros64)) w := fun _ => by kernel_rfl
  have hzs : (bv zeros64).size = 64 := by simp [bv_size, zeros64]
  have HI := Lib.hid (And.intro hi (And.intro hz0 (And.intro hz1 hz2)))
  have HE := Lib.hid hE
  have HH := Lib.hid hH
  have HPG := Lib.hid (fun W no h hn => page_any oa cap l seq no W h hc hl hn)
  have HPP := Lib.hid (fun W no h => PutPg_any l seq no W h)
  clear hE hH hi hz0 hz1 hz2
  have HFS := Lib.hid (fun k => firmC_pgBs l seq k)
  generalize hnn : needN l.length = n at *
  have HNN := Lib.hid hnn
  clear hnn
  have HLEN := Lib.hid (fun no => pgB_len l seq no)
  go_enter Tryd.func64, Tryd.ntmps64
  go_wp2_with fail
  refine (HN.out _).mono ?_
  rintro e w1 ⟨rfl, rfl⟩
  go_wp2_with fail
  go_loopw [6, 13] (fun sv i wr => ∃ k : Nat, k ≤ n ∧ i = .int .i64 k ∧ (∀ j, j < k → pgEr l seq j = 0) ∧ wr.ownsRow w.heap.size 88 64 sv k (firmC (pgBs l seq k)) ∧ Fr [] w wr) (fun _ i _ => n - (intOf i).toNat)
  case atStart => exact ⟨0, Nat.zero_le _, rfl, fun j hj => (by omega), World.ownsRow_nil _ _ _ _, Fr.refl _ _⟩
  case round =>
    obtain ⟨k, hk, rfl, hz, hown, hF⟩ := hrel
    have HZ := Lib.hid hz
    have HO := Lib.hid hown
    clear hz hown
    by_cases hlt : k < n
    · have b0 : decide ((k : Int) < (n : Nat)) = true := by simp; omega
      go_wp2_with fail
      refine (HPG.out wr k (HE.out.fr hF (by simp)) (by omega)).mono ?_
      rintro e w2 ⟨rfl, hF2⟩
      have hF02 := hF.trans hF2
      go_wp2_with fail
      refine (HPP.out _ k (HH.out.keep hF02 (by simp))).mono ?_
      rintro e w3 ⟨rfl, hF3⟩
      have hBT := Blk.new w3 (bv zeros64) 88
      have hA := HLEN.out k
      have hAs : (bv (pgB l seq k)).size = 64 := by rw [bv_size, hA]
      obtain ⟨w4, hst, hB4, hF4, hs4⟩ := store_all (P := Tryd.prog) hBT (pgB l seq k) (by rw [hA, bv_size]; rfl)
      have hF24 : Fr [] w2 w4 := (hF3.alloc _).comp hF4 (by simp; exact hF3.size)
      have hO4 := owns_fr HO.out (hF2.trans hF24) (by simp)
      have HO4 := Lib.hid hO4
      have HF04 := Lib.hid (hF02.trans hF24)
      have HB4 := Lib.hid hB4
      have hs23 := hF3.size
      have hs02 := hF02.size
      clear hO4 hF24 hF4 hBT hF hF2 hF02 hF3
      generalize hpe : pgEr l seq k = er at *
      have HPE := Lib.hid hpe
      clear hpe
      by_cases h0 : er = 0
      · subst h0
        have hBA := Blk.new w4 (u8s (pgB l seq k)).toArray 88
        have hOA := owns_alloc HO4.out (.cells (u8s (pgB l seq k)).toArray 88)
        have hs04 := HF04.out.size
        have hge := owns_ge hOA
        go_wp2_with (first
          | (refine wpList_load_all rfl 88 _ rfl HB4.out rfl (by rw [hAs]; kernel_rfl) ?_)
          | (refine wpList_do (run_exec_slice rfl rfl (fun ps hp => sliceBlock w4 (pgB l seq k) hA ps hp)) rfl ?_)
          | (at_builtin; refine wpList_append_lies _ rfl _ _ 76 rfl w.heap.size 88 i0 (.agg (bv zero64)) 64 64 Tryd.underlying76 HI.out.1 HI.out.2.1 HI.out.2.2.1 HI.out.2.2.2 (by simp [Value.cells, bv_size, zero64]) (by decide) _ k _ rfl hOA ⟨w4.heap.size, 0, none⟩ 1 1 (u8s (pgB l seq k)) rfl (by simp [u8s, hA]) (blk_news hBA) (by simp [u8s, Value.oneCell']) (by decide) (by unfold maxLen; omega) (by omega) (by simp; omega) _ rfl ?_))
        intro g5 cap5 w5 hown hgrow hor hlt5
        have hF5 : Fr [] w w5 := (HF04.out.alloc _).grown hgrow (fun j hj => .inr (by have := hge j hj; omega))
        rw [← HFS.out k] at hown
        have HO5 := Lib.hid hown
        clear hown hgrow hor hge hOA hBA
        go_wp2
        go_roundw
        case rel => exact ⟨k + 1, by omega, by go_num, fun j hj => (by by_cases hjk : j < k; exact HZ.out j hjk; obtain rfl : j = k := (by omega); exact HPE.out), HO5.out, hF5⟩
        case measure => simp [intOf]; omega
      · have b1 : (er != 0) = true := by simpa using h0
        go_wp2_with fail
        go_ret2
        have hfe := firstE_at hlt HZ.out (by rw [HPE.out]; exact h0)
        rw [HPE.out] at hfe
        refine HOUT.out _ _ ⟨HF04.out, .inl ⟨?_, ?_⟩⟩
        · rw [HNN.out, hfe]; exact h0
        · rw [HNN.out, hfe]
          rfl
    · obtain rfl : k = n := by omega
      have b0 : decide ((k : Int) < (k : Nat)) = false := by simp
      go_wp2_with fail
      go_ret2
      refine HOUT.out _ _ ⟨hF, .inr ⟨?_, _, rfl, ?_⟩⟩
      · rw [HNN.out]; exact firstE_all HZ.out
      · rw [HNN.out]; exact HO.out
end Go.Proofs.YtgmjhpappamenaaDoor

/- pages: Write. -/
namespace Go.Proofs.YtgmjhpappamenaaDoor
open Go.RowKit Go.Shelf

theorem devPut_F (x : Dev) (s : Nat) (A : List Nat) : (devPut x s A).F = x.F := by unfold devPut nextP; split <;> rfl
theorem devW_F (x : Dev) (s : Int) (A : List Nat) : (devW x s A).F = x.F := by unfold devW; split; exact devPut_F _ _ _; rfl
theorem devW_O (x : Dev) (s : Int) (A : List Nat) : (devW x s A).O.length ≤ x.O.length + 1 := by
  unfold devW devPut nextP
  split
  · split <;> simp
  · omega
/-- what writing sectors one behind the other leaves, up to the first one that is not told as done -/
def wrAll : Dev → Int → List (List Nat) → Dev × Int
  | x, _, [] => (x, 0)
  | x, s, b :: r => if devWE x s = 0 then wrAll (devW x s b) (s + 1) r else (devW x s b, devWE x s)
/-- the sectors of a checkpoint -/
def pgAll (l : List En) (seq : Int) (n : Nat) : List (List Nat) := (pgBs l seq (needN l.length) ++ List.replicate n zeros64).take n
theorem pgAll_len (l : List En) (seq : Int) (n : Nat) : (pgAll l seq n).length = n := by simp [pgAll]
theorem putS_mem' {kind : Int} {ps : List (Int × Int)} (hk : True) : ∀ x, x ∈ (putSt kind ps).1 → x < 256 := putN_mem _ _ (by simp)
theorem putB_mem (kind : Int) (r : Bool) (ps : List (Int × Int)) : ∀ x, x ∈ putB kind r ps → x < 256 := by
  unfold putB
  split
  · exact sealV_mem _ (putS_mem' trivial)
  · intro x hx
    simp only [zeros64, List.mem_replicate] at hx
    omega
theorem zeros64_ok : zeros64.length = 64 ∧ ∀ y, y ∈ zeros64 → y < 256 := ⟨by simp [zeros64], fun y hy => by simp only [zeros64, List.mem_replicate] at hy; omega⟩
theorem pgB_ok (l : List En) (seq : Int) (no : Nat) : (pgB l seq no).length = 64 ∧ ∀ y, y ∈ pgB l seq no → y < 256 := ⟨pgB_len _ _ _, putB_mem _ _ _⟩
theorem pgAll_get (l : List En) (seq : Int) (n k : Nat) (hk : k < n) : (pgAll l seq n)[k]? = some (if k < needN l.length then pgB l seq k else zeros64) := by
  unfold pgAll
  rw [List.getElem?_take, if_pos hk]
  split
  · rename_i h
    rw [List.getElem?_append_left (by rw [pgBs_len]; exact h)]
    simp [pgBs, h]
  · rename_i h
    rw [List.getElem?_append_right (by rw [pgBs_len]; omega), List.getElem?_replicate, if_pos (by rw [pgBs_len]; omega)]
theorem secs_pgBs (l : List En) (seq : Int) (n : Nat) : Secs (pgBs l seq n) := by
  intro b hb
  simp only [pgBs, List.mem_map] at hb
  obtain ⟨k, _, rfl⟩ := hb
  exact pgB_ok _ _ _
/-- what is left, and what is wrong -/
def pgWr (x : Dev) (base pages seq : Int) (l : List En) : Dev × Int :=
  if pgE x.F.length base pages = 0 then (if pages < (needN l.length : Nat) then (x, 17)
    else if firstE (pgEr l seq) (needN l.length) = 0 then wrAll x base (pgAll l seq pages.toNat) else (x, firstE (pgEr l seq) (needN l.length)))
  else (x, pgE x.F.length base pages)
theorem pgE_in {z : Nat} {base n : Int} (h : pgE z base n = 0) : ∃ (s k : Nat), base = s ∧ n = k ∧ 1 ≤ k ∧ s + k ≤ z := by
  unfold pgE at h
  split at h
  · omega
  · exact ⟨base.toNat, n.toNat, by omega, by omega, by omega, by omega⟩
theorem wrAll_at {x : Dev} {s : Int} {L : List (List Nat)} {A : List Nat} {k : Nat} (hA : L[k]? = some A) : wrAll x s (L.drop k) = if devWE x s = 0 then wrAll (devW x s A) (s + 1) (L.drop (k + 1)) else (devW x s A, devWE x s) := by
  obtain ⟨hk, hA⟩ := List.getElem?_eq_some_iff.1 hA
  rw [List.drop_eq_getElem_cons hk, hA]
  rfl
set_option maxRecDepth 100000 in
set_option maxHeartbeats 400000 in
theorem pgWrite_any (b : Nat) (D : List Nat) (x : Dev) (base pages seq : Int) (oa : Option Addr) (cap : Nat) (l : List En) (w : World) (h : IsDev w b D x) (hE : IsRow w oa (ensC l)) (hc : l.length ≤ cap) (hl : l.length ≤ 1099511627776) (hH : Halves w)
    (hO : (x.O.length + 4097) * 72 ≤ 140737488355328) :
    Calls Tryd.prog 34 #[.pointer (some ⟨b, 0, none⟩), .int .i64 base, .int .i64 pages, .int .i64 seq, .slice oa l.length cap] w fun e w' => e = .returned (.int .i64 (pgWr x base pages seq l).2) ∧
      ∃ D', IsDev w' b D' (pgWr x base pages seq l).1 ∧ Fr D w w' ∧ ∀ i, i ∈ D' → i ∈ D ∨ w.heap.size ≤ i := by
  have HC := Lib.hid (fun w1 h1 => pgCheck_any b D x base pages w1 h1)
  have HN := Lib.hid (fun w0 => need_any l.length w0 (by omega))
  have hn2 := (by obtain ⟨bf, ov, pv, _, h⟩ := h; exact h.n2 : x.F.length ≤ 4096)
  have HDl := Lib.hid h.lt
  have HH := Lib.hid h
  have HHH := Lib.hid hH
  have HE := Lib.hid hE
  have HBM := Lib.hid (And.intro hc (And.intro hl hO))
  unfold pgWr
  by_cases h1 : pgE x.F.length base pages = 0
  · obtain ⟨s, n, rfl, rfl, hn1, hsn⟩ := pgE_in h1
    rw [if_pos h1]
    by_cases h2 : (n : Int) < (needN l.length : Nat)
    · rw [if_pos h2]
      rw [h1] at HC
      clear h hE hH hc hl hO
      generalize needN l.length = m at *
      go_enter Tryd.func34, Tryd.ntmps34
      go_wp2_with fail
      refine (HC.out _ HH.out).mono ?_
      rintro e w1 ⟨rfl, rfl⟩
      go_wp2_with fail
      refine (HN.out _).mono ?_
      rintro e w1 ⟨rfl, rfl⟩
      go_wp2_with fail
      go_ret
      exact ⟨rfl, D, HH.out, Fr.refl _ _, fun i hi => .inl hi⟩
    · rw [if_neg h2]
      rw [h1] at HC
      clear h hE hH hc hl hO
      have HB := Lib.hid (fun w0 h0 h1 => blocks_any oa cap l seq w0 h0 HBM.out.1 HBM.out.2.1 h1)
      unfold BlocksOut at HB
      have hpl := pgAll_len l seq n
      have HPG := Lib.hid (fun k hk => pgAll_get l seq n k hk)
      have HSP := Lib.hid (secs_pgBs l seq (needN l.length))
      have hbl := pgBs_len l seq (needN l.length)
      have HPB := Lib.hid (fun k (hk : k < needN l.length) => show (pgBs l seq (needN l.length))[k]? = some (pgB l seq k) by simp [pgBs, hk])
      simp only [Int.toNat_natCast]
      generalize pgBs l seq (needN l.length) = BS at *
      generalize pgAll l seq n = L at *
      generalize firstE (pgEr l seq) (needN l.length) = fe at *
      generalize needN l.length = m at *
      have b2 : decide (n < m) = false := by simpa using h2
      have HT : Hid (m ≤ n) := Lib.hid (by omega)
      clear h2
      generalize hres : (if fe = 0 then wrAll x (s : Int) L else (x, fe)) = res
      have HRES := Lib.hid hres
      clear hres
      go_enter Tryd.func34, Tryd.ntmps34
      go_wp2_with fail
      refine (HC.out _ HH.out).mono ?_
      rintro e w1 ⟨rfl, rfl⟩
      go_wp2_with fail
      refine (HN.out _).mono ?_
      rintro e w1 ⟨rfl, rfl⟩
      go_wp2_with fail
      refine (HB.out _ HE.out HHH.out).mono ?_
      rintro e w1 ⟨hF1, ⟨hfe, rfl⟩ | ⟨rfl, sv, rfl, hown⟩⟩
      · have hr := HRES.out
        rw [if_neg hfe] at hr
        subst hr
        have b1 : (fe != 0) = true := by simpa using hfe
        have HF1 := Lib.hid hF1
        clear hF1
        go_wp2_with fail
        go_ret
        exact ⟨rfl, D, HH.out.fr HF1.out (by simp), HF1.out.sub (by simp), fun i hi => .inl hi⟩
      · have hr := HRES.out
        rw [if_pos rfl] at hr
        have HR := Lib.hid hr
        clear hr HRES
        obtain ⟨oa1, cap1, rfl⟩ := owns_form0 hown
        have HO1 := Lib.hid hown
        have HF1 := Lib.hid hF1
        have hs1 := hF1.size
        clear hown hF1
        have hz : ∀ w, (zeroValue 88).run Tryd.prog w = .ok (.agg (bv zeros64)) w := fun _ => by kernel_rfl
        have hzs : (bv zeros64).size = 64 := by simp [bv_size, zeros64]
        go_wp2_with fail
        go_loopw [39] (fun i wr => ∃ k : Nat, k ≤ n ∧ i = .int .i64 k ∧ ∃ D' x', IsDev wr b D' x' ∧ wrAll x s L = wrAll x' ((s : Int) + k) (L.drop k) ∧ x'.F.length = x.F.length ∧ x'.O.length ≤ x.O.length + k ∧ Fr D w wr ∧ w1.heap.size ≤ wr.heap.size ∧ (∀ i, i ∈ D' → i ∈ D ∨ w1.heap.size ≤ i) ∧ wr.ownsRow w.heap.size 88 64 (.slice oa1 m cap1) m (firmC BS)) (fun i _ => n - (intOf i).toNat)
        case atStart => exact ⟨0, Nat.zero_le _, rfl, D, x, HH.out.fr HF1.out (by simp), by simp, rfl, by omega, HF1.out.sub (by simp), Nat.le_refl _, fun i hi => .inl hi, HO1.out⟩
        case round =>
          obtain ⟨k, hk, rfl, D', x', hI, hw, hxF, hxO, hFr, hsz, hD', hown⟩ := hrel
          have HI := Lib.hid hI
          have HW := Lib.hid hw
          have HFr := Lib.hid hFr
          have HD' := Lib.hid hD'
          have HO := Lib.hid hown
          have HXF := Lib.hid hxF
          clear hI hw hFr hD' hown hxF
          by_cases hlt : k < n
          · have b0 : decide ((k : Int) < (n : Nat)) = true := by simp; omega
            have hsk : (s : Int) + k = ((s + k : Nat) : Int) := by omega
            have hwL := HPG.out k hlt
            have hAT := wrAll_at (x := x') (s := (s : Int) + k) hwL
            have HWA := Lib.hid (HW.out.trans hAT)
            have HWR := Lib.hid (fun A w2 h1 h2 => devWrite_any b D' x' ((s : Int) + k) A w2 h1 h2 (by have := HBM.out.2.2; omega))
            clear hAT hwL hsk
            generalize hAA : (if k < m then pgB l seq k else zeros64) = A at *
            have hAok : A.length = 64 ∧ ∀ y, y ∈ A → y < 256 := by rw [← hAA]; split; exact pgB_ok _ _ _; exact zeros64_ok
            have hBT := Blk.new wr (bv zeros64) 88
            have HAK := Lib.hid hAok
            have hA := hAok.1
            have hAs : (bv A).size = 64 := by rw [bv_size, hA]
            obtain ⟨w4, hst, hB4, hF4, hs4⟩ := store_all (P := Tryd.prog) hBT A (by rw [hA, bv_size]; rfl)
            have hF04 : Fr [] wr w4 := ((Fr.refl [] wr).alloc _).comp hF4 (by simp)
            have HB4 := Lib.hid hB4
            have HF04 := Lib.hid hF04
            have HAA := Lib.hid hAA
            have hs04 := hF04.size
            clear hAok hB4 hF4 hF04 hAA hs4
            by_cases hkm : k < m
            · have b2 : decide ((k : Int) < (m : Nat)) = true := by simp; omega
              obtain ⟨g, cap2, hsv, hg, hgl⟩ := HO.out.form (by omega)
              simp only [Value.slice.injEq, true_and] at hsv
              obtain ⟨rfl, rfl⟩ := hsv
              have hRA : wr.rangeAt g (k * 64) (u8s A) := by
                have h1 := owns_range HO.out
                have h2 := range_part (ys := u8s A) (k * 64) h1 (by
                  have h3 := HPB.out k hkm
                  obtain ⟨h4, h5⟩ := List.getElem?_eq_some_iff.1 h3
                  have h6 := firmC_get HSP.out k h4
                  rw [h5] at h6
                  have h7 := HAA.out
                  rw [if_pos hkm] at h7
                  rw [h7] at h6
                  exact h6)
                rwa [Nat.zero_add] at h2
              have hRB : (wr.alloc (.cells (bv zeros64) 88)).rangeAt g (k * 64) (u8s A) := ((Fr.refl [] wr).alloc _).range hRA hgl (by simp)
              have HRB := Lib.hid hRB
              clear hRA hRB
              go_wp2_with (first
                | (refine wpList_load_bv rfl 88 _ rfl g (k * 64) rfl A HRB.out Tryd.underlying88 (by kernel_rfl) hA ?_)
                | (refine wpList_load_all rfl 88 _ rfl HB4.out rfl (by rw [hAs]; kernel_rfl) ?_))
              refine (HWR.out A w4 (HI.out.fr HF04.out (by simp)) HAK.out).mono ?_
              rintro e w6 ⟨rfl, D6, hI6, hF6, hD6⟩
              have HI6 := Lib.hid hI6
              have HF6 := Lib.hid hF6
              have HD6 := Lib.hid hD6
              clear hI6 hF6 hD6
              generalize hwe : devWE x' ((s : Int) + k) = er at *
              have HWE := Lib.hid hwe
              clear hwe
              have hFF : Fr D w w6 := ((HFr.out.sub (T := D) (fun i hi => .inl hi)).comp HF04.out (by simp)).comp HF6.out (fun i hi => by rcases HD'.out i hi with h | h; exact .inl h; exact .inr (by omega))
              have hDD : ∀ i, i ∈ D6 → i ∈ D ∨ w1.heap.size ≤ i := fun i hi => by
                rcases HD6.out i hi with h | h
                · exact HD'.out i h
                · exact .inr (by have := (HF04.out).size; omega)
              have hsz6 := HF6.out.size
              have hsz5 := (HF04.out).size
              have HFF := Lib.hid hFF
              have HDD := Lib.hid hDD
              clear hFF hDD
              by_cases h0 : er = 0
              · subst h0
                have hw2 := HWA.out
                rw [if_pos rfl] at hw2
                have HW2 := Lib.hid hw2
                have hO6 := owns_fr ((owns_fr HO.out HF04.out (by simp))) HF6.out (fun g' hg' hm => by
                  have h1 := owns_lt' HO1.out g' hg'
                  have h2 := owns_ge HO1.out g' hg'
                  rcases HD'.out g' hm with h | h
                  · have := HDl.out g' h; omega
                  · omega)
                have HO6 := Lib.hid hO6
                clear hw2 hO6
                go_wp2_with fail
                go_roundw
                case rel => exact ⟨k + 1, by omega, by go_num, D6, _, HI6.out, (by rw [HW2.out, show ((s : Int) + (k : Int) + 1) = (s : Int) + ((k + 1 : Nat) : Int) by omega]), by rw [devW_F]; exact HXF.out, by have := devW_O x' ((s : Int) + k) A; omega, HFF.out, by omega, HDD.out, HO6.out⟩
                case measure => simp [intOf]; omega
              · have b1 : (er != 0) = true := by simpa using h0
                have hw2 := HWA.out
                rw [if_neg h0] at hw2
                have HW2 := Lib.hid (HR.out.symm.trans hw2)
                clear hw2
                go_wp2_with fail
                go_ret
                rw [HW2.out]
                exact ⟨rfl, D6, HI6.out, HFF.out, fun i hi => by rcases HDD.out i hi with h | h; exact .inl h; exact .inr (by omega)⟩
            · have b2 : decide ((k : Int) < (m : Nat)) = false := by simp; omega
              have b3 : decide (k < m) = false := by simp; omega
              obtain rfl : A = zeros64 := by rw [← HAA.out]; exact if_neg hkm
              have HFA := Lib.hid ((Fr.refl [] wr).alloc (.cells (bv zeros64) 88))
              go_wp2_with (refine wpList_load_all rfl 88 _ rfl hBT rfl (by rw [hzs]; kernel_rfl) ?_)
              refine (HWR.out zeros64 _ (HI.out.fr HFA.out (by simp)) HAK.out).mono ?_
              rintro e w6 ⟨rfl, D6, hI6, hF6, hD6⟩
              have HI6 := Lib.hid hI6
              have HF6 := Lib.hid hF6
              have HD6 := Lib.hid hD6
              clear hI6 hF6 hD6
              generalize hwe : devWE x' ((s : Int) + k) = er at *
              have HWE := Lib.hid hwe
              clear hwe
              have hFF : Fr D w w6 := ((HFr.out.sub (T := D) (fun i hi => .inl hi)).comp HFA.out (by simp)).comp HF6.out (fun i hi => by rcases HD'.out i hi with h | h; exact .inl h; exact .inr (by omega))
              have hDD : ∀ i, i ∈ D6 → i ∈ D ∨ w1.heap.size ≤ i := fun i hi => by
                rcases HD6.out i hi with h | h
                · exact HD'.out i h
                · exact .inr (by have := (HFA.out).size; omega)
              have hsz6 := HF6.out.size
              have hsz5 := (HFA.out).size
              have HFF := Lib.hid hFF
              have HDD := Lib.hid hDD
              clear hFF hDD
              by_cases h0 : er = 0
              · subst h0
                have hw2 := HWA.out
                rw [if_pos rfl] at hw2
                have HW2 := Lib.hid hw2
                have hO6 := owns_fr ((owns_fr HO.out HFA.out (by simp))) HF6.out (fun g' hg' hm => by
                  have h1 := owns_lt' HO1.out g' hg'
                  have h2 := owns_ge HO1.out g' hg'
                  rcases HD'.out g' hm with h | h
                  · have := HDl.out g' h; omega
                  · omega)
                have HO6 := Lib.hid hO6
                clear hw2 hO6
                go_wp2_with fail
                go_roundw
                case rel => exact ⟨k + 1, by omega, by go_num, D6, _, HI6.out, (by rw [HW2.out, show ((s : Int) + (k : Int) + 1) = (s : Int) + ((k + 1 : Nat) : Int) by omega]), by rw [devW_F]; exact HXF.out, by have := devW_O x' ((s : Int) + k) zeros64; omega, HFF.out, by omega, HDD.out, HO6.out⟩
                case measure => simp [intOf]; omega
              · have b1 : (er != 0) = true := by simpa using h0
                have hw2 := HWA.out
                rw [if_neg h0] at hw2
                have HW2 := Lib.hid (HR.out.symm.trans hw2)
                clear hw2
                go_wp2_with fail
                go_ret
                rw [HW2.out]
                exact ⟨rfl, D6, HI6.out, HFF.out, fun i hi => by rcases HDD.out i hi with h | h; exact .inl h; exact .inr (by omega)⟩
          · obtain rfl : k = n := by omega
            have b0 : decide ((k : Int) < (k : Nat)) = false := by simp
            have hw2 := HR.out.symm.trans HW.out
            rw [List.drop_of_length_le (by omega)] at hw2
            have HW2 := Lib.hid hw2
            clear hw2
            go_wp2_with fail
            go_ret
            rw [HW2.out]
            exact ⟨rfl, D', HI.out, HFr.out, fun i hi => by rcases HD'.out i hi with h | h; exact .inl h; exact .inr (by omega)⟩
  · rw [if_neg h1]
    clear h hE hH
    generalize pgE x.F.length base pages = er at *
    have b1 : (er != 0) = true := by simpa using h1
    go_enter Tryd.func34, Tryd.ntmps34
    go_wp2_with fail
    refine (HC.out _ HH.out).mono ?_
    rintro e w1 ⟨rfl, rfl⟩
    go_wp2_with fail
    go_ret
    exact ⟨rfl, D, HH.out, Fr.refl _ _, fun i hi => .inl hi⟩
end Go.Proofs.YtgmjhpappamenaaDoor
