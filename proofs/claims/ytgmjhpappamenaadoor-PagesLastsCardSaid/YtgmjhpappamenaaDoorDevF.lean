/- dev: a range backward over the open writes. -/
import Derived.Test.YtgmjhpappamenaaDoorDevE
import Derived.Test.YtgmjhpappamenaaDoorRange
namespace Go.Proofs.YtgmjhpappamenaaDoor
open Go.RowKit Go.Shelf
attribute [local go_sem] Oper.semAt_some

section
variable {P : Program} {ops : Array Oper} {Q : Exit → Act → World → Prop}
theorem wpListIn_load_row {F : Fence} {n : Nat} {rest : List Oper} {op : Oper} {a : Act} {w : World} (hgd : op.guard = none) (ty : TypeId) (x : Operand) (ho : op.op = .load ty x) {b off : Nat} {cs : List Value} (hc : w.rangeAt b off cs)
    (hx : a.eval x = .pointer (some ⟨b, off, none⟩)) (h1 : rowTy P ty = some cs.length) (h : wpListIn F n P ops Q rest (a.put op.dst (.agg cs.toArray)) w) : wpListIn F n P ops Q (op :: rest) a w := by
  obtain ⟨d, hu, hd, hi⟩ := rowTy_spec h1
  refine wpListIn_plain hgd fun K hK => ?_
  refine ⟨fun f hf => ?_, ?_⟩
  · unfold Oper.about at hf
    rw [ho] at hf
    cases hf
  · have e : (op.semAt F.round a.eval).run P w = .ok (.value (.agg cs.toArray)) w := by
      rw [Oper.semAt_plain F a.eval op (fun c h => by rw [ho] at h; cases h)]
      unfold execOp
      simp only [ho, hx, Sem.run_bind, run_loadAt_mid w b off ty cs d hc hu hd hi, Result.andThen_ok, Sem.run_pure]
    rw [e, Oper.uponIn_value]
    exact hK _ _ h
end
/-- what a range backward gives, in order -/
def backAt (O : List (Nat × List Nat)) (k : Nat) : Nat × (Nat × List Nat) := (O.length - 1 - k, O[O.length - 1 - k]?.getD (0, []))
def backs (O : List (Nat × List Nat)) : List (Nat × (Nat × List Nat)) := upto (backAt O) O.length
/-- a sector's bytes, whatever comes -/
def fix64 (A : List Nat) : List Nat := if A.length = 64 then A else List.replicate 64 0
theorem fix64_len (A : List Nat) : (fix64 A).length = 64 := by unfold fix64; split <;> simp_all
theorem fix64_of {A : List Nat} (h : A.length = 64) : fix64 A = A := if_pos h
def encB (x : Nat × (Nat × List Nat)) : Array Value := #[.int .i64 (x.1 : Nat), .agg (wrC x.2.1 (fix64 x.2.2)).toArray]
set_option maxRecDepth 100000 in
set_option maxHeartbeats 2000000 in
theorem backward1_in (F : Fence) (n : Nat) (h7 : F.fn 134) (hro : F.round = none) (hn : 1 ≤ n) (l Bs b cap N : Nat) (O : List (Nat × List Nat)) (hO : Opens N O) (hreach : O.length * 65 ≤ 140737488351232) (J Jx : List (Nat × (Nat × List Nat)) → World → Prop)
    (hY : ∀ pre x W, J pre W → pre.length < O.length → YieldAt F (n - 1) Tryd.prog l (encB x) W fun e W' =>
      (e = .returned (.bool true) ∧ J (pre ++ [x]) W' ∧ KpL [b, Bs] W W') ∨ (e = .returned (.bool false) ∧ Jx (pre ++ [x]) W'))
    (W : World) (hBs : Blk W Bs 77 #[.slice (some ⟨b, 0, none⟩) O.length cap]) (cur : Array Value) (hb : Blk W b 95 cur)
    (hc : ∀ k, (h : k < O.length) → ∀ (j : Nat) (v : Value), (wrC O[k].1 O[k].2)[j]? = some v → cur[k * 65 + j]? = some v) (h0 : J [] W) :
    CallsIn F n Tryd.prog 134 #[.func (.yield l) #[] #[], .pointer (some ⟨Bs, 0, none⟩)] W fun e W' => (∃ v, e = .returned v) ∧
      ((∃ ys, ys = backs O ∧ J ys W') ∨ (∃ pre, (∃ k, k ≤ O.length ∧ pre = upto (backAt O) k) ∧ Jx pre W')) := by
  refine callsIn_of_wp Tryd.func134 rfl h7 ?_ hro
  simp only [Tryd.ntmps134, List.size_toArray, List.length_cons, List.length_nil, Nat.reduceAdd, Nat.reduceSub, Array.replicate_succ, Array.replicate_zero, List.push_toArray, List.append_toArray, List.nil_append, List.cons_append]
  have hBc : W.cell? ⟨Bs, 0, none⟩ = some (.slice (some ⟨b, 0, none⟩) O.length cap) := hBs.cell (i := 0) rfl
  gi_wp2
  gi_loopw [3] (fun i wr => ∃ k : Nat, k ≤ O.length ∧ i = .int .i64 ((O.length : Int) - 1 - k) ∧ J (upto (backAt O) k) wr ∧ KpL [b, Bs] W wr)
    (fun i _ => ((intOf i) + 1).toNat)
  case atStart => exact ⟨0, Nat.zero_le _, by simp, h0, KpL.refl _ _⟩
  case round =>
    obtain ⟨k, hk, rfl, hJs, hnx⟩ := hrel
    by_cases hlt : k < O.length
    · obtain ⟨j, hj⟩ : ∃ j, O.length = k + 1 + j := ⟨O.length - 1 - k, by omega⟩
      have hjl : j < O.length := by omega
      have ej : ((O.length : Int) - 1 - (k : Nat)) = (j : Nat) := by omega
      have eb : backAt O k = (j, O[j]) := by
        unfold backAt
        rw [show O.length - 1 - k = j by omega]
        simp [hjl]
      have hRj : wr.rangeAt b (j * 65) (wrC O[j].1 O[j].2) := (hb.kp hnx (by simp)).range _ _ (hc j hjl)
      have hBc' : wr.cell? ⟨Bs, 0, none⟩ = some (.slice (some ⟨b, 0, none⟩) O.length cap) := (hBs.kp hnx (by simp)).cell (i := 0) rfl
      obtain ⟨fn, tmps, assign, body, hy, hR⟩ := hY _ (backAt O k) wr hJs (by rw [upto_length]; exact hlt)
      rw [eb] at hR hy
      simp only [encB, fix64_of (hO _ (List.getElem_mem hjl)).2.1] at hy
      rw [ej]
      have hwl : rowTy Tryd.prog 95 = some (wrC O[j].1 O[j].2).length := by rw [wrC_len _ _ (hO _ (List.getElem_mem hjl)).2.1]; kernel_rfl
      have HR := Lib.hid hR
      have HRJ := Lib.hid hRj
      have HWL := Lib.hid hwl
      have HJ := Lib.hid hJs
      have HC := Lib.hid hc
      have HEB := Lib.hid eb
      have HEJ := Lib.hid (And.intro hj ej)
      clear hR hRj hwl hJs hc eb hY ej hj
      generalize hcs : (wrC O[j].1 O[j].2) = cs at hy HRJ HWL
      clear hcs
      gi_wp2_with (refine wpListIn_load_row rfl 95 _ rfl HRJ.out rfl HWL.out ?_)
      refine HR.out.mono ?_
      rintro e W3 (⟨rfl, hJ3, hk3⟩ | ⟨rfl, hJx3⟩)
      · gi_wp2
        go_roundw
        case rel => exact ⟨k + 1, by omega, by have := HEJ.out; simp; omega, by rw [upto_succ, HEB.out]; exact hJ3, hnx.trans hk3⟩
        case measure => have := HEJ.out; simp [intOf]
      · gi_wp2
        refine bodyPost_ret (results_none rfl _ _ _) rfl ?_
        exact ⟨⟨_, rfl⟩, .inr ⟨_, ⟨k + 1, by omega, by rw [upto_succ, HEB.out]⟩, hJx3⟩⟩
    · obtain rfl : k = O.length := by omega
      have e0 : ((O.length : Int) - 1 - (O.length : Nat)) = -1 := by omega
      rw [e0]
      gi_wp2
      go_end0
      exact ⟨⟨_, rfl⟩, .inl ⟨_, rfl, hJs⟩⟩
set_option maxRecDepth 100000 in
set_option maxHeartbeats 1000000 in
theorem backward1_nil_in (F : Fence) (n : Nat) (h7 : F.fn 134) (hro : F.round = none) (l Bs : Nat) (J : List (Nat × (Nat × List Nat)) → World → Prop) (W : World) (hBs : W.cell? ⟨Bs, 0, none⟩ = some (.slice none 0 0)) (h0 : J [] W) :
    CallsIn F n Tryd.prog 134 #[.func (.yield l) #[] #[], .pointer (some ⟨Bs, 0, none⟩)] W fun e W' => (∃ v, e = .returned v) ∧ J [] W' := by
  refine callsIn_of_wp Tryd.func134 rfl h7 ?_ hro
  simp only [Tryd.ntmps134, List.size_toArray, List.length_cons, List.length_nil, Nat.reduceAdd, Nat.reduceSub, Array.replicate_succ, Array.replicate_zero, List.push_toArray, List.append_toArray, List.nil_append, List.cons_append]
  gi_wp2
  gi_loopw [3] (fun i wr => i = .int .i64 (-1) ∧ J [] wr) (fun _ _ => 0)
  case atStart => exact ⟨rfl, h0⟩
  case round =>
    obtain ⟨rfl, hJs⟩ := hrel
    gi_wp2
    go_end0
    exact ⟨⟨_, rfl⟩, hJs⟩
theorem openC_wrC {n : Nat} {O : List (Nat × List Nat)} (hO : Opens n O) (k : Nat) (h : k < O.length) (j : Nat) (v : Value) (hj : (wrC O[k].1 O[k].2)[j]? = some v) : (openC O)[k * 65 + j]? = some v := by
  obtain ⟨h1, h2⟩ := openC_get hO k h
  cases j with
  | zero => rw [← hj]; exact h1
  | succ j => rw [← h2 j v (by simpa [wrC] using hj)]; congr 1; omega
theorem backward_stops (F : Fence) (n : Nat) (h7 : F.fn 134) (hro : F.round = none) (hn : 1 ≤ n) (Bs base N : Nat) (sv : Value) (O : List (Nat × List Nat)) (hO : Opens N O) (hreach : O.length * 65 ≤ 140737488351232) (w : World)
    (hc : Blk w Bs 77 #[sv]) (hI : w.ownsRow base 95 65 sv O.length (openC O)) :
    SeqStopsK F n Tryd.prog 134 #[.pointer (some ⟨Bs, 0, none⟩)] encB (KpL (Bs :: sv.ownBlock.toList)) (fun ys => ys = backs O) (fun pre => ∃ k, k ≤ O.length ∧ pre = upto (backAt O) k) O.length w := fun l J Jx W hW _ _ hY h0 => by
  have hc' := hc.below hW hc.lt
  obtain ⟨h1, ⟨rfl, hz⟩ | ⟨g, cap, cur, rfl, hg, hh, hcur, hcap, hs, ht⟩⟩ := hI
  · obtain rfl : O = [] := List.eq_nil_of_length_eq_zero (by omega)
    exact (backward1_nil_in F n h7 hro l Bs J W (hc'.cell rfl) h0).mono fun e W' ⟨he, hj⟩ => ⟨he, .inl ⟨_, rfl, hj⟩⟩
  · have hb : Blk w g 95 cur := hh
    have hb' := hb.below hW hb.lt
    refine (backward1_in F n h7 hro hn l Bs g cap N O hO hreach J Jx (fun pre x W1 hJ hl => ?_) W hc' cur hb' ?_ h0).mono ?_
    · obtain ⟨fn, tmps, assign, body, hy, hR⟩ := hY pre x W1 hJ hl
      refine ⟨fn, tmps, assign, body, hy, hR.mono fun e W' h => h.imp (fun ⟨a, b, c⟩ => ⟨a, b, ⟨c.size, fun k hk hl => c.block k (by simp [Value.ownBlock] at hk ⊢; omega) hl⟩⟩) id⟩
    · intro k hk j v hj
      exact take_get ht (openC_wrC hO k hk j v hj)
    · exact fun e W' h => h
/-- slices.Backward boxes what it is given -/
theorem backward_any (a : Option Addr) (len cap : Nat) (w : World) :
    Calls Tryd.prog 119 #[.slice a len cap] w fun e w' => e = .returned (.func (.func 134) #[] #[.pointer (some ⟨w.heap.size, 0, none⟩)]) ∧ w' = w.alloc (.cells #[.slice a len cap] 77) := by
  go_enter Tryd.func119, Tryd.ntmps119
  go_wp2
  go_ret
  exact ⟨rfl, rfl⟩
theorem backs_snd (O : List (Nat × List Nat)) : (backs O).map Prod.snd = O.reverse := by
  apply List.ext_getElem
  · simp [backs, upto]
  · intro i h1 h2
    have hi : i < O.length := by simpa using h2
    have hj : O.length - 1 - i < O.length := by omega
    simp [backs, upto, backAt, hj]
/-- the range's body: the first that fits is taken -/
theorem shown_none {F : List (List Nat)} {O : List (Nat × List Nat)} {s : Nat} (h : ∀ x, x ∈ backs O → ¬ x.2.1 = s) : shownL F O s = F.getD s [] := by
  unfold shownL
  rw [← backs_snd]
  have : ((backs O).map Prod.snd).find? (fun p => p.1 == s) = none := by
    rw [List.find?_eq_none]
    intro p hp
    obtain ⟨x, hx, rfl⟩ := List.mem_map.1 hp
    simpa using h x hx
  rw [this]
  rfl
theorem shown_some {F : List (List Nat)} {O : List (Nat × List Nat)} {s k : Nat} {pre : List (Nat × (Nat × List Nat))} {x : Nat × (Nat × List Nat)} (hk : k ≤ O.length) (hp : pre ++ [x] = upto (backAt O) k) (h : ∀ y, y ∈ pre → ¬ y.2.1 = s) (hx : x.2.1 = s) : shownL F O s = x.2.2 := by
  unfold shownL
  rw [← backs_snd]
  have e : backs O = pre ++ x :: (backs O).drop k := by
    have : upto (backAt O) k = (backs O).take k := by
      apply List.ext_getElem
      · simp [upto, backs, hk]
      · intro i h1 h2
        simp [upto, backs]
    have h2 := List.take_append_drop k (backs O)
    rw [← this, ← hp] at h2
    have h3 : pre ++ x :: (backs O).drop k = backs O := by simpa using h2
    exact h3.symm
  have : ((backs O).map Prod.snd).find? (fun p => p.1 == s) = some x.2 := by
    rw [e, List.map_append, List.find?_append, List.find?_eq_none.2 (by
      intro p hp
      obtain ⟨y, hy, rfl⟩ := List.mem_map.1 hp
      simpa using h y hy)]
    simp [hx]
  rw [this]
  rfl
theorem shownL_secs {n : Nat} {F : List (List Nat)} {O : List (Nat × List Nat)} {s : Nat} (hF : Secs F) (hO : Opens n O) (hs : s < F.length) : (shownL F O s).length = 64 ∧ ∀ y, y ∈ shownL F O s → y < 256 := by
  unfold shownL
  cases hf : O.reverse.find? (fun p => p.1 == s) with
  | none =>
    simp only [Option.elim_none]
    have : F.getD s [] = F[s] := by simp [hs]
    rw [this]
    exact hF _ (List.getElem_mem hs)
  | some p =>
    have hm := List.mem_of_find?_eq_some hf
    exact (hO p (by simpa using hm)).2
end Go.Proofs.YtgmjhpappamenaaDoor
