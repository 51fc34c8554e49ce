/- PagesTurns: plain: what is saved by turns. -/
import Derived.Test.YtgmjhpappamenaaDoorPageO
import Derived.IntWalk
namespace Go.Proofs.YtgmjhpappamenaaDoor
open Go.RowKit Go.Shelf

/-- the checkpoint that is not to be written next -/
def OtherOk (F : List (List Nat)) (a p i : Nat) : Prop :=
  (i = 0 ∧ (F.drop (a + p)).take p = List.replicate p zero64) ∨ (0 < i ∧ jR ((F.drop (a + (i + 1) % 2 * p)).take p) = true ∧ jSeq ((F.drop (a + (i + 1) % 2 * p)).take p) = 3 * ((i : Int) - 1))
theorem turn_step (F F1 : List (List Nat)) (a p i : Nat) (l : List En) (hF : F.length = 30) (ha : a ≤ 10) (hp1 : 1 ≤ p) (hp : p ≤ 10) (h : OtherOk F a p i)
    (hs : F1 = putF F (a + i % 2 * p) (pgAll l (3 * (i : Int)) p) ∧ needN l.length ≤ p ∧ ∀ k, k < needN l.length → pgEr l (3 * (i : Int)) k = 0) :
    F1.length = 30 ∧ pgNw (calm F1) a p = ⟨calm F1, (i % 2 : Nat), 3 * (i : Int), l, 0⟩ ∧ OtherOk F1 a p (i + 1) := by
  have hL := pgAll_len l (3 * (i : Int)) p
  obtain ⟨x1, x2, x3⟩ := pgAll_back l (3 * (i : Int)) p hs.2.1 hs.2.2
  have hm : i % 2 = 0 ∨ i % 2 = 1 := by omega
  rcases hm with hm | hm
  · have h0 := hs.1
    rw [hm, Nat.zero_mul, Nat.add_zero] at h0
    have hl1 : F1.length = 30 := by rw [h0, putF_len _ _ _ (by omega), hF]
    have r0 : (F1.drop a).take p = pgAll l (3 * (i : Int)) p := by
      rw [h0]; have := putF_read F (pgAll l (3 * (i : Int)) p) a (by omega); rwa [hL] at this
    have r1 : (F1.drop (a + p)).take p = (F.drop (a + p)).take p := by rw [h0, putF_behind F _ a (a + p) p (by omega) (by omega)]
    refine ⟨hl1, ?_, .inr ⟨by omega, ?_, ?_⟩⟩
    · rw [nw_ok F1 a p (by unfold pgE; rw [if_neg (by omega)]), r0, r1, x1, x2, x3, hm]
      rcases h with ⟨h1, h2⟩ | ⟨h1, h2, h3⟩
      · rw [h2, jR_zero]
        unfold nwOf
        simp
      · rw [show (i + 1) % 2 = 1 by omega, Nat.one_mul] at h2 h3
        rw [h2, h3]
        unfold nwOf
        simp only [if_true]
        rw [if_neg (by omega), if_neg (by omega)]
        rfl
    · rw [show (i + 1 + 1) % 2 = 0 by omega, Nat.zero_mul, Nat.add_zero, r0]; exact x1
    · rw [show (i + 1 + 1) % 2 = 0 by omega, Nat.zero_mul, Nat.add_zero, r0, x2]; omega
  · have h0 := hs.1
    rw [hm, Nat.one_mul] at h0
    have hl1 : F1.length = 30 := by rw [h0, putF_len _ _ _ (by omega), hF]
    have r1 : (F1.drop (a + p)).take p = pgAll l (3 * (i : Int)) p := by
      rw [h0]; have := putF_read F (pgAll l (3 * (i : Int)) p) (a + p) (by omega); rwa [hL] at this
    have r0 : (F1.drop a).take p = (F.drop a).take p := by rw [h0, putF_ahead F _ (a + p) a p (by omega) (by omega)]
    refine ⟨hl1, ?_, .inr ⟨by omega, ?_, ?_⟩⟩
    · rw [nw_ok F1 a p (by unfold pgE; rw [if_neg (by omega)]), r0, r1, x1, x2, x3, hm]
      rcases h with ⟨h1, h2⟩ | ⟨h1, h2, h3⟩
      · omega
      · rw [show (i + 1) % 2 = 0 by omega, Nat.zero_mul, Nat.add_zero] at h2 h3
        rw [h2, h3]
        unfold nwOf
        simp only [if_true]
        rw [if_neg (by omega), if_pos (by omega)]
        rfl
    · rw [show (i + 1 + 1) % 2 = 1 by omega, Nat.one_mul, r1]; exact x1
    · rw [show (i + 1 + 1) % 2 = 1 by omega, Nat.one_mul, r1, x2]; omega
/-- rows of entries, as cells tell them -/
def IsRows (w : World) (oa : Option Addr) (rs : List (Option Addr × Nat × List En)) : Prop :=
  ∀ (i : Nat) (h : i < rs.length), ∃ b off, oa = some ⟨b, off, none⟩ ∧ w.cell? ⟨b, off + i, none⟩ = some (.slice rs[i].1 rs[i].2.2.length rs[i].2.1) ∧ rs[i].2.2.length ≤ rs[i].2.1 ∧ IsRow w rs[i].1 (ensC rs[i].2.2)
end Go.Proofs.YtgmjhpappamenaaDoor

/- PagesTurns: the walk. -/
namespace Go.Proofs.YtgmjhpappamenaaDoor
open Go.RowKit Go.Shelf

theorem awake_ok (w : World) : Calls Tryd.prog 10 #[] w fun e w' => e = .returned (.bool true) ∧ w = w' := awake13_any w
set_option maxRecDepth 100000 in
set_option maxHeartbeats 1000000 in
theorem PagesTurns_out (a p : Int) (oa : Option Addr) (n cap : Nat) (w : World) (h : a < 0 ∨ 10 < a ∨ p < 1 ∨ 10 < p ∨ 8 < n) :
    Calls Tryd.prog 3 #[.agg #[.int .i64 a, .int .i64 p], .slice oa n cap] w fun e w' => e = .returned (.bool true) ∧ Fr [] w w' := by
  have hFw := ((Fr.refl [] w).alloc (.cells #[.int .i64 a, .int .i64 p] 22))
  cases d1 : decide (a < 0)
  cases d2 : decide (10 < a)
  cases d3 : decide (p < 1)
  cases d4 : decide (10 < p)
  cases d5 : decide ((8 : Int) < (n : Nat))
  · exfalso
    simp only [decide_eq_false_iff_not] at d1 d2 d3 d4 d5
    omega
  all_goals
    clear h
    go_enter Tryd.func3, Tryd.ntmps3
    go_wp2_with fail
    refine (awake13_any _).mono ?_
    rintro e w1 ⟨rfl, rfl⟩
    go_wp2_with fail
    go_ret
    exact ⟨rfl, hFw⟩
set_option maxRecDepth 100000 in
set_option maxHeartbeats 1000000 in
theorem PagesTurns_in (a p : Nat) (oa : Option Addr) (cap : Nat) (rs : List (Option Addr × Nat × List En)) (w : World) (hH : Halves w) (hR : IsRows w oa rs) (ha : a ≤ 10) (hp1 : 1 ≤ p) (hp : p ≤ 10) (hn : rs.length ≤ 8) :
    Calls Tryd.prog 3 #[.agg #[.int .i64 (a : Nat), .int .i64 (p : Nat)], .slice oa rs.length cap] w fun e w' => e = .returned (.bool true) ∧ Fr [] w w' := by
  have g1 : decide (((a : Nat) : Int) < 0) = false := by simp
  have g2 : decide ((10 : Int) < (a : Nat)) = false := by simp; omega
  have g3 : decide (((p : Nat) : Int) < 1) = false := by simp; omega
  have g4 : decide ((10 : Int) < (p : Nat)) = false := by simp; omega
  have g5 : decide ((8 : Int) < (rs.length : Nat)) = false := by simp; omega
  have HR := Lib.hid hR
  have HH := Lib.hid hH
  have hFw := ((Fr.refl [] w).alloc (.cells #[.int .i64 (a : Nat), .int .i64 (p : Nat)] 22))
  have hA := (Blk.new w #[.int .i64 (a : Nat), .int .i64 (p : Nat)] 22)
  generalize hW : (w.alloc (.cells #[.int .i64 (a : Nat), .int .i64 (p : Nat)] 22)) = W0 at *
  have hsW : W0.heap.size = w.heap.size + 1 := by rw [← hW]; simp
  have HW := Lib.hid hW
  have HSW := Lib.hid hsW
  have HFw := Lib.hid hFw
  have HC := Lib.hid (fun (W : World) (hF : Fr [] W0 W) => hA.fr hF (by simp))
  have HB := Lib.hid (And.intro ha (And.intro hp1 (And.intro hp hn)))
  clear hA hFw hsW hW hR hH ha hp1 hp hn
  go_enter Tryd.func3, Tryd.ntmps3
  go_wp2_with fail
  rw [HW.out]
  refine (devNew_any 30 W0 (by omega) (by omega)).mono ?_
  rintro e w1 ⟨b, D1, rfl, hI1, hD1, hF1⟩
  have hI1 : IsDev w1 b D1 (calm fresh30) := hI1
  have HF1 := Lib.hid hF1
  have HI1 := Lib.hid hI1
  have HD1 := Lib.hid hD1
  clear hF1 hI1 hD1
  have hh := HH.out.lt
  have HHA := Lib.hid (show ∀ W, Fr [] W0 W → Halves W from fun W hF => HH.out.keep (HFw.out.trans hF) (by simp))
  have HNH := Lib.hid (show ∀ i, W0.heap.size ≤ i → ¬ i = 0 from fun i hi => by have := HSW.out; omega)
  have HO0 : Hid (OtherOk fresh30 a p 0) := Lib.hid (.inl ⟨rfl, by have := HB.out; unfold fresh30; rw [List.drop_replicate, List.take_replicate, Nat.min_eq_left (by omega)]⟩)
  clear hh
  go_wp2_with fail
  go_loopw [7] (fun i wr => ∃ k : Nat, k ≤ rs.length ∧ i = .int .i64 k ∧ ∃ D F, IsDev wr b D (calm F) ∧ F.length = 30 ∧ OtherOk F a p k ∧ (∀ i, i ∈ D → W0.heap.size ≤ i) ∧ Fr [] W0 wr) (fun i _ => rs.length - (intOf i).toNat)
  case atStart => exact ⟨0, Nat.zero_le _, rfl, D1, fresh30, HI1.out, rfl, HO0.out, HD1.out, HF1.out⟩
  case round =>
    obtain ⟨k, hk, rfl, D, F, hI, hFl, hO, hD, hF⟩ := hrel
    have HI := Lib.hid hI
    have HFL := Lib.hid hFl
    have HO := Lib.hid hO
    have HD := Lib.hid hD
    have HF := Lib.hid hF
    clear hI hFl hO hD hF
    by_cases hlt : k < rs.length
    · have b0 : decide ((k : Int) < (rs.length : Nat)) = true := by simp; omega
      obtain ⟨gb, off, rfl, hcell, hcap, hrow⟩ := HR.out k hlt
      have hgl := World.block_lt_of_cell? w _ hcell
      simp only at hgl
      have HROW := Lib.hid hrow
      have hcl : wr.cell? ⟨gb, off + k, none⟩ = some (.slice rs[k].1 rs[k].2.2.length rs[k].2.1) := cell_fr (HFw.out.trans HF.out) (by simp) hcell
      have HCL := Lib.hid hcell
      clear hrow hcell
      generalize rs[k] = r at *
      obtain ⟨oar, capr, l⟩ := r
      simp only at hcl hcap HROW HCL
      have hB2 := HC.out wr HF.out
      have hg0 : gb < W0.heap.size := by have := HSW.out; omega
      have hw0 : w.heap.size < W0.heap.size := by have := HSW.out; omega
      have hWr : W0.heap.size ≤ wr.heap.size := HF.out.size
      have hk8 : k ≤ 8 := by have := HB.out; omega
      by_cases h40 : 40 < l.length
      · have d40 : decide ((40 : Int) < (l.length : Nat)) = true := by simp; omega
        go_upto_region 9 with fail
        refine region_old (W0.heap.size) [] (.take 0 (.take 1 (.take 2 (.take 3 (.take 4 (.take 5 (.take 6 (.take 7 (.take 8 (.take 9 (.take 10 (.take 11 (.take 12 (.take 13 (.take 14 (.take 15 (.take 16 (.take 17 (.take 18 (.take 19 (.take 20 (.take 21 (.take 22 .done))))))))))))))))))))))) (by kernel_rfl) (by kernel_rfl) ?_
        simp only [ordList, Ord.map, List.getD_cons_zero, List.getD_cons_succ]
        refine' ord_pure (v := _) ?_ rfl ?_; rotate_left; focus (intro w; go_simp <;> (first | (with_reducible rfl) | (constructor <;> with_reducible rfl)))
        simp only [Act.put, List.setIfInBounds_toArray, List.set_cons_zero, List.set_cons_succ]
        refine' ord_pure (v := _) ?_ rfl ?_; rotate_left; focus (intro w; go_simp <;> (first | (with_reducible rfl) | (constructor <;> with_reducible rfl)))
        simp only [Act.put, List.setIfInBounds_toArray, List.set_cons_zero, List.set_cons_succ]
        refine' ord_pure (v := _) ?_ rfl ?_; rotate_left; focus (intro w; go_simp <;> (first | (with_reducible rfl) | (constructor <;> with_reducible rfl)))
        simp only [Act.put, List.setIfInBounds_toArray, List.set_cons_zero, List.set_cons_succ]
        refine ord_loadO rfl rfl (by kernel_rfl) rfl hcl (by first | exact hg0 | exact hw0) (by simp) ?_
        simp only [Act.put, List.setIfInBounds_toArray, List.set_cons_zero, List.set_cons_succ]
        refine' ord_pure (v := _) ?_ rfl ?_; rotate_left; focus (intro w; go_simp <;> (first | (with_reducible rfl) | (constructor <;> with_reducible rfl)))
        simp only [Act.put, List.setIfInBounds_toArray, List.set_cons_zero, List.set_cons_succ]
        refine' ord_pure (v := _) ?_ rfl ?_; rotate_left; focus (intro w; go_simp <;> (first | (with_reducible rfl) | (constructor <;> with_reducible rfl)))
        simp only [Act.put, List.setIfInBounds_toArray, List.set_cons_zero, List.set_cons_succ]
        refine' ord_pure (v := _) ?_ rfl ?_; rotate_left; focus (intro w; go_simp <;> (first | (with_reducible rfl) | (constructor <;> with_reducible rfl)))
        simp only [Act.put, List.setIfInBounds_toArray, List.set_cons_zero, List.set_cons_succ]
        refine ord_shut rfl ?_
        simp only [Act.put, List.setIfInBounds_toArray, List.set_cons_zero, List.set_cons_succ]
        refine ord_shut rfl ?_
        simp only [Act.put, List.setIfInBounds_toArray, List.set_cons_zero, List.set_cons_succ]
        refine ord_shut rfl ?_
        simp only [Act.put, List.setIfInBounds_toArray, List.set_cons_zero, List.set_cons_succ]
        refine ord_shut rfl ?_
        simp only [Act.put, List.setIfInBounds_toArray, List.set_cons_zero, List.set_cons_succ]
        refine ord_shut rfl ?_
        simp only [Act.put, List.setIfInBounds_toArray, List.set_cons_zero, List.set_cons_succ]
        refine ord_shut rfl ?_
        simp only [Act.put, List.setIfInBounds_toArray, List.set_cons_zero, List.set_cons_succ]
        refine ord_shut rfl ?_
        simp only [Act.put, List.setIfInBounds_toArray, List.set_cons_zero, List.set_cons_succ]
        refine ord_shut rfl ?_
        simp only [Act.put, List.setIfInBounds_toArray, List.set_cons_zero, List.set_cons_succ]
        refine ord_shut rfl ?_
        simp only [Act.put, List.setIfInBounds_toArray, List.set_cons_zero, List.set_cons_succ]
        refine ord_shut rfl ?_
        simp only [Act.put, List.setIfInBounds_toArray, List.set_cons_zero, List.set_cons_succ]
        refine ord_shut rfl ?_
        simp only [Act.put, List.setIfInBounds_toArray, List.set_cons_zero, List.set_cons_succ]
        refine ord_shut rfl ?_
        simp only [Act.put, List.setIfInBounds_toArray, List.set_cons_zero, List.set_cons_succ]
        refine ord_shut rfl ?_
        simp only [Act.put, List.setIfInBounds_toArray, List.set_cons_zero, List.set_cons_succ]
        refine ord_shut rfl ?_
        simp only [Act.put, List.setIfInBounds_toArray, List.set_cons_zero, List.set_cons_succ]
        refine ord_shut rfl ?_
        simp only [Act.put, List.setIfInBounds_toArray, List.set_cons_zero, List.set_cons_succ]
        refine' ord_pure (v := _) ?_ rfl ?_; rotate_left; focus (intro w; go_simp <;> (first | (with_reducible rfl) | (constructor <;> with_reducible rfl)))
        simp only [Act.put, List.setIfInBounds_toArray, List.set_cons_zero, List.set_cons_succ]
        refine ord_nil ?_
        go_wp2_with fail
        refine (awake13_any _).mono ?_
        rintro e w2 ⟨rfl, rfl⟩
        go_wp2_with fail
        go_ret
        exact ⟨rfl, (HFw.out.trans HF.out).drew⟩
      · have d40 : decide ((40 : Int) < (l.length : Nat)) = false := by simp; omega
        obtain ⟨F1, f, e1, hl1, hf⟩ := sv_form F a p (k % 2) (3 * (k : Int)) l (by
          have := HB.out
          unfold pgE
          have hz : ((k % 2 : Nat) : Int) * (p : Nat) ≤ p := by
            have h2 : k % 2 = 0 ∨ k % 2 = 1 := by omega
            rcases h2 with h | h <;> rw [h] <;> simp
          have hz0 : 0 ≤ ((k % 2 : Nat) : Int) * (p : Nat) := by
            have h2 : k % 2 = 0 ∨ k % 2 = 1 := by omega
            rcases h2 with h | h <;> rw [h] <;> simp
          rw [HFL.out, if_neg (by omega)])
        have HE1 := Lib.hid (And.intro e1 (And.intro hl1 hf))
        have HSV := Lib.hid (fun W (hFW : Fr [] wr W) => pgSave_any b D (calm F) a p ((k % 2 : Nat) : Int) (3 * (k : Int)) oar capr l W (HI.out.fr hFW (by simp)) (HROW.out.keep ((HFw.out.trans HF.out).trans hFW) (by simp)) hcap (by omega) (HHA.out W (HF.out.trans hFW)) (by simp [calm]) (by omega) (by have := HB.out; omega) (by omega) (by have := HB.out; omega) (by omega))
        rw [e1] at HSV
        have ew : IntKind.i64.wrap (3 * (k : Int)) = 3 * (k : Int) := IntWalk.i64_in _ (by omega)
        have HSW2 := Lib.hid ew
        have HSV := Lib.hid (fun W (hFW : Fr [] wr W) => show Calls Tryd.prog 12 #[.pointer (some ⟨b, 0, none⟩), .int .i64 (a : Nat), .int .i64 (p : Nat), .int .i64 ((k : Int).tmod 2), .int .i64 (IntKind.i64.wrap (3 * (k : Int))), .slice oar l.length capr] W
          (fun e w' => e = .returned (.int .i64 f) ∧ ∃ D', IsDev w' b D' (calm F1) ∧ Fr D W w' ∧ ∀ i, i ∈ D' → i ∈ D ∨ W.heap.size ≤ i) by rw [HSW2.out]; exact HSV.out W hFW)
        clear e1 hl1 hf ew
        go_upto_region 9 with fail
        refine region_old (W0.heap.size) [] (.take 0 (.take 1 (.take 2 (.take 3 (.take 4 (.take 5 (.take 6 (.take 7 (.take 8 (.take 9 (.take 10 (.take 11 (.take 12 (.take 13 (.take 14 (.take 15 (.take 16 (.take 17 (.take 18 (.take 19 (.pick 20 (.take 21 (.take 22 .done)) .none))))))))))))))))))))) (by kernel_rfl) (by kernel_rfl) ?_
        simp only [ordList, Ord.map, List.getD_cons_zero, List.getD_cons_succ]
        refine' ord_pure (v := _) ?_ rfl ?_; rotate_left; focus (intro w; go_simp <;> (first | (with_reducible rfl) | (constructor <;> with_reducible rfl)))
        simp only [Act.put, List.setIfInBounds_toArray, List.set_cons_zero, List.set_cons_succ]
        refine' ord_pure (v := _) ?_ rfl ?_; rotate_left; focus (intro w; go_simp <;> (first | (with_reducible rfl) | (constructor <;> with_reducible rfl)))
        simp only [Act.put, List.setIfInBounds_toArray, List.set_cons_zero, List.set_cons_succ]
        refine' ord_pure (v := _) ?_ rfl ?_; rotate_left; focus (intro w; go_simp <;> (first | (with_reducible rfl) | (constructor <;> with_reducible rfl)))
        simp only [Act.put, List.setIfInBounds_toArray, List.set_cons_zero, List.set_cons_succ]
        refine ord_loadO rfl rfl (by kernel_rfl) rfl hcl (by first | exact hg0 | exact hw0) (by simp) ?_
        simp only [Act.put, List.setIfInBounds_toArray, List.set_cons_zero, List.set_cons_succ]
        refine' ord_pure (v := _) ?_ rfl ?_; rotate_left; focus (intro w; go_simp <;> (first | (with_reducible rfl) | (constructor <;> with_reducible rfl)))
        simp only [Act.put, List.setIfInBounds_toArray, List.set_cons_zero, List.set_cons_succ]
        refine' ord_pure (v := _) ?_ rfl ?_; rotate_left; focus (intro w; go_simp <;> (first | (with_reducible rfl) | (constructor <;> with_reducible rfl)))
        simp only [Act.put, List.setIfInBounds_toArray, List.set_cons_zero, List.set_cons_succ]
        refine' ord_pure (v := _) ?_ rfl ?_; rotate_left; focus (intro w; go_simp <;> (first | (with_reducible rfl) | (constructor <;> with_reducible rfl)))
        simp only [Act.put, List.setIfInBounds_toArray, List.set_cons_zero, List.set_cons_succ]
        refine' ord_pure (v := _) ?_ rfl ?_; rotate_left; focus (intro w; go_simp <;> (first | (with_reducible rfl) | (constructor <;> with_reducible rfl)))
        simp only [Act.put, List.setIfInBounds_toArray, List.set_cons_zero, List.set_cons_succ]
        refine' ord_pure (v := _) ?_ rfl ?_; rotate_left; focus (intro w; go_simp <;> (first | (with_reducible rfl) | (constructor <;> with_reducible rfl)))
        simp only [Act.put, List.setIfInBounds_toArray, List.set_cons_zero, List.set_cons_succ]
        refine ord_cellO hB2 (by first | exact hg0 | exact hw0) (by simp) rfl rfl (by kernel_rfl) rfl rfl ?_
        simp only [Act.put, List.getElem_toArray, List.getElem_cons_zero, List.getElem_cons_succ, List.setIfInBounds_toArray, List.set_cons_zero, List.set_cons_succ]
        refine' ord_pure (v := _) ?_ rfl ?_; rotate_left; focus (intro w; go_simp <;> (first | (with_reducible rfl) | (constructor <;> with_reducible rfl)))
        simp only [Act.put, List.setIfInBounds_toArray, List.set_cons_zero, List.set_cons_succ]
        refine ord_cellO hB2 (by first | exact hg0 | exact hw0) (by simp) rfl rfl (by kernel_rfl) rfl rfl ?_
        simp only [Act.put, List.getElem_toArray, List.getElem_cons_zero, List.getElem_cons_succ, List.setIfInBounds_toArray, List.set_cons_zero, List.set_cons_succ]
        refine' ord_pure (v := _) ?_ rfl ?_; rotate_left; focus (intro w; go_simp <;> (first | (with_reducible rfl) | (constructor <;> with_reducible rfl)))
        simp only [Act.put, List.setIfInBounds_toArray, List.set_cons_zero, List.set_cons_succ]
        refine' ord_pure (v := _) ?_ rfl ?_; rotate_left; focus (intro w; go_simp <;> (first | (with_reducible rfl) | (constructor <;> with_reducible rfl)))
        simp only [Act.put, List.setIfInBounds_toArray, List.set_cons_zero, List.set_cons_succ]
        refine' ord_pure (v := _) ?_ rfl ?_; rotate_left; focus (intro w; go_simp <;> (first | (with_reducible rfl) | (constructor <;> with_reducible rfl)))
        simp only [Act.put, List.setIfInBounds_toArray, List.set_cons_zero, List.set_cons_succ]
        refine' ord_pure (v := _) ?_ rfl ?_; rotate_left; focus (intro w; go_simp <;> (first | (with_reducible rfl) | (constructor <;> with_reducible rfl)))
        simp only [Act.put, List.setIfInBounds_toArray, List.set_cons_zero, List.set_cons_succ]
        refine' ord_pure (v := _) ?_ rfl ?_; rotate_left; focus (intro w; go_simp <;> (first | (with_reducible rfl) | (constructor <;> with_reducible rfl)))
        simp only [Act.put, List.setIfInBounds_toArray, List.set_cons_zero, List.set_cons_succ]
        refine' ord_pure (v := _) ?_ rfl ?_; rotate_left; focus (intro w; go_simp <;> (first | (with_reducible rfl) | (constructor <;> with_reducible rfl)))
        simp only [Act.put, List.setIfInBounds_toArray, List.set_cons_zero, List.set_cons_succ]
        refine' ord_pure (v := _) ?_ rfl ?_; rotate_left; focus (intro w; go_simp <;> (first | (with_reducible rfl) | (constructor <;> with_reducible rfl)))
        simp only [Act.put, List.setIfInBounds_toArray, List.set_cons_zero, List.set_cons_succ]
        refine ord_loadO rfl rfl (by kernel_rfl) rfl hcl (by first | exact hg0 | exact hw0) (by simp) ?_
        simp only [Act.put, List.setIfInBounds_toArray, List.set_cons_zero, List.set_cons_succ]
        -- 20: t72 := CALL lavabo/pages.Save(t59, t61, t63, t65, t67, t71)   [if op6=false]   {6,7,9,11,13,15,19}
        refine' ord_call (f := 12) (args := _) ?_ rfl ?_; rotate_left; focus (go_simp <;> (first | (with_reducible rfl) | (constructor <;> with_reducible rfl)))
        refine (HSV.out _ ((Fr.refl _ _).drew)).mono ?_
        rintro e w2 ⟨rfl, D2, hI2, hF2, hD2⟩
        have hF : Old W0.heap.size [] _ w2 := old_fr hF2 hWr (fun i hi => .inr (HD.out i hi))
        have HX := Lib.hid (And.intro hI2 (And.intro hF2 hD2))
        clear hI2 hF2 hD2
        refine ⟨_, rfl, hF, ?_⟩
        simp only [Act.put, List.setIfInBounds_toArray, List.set_cons_zero, List.set_cons_succ]
        refine' ord_pure (v := _) ?_ rfl ?_; rotate_left; focus (intro w; go_simp <;> (first | (with_reducible rfl) | (constructor <;> with_reducible rfl)))
        simp only [Act.put, List.setIfInBounds_toArray, List.set_cons_zero, List.set_cons_succ]
        refine' ord_pure (v := _) ?_ rfl ?_; rotate_left; focus (intro w; go_simp <;> (first | (with_reducible rfl) | (constructor <;> with_reducible rfl)))
        simp only [Act.put, List.setIfInBounds_toArray, List.set_cons_zero, List.set_cons_succ]
        refine ord_nil ?_
        have HF2 := Lib.hid (show Fr [] W0 w2 from (HF.out.drew).comp HX.out.2.1 (fun i hi => .inr (HD.out i hi)))
        have HD2 := Lib.hid (show ∀ i, i ∈ D2 → W0.heap.size ≤ i from fun i hi => by rcases HX.out.2.2 i hi with h | h; exact HD.out i h; have h2 : wr.heap.size ≤ i := h; omega)
        clear hF
        have hc2 := HC.out w2 HF2.out
        have c0 : w2.cell? ⟨w.heap.size, 0, none⟩ = some (.int .i64 (a : Nat)) := hc2.cell rfl
        have c1 : w2.cell? ⟨w.heap.size, 1, none⟩ = some (.int .i64 (p : Nat)) := hc2.cell rfl
        by_cases hf0 : f = 0
        · subst hf0
          obtain ⟨hl1, hnw, hoth⟩ := turn_step F F1 a p k l HFL.out (by have := HB.out; omega) (by have := HB.out; omega) (by have := HB.out; omega) HO.out (HE1.out.2.2 rfl)
          have hNW := pgNewest_any b D2 (calm F1) a p w2 HX.out.1 (by simp [calm]) (HHA.out w2 HF2.out) (fun i hi => HNH.out i (HD2.out i hi)) (by omega) (by have := HB.out; omega) (by omega) (by have := HB.out; omega)
          rw [hnw] at hNW
          have HNW := Lib.hid hNW
          have HL1 := Lib.hid (And.intro hl1 hoth)
          clear hl1 hnw hoth hNW
          go_wp2_with fail
          refine HNW.out.mono ?_
          rintro e w3 ⟨sv3, rfl, hown3, D3, hI3, hF3, hD3⟩
          obtain ⟨oa3, cap3, rfl, hr3⟩ := owns_row hown3
          have HF3 := Lib.hid (HF2.out.comp hF3 (fun i hi => .inr (HD2.out i hi)))
          have HX3 := Lib.hid (And.intro hI3 (fun i (hi : i ∈ D3) => HD2.out i (hD3 i hi)))
          have HR3 := Lib.hid hr3
          have hcl3 : w3.cell? ⟨gb, off + k, none⟩ = some (.slice oar l.length capr) := cell_fr ((Fr.refl [] w).trans (HFw.out.trans HF3.out)) (by simp) HCL.out
          clear hown3 hI3 hF3 hD3 hr3 c0 c1 hc2 hcl
          go_wp2_with fail
          refine (Same_any l oa3 oar cap3 capr w3 HR3.out (HROW.out.keep (HFw.out.trans HF3.out) (by simp)) (by omega)).mono ?_
          rintro e w4 ⟨rfl, hF4⟩
          have HX4 := Lib.hid (And.intro (HX3.out.1.fr hF4 (by simp)) (HF3.out.trans hF4))
          clear hF4 hcl3
          go_wp2_with fail
          go_roundw
          case rel => exact ⟨k + 1, by omega, by go_num, D3, F1, HX4.out.1, HL1.out.1, HL1.out.2, HX3.out.2, HX4.out.2⟩
          case measure => simp [intOf]; omega
        · have q1 : (f != 0) = true := by simpa using hf0
          go_wp2_with fail
          refine (awake13_any _).mono ?_
          rintro e w3 ⟨rfl, rfl⟩
          go_wp2_with fail
          go_ret
          exact ⟨rfl, HFw.out.trans HF2.out⟩
    · have b0 : decide ((k : Int) < (rs.length : Nat)) = false := by simp; omega
      have b1 : decide (k < rs.length) = false := by simp; omega
      go_wp2_with fail
      refine (awake13_any _).mono ?_
      rintro e w2 ⟨rfl, rfl⟩
      go_wp2_with fail
      go_ret
      exact ⟨rfl, HFw.out.trans HF.out⟩
end Go.Proofs.YtgmjhpappamenaaDoor
