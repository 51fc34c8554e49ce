/- forms: what put and the reference answer is the same; the laws' helpers. -/
import Derived.Test.YtifafnmbcmhlcaaDoorFormJ
import Derived.Test.YtifafnmbcmhlcaaDoorFormF
import Derived.Test.YtifafnmbcmhlcaaDoorFieldY
namespace Go.Proofs.YtifafnmbcmhlcaaDoor
open Go.RowKit Go.Shelf

/-- the bounds of a number are such that it fits -/
structure CapN (p : Num4) : Prop where
  f0 : 0 ≤ p.2.2.1
  s1 : 1 ≤ p.2.1
  s7 : p.2.1 ≤ 7
  t : p.2.2.2 < 2 ^ (8 * p.2.1.toNat)
theorem pow_56 (s : Nat) (h : s ≤ 7) : (2 : Int) ^ (8 * s) ≤ 72057594037927936 := by
  have h1 : (2 : Nat) ^ (8 * s) ≤ 2 ^ 56 := Nat.pow_le_pow_right (by omega) (by omega)
  have h2 : (2 : Nat) ^ 56 = 72057594037927936 := by simp
  rw [h2] at h1
  rw [show (2 : Int) = ((2 : Nat) : Int) from rfl, ← Int.natCast_pow]
  generalize 2 ^ (8 * s) = q at h1 ⊢
  omega
theorem good_of {p : Num4} (h : CapN p) (ho : okN p = true) : GoodN p := by
  have h1 := wI_iff.1 ho
  have h2 := pow_56 p.2.1.toNat (by have := h.s7; omega)
  have h3 := h.t
  exact ⟨by have := h.f0; omega, by omega, h.s1, h.s7⟩
theorem fits_of {p : Num4} (h : CapN p) (ho : okN p = true) : p.1.toNat / 2 ^ (8 * p.2.1.toNat) = 0 := by
  have h1 := wI_iff.1 ho
  apply Nat.div_eq_of_lt
  have h3 := h.t
  have h0 := h.f0
  have : (p.1.toNat : Int) < (2 : Int) ^ (8 * p.2.1.toNat) := by rw [Int.toNat_of_nonneg (by omega)]; omega
  rw [show (2 : Int) = ((2 : Nat) : Int) from rfl, ← Int.natCast_pow] at this
  generalize 2 ^ (8 * p.2.1.toNat) = q at this ⊢
  omega
def toPs (ps : List Num4) : List (Int × Int) := ps.map fun p => (p.1, p.2.1)
theorem fold_ok : ∀ (ps : List Num4) (l : List Nat), (∀ p, p ∈ ps → CapN p ∧ okN p = true) → l.length + (numBs ps).length ≤ 60 →
    (toPs ps).foldl (fun s p => putS s p.1 p.2) (l, 0) = (l ++ numBs ps, 0) := by
  intro ps
  induction ps with
  | nil => intro l _ _; simp [toPs, numBs]
  | cons p r ih =>
    intro l h hl
    obtain ⟨hc, ho⟩ := h p List.mem_cons_self
    have hg := good_of hc ho
    have hf := fits_of hc ho
    obtain ⟨N, hN⟩ := Int.eq_ofNat_of_zero_le hg.n0
    obtain ⟨s, hs⟩ := Int.eq_ofNat_of_zero_le (show 0 ≤ p.2.1 by have := hg.s1; omega)
    have hb : numB p = bytesOf N s := by unfold numB; rw [hN, hs]; rfl
    have e : numBs (p :: r) = bytesOf N s ++ numBs r := by unfold numBs; rw [List.flatMap_cons, hb]
    rw [e, List.length_append, bytesOf_len] at hl
    rw [hN, hs] at hf
    simp only [Int.toNat_natCast] at hf
    have h1 := hg.s1
    have h7 := hg.s7
    rw [hs] at h1 h7
    have hpe : putE l.length (N : Int) (s : Int) = 0 := by rw [putE_fits l.length N s (by omega) (by omega) (by omega), if_pos hf]
    have hps : putS (l, 0) p.1 p.2.1 = (l ++ bytesOf N s, 0) := by
      rw [hN, hs, putS, if_pos rfl]
      simp only [putL, hpe, if_true, Int.toNat_natCast]
    simp only [toPs, List.map_cons, List.foldl_cons]
    rw [hps]
    have := ih (l ++ bytesOf N s) (fun q hq => h q (List.mem_cons_of_mem _ hq)) (by rw [List.length_append, bytesOf_len]; omega)
    simp only [toPs] at this
    rw [this, e, List.append_assoc]
theorem putSt_ok (c : Nat) (ps : List Num4) (hc : c < 256) (h : ∀ p, p ∈ ps → CapN p) (hr : rightB ps = true) (hl : (numBs ps).length ≤ 59) : putSt c (toPs ps) = (c :: numBs ps, 0) := by
  have hall : ∀ p, p ∈ ps → okN p = true := List.all_eq_true.1 hr
  have h1 : putS ([], 0) (c : Int) 1 = ([c], 0) := by
    have hpe : putE 0 (c : Int) ((1 : Nat) : Int) = 0 := by rw [putE_fits 0 c 1 (by omega) (by omega) (by omega), if_pos (Nat.div_eq_of_lt (by simpa using hc))]
    rw [putS, if_pos rfl]
    have hpe' : putE 0 (c : Int) 1 = 0 := hpe
    simp only [putL, List.length_nil, hpe', if_true, Int.toNat_natCast, List.nil_append]
    show (bytesOf c 1, 0) = ([c], 0)
    rw [bytesOf_cons, Nat.mod_eq_of_lt hc]
    rfl
  unfold putSt putN
  rw [List.take_of_length_le (by simp)]
  rw [List.foldl_cons, h1]
  exact fold_ok ps [c] (fun p hp => ⟨h p hp, hall p hp⟩) (by simp; omega)
theorem putB_same (c : Nat) (ps : List Num4) (hc : c < 256) (h : rightB ps = true → ∀ p, p ∈ ps → CapN p) (hl : (numBs ps).length ≤ 59) :
    putB c (rightB ps) (toPs ps) = (if rightB ps then sealed (c :: numBs ps) else zeros64) ∧ putEr c (rightB ps) (toPs ps) = if rightB ps then 0 else 10 := by
  unfold putB putEr
  cases hr : rightB ps
  · exact ⟨rfl, rfl⟩
  · rw [putSt_ok c ps hc (h hr) hr hl]
    exact ⟨by simp [sealV], rfl⟩

set_option maxRecDepth 100000 in
set_option maxHeartbeats 1000000 in
theorem put06_any (c : Nat) (oa : Option Addr) (cap : Nat) (ps : List Num4) (w : World) (hc : c < 256) (hN : IsNums w oa ps) (hl : ps.length ≤ 1000) (h : rightB ps = true → ∀ p, p ∈ ps → CapN p) (h60 : (numBs ps).length ≤ 59) :
    Calls Tryd.prog 23 #[.agg (bv (putB c (rightB ps) (toPs ps))), .int .i64 (putEr c (rightB ps) (toPs ps)), .int .i64 c, .slice oa ps.length cap] w fun e w' => e = .returned (.bool true) ∧ Fr [] w w' := by
  obtain ⟨e1, e2⟩ := putB_same c ps hc h h60
  rw [e1, e2]
  have hz : ∀ w, (zeroValue 33).run Tryd.prog w = .ok (.agg (bv zeros64)) w := fun _ => by kernel_rfl
  have HII := Lib.hid (show (Tryd.prog.info? 33).map (·.size) = some 64 by kernel_rfl)
  have hg := guard_eql_blocks
  have hF0 := fun B => (Fr.refl [] w).alloc (.cells (bv B) 33)
  have hT0 := fun B => Blk.new w (bv B) 33
  have HR := Lib.hid (fun W hW => refRight_any oa cap ps W hW hl)
  have HNU := Lib.hid hN
  obtain ⟨n, hn⟩ : ∃ n, n = ps.length := ⟨_, rfl⟩
  rw [← hn] at HR ⊢
  have HN := Lib.hid hn
  cases hr : rightB ps
  · rw [hr] at HR
    simp only [Bool.false_eq_true, if_false]
    have hq := eql_blocks zeros64 zeros64 rfl rfl
    simp only [decide_true] at hq
    have hT := hT0 zeros64
    have hF := hF0 zeros64
    have hsz : (bv zeros64).size = 64 := by simp [bv_size, zeros64]
    clear hr hT0 hF0 hn hN h h60 e1 e2
    go_enter Tryd.func23, Tryd.ntmps23
    go_wp2_with fail
    refine (HR.out _ (nums_fr HNU.out hF)).mono ?_
    rintro e w1 ⟨rfl, hF1⟩
    have hT1 := hT.fr hF1 (by simp)
    have hF01 := hF.trans hF1
    go_wp2_with (refine wpList_load_bv rfl 33 _ rfl w.heap.size 0 rfl zeros64 (range_bv hT1) Tryd.underlying33 HII.out rfl ?_)
    go_ret
    exact ⟨rfl, hF01⟩
  · rw [hr] at HR
    simp only [if_true]
    have hall : ∀ p, p ∈ ps → GoodN p := fun p hp => good_of (h hr p hp) (List.all_eq_true.1 hr p hp)
    have hlen := sealed_len (c :: numBs ps) (by simp; omega)
    have HB := Lib.hid (fun W hW => refBlock06_any c oa cap ps W hc hW hl hall h60)
    rw [← hn] at HB
    generalize sealed (c :: numBs ps) = B at HB hlen ⊢
    have hq := eql_blocks B B hlen hlen
    simp only [decide_true] at hq
    have hT := hT0 B
    have hF := hF0 B
    have hsz : (bv B).size = 64 := by rw [bv_size, hlen]
    have HLEN := Lib.hid hlen
    clear hr hT0 hF0 hn hN h h60 e1 e2 hall hlen
    go_enter Tryd.func23, Tryd.ntmps23
    go_wp2_with fail
    refine (HR.out _ (nums_fr HNU.out hF)).mono ?_
    rintro e w1 ⟨rfl, hF1⟩
    have hRB := range_bv (hT.fr hF1 (by simp)).drew
    have hF01 := hF.trans hF1
    have hFw := hF01.drew
    go_wp2_with fail
    refine region_ord [] (.take 0 (.take 1 (.take 2 (.take 3 (.take 4 (.take 5 (.pick 6 (.take 7 (.take 8 (.take 9 .done))) .none))))))) (by kernel_rfl) (by kernel_rfl) ?_
    simp only [ordList, Ord.map, List.getD_cons_zero, List.getD_cons_succ]
    refine' ord_pure (v := _) ?_ rfl ?_; rotate_left; focus (intro w; go_simp <;> (first | (with_reducible rfl) | (constructor <;> with_reducible rfl)))
    simp only [Act.put, List.setIfInBounds_toArray, List.set_cons_zero, List.set_cons_succ]
    refine' ord_pure (v := _) ?_ rfl ?_; rotate_left; focus (intro w; go_simp <;> (first | (with_reducible rfl) | (constructor <;> with_reducible rfl)))
    simp only [Act.put, List.setIfInBounds_toArray, List.set_cons_zero, List.set_cons_succ]
    refine' ord_pure (v := _) ?_ rfl ?_; rotate_left; focus (intro w; go_simp <;> (first | (with_reducible rfl) | (constructor <;> with_reducible rfl)))
    simp only [Act.put, List.setIfInBounds_toArray, List.set_cons_zero, List.set_cons_succ]
    refine ord_bv hRB (by simp) HLEN.out rfl rfl (by kernel_rfl) rfl ?_
    simp only [Act.put, List.setIfInBounds_toArray, List.set_cons_zero, List.set_cons_succ]
    refine' ord_pure (v := _) ?_ rfl ?_; rotate_left; focus (intro w; go_simp <;> (first | (with_reducible rfl) | (constructor <;> with_reducible rfl)))
    simp only [Act.put, List.setIfInBounds_toArray, List.set_cons_zero, List.set_cons_succ]
    refine' ord_pure (v := _) ?_ rfl ?_; rotate_left; focus (intro w; go_simp <;> (first | (with_reducible rfl) | (constructor <;> with_reducible rfl)))
    simp only [Act.put, List.setIfInBounds_toArray, List.set_cons_zero, List.set_cons_succ]
    -- 6: t25 := CALL lavabo/lavaboref06.Block(t23, t24)   [if op2=true]   {2,4,5}
    refine' ord_call (f := 43) (args := _) ?_ rfl ?_; rotate_left; focus (go_simp <;> (first | (with_reducible rfl) | (constructor <;> with_reducible rfl)))
    refine (HB.out _ (nums_fr HNU.out hFw)).mono ?_
    rintro e w2 ⟨rfl, hF⟩
    have hFw := hFw.trans hF
    refine ⟨_, rfl, hF, ?_⟩
    simp only [Act.put, List.setIfInBounds_toArray, List.set_cons_zero, List.set_cons_succ]
    refine' ord_pure (v := _) ?_ rfl ?_; rotate_left; focus (intro w; go_simp <;> (first | (with_reducible rfl) | (constructor <;> with_reducible rfl)))
    simp only [Act.put, List.setIfInBounds_toArray, List.set_cons_zero, List.set_cons_succ]
    refine' ord_pure (v := _) ?_ rfl ?_; rotate_left; focus (intro w; go_simp <;> (first | (with_reducible rfl) | (constructor <;> with_reducible rfl)))
    simp only [Act.put, List.setIfInBounds_toArray, List.set_cons_zero, List.set_cons_succ]
    refine' ord_pure (v := _) ?_ rfl ?_; rotate_left; focus (intro w; go_simp <;> (first | (with_reducible rfl) | (constructor <;> with_reducible rfl)))
    simp only [Act.put, List.setIfInBounds_toArray, List.set_cons_zero, List.set_cons_succ]
    refine ord_nil ?_
    go_wp2_with fail
    go_ret
    exact ⟨rfl, hFw⟩
end Go.Proofs.YtifafnmbcmhlcaaDoor
