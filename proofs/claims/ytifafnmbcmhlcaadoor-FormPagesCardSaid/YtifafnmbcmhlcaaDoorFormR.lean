/- FormPages: plain facts; the reference's page. -/
import Derived.Test.YtifafnmbcmhlcaaDoorFormK
import Derived.Test.YtifafnmbcmhlcaaDoorFormQ
namespace Go.Proofs.YtifafnmbcmhlcaaDoor
open Go.RowKit Go.Shelf

def headN (q n o m : Int) : List Num4 := [seqN q 0, twoN n 0 (wrap64 (o - 1)), twoN o 1 256, (m, 1, 0, 4)]
def entsN (m : Int) : Nat → List En → List Num4
  | _, [] => []
  | i, e :: r => entN e.b e.s e.d e.m (decide (m ≤ (i : Int))) ++ entsN m (i + 1) r
def pageN (q n o m : Int) (es : List En) : List Num4 := headN q n o m ++ entsN m 0 es
theorem pageN_ps (q n o m : Int) (e0 e1 e2 e3 : En) : pageNL q n o m [e0, e1, e2, e3] = toPs (pageN q n o m [e0, e1, e2, e3]) := rfl
theorem pageN_len (q n o m : Int) (e0 e1 e2 e3 : En) : (numBs (pageN q n o m [e0, e1, e2, e3])).length ≤ 59 := by
  simp [numBs, pageN, headN, entsN, entN, numB, bytesOf_len, seqN, twoN]
theorem entN_ok (e : En) (no : Bool) : (entN e.b e.s e.d e.m no).all okN = if no then eqEn en0 e else entRe e := by
  obtain ⟨b, s, d, m⟩ := e
  cases no
  · rw [Bool.eq_iff_iff]
    simp only [entN, List.all_cons, List.all_nil, okN, Bool.and_eq_true, wI_iff, and_true, Bool.false_eq_true, if_false, entRe, entR]
    cases d <;> simp [flagN, and_assoc]
  · rw [Bool.eq_iff_iff]
    simp only [entN, List.all_cons, List.all_nil, okN, Bool.and_eq_true, wI_iff, and_true, if_true, eqEn_iff]
    cases d
    · simp [flagN, en0]; omega
    · simp [flagN, en0]
theorem en0_ok {e : En} (h : eqEn en0 e = true) : entRe e = true := by
  rw [← eqEn_iff.1 h]; decide
theorem ok_cases : ∀ (k : Fin 5) (a0 a1 a2 a3 c0 c1 c2 c3 : Bool), (a0 = true → c0 = true) → (a1 = true → c1 = true) → (a2 = true → c2 = true) → (a3 = true → c3 = true) →
    ((([a0, a1, a2, a3].drop k).all id) && (c0 && (c1 && (c2 && c3)))) = ((if k.1 ≤ 0 then a0 else c0) && ((if k.1 ≤ 1 then a1 else c1) && ((if k.1 ≤ 2 then a2 else c2) && (if k.1 ≤ 3 then a3 else c3)))) := by
  decide
theorem pageR_eq (q n o m : Int) (e0 e1 e2 e3 : En) : pageR q n o m [e0, e1, e2, e3] = rightB (pageN q n o m [e0, e1, e2, e3]) := by
  have hh : (headN q n o m).all okN = (wI q 0 1099511627776 && (wI n 0 (wrap64 (o - 1)) && (wI o 1 256 && wI m 0 4))) := by
    simp [headN, okN, seqN, twoN]
  have hr : rightB (pageN q n o m [e0, e1, e2, e3]) = ((headN q n o m).all okN && ((entN e0.b e0.s e0.d e0.m (decide (m ≤ (0 : Nat)))).all okN && ((entN e1.b e1.s e1.d e1.m (decide (m ≤ (1 : Nat)))).all okN && ((entN e2.b e2.s e2.d e2.m (decide (m ≤ (2 : Nat)))).all okN && (entN e3.b e3.s e3.d e3.m (decide (m ≤ (3 : Nat)))).all okN)))) := by
    simp only [rightB, pageN, entsN, List.all_append, List.all_nil, Bool.and_true]
  rw [hr, hh, entN_ok, entN_ok, entN_ok, entN_ok]
  unfold pageR
  cases hm : wI m 0 4
  · simp
  · have hm' := wI_iff.1 hm
    obtain ⟨k, rfl⟩ := Int.eq_ofNat_of_zero_le hm'.1
    have hk : k < 5 := by omega
    have := ok_cases ⟨k, hk⟩ (eqEn en0 e0) (eqEn en0 e1) (eqEn en0 e2) (eqEn en0 e3) (entRe e0) (entRe e1) (entRe e2) (entRe e3) en0_ok en0_ok en0_ok en0_ok
    have ho : okS (k : Int).toNat [e0, e1, e2, e3] = (([eqEn en0 e0, eqEn en0 e1, eqEn en0 e2, eqEn en0 e3].drop k).all id) := by
      rw [Int.toNat_natCast]
      have : k = 0 ∨ k = 1 ∨ k = 2 ∨ k = 3 ∨ k = 4 := by omega
      rcases this with rfl | rfl | rfl | rfl | rfl <;> simp [okS]
    have ha : [e0, e1, e2, e3].all entRe = (entRe e0 && (entRe e1 && (entRe e2 && entRe e3))) := by simp
    rw [ho, ha]
    simp only at this
    rw [this]
    have hd : ∀ i : Nat, decide ((k : Int) ≤ (i : Int)) = decide (k ≤ i) := fun i => by simp
    simp only [hd, decide_eq_true_eq, Bool.and_assoc, Bool.true_and, Bool.and_true]
theorem pageN_cap (q n o m : Int) (e0 e1 e2 e3 : En) (hr : rightB (pageN q n o m [e0, e1, e2, e3]) = true) : ∀ p, p ∈ pageN q n o m [e0, e1, e2, e3] → CapN p := by
  have ho : okN (twoN o 1 256) = true := List.all_eq_true.1 hr _ (by simp [pageN, headN])
  have ho' := wI_iff.1 ho
  simp only [twoN] at ho'
  have hw : wrap64 (o - 1) = o - 1 := IntWalk.wrap64_in _ ⟨by omega, by omega⟩
  intro p hp
  simp only [pageN, headN, entsN, entN, List.cons_append, List.nil_append, List.append_nil, List.mem_cons, List.not_mem_nil, or_false, hw] at hp
  rcases hp with rfl | rfl | rfl | rfl | rfl | rfl | rfl | rfl | rfl | rfl | rfl | rfl | rfl | rfl | rfl | rfl | rfl | rfl | rfl | rfl
  all_goals refine ⟨?_, ?_, ?_, ?_⟩ <;> simp [seqN, twoN] <;> (first | omega | (split <;> omega))
end Go.Proofs.YtifafnmbcmhlcaaDoor
