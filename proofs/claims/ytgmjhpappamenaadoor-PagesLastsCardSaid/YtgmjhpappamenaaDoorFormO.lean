/- forms: pages: which may be. -/
import Derived.Test.YtgmjhpappamenaaDoorFormN
namespace Go.Proofs.YtgmjhpappamenaaDoor
open Go.RowKit Go.Shelf

def pageL (q n o m : Int) (ES : List Value) : List Value := [.int .i64 q, .int .i64 n, .int .i64 o, .int .i64 m] ++ ES
theorem ensC_len (es : List En) : (ensC es).length = es.length * 4 := by
  induction es with
  | nil => rfl
  | cons e r ih => simp only [ensC, List.flatMap_cons, List.length_append, enC, List.length_cons, List.length_nil] at ih ⊢; omega
theorem ensC_one (es : List En) : ∀ v ∈ ensC es, v.oneCell' = true := by
  intro v hv
  simp only [ensC, List.mem_flatMap] at hv
  obtain ⟨e, _, he⟩ := hv
  simp only [enC, List.mem_cons, List.not_mem_nil, or_false] at he
  rcases he with rfl | rfl | rfl | rfl <;> rfl
theorem ensC_take (es : List En) (k : Nat) : (ensC es).take (k * 4) = ensC (es.take k) := by
  induction es generalizing k with
  | nil => simp [ensC]
  | cons e r ih =>
    cases k with
    | zero => rfl
    | succ k =>
      have := ih k
      rw [show (k + 1) * 4 = k * 4 + 4 by omega]
      simp only [ensC, List.take_succ_cons, List.flatMap_cons, enC, List.cons_append, List.nil_append] at this ⊢
      rw [this]
theorem ensC_drop (es : List En) (k : Nat) : (ensC es).drop (k * 4) = ensC (es.drop k) := by
  induction es generalizing k with
  | nil => simp [ensC]
  | cons e r ih =>
    cases k with
    | zero => rfl
    | succ k =>
      have := ih k
      rw [show (k + 1) * 4 = k * 4 + 4 by omega]
      simp only [ensC, List.drop_succ_cons, List.flatMap_cons, enC, List.cons_append, List.nil_append] at this ⊢
      rw [this]
theorem ensC_append (a b : List En) : ensC (a ++ b) = ensC a ++ ensC b := by simp [ensC]
def someE (k : Nat) (es : List En) : List En := es.take k ++ ([en0, en0, en0, en0]).drop k
/-- the entries are copied up to a number -/
theorem copy_en {w : World} {b1 b3 : Nat} {T : TypeId} {PA : Array Value} (es : List En) (he : es.length = 4) (hP : Blk w b1 T PA) (hPA : ∀ (j : Nat) (v : Value), (ensC es)[j]? = some v → PA[4 + j]? = some v)
    (hZ : Blk w b3 127 (ensC ([en0, en0, en0, en0])).toArray) (k : Nat) (hk : k ≤ 4) :
    ∃ w5, (∀ ty, (Builtin.copy_ #[29, 29] ty #[.slice (some ⟨b3, 0, none⟩) 4 4, .slice (some ⟨b1, 4, none⟩) k 4]).run Tryd.prog w = .ok (.int .i64 k) w5) ∧
      Blk w5 b3 127 (ensC (someE k es)).toArray ∧ Fr [b3] w w5 := by
  have hl : ((ensC es).take (k * 4)).length = k * 4 := by rw [List.length_take, ensC_len, he]; omega
  have hth := hZ.there 0 16 (by simp [ensC_len])
  have hmin : Nat.min k 4 = k := Nat.min_eq_left hk
  refine ⟨w.setCells b3 0 ((ensC es).take (k * 4)), fun ty => ?_, ?_, Fr.setCells (by simp) _ _ _ (Fr.refl _ _)⟩
  · have := run_copy_at (P := Tryd.prog) w 29 29 ty 83 b3 0 4 4 ⟨b1, 4, none⟩ k 4 4 ((ensC es).take (k * 4)) Tryd.underlying29 (by kernel_rfl) (by rw [hl, hmin]) (fun j v hj => by
      have hj' : (ensC es)[j]? = some v := by
        rw [List.getElem?_take] at hj
        split at hj
        · exact hj
        · cases hj
      have e : Addr.add ⟨b1, 4, none⟩ j = ⟨b1, 4 + j, none⟩ := Addr.add_mid _ _ _
      rw [e]
      exact hP.cell (hPA j v hj')) (fun j hj => by simpa using (hth j (by omega)).1) (fun j hj => by simpa using (hth j (by omega)).2) (fun v hv => ensC_one es v (List.mem_of_mem_take hv))
    rw [hmin] at this
    exact this
  · have := Blk.setCells ((ensC es).take (k * 4)) 0 w _ hZ (by rw [hl]; simp [ensC_len]; omega)
    have e : (ensC ([en0, en0, en0, en0])).toArray.toList.take 0 ++ (ensC es).take (k * 4) ++ (ensC ([en0, en0, en0, en0])).toArray.toList.drop (0 + ((ensC es).take (k * 4)).length) = ensC (someE k es) := by
      rw [hl, Nat.zero_add]
      simp only [List.take_zero, List.nil_append]
      rw [ensC_take, ensC_drop, ← ensC_append]
      rfl
    rw [e] at this
    exact this
/-- the rest is noughts -/
def okS (k : Nat) (es : List En) : Bool := (es.drop k).all fun e => eqEn en0 e
theorem eqEn_self (e : En) : eqEn e e = true := eqEn_iff.2 rfl
theorem eq_some (k : Nat) (hk : k ≤ 4) (e0 e1 e2 e3 : En) (w : World) :
    (binOp .eql 127 (.agg (ensC (someE k [e0, e1, e2, e3])).toArray) (.agg (ensC [e0, e1, e2, e3]).toArray)).run Tryd.prog w = .ok (.bool (okS k [e0, e1, e2, e3])) w := by
  have : k = 0 ∨ k = 1 ∨ k = 2 ∨ k = 3 ∨ k = 4 := by omega
  rcases this with rfl | rfl | rfl | rfl | rfl
  · exact (run_eq_ens en0 en0 en0 en0 e0 e1 e2 e3 w).trans (by simp [okS])
  · exact (run_eq_ens e0 en0 en0 en0 e0 e1 e2 e3 w).trans (by simp [okS, eqEn_self])
  · exact (run_eq_ens e0 e1 en0 en0 e0 e1 e2 e3 w).trans (by simp [okS, eqEn_self])
  · exact (run_eq_ens e0 e1 e2 en0 e0 e1 e2 e3 w).trans (by simp [okS, eqEn_self])
  · exact (run_eq_ens e0 e1 e2 e3 e0 e1 e2 e3 w).trans (by simp [okS, eqEn_self])
end Go.Proofs.YtgmjhpappamenaaDoor
