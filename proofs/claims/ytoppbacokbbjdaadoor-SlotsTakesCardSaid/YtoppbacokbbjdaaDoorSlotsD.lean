/- Contracts of package slots: Alloc. -/
import Derived.Test.YtoppbacokbbjdaaDoorSlotsC
import Derived.Test.YtoppbacokbbjdaaDoorRange
namespace Go.Proofs.YtoppbacokbbjdaaDoor
open Go.RowKit Go.Shelf
attribute [local go_sem] Oper.semAt_some

/-- the free slots -/
def frees (l : List Nat) : List Nat := allOf l 0 l.length
def allocE (l : List Nat) : Int := if frees l = [] then 17 else 0
def allocN (l : List Nat) : Nat := (frees l).headD 0
def allocL (l : List Nat) : List Nat := if frees l = [] then l else l.set (allocN l) 1
theorem allOf_mem (l : List Nat) (n : Int) : ∀ k i, i ∈ allOf l n k → i < k ∧ (l.getD i 0 : Int) = n := by
  intro k
  induction k with
  | zero => intro i h; simp [allOf] at h
  | succ k ih =>
    intro i h
    simp only [allOf, List.mem_append] at h
    rcases h with h | h
    · have := ih i h; exact ⟨by omega, this.2⟩
    · split at h
      · simp at h; subst h; exact ⟨by omega, by assumption⟩
      · simp at h
theorem allocN_spec (l : List Nat) (h : ¬ frees l = []) : ∃ h : allocN l < l.length, l[allocN l] = 0 := by
  unfold allocN
  cases hf : frees l with
  | nil => exact absurd hf h
  | cons x r =>
    have := allOf_mem l 0 l.length x (by show x ∈ frees l; rw [hf]; simp)
    simp only [List.headD_cons]
    refine ⟨this.1, ?_⟩
    have h2 := this.2
    simp [this.1] at h2
    exact h2

theorem Alloc_nil (w : World) :
    Calls Tryd.prog 14 #[.pointer none] w fun e w' => e = .returned (.tuple #[.int .i64 0, .int .i64 2]) ∧ w = w' := by
  go_enter Tryd.func14, Tryd.ntmps14
  go_wp2_with fail
  apply wp_scope_straight
  go_wp2
  rw [Exit.noGoto_ret]
  go_ret2
  exact ⟨rfl, rfl⟩

set_option maxRecDepth 100000 in
theorem Alloc_any (b bl : Nat) (l : List Nat) (w : World) (h : IsSlots w b bl l) :
    Calls Tryd.prog 14 #[.pointer (some ⟨b, 0, none⟩)] w fun e w' => e = .returned (.tuple #[.int .i64 (allocN l), .int .i64 (allocE l)]) ∧
      IsSlots w' b bl (allocL l) ∧ Fr [b, bl] w w' := by
  refine (callsIn_wide (n := 6)).1 ?_
  have hro : Fence.wide.round = none := rfl
  refine callsIn_of_wp_marks Tryd.func14 rfl trivial ?_ hro
  simp only [Tryd.ntmps14, List.size_toArray, List.length_cons, List.length_nil, Nat.reduceAdd, Nat.reduceSub, Array.replicate_succ, Array.replicate_zero, List.push_toArray, List.append_toArray, List.nil_append, List.cons_append]
  gi_wp2_with fail
  apply wpIn_scope_straight
  gi_wp2_with fail
  refine wpIn_label ?_
  gi_wp2_with fail
  refine ⟨trivial, (callsIn_wide.2 (All_any b bl l 0 _ (h.fr ((Fr.refl [] w).alloc _) (by simp) (by simp)))).mono ?_⟩
  rintro e w1 ⟨bx, v, rfl, hF1, hbx, hown, hbx2⟩
  gi_wp2
  have hfound := (Blk.new w #[.int .i64 (-1)] 3).fr hF1 (by simp)
  have hlen : (frees l).length ≤ l.length := allOf_len _ _ _
  have hl2 := h.len
  have hsz1 := hF1.size
  have hsz : w.heap.size + 1 ≤ w1.heap.size := by simpa using hsz1
  have hge := owns_ge hown
  have hglt := owns_block_lt hown
  refine wpIn_rangeFunc_ownG hro (by omega) (gf := 30) (lb := #[.pointer (some ⟨bx, 0, none⟩)]) rfl trivial (enters_of Tryd.func30 (by kernel_rfl) rfl)
    (values_stops Fence.wide (6 - 1) trivial hro (by omega) bx _ v (frees l) (by omega) w1 hbx hown) KpL.trans (KpL.put hglt) (Below.refl _ _) (fun _ => rfl)
    (fun pre W => (pre = [] ∧ Blk W w.heap.size 3 #[.int .i64 (-1)]) ∧ Fr [w.heap.size] w1 W)
    (fun c pre W => (c = .exit 0 ∧ ∃ x : Nat, pre = [x] ∧ Blk W w.heap.size 3 #[.int .i64 x]) ∧ Fr [w.heap.size] w1 W)
    (Stable.own fun s => ((Stable.pure _ _).and (Stable.blk _ _ _ _)).and (Stable.fr _ _ (Nat.le_refl _)))
    (fun c => Stable.own fun s => ((Stable.pure _ _).and (Stable.ex fun x => (Stable.pure _ _).and (Stable.blk _ _ _ _))).and (Stable.fr _ _ (Nat.le_refl _)))
    ⟨⟨rfl, hfound⟩, Fr.refl _ _⟩ ?a1 ?assign ?body ?done ?stop
  case assign =>
    intro l x W K hK
    gi_wp2
    exact hK
  case body =>
    rintro l pre x W ⟨⟨rfl, hb⟩, hF⟩ _
    have hc := hb.cell (i := 0) rfl
    have hf := hb.frozen 0
    gi_wp2
    exact ⟨((Fr.refl [w.heap.size] W).setCell ⟨w.heap.size, 0, none⟩ (by simp) _).keeps (fun r hr => .inl (by simp at hr; omega)), ⟨rfl, x, rfl, hb.set 0 _⟩, hF.setCell _ (by simp) _⟩
  case done =>
    rintro D xs W hD rfl ⟨⟨hxs, hb⟩, hF⟩ hK
    have hc := hb.cell (i := 0) rfl
    have hF0 : Fr [] w W := ((Fr.refl [] w).alloc (.cells #[.int .i64 (-1)] 3)).comp ((hF1.sub (T := [w.heap.size]) (by simp)).trans hF) (by simp)
    have hp := hF0.put D (by omega) (.deferred none)
    gi_wp2
    rw [Exit.noGoto_ret]
    refine ⟨by simp, .inl ⟨_, _, rfl, run_takeDeferred hK, ?_⟩⟩
    refine ⟨_, results_tmp2 rfl _ _ _, by simp [allocN, allocE, hxs], ?_, hp.sub (by simp)⟩
    rw [show allocL l = l by simp [allocL, hxs]]
    exact h.fr hp (by simp) (by simp)
  case stop =>
    rintro D c pre W hD hSp ⟨⟨rfl, x, rfl, hb⟩, hF⟩ hK
    have hc := hb.cell (i := 0) rfl
    have hF0 : Fr [] w W := ((Fr.refl [] w).alloc (.cells #[.int .i64 (-1)] 3)).comp ((hF1.sub (T := [w.heap.size]) (by simp)).trans hF) (by simp)
    have hI := h.fr hF0 (by simp) (by simp)
    have hne : ¬ frees l = [] := by intro e; rw [e] at hSp; simp at hSp
    have hx : allocN l = x := by
      obtain ⟨r, hr⟩ := hSp
      simp [allocN, ← hr]
    obtain ⟨hs1, hs2⟩ := allocN_spec l hne
    have hE : allocE l = 0 := by simp [allocE, hne]
    have hL : allocL l = l.set x 1 := by simp [allocL, hne, hx]
    have HE := Lib.hid hE
    have HL := Lib.hid hL
    have HX := Lib.hid hx
    have hset := set_any b bl l x 1 W hI (by rw [← hx]; exact hs1) (by omega) (by simp only [← hx]; omega)
    rw [show ((1 : Nat) : Int) = 1 from rfl] at hset
    have hbW := hb.lt
    have hb1 := h.b_lt
    have hb2 := h.bl_lt
    have HS := Lib.hid hset
    clear hset hE hL hs1 hs2 hx hne hSp
    gi_wp2_with fail
    refine ⟨trivial, (callsIn_wide.2 HS.out).mono ?_⟩
    rintro e w2 ⟨rfl, hI2, hF2⟩
    have hc2 := (hb.fr hF2 (by simp; omega)).cell (i := 0) rfl
    gi_wp2
    rw [Exit.noGoto_ret]
    have hK2 : w2.heap[D]? = some (.deferred (some [])) := (hF2.block D (Array.getElem?_eq_some_iff.1 hK).1 (by simp; omega)).trans hK
    refine ⟨by simp, .inl ⟨_, _, rfl, run_takeDeferred hK2, ?_⟩⟩
    refine ⟨_, results_tmp2 rfl _ _ _, by rw [HE.out, HX.out]; rfl, ?_, ((hF0.sub (T := [b, bl]) (by simp)).trans hF2).put D (by omega) _⟩
    rw [HL.out]
    exact hI2.fr ((Fr.refl [D] w2).put' D (by simp) _) (by simp; omega) (by simp; omega)
end Go.Proofs.YtoppbacokbbjdaaDoor
