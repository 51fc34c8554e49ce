/- Contracts of package field: the reader. -/
import Derived.Test.YtifafnmbcmhlcaaDoorFieldG
namespace Go.Proofs.YtifafnmbcmhlcaaDoor
open Go.RowKit Go.Shelf

/-- a reader at block b: a sector's bytes, where it is, its first error -/
structure IsReader (w : World) (b : Nat) (l : List Nat) (at_ : Nat) (e : Int) : Prop where
  len : l.length = 64
  at60 : at_ ≤ 60
  bytes : ∀ x, x ∈ l → x < 256
  blk : Blk w b 80 (wcA l at_ e)
theorem IsReader.fr {S : List Nat} {w w' : World} {b : Nat} {l : List Nat} {a : Nat} {e : Int} (h : IsReader w b l a e) (hf : Fr S w w') (hb : ¬ b ∈ S) : IsReader w' b l a e := ⟨h.len, h.at60, h.bytes, h.blk.fr hf hb⟩

theorem Take_nil (size : Int) (w : World) :
    Calls Tryd.prog 18 #[.pointer none, .int .i64 size] w fun e w' => e = .returned (.int .i64 0) ∧ Fr [] w w' := by
  go_enter Tryd.func18, Tryd.ntmps18
  go_wp2
  go_ret
  exact ⟨rfl, ((Fr.refl _ _).alloc _)⟩
theorem End_nil (w : World) :
    Calls Tryd.prog 19 #[.pointer none] w fun e w' => e = .returned (.int .i64 2) ∧ Fr [] w w' := by
  go_enter Tryd.func19, Tryd.ntmps19
  go_wp2
  go_ret
  exact ⟨rfl, Fr.refl _ _⟩
theorem Take_err (b : Nat) (l : List Nat) (a : Nat) (e : Int) (size : Int) (w : World) (h : IsReader w b l a e) (he : ¬ e = 0) :
    Calls Tryd.prog 18 #[.pointer (some ⟨b, 0, none⟩), .int .i64 size] w fun e' w' => e' = .returned (.int .i64 0) ∧ Fr [] w w' := by
  have c1 := h.blk.cell (wcA_e l a e (by have := h.len; omega))
  have b0 : (e != 0) = true := bne_iff_ne.2 he
  clear he
  have hb := h.blk.lt
  go_enter Tryd.func18, Tryd.ntmps18
  go_wp2
  go_ret
  exact ⟨rfl, ((Fr.refl _ _).alloc _)⟩
theorem End_err (b : Nat) (l : List Nat) (a : Nat) (e : Int) (w : World) (h : IsReader w b l a e) (he : ¬ e = 0) :
    Calls Tryd.prog 19 #[.pointer (some ⟨b, 0, none⟩)] w fun e' w' => e' = .returned (.int .i64 e) ∧ Fr [] w w' := by
  have c1 := h.blk.cell (wcA_e l a e (by have := h.len; omega))
  have b0 : (e != 0) = true := bne_iff_ne.2 he
  clear he
  have hb := h.blk.lt
  go_enter Tryd.func19, Tryd.ntmps19
  go_wp2
  go_ret
  exact ⟨rfl, Fr.refl _ _⟩

theorem fold_set : ∀ (vs : List Value) (o : Nat) (c : Array Value), o + vs.length ≤ c.size →
    (vs.zipIdx o).foldl (fun cs x => cs.setIfInBounds x.2 x.1) c = (c.toList.take o ++ vs ++ c.toList.drop (o + vs.length)).toArray := by
  intro vs
  induction vs with
  | nil => intro o c _; simp
  | cons v r ih =>
    intro o c hl
    simp only [List.length_cons] at hl
    rw [List.zipIdx_cons, List.foldl_cons, ih (o + 1) _ (by simp; omega)]
    congr 1
    have hol : o < c.toList.length := by simp; omega
    simp only [Array.toList_setIfInBounds, List.length_cons]
    rw [List.take_set, List.drop_set_of_lt (by omega), List.take_succ_eq_append_getElem hol, List.set_append_right _ _ (by simp; omega)]
    have : o - (List.take o c.toList).length = 0 := by simp at hol; simp; omega
    rw [this]
    simp [show o + 1 + r.length = o + (r.length + 1) by omega]
theorem fold_bv (l : List Nat) (hl : l.length = 64) :
    Array.foldl (fun cs x => cs.setIfInBounds x.snd x.fst) Tryd.zeroCells80 (bv l).zipIdx 0 (bv l).size = wcA l 0 0 := by
  have h0 : Tryd.zeroCells80 = wcA [] 0 0 := by kernel_rfl
  rw [h0]
  have hs : (bv l).size = (bv l).zipIdx.size := by simp
  rw [hs]
  rw [← Array.foldl_toList, Array.toList_zipIdx]
  unfold bv
  rw [fold_set (u8s l) 0 _ (by simp [wcA, u8s, hl, pad])]
  simp [wcA, u8s, hl, pad, List.drop_append]

set_option maxRecDepth 100000 in
theorem Read_any (l : List Nat) (w : World) (hl : l.length = 64) (hb : ∀ x, x ∈ l → x < 256) :
    Calls Tryd.prog 20 #[.agg (bv l)] w fun e w' => ∃ b, e = .returned (.pointer (some ⟨b, 0, none⟩)) ∧ IsReader w' b l 0 0 ∧ Fr [] w w' ∧ w.heap.size ≤ b := by
  have hra := Lib.hid (range_bv (Blk.new w (bv l) 33))
  have hii : (Tryd.prog.info? 33).map (·.size) = some 64 := by kernel_rfl
  have HII := Lib.hid hii
  have HL := Lib.hid hl
  have hfo := Lib.hid (fold_bv l hl)
  have hsz : (bv l).size = 64 := by rw [bv_size, hl]
  have HSZ := Lib.hid hsz
  clear hii hl
  go_enter Tryd.func20, Tryd.ntmps20
  go_wp2_with (refine wpList_load_bv rfl 33 _ rfl w.heap.size 0 rfl l hra.out Tryd.underlying33 HII.out HL.out ?_)
  rw [show (64 : Nat) = (bv l).size from hsz.symm, hfo.out]
  go_ret
  have hbk := Blk.new (w.alloc (.cells (bv l) 33)) (wcA l 0 0) 80
  rw [World.size_alloc] at hbk
  exact ⟨_, rfl, ⟨HL.out, by omega, hb, hbk⟩, ((Fr.refl _ _).alloc _).alloc _, by omega⟩
end Go.Proofs.YtifafnmbcmhlcaaDoor
