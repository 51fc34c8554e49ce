/- Contracts of package field: the reader. -/
import Derived.Test.YtgmjhpappamenaaDoorFieldG
namespace Go.Proofs.YtgmjhpappamenaaDoor
open Go.RowKit Go.Shelf

/-- a reader at block b: a sector's bytes, where it is, its first error -/
structure IsReader (w : World) (b : Nat) (l : List Nat) (at_ : Nat) (e : Int) : Prop where
  len : l.length = 64
  at60 : at_ ≤ 60
  bytes : ∀ x, x ∈ l → x < 256
  blk : Blk w b 190 (wcA l at_ e)
theorem IsReader.fr {S : List Nat} {w w' : World} {b : Nat} {l : List Nat} {a : Nat} {e : Int} (h : IsReader w b l a e) (hf : Fr S w w') (hb : ¬ b ∈ S) : IsReader w' b l a e := ⟨h.len, h.at60, h.bytes, h.blk.fr hf hb⟩

theorem Take_nil (size : Int) (w : World) :
    Calls Tryd.prog 96 #[.pointer none, .int .i64 size] w fun e w' => e = .returned (.int .i64 0) ∧ Fr [] w w' := by
  go_enter Tryd.func96, Tryd.ntmps96
  go_wp2
  go_ret
  exact ⟨rfl, ((Fr.refl _ _).alloc _)⟩
theorem End_nil (w : World) :
    Calls Tryd.prog 97 #[.pointer none] w fun e w' => e = .returned (.int .i64 2) ∧ Fr [] w w' := by
  go_enter Tryd.func97, Tryd.ntmps97
  go_wp2
  go_ret
  exact ⟨rfl, Fr.refl _ _⟩
theorem Take_err (b : Nat) (l : List Nat) (a : Nat) (e : Int) (size : Int) (w : World) (h : IsReader w b l a e) (he : ¬ e = 0) :
    Calls Tryd.prog 96 #[.pointer (some ⟨b, 0, none⟩), .int .i64 size] w fun e' w' => e' = .returned (.int .i64 0) ∧ Fr [] w w' := by
  have c1 := h.blk.cell (wcA_e l a e (by have := h.len; omega))
  have b0 : (e != 0) = true := bne_iff_ne.2 he
  clear he
  have hb := h.blk.lt
  go_enter Tryd.func96, Tryd.ntmps96
  go_wp2
  go_ret
  exact ⟨rfl, ((Fr.refl _ _).alloc _)⟩
theorem End_err (b : Nat) (l : List Nat) (a : Nat) (e : Int) (w : World) (h : IsReader w b l a e) (he : ¬ e = 0) :
    Calls Tryd.prog 97 #[.pointer (some ⟨b, 0, none⟩)] w fun e' w' => e' = .returned (.int .i64 e) ∧ Fr [] w w' := by
  have c1 := h.blk.cell (wcA_e l a e (by have := h.len; omega))
  have b0 : (e != 0) = true := bne_iff_ne.2 he
  clear he
  have hb := h.blk.lt
  go_enter Tryd.func97, Tryd.ntmps97
  go_wp2
  go_ret
  exact ⟨rfl, Fr.refl _ _⟩

theorem fold_set : ∀ (vs : List Value) (o : Nat) (c : Array Value), o + vs.length ≤ c.size →
    (vs.zipIdx o).foldl (fun cs x => cs.setIfInBounds x.2 x.1) c = (c.toList.take o ++ vs ++ c.toList.drop (o + vs.length)).toArray := by
  intro vs
  induction vs with
  | nil => intro o c _; simp
  | cons v r ih =>
    intro o c hl
    simp only [List.length_cons] at hl
    rw [List.zipIdx_cons, List.foldl_cons, ih (o + 1) _ (by simp; omega)]
    congr 1
    have hol : o < c.toList.length := by simp; omega
    simp only [Array.toList_setIfInBounds, List.length_cons]
    rw [List.take_set, List.drop_set_of_lt (by omega), List.take_succ_eq_append_getElem hol, List.set_append_right _ _ (by simp; omega)]
    have : o - (List.take o c.toList).length = 0 := by simp at hol; simp; omega
    rw [this]
    simp [show o + 1 + r.length = o + (r.length + 1) by omega]
theorem fold_bv (l : List Nat) (hl : l.length = 64) :
    Array.foldl (fun cs x => cs.setIfInBounds x.snd x.fst) Tryd.zeroCells190 (bv l).zipIdx 0 (bv l).size = wcA l 0 0 := by
  have h0 : Tryd.zeroCells190 = wcA [] 0 0 := by kernel_rfl
  rw [h0]
  have hs : (bv l).size = (bv l).zipIdx.size := by simp
  rw [hs]
  rw [← Array.foldl_toList, Array.toList_zipIdx]
  unfold bv
  rw [fold_set (u8s l) 0 _ (by simp [wcA, u8s, hl, pad])]
  simp [wcA, u8s, hl, pad, List.drop_append]

set_option maxRecDepth 100000 in
theorem Read_any (l : List Nat) (w : World) (hl : l.length = 64) (hb : ∀ x, x ∈ l → x < 256) :
    Calls Tryd.prog 95 #[.agg (bv l)] w fun e w' => ∃ b, e = .returned (.pointer (some ⟨b, 0, none⟩)) ∧ IsReader w' b l 0 0 ∧ Fr [] w w' ∧ w.heap.size ≤ b := by
  have hra := Lib.hid (range_bv (Blk.new w (bv l) 88))
  have hii : (Tryd.prog.info? 88).map (·.size) = some 64 := by kernel_rfl
  have HII := Lib.hid hii
  have HL := Lib.hid hl
  have hfo := Lib.hid (fold_bv l hl)
  have hsz : (bv l).size = 64 := by rw [bv_size, hl]
  have HSZ := Lib.hid hsz
  clear hii hl
  go_enter Tryd.func95, Tryd.ntmps95
  go_wp2_with (refine wpList_load_bv rfl 88 _ rfl w.heap.size 0 rfl l hra.out Tryd.underlying88 HII.out HL.out ?_)
  rw [show (64 : Nat) = (bv l).size from hsz.symm, hfo.out]
  go_ret
  have hbk := Blk.new (w.alloc (.cells (bv l) 88)) (wcA l 0 0) 190
  rw [World.size_alloc] at hbk
  exact ⟨_, rfl, ⟨HL.out, by omega, hb, hbk⟩, ((Fr.refl _ _).alloc _).alloc _, by omega⟩
end Go.Proofs.YtgmjhpappamenaaDoor

/- Contracts of package field: Take. -/
namespace Go.Proofs.YtgmjhpappamenaaDoor
open Go.RowKit Go.Shelf

/-- the number of bytes, the lowest first -/
def numOf : List Nat → Nat
  | [] => 0
  | x :: r => x + 256 * numOf r
theorem numOf_append (l : List Nat) (x : Nat) : numOf (l ++ [x]) = numOf l + x * 2 ^ (8 * l.length) := by
  induction l with
  | nil => simp [numOf]
  | cons y r ih =>
    simp only [List.cons_append, numOf, ih, List.length_cons]
    rw [show 8 * (r.length + 1) = 8 * r.length + 8 by omega, Nat.pow_add, Nat.mul_add]
    generalize 2 ^ (8 * r.length) = q
    have : 256 * (x * q) = x * (q * 2 ^ 8) := by
      rw [show (2 : Nat) ^ 8 = 256 from rfl, Nat.mul_comm 256, Nat.mul_assoc]
    omega
theorem numOf_lt (l : List Nat) (h : ∀ x, x ∈ l → x < 256) : numOf l < 2 ^ (8 * l.length) := by
  induction l with
  | nil => simp [numOf]
  | cons y r ih =>
    have h1 := ih (fun x hx => h x (List.mem_cons_of_mem _ hx))
    have h2 := h y List.mem_cons_self
    simp only [numOf, List.length_cons]
    rw [show 8 * (r.length + 1) = 8 * r.length + 8 by omega, Nat.pow_add]
    generalize 2 ^ (8 * r.length) = q at h1 ⊢
    omega
theorem or_low (n x k : Nat) (h : n < 2 ^ k) : n ||| (x * 2 ^ k) = n + x * 2 ^ k := by
  rw [Nat.or_comm, Nat.mul_comm, ← Nat.two_pow_add_eq_or_of_lt h, Nat.add_comm]

theorem or_i64' (n y : Nat) (hn : n < 72057594037927936) (hy : y < 72057594037927936) : bits BinOp.or IntKind.i64 (n : Int) (wrap64 (y : Int)) = ((n ||| y : Nat) : Int) := by
  have e : wrap64 (y : Int) = (y : Int) := by unfold wrap64; omega
  rw [e]
  exact bits_or_i64 _ _ (by omega) (by omega)
theorem pow48 (i : Nat) (hi : i < 7) : 2 ^ (8 * i) ≤ 281474976710656 := (Nat.pow_le_pow_right (by omega) (show 8 * i ≤ 48 by omega) : 2 ^ (8 * i) ≤ 2 ^ 48)
theorem or_i64 (n x i : Nat) (hi : i < 7) (hx : x < 256) (hn : n < 2 ^ (8 * i)) : bits BinOp.or IntKind.i64 (n : Int) (wrap64 ((x : Int) * 2 ^ (8 * i))) = ((n + x * 2 ^ (8 * i) : Nat) : Int) := by
  have h1 := pow48 i hi
  have h2 : x * 2 ^ (8 * i) ≤ 255 * 281474976710656 := Nat.mul_le_mul (by omega) h1
  have hcast : (x : Int) * 2 ^ (8 * i) = ((x * 2 ^ (8 * i) : Nat) : Int) := by simp
  rw [hcast, or_i64' _ _ (Nat.lt_of_lt_of_le hn (Nat.le_trans h1 (by decide))) (Nat.lt_of_le_of_lt h2 (by decide)), or_low n x (8 * i) hn]

set_option maxHeartbeats 1000000 in
theorem Take1_any (b cn cr : Nat) (l : List Nat) (a i n : Nat) (e : Int) (w : World) (hb : IsReader w b l a e) (hn : Blk w cn 3 #[.int .i64 n]) (hr : Blk w cr 159 #[.pointer (some ⟨b, 0, none⟩)])
    (hai : a + i < 60) (hi : i < 7) (hnb : n < 2 ^ (8 * i)) :
    Calls Tryd.prog 123 #[.int .i64 i, .int .i64 (8 * i : Nat), .pointer (some ⟨cn, 0, none⟩), .pointer (some ⟨cr, 0, none⟩)] w fun e' w' => e' = .returned (.tuple #[]) ∧
      Blk w' cn 3 #[.int .i64 ((n + l.getD (a + i) 0 * 2 ^ (8 * i) : Nat) : Int)] ∧ Fr [cn] w w' := by
  have hl := hb.len
  have c0 := hb.blk.cell (wcA_at l a e (by omega))
  have c1 : w.cell? ⟨cn, 0, none⟩ = some (.int .i64 n) := hn.cell (i := 0) rfl
  have c2 : w.cell? ⟨cr, 0, none⟩ = some (.pointer (some ⟨b, 0, none⟩)) := hr.cell (i := 0) rfl
  have c3 := hb.blk.cell (wcA_b l a e (by omega) (a + i) (by omega))
  have hp : pad 64 l = l := by simp [pad, hl]
  rw [hp] at c3
  have hx : l.getD (a + i) 0 < 256 := by
    rw [List.getD_eq_getElem?_getD, List.getElem?_eq_getElem (by omega), Option.getD_some]
    exact hb.bytes _ (List.getElem_mem _)
  generalize l.getD (a + i) 0 = x at c3 hx ⊢
  have f := hn.frozen 0
  have HN := Lib.hid hn
  clear hn hr hb hp
  go_enter Tryd.func123, Tryd.ntmps123
  go_wp2
  go_region
  rw [or_i64 n x i hi hx hnb]
  go_end0
  exact ⟨rfl, (HN.out.set 0 _).drew, ((Fr.refl _ _).setCell _ (by simp) _).drew⟩

/-- the bytes that are taken next -/
def nextBytes (l : List Nat) (a s : Nat) : List Nat := (l.drop a).take s
theorem nextBytes_succ (l : List Nat) (a s : Nat) (h : a + s < l.length) : nextBytes l a (s + 1) = nextBytes l a s ++ [l.getD (a + s) 0] := by
  unfold nextBytes
  rw [List.take_succ_eq_append_getElem (by simp; omega)]
  simp [List.getD_eq_getElem?_getD, List.getElem?_eq_getElem h]
theorem nextBytes_len (l : List Nat) (a s : Nat) (h : a + s ≤ l.length) : (nextBytes l a s).length = s := by simp [nextBytes]; omega
theorem nextBytes_mem (l : List Nat) (a s : Nat) : ∀ x, x ∈ nextBytes l a s → x ∈ l := fun x hx => List.mem_of_mem_drop (List.mem_of_mem_take hx)

set_option maxHeartbeats 400000 in
theorem Take_no (b : Nat) (l : List Nat) (a : Nat) (size : Int) (w : World) (h : IsReader w b l a 0) (he : ¬ wrongE size (60 - a) = 0) :
    Calls Tryd.prog 96 #[.pointer (some ⟨b, 0, none⟩), .int .i64 size] w fun e' w' => e' = .returned (.int .i64 0) ∧ IsReader w' b l a (wrongE size (60 - a)) ∧ Fr [b] w w' := by
  have hl := h.len
  have hby := h.bytes
  have ha := h.at60
  have c0 := h.blk.cell (wcA_at l a 0 (by omega))
  have c1 := h.blk.cell (wcA_e l a 0 (by omega))
  have f := h.blk.frozen
  have hb := h.blk.lt
  have HB := Lib.hid h.blk
  obtain ⟨x, hx⟩ : ∃ x, x = wrongE size (60 - a) := ⟨_, rfl⟩
  rw [← hx] at he ⊢
  have HE := Lib.hid hx.symm
  have HS := Lib.hid (wcA_setE l a 0 x (by omega))
  have b0 : (x != 0) = true := bne_iff_ne.2 he
  have HBY := Lib.hid hby
  clear he h hx hby
  go_enter Tryd.func96, Tryd.ntmps96
  go_wp2_with fail
  have hw : IntKind.i64.wrap (60 - (a : Int)) = 60 - a := by rw [IntKind.wrap_i64]; omega
  go_region_with (go_at_call 121; refine (wrong_any _ _ _).mono ?_; rintro e w1 ⟨rfl, rfl⟩; rw [HE.out])
  all_goals
    clear hw
    go_wp2_with fail
    go_ret
    refine ⟨rfl, ⟨hl, ha, HBY.out, ?_⟩, (((Fr.refl [b] w).setCell ⟨b, 65, none⟩ (.inl (by simp)) _).alloc _).drew⟩
    have := ((HB.out.set 65 (.int .i64 x)).alloc (.cells #[.pointer (some ⟨b, 0, none⟩)] 159)).drew
    rw [HS.out] at this
    exact this

set_option maxHeartbeats 1600000 in
theorem Take_ok (b : Nat) (l : List Nat) (a s : Nat) (w : World) (h : IsReader w b l a 0) (hs1 : 1 ≤ s) (hs2 : s ≤ 7) (hfits : a + s ≤ 60) :
    Calls Tryd.prog 96 #[.pointer (some ⟨b, 0, none⟩), .int .i64 s] w fun e' w' => e' = .returned (.int .i64 (numOf (nextBytes l a s) : Nat)) ∧ IsReader w' b l (a + s) 0 ∧ Fr [b] w w' := by
  have hl := h.len
  have hby := h.bytes
  have ha := h.at60
  have c0 := h.blk.cell (wcA_at l a 0 (by omega))
  have c1 := h.blk.cell (wcA_e l a 0 (by omega))
  have f := h.blk.frozen
  have hb := h.blk.lt
  have HB := Lib.hid h.blk
  have he : wrongE s (60 - a) = 0 := by unfold wrongE; rw [if_neg (by omega), if_neg (by omega)]
  have HE := Lib.hid he
  have HS := Lib.hid (wcA_setE l a 0 0 (by omega))
  have HBY := Lib.hid hby
  clear he h hby
  go_enter Tryd.func96, Tryd.ntmps96
  go_upto_region 3 with fail
  go_cut [] (fun wr => ∃ w3, w3 = wr ∧ Blk w3 b 190 (wcA l a 0) ∧ Blk w3 w.heap.size 159 #[.pointer (some ⟨b, 0, none⟩)] ∧ Fr [b] w w3 ∧ w.heap.size + 1 ≤ w3.heap.size)
  case first =>
    go_wp2_with fail
    have hw : IntKind.i64.wrap (60 - (a : Int)) = 60 - a := by rw [IntKind.wrap_i64]; omega
    go_region_with (go_at_call 121; refine (wrong_any _ _ _).mono ?_; rintro e w1 ⟨rfl, rfl⟩; rw [HE.out])
    all_goals
      clear hw
      go_wp2_with fail
      go_meet
      have hsz : (w.setCell ⟨b, 65, none⟩ (.int .i64 0)).heap.size = w.heap.size := by simp [World.setCell]
      have h3 := ((HB.out.set 65 (.int .i64 0)).alloc (.cells #[.pointer (some ⟨b, 0, none⟩)] 159)).drew
      rw [HS.out] at h3
      have h4 := (Blk.new (w.setCell ⟨b, 65, none⟩ (.int .i64 0)) #[.pointer (some ⟨b, 0, none⟩)] 159).drew
      rw [hsz] at h4
      exact ⟨_, rfl, h3, h4, (((Fr.refl [b] w).setCell ⟨b, 65, none⟩ (.inl (by simp)) _).alloc _).drew, by simp [World.setCell]⟩
  case rest =>
    obtain ⟨w3, rfl, hb3, hw3, hF3, hsz3⟩ := hcut
    clear c0 c1 f
    have c0 := hb3.cell (wcA_at l a 0 (by omega))
    have c1 := hb3.cell (wcA_e l a 0 (by omega))
    have c3 : w3.cell? ⟨w.heap.size, 0, none⟩ = some (.pointer (some ⟨b, 0, none⟩)) := hw3.cell (i := 0) rfl
    have hb4 := hb3.alloc (.cells #[.int .i64 0] 3)
    have hw4 := hw3.alloc (.cells #[.int .i64 0] 3)
    have hn4 := Blk.new w3 #[.int .i64 0] 3
    have hF4 := hF3.alloc (.cells #[.int .i64 0] 3)
    have HE3 := Lib.hid (each_any 123 (.pointer (some ⟨w3.heap.size, 0, none⟩)) (.pointer (some ⟨w.heap.size, 0, none⟩)) s
      (fun i wr => Blk wr b 190 (wcA l a 0) ∧ Blk wr w3.heap.size 3 #[.int .i64 (numOf (nextBytes l a i) : Nat)] ∧ Blk wr w.heap.size 159 #[.pointer (some ⟨b, 0, none⟩)] ∧ Fr [b] w wr) _
      (enters_of Tryd.func123 (by kernel_rfl) rfl) (by omega) ⟨hb4, by simpa [nextBytes, numOf] using hn4, hw4, hF4⟩ (by
        rintro i wr hi ⟨q1, q2, q3, q4⟩
        have hlt := numOf_lt (nextBytes l a i) (fun x hx => HBY.out x (nextBytes_mem _ _ _ x hx))
        rw [nextBytes_len l a i (by omega)] at hlt
        refine (Take1_any b w3.heap.size w.heap.size l a i _ 0 wr ⟨hl, ha, HBY.out, q1⟩ q2 q3 (by omega) (by omega) hlt).mono ?_
        rintro e w' ⟨rfl, r1, r2⟩
        refine ⟨rfl, q1.fr r2 (by simp; omega), ?_, q3.fr r2 (by simp; omega), q4.comp r2 (by simp; omega)⟩
        rw [nextBytes_succ l a i (by omega), numOf_append, nextBytes_len l a i (by omega)]
        exact r1))
    clear hb3 hw3 hF3 hb4 hw4 hn4 hF4
    go_wp2_with fail
    refine HE3.out.mono ?_
    rintro e w4 ⟨rfl, q1, q2, q3, q4⟩
    have d0 := q1.cell (wcA_at l a 0 (by omega))
    have d2 : w4.cell? ⟨w3.heap.size, 0, none⟩ = some (.int .i64 (numOf (nextBytes l a s) : Nat)) := q2.cell (i := 0) rfl
    have d3 : w4.cell? ⟨w.heap.size, 0, none⟩ = some (.pointer (some ⟨b, 0, none⟩)) := q3.cell (i := 0) rfl
    have f4 := q1.frozen
    have hset := q1.set 64 (.int .i64 (a + s : Nat))
    rw [wcA_setA _ _ _ _ (by omega)] at hset
    have HSET := Lib.hid hset
    clear hset q1 q2 q3
    go_wp2_with fail
    go_ret
    refine ⟨rfl, ⟨hl, by omega, HBY.out, HSET.out⟩, q4.setCell ⟨b, 64, none⟩ (.inl (by simp)) _⟩
end Go.Proofs.YtgmjhpappamenaaDoor
