/- second: the iterator over keys, and the law's keys. -/
import Derived.Maps.OwnIn
import Derived.Test.YthhkgknolclakaaSecK
namespace Go.Proofs.Ythhkgknolclakaa
open Go Go.RowKit Go.Shelf Go.Maps
attribute [local go_sem] Oper.semAt_some

set_option maxRecDepth 100000 in
set_option maxHeartbeats 2000000 in
theorem all1_in (F : Fence) (n : Nat) (h7 : F.fn 43) (hro : F.round = none) (hn : 1 ≤ n) (l B1 B2 g1 g2 len d1 d2 : Nat) (L : List (Int × Bool)) (hreach : len * 8 ≤ 140737488351232) (J Jx : List (Int × Bool) → World → Prop)
    (hY : ∀ pre (x : Int × Bool) W, J pre W → pre.length < len → YieldAt F (n - 1) Try.prog l #[.int .i64 x.1, .bool x.2] W fun e W' =>
      (e = .returned (.bool true) ∧ J (pre ++ [x]) W' ∧ KpL [B2, g1, g2] W W') ∨ (e = .returned (.bool false) ∧ Jx (pre ++ [x]) W'))
    (W : World) (hB1 : W.cell? ⟨B1, 0, none⟩ = some (.slice (some ⟨g1, 0, none⟩) len d1)) (hB2 : Blk W B2 39 #[.slice (some ⟨g2, 0, none⟩) len d2]) (cur1 cur2 : Array Value) (hb1 : Blk W g1 3 cur1) (hb2 : Blk W g2 4 cur2)
    (hc1 : ∀ j, j < len → cur1[j]? = some (.int .i64 (L[j]?.getD (0, false)).1)) (hc2 : ∀ j, j < len → cur2[j]? = some (.bool (L[j]?.getD (0, false)).2)) (h0 : J [] W) :
    CallsIn F n Try.prog 43 #[.func (.yield l) #[] #[], .pointer (some ⟨B1, 0, none⟩), .pointer (some ⟨B2, 0, none⟩)] W fun e W' => (∃ v, e = .returned v) ∧
      ((∃ ys, ys = upto (fun j => L[j]?.getD (0, false)) len ∧ J ys W') ∨ (∃ pre, (∃ k, k ≤ len ∧ pre = upto (fun j => L[j]?.getD (0, false)) k) ∧ Jx pre W')) := by
  refine callsIn_of_wp Try.func43 rfl h7 ?_ hro
  simp only [Try.ntmps43, List.size_toArray, List.length_cons, List.length_nil, Nat.reduceAdd, Nat.reduceSub, Array.replicate_succ, Array.replicate_zero, List.push_toArray, List.append_toArray, List.nil_append, List.cons_append]
  gi_wp2
  gi_loopw [4, 5, 8] (fun _ _ i wr => ∃ k : Nat, k ≤ len ∧ i = .int .i64 k ∧ J (upto (fun j => L[j]?.getD (0, false)) k) wr ∧ KpL [B2, g1, g2] W wr)
    (fun _ _ i _ => len - (intOf i).toNat)
  case atStart => exact ⟨0, Nat.zero_le _, rfl, h0, KpL.refl _ _⟩
  case round =>
    obtain ⟨k, hk, rfl, hJs, hnx⟩ := hrel
    by_cases hlt : k < len
    · obtain ⟨fn, tmps, assign, body, hy, hR⟩ := hY _ (L[k]?.getD (0, false)) wr hJs (by rw [upto_length]; exact hlt)
      have x1 : wr.cell? ⟨g1, k, none⟩ = some (.int .i64 (L[k]?.getD (0, false)).1) := (hb1.kp hnx (by simp)).cell (hc1 k hlt)
      have x2 : wr.cell? ⟨g2, k, none⟩ = some (.bool (L[k]?.getD (0, false)).2) := (hb2.kp hnx (by simp)).cell (hc2 k hlt)
      have x3 := (hB2.kp hnx (by simp)).cell (i := 0) rfl
      have hus := upto_succ (fun j => L[j]?.getD (0, false)) k
      generalize L[k]?.getD (0, false) = p at *
      have HU := Lib.hid hus
      clear hus
      obtain ⟨p1, p2⟩ := p
      gi_wp2
      refine hR.mono ?_
      rintro e W3 (⟨rfl, hJ3, hk3⟩ | ⟨rfl, hJx3⟩)
      · gi_wp2
        go_roundw
        case rel => exact ⟨k + 1, by omega, by simp, by rw [HU.out]; exact hJ3, hnx.trans hk3⟩
        case measure => simp [intOf]; omega
      · gi_wp2
        refine bodyPost_ret (results_none rfl _ _ _) rfl ?_
        exact ⟨⟨_, rfl⟩, .inr ⟨_, ⟨k + 1, by omega, HU.out.symm⟩, hJx3⟩⟩
    · obtain rfl : k = len := by omega
      gi_wp2
      go_end0
      exact ⟨⟨_, rfl⟩, .inl ⟨_, rfl, hJs⟩⟩
set_option maxRecDepth 100000 in
set_option maxHeartbeats 1000000 in
theorem all1_nil_in (F : Fence) (n : Nat) (h7 : F.fn 43) (hro : F.round = none) (l B1 B2 : Nat) (oa : Option Addr) (d : Nat) (J : List (Int × Bool) → World → Prop) (W : World) (hB1 : W.cell? ⟨B1, 0, none⟩ = some (.slice oa 0 d)) (h0 : J [] W) :
    CallsIn F n Try.prog 43 #[.func (.yield l) #[] #[], .pointer (some ⟨B1, 0, none⟩), .pointer (some ⟨B2, 0, none⟩)] W fun e W' => (∃ v, e = .returned v) ∧ J [] W' := by
  refine callsIn_of_wp Try.func43 rfl h7 ?_ hro
  simp only [Try.ntmps43, List.size_toArray, List.length_cons, List.length_nil, Nat.reduceAdd, Nat.reduceSub, Array.replicate_succ, Array.replicate_zero, List.push_toArray, List.append_toArray, List.nil_append, List.cons_append]
  gi_wp2
  gi_loopw [4, 5, 8] (fun _ _ i wr => i = .int .i64 0 ∧ J [] wr) (fun _ _ _ _ => 0)
  case atStart => exact ⟨rfl, h0⟩
  case round =>
    obtain ⟨rfl, hJs⟩ := hrel
    gi_wp2
    go_end0
    exact ⟨⟨_, rfl⟩, hJs⟩
/-- the iterator gives all keys, in order, or the first ones -/
theorem all1_stops (F : Fence) (n : Nat) (h7 : F.fn 43) (hro : F.round = none) (hn : 1 ≤ n) (B1 B2 base : Nat) (v1 v2 : Value) (L : List (Int × Bool)) (hreach : L.length * 8 ≤ 140737488351232) (w : World)
    (hc1 : Blk w B1 31 #[v1]) (hc2 : Blk w B2 39 #[v2]) (hI1 : w.ownsRow base 3 1 v1 L.length (intC (kofs L))) (hI2 : w.ownsRow base 4 1 v2 L.length (boolC (L.map (·.2)))) :
    SeqStopsK F n Try.prog 43 #[.pointer (some ⟨B1, 0, none⟩), .pointer (some ⟨B2, 0, none⟩)] (fun x : Int × Bool => #[Value.int .i64 x.1, .bool x.2]) (KpL (B2 :: (v1.ownBlock.toList ++ v2.ownBlock.toList))) (fun ys => ys = L) (fun pre => pre <+: L) L.length w := fun l J Jx W hW _ _ hY h0 => by
  have hc' : W.cell? ⟨B1, 0, none⟩ = some v1 := (hc1.below hW hc1.lt).cell rfl
  obtain ⟨_, ⟨rfl, hz, _⟩ | ⟨g1, d1, cur1, rfl, _, hb1, _, _, _, ht1⟩⟩ := owns_cases hI1
  · obtain rfl : L = [] := List.eq_nil_of_length_eq_zero hz
    exact (all1_nil_in F n h7 hro l B1 B2 _ _ J W hc' h0).mono fun e W' ⟨he, hj⟩ => ⟨he, .inl ⟨_, rfl, hj⟩⟩
  · obtain ⟨_, ⟨rfl, hz, _⟩ | ⟨g2, d2, cur2, rfl, _, hb2, _, _, _, ht2⟩⟩ := owns_cases hI2
    · obtain rfl : L = [] := List.eq_nil_of_length_eq_zero hz
      exact (all1_nil_in F n h7 hro l B1 B2 _ _ J W hc' h0).mono fun e W' ⟨he, hj⟩ => ⟨he, .inl ⟨_, rfl, hj⟩⟩
    · refine (all1_in F n h7 hro hn l B1 B2 g1 g2 L.length d1 d2 L hreach J Jx hY W hc' (hc2.below hW hc2.lt) cur1 cur2 (hb1.below hW hb1.lt) (hb2.below hW hb2.lt) ?_ ?_ h0).mono ?_
      · intro j hj
        exact take_get ht1 (by simp [intC, kofs, hj])
      · intro j hj
        exact take_get ht2 (by simp [boolC, hj])
      · rintro e W' ⟨he, ⟨ys, rfl, hj⟩ | ⟨pre, ⟨k, hk, rfl⟩, hj⟩⟩
        · exact ⟨he, .inl ⟨_, upto_all (0, false) L, hj⟩⟩
        · exact ⟨he, .inr ⟨_, by rw [upto_take (0, false) L hk]; exact List.take_prefix _ _, hj⟩⟩

set_option maxRecDepth 100000 in
theorem keys_of (a : Option Addr) (L : List (Int × Bool)) (w : World) (hl2 : L.length ≤ 1024)
    (hAll : ∀ w1, Fr [] w w1 → Calls Try.prog 33 #[.pointer a] w1 fun e w' => e = .returned (.func (.func 43) #[] #[.pointer (some ⟨w1.heap.size, 0, none⟩), .pointer (some ⟨w1.heap.size + 1, 0, none⟩)]) ∧
      ∃ v1 v2, AllAt w1 w' v1 v2 L) :
    Calls Try.prog 15 #[.pointer a] w fun e w' => ∃ v1 v2, e = .returned (.tuple #[v1, v2, .bool true]) ∧
      w'.ownsRow w.heap.size 3 1 v1 L.length (intC (kofs L)) ∧ w'.ownsRow w.heap.size 4 1 v2 L.length (boolC (L.map (·.2))) ∧ Fr [] w w' := by
  refine (callsIn_wide (n := 6)).1 ?_
  have hro : Fence.wide.round = none := rfl
  refine callsIn_of_wp_marks Try.func15 rfl trivial ?_ hro
  simp only [Try.ntmps15, List.size_toArray, List.length_cons, List.length_nil, Nat.reduceAdd, Nat.reduceSub, Array.replicate_succ, Array.replicate_zero, List.push_toArray, List.append_toArray, List.nil_append, List.cons_append]
  obtain ⟨i0, hi, hz0, hz1, hz2⟩ := infoInt
  obtain ⟨j0, hj, hy0, hy1, hy2⟩ := infoBool
  have HALL := Lib.hid hAll
  clear hAll
  gi_wp2_with fail
  refine ⟨trivial, (callsIn_wide.2 (HALL.out _ ((((Fr.refl [] w).alloc _).alloc _).alloc _))).mono ?_⟩
  rintro e w1 ⟨rfl, v1, v2, hA⟩
  obtain ⟨hF1, hbx1, hbx2, hown1, hown2⟩ := hA
  have hR0 := (((Blk.new w #[.slice none 0 0] 31).alloc (.cells #[.slice none 0 0] 39)).alloc (.cells #[.bool false] 4)).fr hF1 (by simp)
  have hR1 := ((Blk.new (w.alloc (.cells #[.slice none 0 0] 31)) #[.slice none 0 0] 39).alloc (.cells #[.bool false] 4)).fr hF1 (by simp)
  have hR2 := (Blk.new ((w.alloc (.cells #[.slice none 0 0] 31)).alloc (.cells #[.slice none 0 0] 39)) #[.bool false] 4).fr hF1 (by simp)
  simp only [World.size_alloc] at hR1 hR2 hbx1 hbx2 hown1 hown2
  have hsz : w.heap.size + 3 ≤ w1.heap.size := by have := hF1.size; simpa using this
  have hglt1 := owns_block_lt hown1
  have hglt2 := owns_block_lt hown2
  have hF0 : Fr [] w w1 := ((((Fr.refl [] w).alloc _).alloc _).alloc _).trans (hF1.sub (by simp))
  have hbl2 := hbx2.lt
  have qf : ∀ (W : World) x y, (binOp .eql 67 (.func (.func 43) x y) .nilFunc).run Try.prog W = .ok (.bool false) W := fun W x y => run_eql_func_nil W _ _ x y Try.underlying67
  gi_wp2_with fail
  clear qf
  obtain ⟨W2, hW2⟩ : ∃ W2, W2 = (w1.alloc (.cells #[.slice none 0 0] 31)).alloc (.cells #[.slice none 0 0] 39) := ⟨_, rfl⟩
  rw [← hW2]
  have hO6 : Blk W2 w1.heap.size 31 #[.slice none 0 0] := by rw [hW2]; exact (Blk.new _ _ _).alloc _
  have hO7 : Blk W2 (w1.heap.size + 1) 39 #[.slice none 0 0] := by
    have := Blk.new (w1.alloc (.cells #[.slice none 0 0] 31)) #[.slice none 0 0] 39
    rw [World.size_alloc] at this
    rw [hW2]; exact this
  have hs2 : W2.heap.size = w1.heap.size + 2 := by rw [hW2]; simp
  have hx1 : Blk W2 (w.heap.size + 3) 31 #[v1] := by rw [hW2]; exact (hbx1.alloc _).alloc _
  have hx2 : Blk W2 (w.heap.size + 3 + 1) 39 #[v2] := by rw [hW2]; exact (hbx2.alloc _).alloc _
  have ho1 : W2.ownsRow (w.heap.size + 3 + 2) 3 1 v1 L.length (intC (kofs L)) := by rw [hW2]; exact (hown1.alloc _).alloc _
  have ho2 : W2.ownsRow (w.heap.size + 3 + 2) 4 1 v2 L.length (boolC (L.map (·.2))) := by rw [hW2]; exact (hown2.alloc _).alloc _
  have q0 : Blk W2 w.heap.size 31 #[.slice none 0 0] := by rw [hW2]; exact (hR0.alloc _).alloc _
  have q1 : Blk W2 (w.heap.size + 1) 39 #[.slice none 0 0] := by rw [hW2]; exact (hR1.alloc _).alloc _
  have q2 : Blk W2 (w.heap.size + 1 + 1) 4 #[.bool false] := by rw [hW2]; exact (hR2.alloc _).alloc _
  have hF02 : Fr [] w W2 := by rw [hW2]; exact (hF0.alloc _).alloc _
  clear hW2 hR0 hR1 hR2 hown1 hown2 hbx1 hbx2
  have HS2 := Lib.hid hs2
  have HG : ∀ i, i ∈ (w.heap.size + 3 + 1) :: (v1.ownBlock.toList ++ v2.ownBlock.toList) → i < w1.heap.size := by
    intro i hi
    rcases List.mem_cons.1 hi with rfl | hi
    · exact hbl2
    · rcases List.mem_append.1 hi with hi | hi
      · exact hglt1 i hi
      · exact hglt2 i hi
  clear hs2
  refine wpIn_rangeFunc_ownG hro (by omega) (gf := 43) (lb := #[.pointer (some ⟨w.heap.size + 3, 0, none⟩), .pointer (some ⟨w.heap.size + 3 + 1, 0, none⟩)]) rfl trivial (enters_of Try.func43 (by kernel_rfl) rfl)
    (all1_stops Fence.wide (6 - 1) trivial hro (by omega) (w.heap.size + 3) (w.heap.size + 3 + 1) _ v1 v2 L (by omega) W2 hx1 hx2 ho1 ho2) KpL.trans (KpL.put (fun k hk => by have := HG k hk; have := HS2.out; omega)) (Below.refl _ _) (fun _ => rfl)
    (fun pre W => (∃ u1, ∃ u2, (Blk W w1.heap.size 31 #[u1] ∧ Blk W (w1.heap.size + 1) 39 #[u2]) ∧ (W.ownsRow (w1.heap.size + 2) 3 1 u1 pre.length (intC (kofs pre)) ∧ W.ownsRow (w1.heap.size + 2) 4 1 u2 pre.length (boolC (pre.map (·.2)))) ∧
        ∀ g, u1.ownBlock = some g → ¬ u2.ownBlock = some g) ∧ Fr [w1.heap.size, w1.heap.size + 1] W2 W)
    (fun _ _ _ => False)
    (Stable.own fun s => (Stable.ex fun x => Stable.ex fun y => ((Stable.blk _ _ _ _).and (Stable.blk _ _ _ _)).and (((Stable.owns _ _ _ _ _ _ _).and (Stable.owns _ _ _ _ _ _ _)).and (Stable.pure _ _))).and (Stable.fr _ _ (Nat.le_refl _)))
    (fun c => Stable.own fun s => Stable.pure _ _)
    ⟨⟨_, _, ⟨hO6, hO7⟩, ⟨World.ownsRow_nil _ _ _ _, World.ownsRow_nil _ _ _ _⟩, by simp [Value.ownBlock]⟩, Fr.refl _ _⟩ ?a1 ?assign ?body ?done ?stop
  case assign =>
    intro l x W K hK
    gi_wp2
    exact hK
  case body =>
    rintro l0 pre ⟨k1, a1⟩ W ⟨⟨u1, u2, ⟨hb6, hb7⟩, ⟨hu1, hu2⟩, hd⟩, hF⟩ hpre
    have hc := hb6.cell (i := 0) rfl
    have hf := hb6.frozen 0
    have hWl := hb7.lt
    have HO1 := Lib.hid hu1
    have HO2 := Lib.hid hu2
    have hge1 := owns_ge hu1
    have hge2 := owns_ge hu2
    have hlt1 := owns_block_lt hu1
    have hlt2 := owns_block_lt hu2
    clear hu1 hu2
    have hpl : pre.length < 1024 := by omega
    have b1 : decide ((1100 : Int) < (pre.length : Nat) + 1) = false := by simp; omega
    gi_wp2_with (gi_at_builtin; refine wpListIn_append_own_at _ rfl _ _ 31 rfl (w1.heap.size + 2) 3 i0 (.int .i64 0) 1 8 Try.underlying31 hi hz0 hz1 hz2 rfl (by decide) _ _ _ rfl (HO1.out.alloc _) ⟨W.heap.size, 0, none⟩ 1 1 [.int .i64 k1] rfl rfl ?c1 ?c2 ?c3 ?c4 ?c5 ?_)
    case c1 => exact new_cells _ _ _ _ rfl
    case c2 => simp [Value.oneCell']
    case c3 => unfold maxLen; omega
    case c4 => omega
    case c5 => simp; omega
    intro v' w3 hown' hgrow _ hloc
    obtain ⟨g1, d1, hv⟩ : ∃ g' cap', v' = .slice (some ⟨g', 0, none⟩) (pre.length + 1) cap' := by
      obtain ⟨_, ⟨h1, h2, _⟩ | ⟨g', cap', _, h1, _⟩⟩ := owns_cases hown'
      · omega
      · exact ⟨g', cap', h1⟩
    rw [hv] at hown' hloc ⊢
    clear hv
    have hl1 : u1.ownBlock = some g1 ∨ g1 = W.heap.size + 1 := by
      rcases hloc with e | e
      · exact .inl e.symm
      · right
        simpa [Value.ownBlock] using e
    have hlt3 : g1 < w3.heap.size := owns_block_lt hown' g1 (by simp [Value.ownBlock])
    have hap : ¬ g1 ∈ u2.ownBlock.toList := own_apart hl1 hd hlt2 (by omega)
    have hF3 : Fr (u1.ownBlock.toList) W w3 := ((Fr.refl (u1.ownBlock.toList) W).alloc _).grown hgrow (fun g hg => .inl (by simp [hg]))
    have hb6 := hb6.fr hF3 (by intro hm; have := hge1 _ (by simpa using hm); omega)
    have hb7 := hb7.fr hF3 (by intro hm; have := hge1 _ (by simpa using hm); omega)
    have hu2 := owns_fr HO2.out hF3 (fun g hg hm => hd g (by simpa using hm) hg)
    have hc3 := hb6.cell (i := 0) rfl
    have hf3 := hb6.frozen 0
    have hF4 : Fr [w1.heap.size] w3 (w3.setCell ⟨w1.heap.size, 0, none⟩ (.slice (some ⟨g1, 0, none⟩) (pre.length + 1) d1)) := (Fr.refl _ _).setCell _ (by simp) _
    have hb7 := hb7.fr hF4 (by simp)
    have hb6 := hb6.set 0 (.slice (some ⟨g1, 0, none⟩) (pre.length + 1) d1)
    have hu2 := owns_fr hu2 hF4 (fun g hg => by have := hge2 g hg; simp; omega)
    have hu1 := owns_fr hown' hF4 (fun g hg => by have := owns_ge hown' g hg; simp; omega)
    have hs4 : (w3.setCell ⟨w1.heap.size, 0, none⟩ (.slice (some ⟨g1, 0, none⟩) (pre.length + 1) d1)).heap.size = w3.heap.size := by simp
    have hc7 := hb7.cell (i := 0) rfl
    have hf7 := hb7.frozen 0
    have HU1 := Lib.hid hu1
    have HU2 := Lib.hid hu2
    have HS4 := Lib.hid hs4
    clear hu1 hu2 hs4 hgrow hown' hloc
    gi_wp2_with (gi_at_builtin; refine wpListIn_append_own_at _ rfl _ _ 39 rfl (w1.heap.size + 2) 4 j0 (.bool false) 1 1 Try.underlying39 hj hy0 hy1 hy2 rfl (by decide) _ _ _ rfl (HU2.out.alloc _) ⟨w3.heap.size, 0, none⟩ 1 1 [.bool a1] rfl rfl ?d1 ?d2 ?d3 ?d4 ?d5 ?_)
    case d1 => exact new_cells _ _ _ _ (by rw [HS4.out])
    case d2 => simp [Value.oneCell']
    case d3 => unfold maxLen; omega
    case d4 => omega
    case d5 => have := hF3.size; simp; omega
    intro v' w5 hown' hgrow _ hloc
    obtain ⟨g2, d2, hv⟩ : ∃ g' cap', v' = .slice (some ⟨g', 0, none⟩) (pre.length + 1) cap' := by
      obtain ⟨_, ⟨h1, h2, _⟩ | ⟨g', cap', _, h1, _⟩⟩ := owns_cases hown'
      · omega
      · exact ⟨g', cap', h1⟩
    rw [hv] at hown' hloc ⊢
    clear hv
    have hl2 : u2.ownBlock = some g2 ∨ g2 = w3.heap.size + 1 := by
      rcases hloc with e | e
      · exact .inl e.symm
      · right
        simpa [Value.ownBlock] using e
    have hne : ¬ g1 = g2 := own_ne hap hl2 hlt3 (by omega)
    have hF5 : Fr (u2.ownBlock.toList) (w3.setCell ⟨w1.heap.size, 0, none⟩ (.slice (some ⟨g1, 0, none⟩) (pre.length + 1) d1)) w5 := ((Fr.refl (u2.ownBlock.toList) _).alloc _).grown hgrow (fun g hg => .inl (by simp [hg]))
    have hb6 := hb6.fr hF5 (by intro hm; have := hge2 _ (by simpa using hm); omega)
    have hb7 := hb7.fr hF5 (by intro hm; have := hge2 _ (by simpa using hm); omega)
    have hu1 := owns_fr HU1.out hF5 (fun g hg hm => hap (by have e : g1 = g := by simpa [Value.ownBlock] using hg
                                                            exact e ▸ hm))
    have x6 := hb6.cell (i := 0) rfl
    have x7 := hb7.cell (i := 0) rfl
    have y7 := hb7.frozen 0
    have HV1 := Lib.hid hu1
    have HV2 := Lib.hid hown'
    clear hu1 hown' hgrow hloc hc3 hf3 hc7 hf7
    gi_wp2
    have h2 := HS2.out
    have hF6 : Fr [w1.heap.size + 1] w5 (w5.setCell ⟨w1.heap.size + 1, 0, none⟩ (.slice (some ⟨g2, 0, none⟩) (pre.length + 1) d2)) := (Fr.refl _ _).setCell _ (by simp) _
    have hge1' : ∀ i, i ∈ u1.ownBlock.toList → w1.heap.size + 2 ≤ i := fun i hi => hge1 i (by simpa using hi)
    have hge2' : ∀ i, i ∈ u2.ownBlock.toList → w1.heap.size + 2 ≤ i := fun i hi => hge2 i (by simpa using hi)
    have hFz : Fr (w1.heap.size :: (w1.heap.size + 1) :: (u1.ownBlock.toList ++ u2.ownBlock.toList)) W (w5.setCell ⟨w1.heap.size + 1, 0, none⟩ (.slice (some ⟨g2, 0, none⟩) (pre.length + 1) d2)) := by
      refine (((hF3.sub ?_).trans (hF4.sub ?_)).trans (hF5.sub ?_)).trans (hF6.sub ?_)
      · intro i hi; exact .inl (by simp [hi])
      · intro i hi; exact .inl (by simp at hi; simp [hi])
      · intro i hi; exact .inl (by simp [hi])
      · intro i hi; exact .inl (by simp at hi; simp [hi])
    have hmz : ∀ i, i ∈ w1.heap.size :: (w1.heap.size + 1) :: (u1.ownBlock.toList ++ u2.ownBlock.toList) → i = w1.heap.size ∨ i = w1.heap.size + 1 ∨ (w1.heap.size + 2 ≤ i ∧ ∃ T c, Blk W i T c) := by
      intro i hi
      rcases List.mem_cons.1 hi with rfl | hi
      · exact .inl rfl
      · rcases List.mem_cons.1 hi with rfl | hi
        · exact .inr (.inl rfl)
        · rcases List.mem_append.1 hi with hi | hi
          · exact .inr (.inr ⟨hge1' i hi, let ⟨c, hc⟩ := owns_is_blk HO1.out i hi; ⟨_, c, hc⟩⟩)
          · exact .inr (.inr ⟨hge2' i hi, let ⟨c, hc⟩ := owns_is_blk HO2.out i hi; ⟨_, c, hc⟩⟩)
    refine ⟨hFz.keeps ?_, KpL.of_fr hFz ?_, ⟨_, _, ⟨hb6.set_ne ⟨w1.heap.size + 1, 0, none⟩ (.slice (some ⟨g2, 0, none⟩) (pre.length + 1) d2) (by simp), hb7.set 0 _⟩, ⟨?_, ?_⟩, ?_⟩, hF.comp hFz ?_⟩
    · intro r hr
      rcases hmz r hr with rfl | rfl | ⟨_, h⟩
      · exact .inl (by omega)
      · exact .inl (by omega)
      · exact .inr (.inr h)
    · intro k hk hm
      have h3 := HG k hk
      rcases hmz k hm with rfl | rfl | ⟨h, _⟩ <;> omega
    · have := owns_fr HV1.out hF6 (fun g hg => by have := owns_ge HV1.out g hg; simp; omega)
      simpa [intC, kofs] using this
    · have := owns_fr HV2.out hF6 (fun g hg => by have := owns_ge HV2.out g hg; simp; omega)
      simpa [boolC] using this
    · intro g hg hg'
      have e1 : g1 = g := by simpa [Value.ownBlock] using hg
      have e2 : g2 = g := by simpa [Value.ownBlock] using hg'
      exact hne (e1.trans e2.symm)
    · intro i hi
      rcases hmz i hi with rfl | rfl | ⟨h, _⟩
      · exact .inl (by simp)
      · exact .inl (by simp)
      · exact .inr (by omega)
  case done =>
    rintro D ys W hD rfl ⟨⟨u1, u2, ⟨hb6, hb7⟩, ⟨hu1, hu2⟩, hd⟩, hF⟩ hK
    have h2 := HS2.out
    have hc6 := hb6.cell (i := 0) rfl
    have hc7 := hb7.cell (i := 0) rfl
    have p0 := q0.fr hF (by simp; omega)
    have p1 := q1.fr hF (by simp; omega)
    have p2 := q2.fr hF (by simp; omega)
    have hr0 := p0.cell (i := 0) rfl
    have hr1 := p1.cell (i := 0) rfl
    have hr2 := p2.cell (i := 0) rfl
    have fr0 := p0.frozen 0
    have fr1 := p1.frozen 0
    have fr2 := p2.frozen 0
    have hFz : Fr [] w W := hF02.comp hF (by simp; omega)
    obtain ⟨oa1, ca1, hv1, _⟩ := owns_cells hu1
    obtain ⟨oa2, ca2, hv2, _⟩ := owns_cells hu2
    subst hv1
    subst hv2
    have HU1 := Lib.hid hu1
    have HU2 := Lib.hid hu2
    clear hu1 hu2
    gi_wp2_with fail
    have hmx : Try.prog.follows .mixedOrders = true := by kernel_rfl
    gi_region
    gi_wp2
    obtain ⟨W3, hW3⟩ : ∃ W3, W3 = (((W.setCell ⟨w.heap.size, 0, none⟩ (.slice oa1 ys.length ca1)).setCell ⟨w.heap.size + 1, 0, none⟩ (.slice oa2 ys.length ca2)).setCell ⟨w.heap.size + 1 + 1, 0, none⟩ (.bool true)).drew := ⟨_, rfl⟩
    have B0 : Blk W3 w.heap.size 31 #[.slice oa1 ys.length ca1] := by rw [hW3]; exact (((p0.set 0 _).set_ne _ _ (by simp <;> omega)).set_ne _ _ (by simp <;> omega)).drew
    have B1 : Blk W3 (w.heap.size + 1) 39 #[.slice oa2 ys.length ca2] := by rw [hW3]; exact (((p1.set_ne _ _ (by simp <;> omega)).set 0 _).set_ne _ _ (by simp <;> omega)).drew
    have B2 : Blk W3 (w.heap.size + 1 + 1) 4 #[.bool true] := by rw [hW3]; exact (((p2.set_ne _ _ (by simp <;> omega)).set_ne _ _ (by simp <;> omega)).set 0 _).drew
    have hF3 : Fr [w.heap.size, w.heap.size + 1, w.heap.size + 1 + 1] W W3 := by rw [hW3]; exact ((((Fr.refl _ _).setCell _ (by simp) _).setCell _ (by simp) _).setCell _ (by simp) _).drew
    have hK3 : W3.heap[D]? = some (.deferred (some [])) := (hF3.block D (Array.getElem?_eq_some_iff.1 hK).1 (by simp; omega)).trans hK
    have hP : Fr [D] W3 (W3.putObj D (.deferred none)) := (Fr.refl [D] W3).put' D (by simp) _
    have C0 := (B0.fr hP (by simp; omega)).cell (i := 0) rfl
    have C1 := (B1.fr hP (by simp; omega)).cell (i := 0) rfl
    have C2 := (B2.fr hP (by simp; omega)).cell (i := 0) rfl
    rw [← hW3]
    refine ⟨by simp, .inl ⟨_, _, rfl, run_takeDeferred hK3, ?_⟩⟩
    refine ⟨.tuple #[.slice oa1 ys.length ca1, .slice oa2 ys.length ca2, .bool true], by simp [results, Try.results15, go_sem, C0, C1, C2], ?_⟩
    have fin : ∀ (e : TypeId) (v : Value) (xs : List Value), W.ownsRow (w1.heap.size + 2) e 1 v ys.length xs → (W3.putObj D (.deferred none)).ownsRow w.heap.size e 1 v ys.length xs := by
      intro e v xs hu
      have hown3 := owns_fr hu hF3 (fun g hg => by have := owns_ge hu g hg; simp; omega)
      refine owns_base (owns_fr hown3 hP (fun g hg => ?_)) (show w.heap.size ≤ w1.heap.size + 2 by omega)
      obtain ⟨c, hc⟩ := owns_is_blk hown3 g (by simp [hg])
      intro e
      obtain rfl : g = D := by simpa using e
      unfold Blk at hc
      rw [hK3] at hc
      cases hc
    exact ⟨_, _, rfl, fin _ _ _ HU1.out, fin _ _ _ HU2.out, (hFz.comp hF3 (by simp; omega)).put D (by omega) _⟩
  case stop =>
    rintro D c pre W _ _ h _
    exact h.elim
end Go.Proofs.Ythhkgknolclakaa
