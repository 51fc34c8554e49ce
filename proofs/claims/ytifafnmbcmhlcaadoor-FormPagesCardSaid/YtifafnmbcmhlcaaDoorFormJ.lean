/- forms: the reference's sector. -/
import Derived.Test.YtifafnmbcmhlcaaDoorFormI
namespace Go.Proofs.YtifafnmbcmhlcaaDoor
open Go.RowKit Go.Shelf

def numB (p : Num4) : List Nat := bytesOf p.1.toNat p.2.1.toNat
def numBs (ps : List Num4) : List Nat := ps.flatMap numB
structure GoodN (p : Num4) : Prop where
  n0 : 0 ≤ p.1
  n63 : p.1 < 9223372036854775808
  s1 : 1 ≤ p.2.1
  s7 : p.2.1 ≤ 7
theorem numBs_succ (ps : List Num4) (k : Nat) (h : k < ps.length) : numBs (ps.take (k + 1)) = numBs (ps.take k) ++ numB ps[k] := by
  unfold numBs
  rw [List.take_succ_eq_append_getElem h, List.flatMap_append]
  simp
theorem numBs_le (ps : List Num4) (k : Nat) : (numBs (ps.take k)).length ≤ (numBs ps).length := by
  unfold numBs
  conv => rhs; rw [← List.take_append_drop k ps, List.flatMap_append, List.length_append]
  omega
theorem numBs_mem (ps : List Num4) : ∀ x, x ∈ numBs ps → x < 256 := by
  intro x hx
  simp only [numBs, List.mem_flatMap, numB] at hx
  obtain ⟨p, _, hp⟩ := hx
  exact bytesOf_mem _ _ _ hp
set_option maxRecDepth 100000 in
set_option maxHeartbeats 2000000 in
theorem refBlock06_any (c : Nat) (oa : Option Addr) (cap : Nat) (ps : List Num4) (w : World) (hc : c < 256) (hN : IsNums w oa ps) (hl : ps.length ≤ 1000) (hG : ∀ p, p ∈ ps → GoodN p) (h60 : (numBs ps).length ≤ 59) :
    Calls Tryd.prog 43 #[.int .i64 c, .slice oa ps.length cap] w fun e w' => e = .returned (.agg (bv (sealed (c :: numBs ps)))) ∧ Fr [] w w' := by
  obtain ⟨i0, hi, hz0, hz1, hz2⟩ := info_parts infoByte
  have hz : ∀ w, (zeroValue 33).run Tryd.prog w = .ok (.agg (bv zeros64)) w := fun _ => by kernel_rfl
  have HNU := Lib.hid hN
  have HG := Lib.hid hG
  have H60 := Lib.hid h60
  obtain ⟨n, hn⟩ : ∃ n, n = ps.length := ⟨_, rfl⟩
  rw [← hn] at hl ⊢
  have HN := Lib.hid hn
  have hT0 := Blk.new w (bv zeros64) 33
  have hF0 := (Fr.refl [] w).alloc (.cells (bv zeros64) 33)
  have hcw : IntKind.u8.wrap (c : Int) = (c : Int) := IntWalk.u8_in _ (by omega)
  have hcw2 : (c : Int) % 256 = (c : Int) := by omega
  have HA0 := Lib.hid (blk_new hF0 (u8s [c]).toArray 5)
  have HF1 := Lib.hid (hF0.alloc (.cells (u8s [c]).toArray 5))
  have HT1 := Lib.hid (hT0.alloc (.cells (u8s [c]).toArray 5))
  clear hN hG h60 hn hF0 hT0
  go_enter Tryd.func43, Tryd.ntmps43
  go_wp2_with fail
  clear hcw hcw2
  go_loopw [5, 6] (fun vb i wr => ∃ k : Nat, k ≤ n ∧ i = .int .i64 k ∧ wr.ownsRow (w.heap.size + 1) 5 1 vb (1 + (numBs (ps.take k)).length) (u8s (c :: numBs (ps.take k))) ∧ Blk wr w.heap.size 33 (bv zeros64) ∧ Fr [] w wr) (fun _ i _ => n - (intOf i).toNat)
  case atStart =>
    have := owns_blk_new (n := 1) (cap := 1) (size := 1) (c := u8s [c]) (w.heap.size + 1) HA0.out (by simp) rfl (by omega) (by decide) rfl
    rw [World.size_alloc] at this
    exact ⟨0, Nat.zero_le _, rfl, this, HT1.out, HF1.out⟩
  case round =>
    obtain ⟨k, hk, rfl, hown, hT, hF⟩ := hrel
    have HT := Lib.hid hT
    have HO := Lib.hid hown
    clear hT hown
    by_cases hlt : k < n
    · have hlt' : k < ps.length := by rw [← HN.out]; exact hlt
      obtain ⟨b, off, hoa, c0, c1, c2, c3⟩ := HNU.out k hlt'
      have k0 := cell_fr hF (by simp) c0
      have k1 := cell_fr hF (by simp) c1
      have hg := HG.out ps[k] (List.getElem_mem hlt')
      have HS := Lib.hid (numBs_succ ps k hlt')
      have HLE := Lib.hid (numBs_le ps (k + 1))
      rw [HS.out] at HLE
      obtain ⟨N, hN1⟩ := Int.eq_ofNat_of_zero_le hg.n0
      obtain ⟨s, hs1⟩ := Int.eq_ofNat_of_zero_le (show 0 ≤ ps[k].2.1 by have := hg.s1; omega)
      have hb : numB ps[k] = bytesOf N s := by unfold numB; rw [hN1, hs1]; rfl
      have hN63 := hg.n63
      have hs1' := hg.s1
      have hs7' := hg.s7
      rw [hN1] at k0 hN63
      rw [hs1] at k1 hs1' hs7'
      rw [hb] at HS HLE
      have hN63' : N < 9223372036854775808 := by omega
      have hsa : 1 ≤ s := by omega
      have hsb : s ≤ 7 := by omega
      have HBY := Lib.hid (fun W => refBytes_ok N s W hN63' hsb)
      have j0 : (0 : Int) ≤ (k : Int) := by omega
      have j1 : (k : Int) < (n : Int) := by omega
      have hlen59 := H60.out
      have hle := HLE.out
      rw [List.length_append, bytesOf_len] at hle
      generalize numBs (ps.take k) = L at HO HS hle ⊢
      rw [hoa]
      clear c0 c1 c2 c3 hoa hN1 hs1 hb hg hN63 hs1' hs7'
      go_wp2_with fail
      have hFw := hF.drew
      refine region_ord [] (.take 0 (.take 1 (.take 2 (.take 3 (.take 4 (.take 5 (.take 6 (.take 7 (.take 8 (.take 9 (.pick 10 (.take 11 (.take 12 (.take 13 (.take 14 (.take 15 .done))))) .none))))))))))) (by kernel_rfl) (by kernel_rfl) ?_
      simp only [ordList, Ord.map, List.getD_cons_zero, List.getD_cons_succ]
      refine' ord_pure (v := _) ?_ rfl ?_; rotate_left; focus (intro w; go_simp <;> (first | (with_reducible rfl) | (constructor <;> with_reducible rfl)))
      simp only [Act.put, List.setIfInBounds_toArray, List.set_cons_zero, List.set_cons_succ]
      refine' ord_pure (v := _) ?_ rfl ?_; rotate_left; focus (intro w; go_simp <;> (first | (with_reducible rfl) | (constructor <;> with_reducible rfl)))
      simp only [Act.put, List.setIfInBounds_toArray, List.set_cons_zero, List.set_cons_succ]
      refine' ord_pure (v := _) ?_ rfl ?_; rotate_left; focus (intro w; go_simp <;> (first | (with_reducible rfl) | (constructor <;> with_reducible rfl)))
      simp only [Act.put, List.setIfInBounds_toArray, List.set_cons_zero, List.set_cons_succ]
      refine' ord_pure (v := _) ?_ rfl ?_; rotate_left; focus (intro w; go_simp <;> (first | (with_reducible rfl) | (constructor <;> with_reducible rfl)))
      simp only [Act.put, List.setIfInBounds_toArray, List.set_cons_zero, List.set_cons_succ]
      refine ord_load rfl rfl (by kernel_rfl) rfl k0 (by simp) ?_
      simp only [Act.put, List.setIfInBounds_toArray, List.set_cons_zero, List.set_cons_succ]
      refine' ord_pure (v := _) ?_ rfl ?_; rotate_left; focus (intro w; go_simp <;> (first | (with_reducible rfl) | (constructor <;> with_reducible rfl)))
      simp only [Act.put, List.setIfInBounds_toArray, List.set_cons_zero, List.set_cons_succ]
      refine' ord_pure (v := _) ?_ rfl ?_; rotate_left; focus (intro w; go_simp <;> (first | (with_reducible rfl) | (constructor <;> with_reducible rfl)))
      simp only [Act.put, List.setIfInBounds_toArray, List.set_cons_zero, List.set_cons_succ]
      refine' ord_pure (v := _) ?_ rfl ?_; rotate_left; focus (intro w; go_simp <;> (first | (with_reducible rfl) | (constructor <;> with_reducible rfl)))
      simp only [Act.put, List.setIfInBounds_toArray, List.set_cons_zero, List.set_cons_succ]
      refine' ord_pure (v := _) ?_ rfl ?_; rotate_left; focus (intro w; go_simp <;> (first | (with_reducible rfl) | (constructor <;> with_reducible rfl)))
      simp only [Act.put, List.setIfInBounds_toArray, List.set_cons_zero, List.set_cons_succ]
      refine ord_load rfl rfl (by kernel_rfl) rfl k1 (by simp) ?_
      simp only [Act.put, List.setIfInBounds_toArray, List.set_cons_zero, List.set_cons_succ]
      -- 10: t29 := CALL lavabo/lavaboref04.Bytes(t23, t28)   {4,9}
      refine' ord_call (f := 32) (args := _) ?_ rfl ?_; rotate_left; focus (go_simp <;> (first | (with_reducible rfl) | (constructor <;> with_reducible rfl)))
      refine (HBY.out _).mono ?_
      rintro e w1 ⟨v2, rfl, hown2, hF⟩
      have hF1 := hF
      have hFw := hFw.trans hF
      refine ⟨_, rfl, hF, ?_⟩
      simp only [Act.put, List.setIfInBounds_toArray, List.set_cons_zero, List.set_cons_succ]
      refine' ord_pure (v := _) ?_ rfl ?_; rotate_left; focus (intro w; go_simp <;> (first | (with_reducible rfl) | (constructor <;> with_reducible rfl)))
      simp only [Act.put, List.setIfInBounds_toArray, List.set_cons_zero, List.set_cons_succ]
      refine' ord_pure (v := _) ?_ rfl ?_; rotate_left; focus (intro w; go_simp <;> (first | (with_reducible rfl) | (constructor <;> with_reducible rfl)))
      simp only [Act.put, List.setIfInBounds_toArray, List.set_cons_zero, List.set_cons_succ]
      refine' ord_pure (v := _) ?_ rfl ?_; rotate_left; focus (intro w; go_simp <;> (first | (with_reducible rfl) | (constructor <;> with_reducible rfl)))
      simp only [Act.put, List.setIfInBounds_toArray, List.set_cons_zero, List.set_cons_succ]
      refine' ord_pure (v := _) ?_ rfl ?_; rotate_left; focus (intro w; go_simp <;> (first | (with_reducible rfl) | (constructor <;> with_reducible rfl)))
      simp only [Act.put, List.setIfInBounds_toArray, List.set_cons_zero, List.set_cons_succ]
      refine' ord_pure (v := _) ?_ rfl ?_; rotate_left; focus (intro w; go_simp <;> (first | (with_reducible rfl) | (constructor <;> with_reducible rfl)))
      simp only [Act.put, List.setIfInBounds_toArray, List.set_cons_zero, List.set_cons_succ]
      refine ord_nil ?_
      obtain ⟨g2, cap2, hv2, hge2, hlt2⟩ := hown2.form hsa
      subst hv2
      have hcell2 := Lib.hid (fun j u hj => by
        obtain ⟨cur, hb2, _, _, _, _, _, hcur⟩ := owns_blk hown2
        exact addr_cell (w := w1) (g := g2) (xs := u8s (bytesOf N s)) (fun j u hj => hb2.cell (hcur j u hj)) j u hj)
      have hO1 := owns_fr HO.out ((Fr.refl [] wr).drew.trans hF1) (by simp)
      go_wp2_with (at_builtin; refine wpList_append_own _ rfl _ _ 26 rfl (w.heap.size + 1) 5 i0 (.int .u8 0) 1 1 Tryd.underlying26 hi hz0 hz1 hz2 rfl (by decide) _ (1 + L.length) _ rfl hO1 ⟨g2, 0, none⟩ s cap2 (u8s (bytesOf N s)) rfl (by rw [u8s_len, bytesOf_len]; omega) hcell2.out (u8s_one _) ?e3 ?e4 ?e5 ?_)
      case e3 => unfold maxLen; omega
      case e4 => omega
      case e5 =>
        have h1 := HT.out.lt
        have h2 := hF1.size
        simp at h2
        omega
      intro v3 w3 hown3 hgrow _
      have hF3 : Fr [] w w3 := hFw.comp ((Fr.refl u5.ownBlock.toList w1).grown hgrow (fun g hg => .inl (by simp [hg]))) (fun i hi => .inr (by have := owns_ge HO.out i (by simpa using hi); omega))
      have hT3 := ((HT.out.drew).fr hF1 (by simp)).grown hgrow (by intro h; have := owns_ge HO.out _ h; omega)
      have e : u8s (c :: L) ++ u8s (bytesOf N s) = u8s (c :: (L ++ bytesOf N s)) := by rw [← u8s_append]; rfl
      rw [e] at hown3
      have HO3 := Lib.hid hown3
      have HL := Lib.hid (show 1 + L.length + s = 1 + (L ++ bytesOf N s).length by rw [List.length_append, bytesOf_len]; omega)
      have HF3 := Lib.hid hF3
      have HT3 := Lib.hid hT3
      clear hown3 hgrow e hown2 hO1 hFw hF hF1 hF3 hT3
      go_wp2
      go_roundw
      case rel => exact ⟨k + 1, by omega, by go_num, by rw [HS.out, ← HL.out]; exact HO3.out, HT3.out, HF3.out⟩
      case measure => simp [intOf]; omega
    · obtain rfl : k = n := by omega
      have hn' := HN.out
      rw [hn', List.take_of_length_le (Nat.le_refl _)] at HO
      have HO1 := Lib.hid (show wr.ownsRow (w.heap.size + 1) 5 1 u5 (c :: numBs ps).length (u8s (c :: numBs ps)) by
        have := HO.out
        rw [show (c :: numBs ps).length = 1 + (numBs ps).length by simp; omega]
        exact this)
      have h60 : (c :: numBs ps).length ≤ 60 := by have := H60.out; simp; omega
      have hmem : ∀ x, x ∈ c :: numBs ps → x < 256 := by
        intro x hx
        rcases List.mem_cons.1 hx with rfl | hx
        · exact hc
        · exact numBs_mem ps x hx
      have hsl := sealed_len (c :: numBs ps) h60
      have HB := Lib.hid (refBlock_any (w.heap.size + 1) u5 (c :: numBs ps) wr HO1.out h60 hmem)
      generalize hBe : sealed (c :: numBs ps) = B at HB hsl ⊢
      have HBE := Lib.hid hBe
      clear hBe
      have HSL := Lib.hid hsl
      have hsz : (bv B).size = 64 := by rw [bv_size, hsl]
      clear hn' HO hsl h60 hmem
      go_wp2_with fail
      refine HB.out.mono ?_
      rintro e w2 ⟨rfl, hF2⟩
      obtain ⟨w9, hst, hB9, hF9, hs9⟩ := store_all (P := Tryd.prog) (HT.out.fr hF2 (by simp)) B (by rw [HSL.out, bv_size]; rfl)
      have hF09 : Fr [] w w9 := (hF.trans hF2).comp hF9 (by simp)
      go_wp2_with fail
      have hld := load_var (P := Tryd.prog) (o := 0) hB9 B (bv_self _) Tryd.underlying33 (by kernel_rfl) HSL.out
      exact bodyPost_ret (res_cell Tryd.results43 rfl hld) rfl ⟨by rw [HBE.out], hF09⟩
end Go.Proofs.YtifafnmbcmhlcaaDoor
