/- pages: sectors, read one behind the other. -/
import Derived.Test.YtgmjhpappamenaaDoorPageF
import Derived.Test.YtgmjhpappamenaaDoorRangeM
import Derived.Test.YtgmjhpappamenaaDoorAidsIn
namespace Go.Proofs.YtgmjhpappamenaaDoor
open Go.RowKit Go.Shelf
attribute [local go_sem] Oper.semAt_some

/-- a device behind so many reads -/
def rdN (x : Dev) (s : Int) : Nat → Dev
  | 0 => x
  | k + 1 => devRd (rdN x s k) (s + k)
def rdB (x : Dev) (s : Int) (k : Nat) : List Nat := devRB (rdN x s k) (s + k)
def rdE (x : Dev) (s : Int) (k : Nat) : Int := devRE (rdN x s k) (s + k)
theorem devRd_F (x : Dev) (s : Int) : (devRd x s).F = x.F ∧ (devRd x s).O = x.O := by unfold devRd nextP; split <;> exact ⟨rfl, rfl⟩
theorem rdN_F (x : Dev) (s : Int) (k : Nat) : (rdN x s k).F = x.F ∧ (rdN x s k).O = x.O := by
  induction k with
  | zero => exact ⟨rfl, rfl⟩
  | succ k ih => exact ⟨(devRd_F _ _).1.trans ih.1, (devRd_F _ _).2.trans ih.2⟩
theorem devRB_len {w : World} {b : Nat} {D : List Nat} {x : Dev} (s : Int) (h : IsDev w b D x) : (devRB x s).length = 64 := by
  unfold devRB
  split
  · rename_i hc
    obtain ⟨k, rfl, hk⟩ := devE_in hc.1
    obtain ⟨bf, ov, pv, _, h⟩ := h
    exact (shownL_secs h.secs h.opens hk).1
  · simp [zeros64]
theorem rdB_len {w : World} {b : Nat} {D : List Nat} (x : Dev) (s : Int) (k : Nat) (h : IsDev w b D (rdN x s k)) : (rdB x s k).length = 64 := devRB_len _ h
set_option maxRecDepth 100000 in
set_option maxHeartbeats 1000000 in
theorem sectors1_in (m : Nat) (b pd ps pn l : Nat) (x : Dev) (s : Int) (n : Nat) (hs0 : 0 ≤ s) (hsn : s + n ≤ 4096) (hO : (x.O.length + 1) * 72 ≤ 140737488355328) (J JY : Nat → World → Prop) (X : World → Prop)
    (hdev : ∀ k W, J k W → ∃ D', IsDev W b D' (rdN x s k) ∧ Blk W pd 25 #[.pointer (some ⟨b, 0, none⟩)] ∧ Blk W ps 3 #[.int .i64 s] ∧ Blk W pn 3 #[.int .i64 (n : Nat)])
    (hmove : ∀ k W W' D' D'', k < n → J k W → IsDev W b D' (rdN x s k) → Fr D' W W' → IsDev W' b D'' (rdN x s (k + 1)) → (∀ i, i ∈ D'' → i ∈ D') → JY k W')
    (hyield : ∀ k W, k < n → JY k W → YieldAt Fence.wide (m - 1) Tryd.prog l #[.agg (bv (rdB x s k)), .int .i64 (rdE x s k)] W fun e W' =>
      (e = .returned (.bool true) ∧ rdE x s k = 0 ∧ J (k + 1) W') ∨ (e = .returned (.bool false) ∧ X W'))
    (W : World) (h0 : J 0 W) :
    CallsIn Fence.wide m Tryd.prog 67 #[.func (.yield l) #[] #[], .pointer (some ⟨pn, 0, none⟩), .pointer (some ⟨pd, 0, none⟩), .pointer (some ⟨ps, 0, none⟩)] W fun e W' => (∃ v, e = .returned v) ∧ (J n W' ∨ X W') := by
  have hro : Fence.wide.round = none := rfl
  refine callsIn_of_wp Tryd.func67 rfl trivial ?_ hro
  simp only [Tryd.ntmps67, List.size_toArray, List.length_cons, List.length_nil, Nat.reduceAdd, Nat.reduceSub, Array.replicate_succ, Array.replicate_zero, List.push_toArray, List.append_toArray, List.nil_append, List.cons_append]
  obtain ⟨D0, hI0, hd0, hs0', hn0⟩ := hdev 0 W h0
  have cn : W.cell? ⟨pn, 0, none⟩ = some (.int .i64 (n : Nat)) := hn0.cell rfl
  have HDEV := Lib.hid hdev
  have HMV := Lib.hid hmove
  have HY := Lib.hid hyield
  have HO := Lib.hid hO
  have H0 := Lib.hid h0
  clear hdev hmove hyield hO h0 hI0 hd0 hs0' hn0
  gi_wp2
  gi_loopw [9] (fun i wr => ∃ k : Nat, k ≤ n ∧ i = .int .i64 k ∧ J k wr) (fun i _ => n - (intOf i).toNat)
  case atStart => exact ⟨0, Nat.zero_le _, rfl, H0.out⟩
  case round =>
    obtain ⟨k, hk, rfl, hJ⟩ := hrel
    have HJ := Lib.hid hJ
    clear hJ
    by_cases hlt : k < n
    · have b0 : decide ((k : Int) < (n : Nat)) = true := by simp; omega
      obtain ⟨D', hI, hd, hs', _⟩ := HDEV.out k wr HJ.out
      have cd : wr.cell? ⟨pd, 0, none⟩ = some (.pointer (some ⟨b, 0, none⟩)) := hd.cell rfl
      have cs : wr.cell? ⟨ps, 0, none⟩ = some (.int .i64 s) := hs'.cell rfl
      gi_wp2_with fail
      have HOK := Lib.hid (rdN_F x s k).2
      refine ⟨trivial, fun h => (by cases h), (callsIn_wide.2 (devRead_any b D' (rdN x s k) (s + k) wr hI (by rw [HOK.out]; exact HO.out))).mono ?_⟩
      rintro e w2 ⟨rfl, D2, hI2, hF2, hD2⟩
      have hl64 := rdB_len x s k hI
      have HI := Lib.hid hI
      have HI2 := Lib.hid hI2
      have HF2 := Lib.hid hF2
      have HD2 := Lib.hid hD2
      clear hI hI2 hF2 hD2 hd hs'
      have HYK := Lib.hid (fun W h => HY.out k W hlt h)
      have e1 : devRB (rdN x s k) (s + k) = rdB x s k := rfl
      have e2 : devRE (rdN x s k) (s + k) = rdE x s k := rfl
      rw [e1, e2]
      clear e1 e2
      generalize rdB x s k = A at *
      generalize rdE x s k = er at *
      have hz : ∀ w, (zeroValue 88).run Tryd.prog w = .ok (.agg (bv zeros64)) w := fun _ => by kernel_rfl
      have hzs : (bv zeros64).size = 64 := by simp [bv_size, zeros64]
      have hAs : (bv A).size = 64 := by rw [bv_size, hl64]
      have hAl : (u8s A).length = 64 := by simp [u8s, hl64]
      have hN := Blk.new w2 (bv zeros64) 88
      gi_wp2_with (first
        | (refine wpListIn_stoAll (cs := u8s A) rfl rfl hN rfl rfl (by rw [hAl]; kernel_rfl) (by rw [hAl, hzs]) (by simp [u8s, Value.oneCell']) ?_; intro w3 hB3 hF3 hs3; obtain ⟨fn, tmps, assign, body, hy, hR⟩ := HYK.out w3 (HMV.out k wr w3 D' D2 hlt HJ.out HI.out ((HF2.out.alloc _).comp hF3 (by simp; exact .inr HF2.out.size)) ((HI2.out.fr ((Fr.refl [] w2).alloc _) (by simp)).fr hF3 (fun i hi hm => by have := HI2.out.lt i hi; simp at hm; omega)) HD2.out); have HR := Lib.hid hR; clear hR)
        | (refine wpListIn_load_all (c := bv A) rfl 88 _ rfl hB3 rfl (by rw [hAs]; kernel_rfl) ?_))
      refine ⟨fun h => (by cases h), HR.out.mono ?_⟩
      rintro e w4 (⟨rfl, rfl, hJ4⟩ | ⟨rfl, hX4⟩)
      · have HJ4 := Lib.hid hJ4
        clear hJ4
        gi_wp2
        go_roundw
        case rel => exact ⟨k + 1, by omega, by go_num, HJ4.out⟩
        case measure => simp [intOf]; omega
      · have HX4 := Lib.hid hX4
        clear hX4
        gi_wp2
        refine bodyPost_ret (results_none rfl _ _ _) rfl ?_
        exact ⟨⟨_, rfl⟩, .inr HX4.out⟩
    · obtain rfl : k = n := by omega
      have b0 : decide ((k : Int) < (k : Nat)) = false := by simp
      gi_wp2
      go_end0
      exact ⟨⟨_, rfl⟩, .inl HJ.out⟩
end Go.Proofs.YtgmjhpappamenaaDoor
