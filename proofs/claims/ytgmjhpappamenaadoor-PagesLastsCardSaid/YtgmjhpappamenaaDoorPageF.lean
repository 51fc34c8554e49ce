/- pages: what sectors tell, joined. -/
import Derived.Test.YtgmjhpappamenaaDoorPageD
import Derived.Test.YtgmjhpappamenaaDoorFormW
import Derived.Test.YtgmjhpappamenaaDoorFieldN
namespace Go.Proofs.YtgmjhpappamenaaDoor
open Go.RowKit Go.Shelf

def gpSeq (l : List Nat) : Int := if gpOk l then (nm l 1 6 : Nat) else 0
def gpNo (l : List Nat) : Int := if gpOk l then (nm l 7 2 : Nat) else 0
def gpOf (l : List Nat) : Int := if gpOk l then ofAt l 4 else 0
def gpMany (l : List Nat) : Int := if gpOk l then (nm l 11 1 : Nat) else 0
def gpEs (l : List Nat) : List En := if gpOk l then ensAt l 4 else [en0, en0, en0, en0]
theorem gpV_eq (l : List Nat) : gpV l = pageL (gpSeq l) (gpNo l) (gpOf l) (gpMany l) (ensC (gpEs l)) := by
  unfold gpV gpSeq gpNo gpOf gpMany gpEs
  split
  · unfold rdP; simp
  · rfl
theorem gpEs_len (l : List Nat) : (gpEs l).length = 4 := by unfold gpEs; split; exact ensAt_len l 4; rfl
theorem gpE_iff (l : List Nat) : gpE l = 0 ↔ gpOk l = true := by
  unfold gpE
  cases gpOk l
  · simp; split <;> omega
  · simp
theorem gpQ_of (l : List Nat) (h : gpOk l = true) : (0 ≤ gpSeq l ∧ gpSeq l ≤ 1099511627776) ∧ (0 ≤ gpMany l ∧ gpMany l ≤ 4) ∧ (1 ≤ gpOf l ∧ gpOf l ≤ 256) := by
  have h1 := h
  unfold gpOk at h1
  simp only [Bool.and_eq_true] at h1
  have h2 := h1.2
  unfold gpQ pageR at h2
  simp only [Bool.and_eq_true] at h2
  obtain ⟨q1, _, q3, q4, _⟩ := h2
  have q1 := wI_iff.1 q1
  have q3 := wI_iff.1 q3
  have q4 := wI_iff.1 q4
  unfold gpSeq gpMany gpOf
  simp only [h, if_true]
  exact ⟨q1, q4, q3⟩
theorem gpOf_le (l : List Nat) : 0 ≤ gpOf l ∧ gpOf l ≤ 256 := by
  cases h : gpOk l
  · unfold gpOf; simp [h]
  · have := gpQ_of l h; omega
/-- is a page whole: all its places are filled, or it is the last one -/
def jWh (o0 mn : Int) (i : Nat) : Bool := mn == 4 || ((i : Int) == o0 - 1 && (decide (0 < mn) || i == 0))
/-- is a sector the next page of a checkpoint -/
def jPg (a : List Nat) (i : Nat) (b : List Nat) : Bool := gpOk b && (gpSeq b == gpSeq a && (gpNo b == (i : Int) && (gpOf b == gpOf a && jWh (gpOf a) (gpMany b) i)))
def jAt (a : List Nat) (i : Nat) (b : List Nat) : Bool := if gpOf a ≤ (i : Int) then decide (b = zeros64) else jPg a i b
def jHd (L : List (List Nat)) : List Nat := L.getD 0 []
def jBad (L : List (List Nat)) : Bool := !(gpOk (jHd L) && decide (gpOf (jHd L) ≤ (L.length : Nat)))
def jR (L : List (List Nat)) : Bool := !jBad L && (List.range L.length).all fun i => jAt (jHd L) i (L.getD i [])
def jSeq (L : List (List Nat)) : Int := if jBad L then 0 else gpSeq (jHd L)
def gpTake (b : List Nat) : List En := (gpEs b).take (gpMany b).toNat
/-- the entries of the first pages -/
def jEs (L : List (List Nat)) (k : Nat) : List En := (L.take (min k (gpOf (jHd L)).toNat)).flatMap gpTake
def JoinedOut (L : List (List Nat)) (w : World) (e : Ending) (w' : World) : Prop :=
  ∃ sv, e = .returned (.tuple #[.int .i64 (jSeq L), sv, .bool (jR L)]) ∧ Fr [] w w' ∧ (jR L = true → w'.ownsRow w.heap.size 83 4 sv (jEs L L.length).length (ensC (jEs L L.length)))
theorem gpTake_le (b : List Nat) : (gpTake b).length ≤ 4 := by unfold gpTake; rw [List.length_take, gpEs_len]; omega
theorem jEs_le (L : List (List Nat)) (k : Nat) : (jEs L k).length ≤ 4 * k := by
  unfold jEs
  have h : ∀ X : List (List Nat), (X.flatMap gpTake).length ≤ 4 * X.length := by
    intro X
    induction X with
    | nil => simp
    | cons b r ih => have := gpTake_le b; simp only [List.flatMap_cons, List.length_append, List.length_cons]; omega
  have := h (L.take (min k (gpOf (jHd L)).toNat))
  have h2 : (L.take (min k (gpOf (jHd L)).toNat)).length ≤ k := by simp; omega
  omega
theorem jEs_succ (L : List (List Nat)) (k : Nat) (hk : k < L.length) (b : List Nat) (hb : L[k]? = some b) (ho : (k : Int) < gpOf (jHd L)) : jEs L (k + 1) = jEs L k ++ gpTake b := by
  unfold jEs
  rw [show min (k + 1) (gpOf (jHd L)).toNat = k + 1 by omega, show min k (gpOf (jHd L)).toNat = k by omega, List.take_add_one, hb]
  simp
theorem jEs_stay (L : List (List Nat)) (k : Nat) (ho : gpOf (jHd L) ≤ (k : Int)) : jEs L (k + 1) = jEs L k := by
  unfold jEs
  rw [show min (k + 1) (gpOf (jHd L)).toNat = min k (gpOf (jHd L)).toNat by omega]
theorem jR_not (L : List (List Nat)) (k : Nat) (hk : k < L.length) (b : List Nat) (hb : L[k]? = some b) (h : jAt (jHd L) k b = false) : jR L = false := by
  unfold jR
  rw [Bool.and_eq_false_iff]
  right
  rw [List.all_eq_false]
  refine ⟨k, by simpa using hk, ?_⟩
  rw [List.getD_eq_getElem?_getD, hb]
  simp [h]
theorem jR_yes (L : List (List Nat)) (h0 : jBad L = false) (h : ∀ k b, L[k]? = some b → jAt (jHd L) k b = true) : jR L = true := by
  unfold jR
  rw [h0]
  simp only [Bool.not_false, Bool.true_and, List.all_eq_true, List.mem_range]
  intro k hk
  exact h k _ (by simp [List.getD_eq_getElem?_getD, List.getElem?_eq_getElem hk])
end Go.Proofs.YtgmjhpappamenaaDoor

/- pages: what sectors tell, joined: the walk. -/
namespace Go.Proofs.YtgmjhpappamenaaDoor
open Go.RowKit Go.Shelf

theorem infoEntry : (Tryd.prog.info? 83).map (fun i => (i.zero, i.size, i.bytes)) = some (some (.agg (enC en0).toArray), 4, 32) := by kernel_rfl
theorem pageL_cell (q n o m : Int) (ES : List Value) : (pageL q n o m ES).toArray[0]? = some (.int .i64 q) ∧ (pageL q n o m ES).toArray[1]? = some (.int .i64 n) ∧ (pageL q n o m ES).toArray[2]? = some (.int .i64 o) ∧ (pageL q n o m ES).toArray[3]? = some (.int .i64 m) := ⟨rfl, rfl, rfl, rfl⟩
set_option maxRecDepth 100000 in
set_option maxHeartbeats 1000000 in
theorem joined_any (g cap : Nat) (L : List (List Nat)) (w : World) (hR : w.rangeAt g 0 (firmC L)) (hS : Secs L) (h0 : 0 < L.length) (hn : L.length ≤ 4096) (hg : g < w.heap.size) (hH : Halves w) :
    Calls Tryd.prog 39 #[.slice (some ⟨g, 0, none⟩) L.length cap] w (JoinedOut L w) := by
  have HOUT := Lib.hid (fun e w' (h : JoinedOut L w e w') => h)
  have hz : ∀ w, (zeroValue 129).run Tryd.prog w = .ok (.agg zeroP.toArray) w := fun _ => by kernel_rfl
  have hzs : zeroP.toArray.size = 20 := rfl
  have hzl : zeroP.length = 20 := rfl
  have hzb : ∀ w, (zeroValue 88).run Tryd.prog w = .ok (.agg (bv zeros64)) w := fun _ => by kernel_rfl
  have hzbs : (bv zeros64).size = 64 := by simp [bv_size, zeros64]
  generalize zeroP = Z at *
  have HR := Lib.hid (fun k (hk : k < L.length) W (hF : Fr [] w W) => show W.rangeAt g (k * 64) (u8s L[k]) from by
    have h1 := range_part (ys := u8s L[k]) (k * 64) hR (firmC_get hS k hk)
    rw [Nat.zero_add] at h1
    exact hF.range h1 hg (by simp))
  have HSL := Lib.hid (fun k (hk : k < L.length) => hS L[k] (List.getElem_mem hk))
  have HH := Lib.hid hH
  have HBL := Lib.hid (show Tryd.prog.built 88 [] = some (bv zeros64) by kernel_rfl)
  obtain ⟨i0, hi, hz0, hz1, hz2⟩ := info_parts infoEntry
  have HI := Lib.hid (And.intro hi (And.intro hz0 (And.intro hz1 hz2)))
  clear hi hz0 hz1 hz2
  have HGP := Lib.hid (fun W l h h1 h2 => GetPage_any l W h h1 h2)
  have hg' := hg
  clear hR hS hH
  have ha : jHd L = L[0] := by simp [jHd, List.getD_eq_getElem?_getD, h0]
  obtain ⟨a, haa⟩ : ∃ a, a = L[0] := ⟨_, rfl⟩
  have HRA := Lib.hid (HR.out 0 h0 w (Fr.refl _ _))
  have hal := (HSL.out 0 h0).1
  have HA := Lib.hid (HSL.out 0 h0)
  have HHD := Lib.hid (ha.trans haa.symm)
  rw [← haa] at HRA hal HA
  clear ha haa
  have hVl := gpV_len a
  have hVs : (gpV a).toArray.size = 20 := by simpa using hVl
  have HV1 := Lib.hid (gpV_one a)
  have hVc := pageL_cell (gpSeq a) (gpNo a) (gpOf a) (gpMany a) (ensC (gpEs a))
  rw [← gpV_eq] at hVc
  have HVC := Lib.hid hVc
  clear hVc
  have HRA0 : Hid (w.rangeAt g 0 (u8s a)) := by have := HRA.out; rw [Nat.zero_mul] at this; exact Lib.hid this
  go_enter Tryd.func39, Tryd.ntmps39
  go_wp2_with fail
  apply wp_scope_straight
  go_wp2_with (refine wpList_load_bv rfl 88 _ rfl g 0 rfl a HRA0.out Tryd.underlying88 (by kernel_rfl) hal ?_)
  refine (HGP.out _ a HH.out HA.out.1 HA.out.2).mono ?_
  rintro e w1 ⟨rfl, hF1⟩
  have hN := Blk.new w1 Z.toArray 129
  have hEi := gpE_iff a
  have HEI := Lib.hid hEi
  clear hEi
  cases hok : gpOk a
  · have he : ¬ gpE a = 0 := by rw [HEI.out, hok]; simp
    have hb : jBad L = true := by unfold jBad; rw [HHD.out, hok]; rfl
    have hr : jR L = false := by unfold jR; rw [hb]; rfl
    have hq : jSeq L = 0 := by unfold jSeq; rw [hb]; rfl
    have HX := Lib.hid (And.intro hr hq)
    clear hb hr hq
    generalize gpE a = E at *
    have b1 : (E != 0) = true := by simpa using he
    go_wp2_with (refine wpList_stoAll (cs := gpV a) rfl rfl hN rfl rfl (by rw [hVl]; kernel_rfl) (by rw [hVl, hzs]) HV1.out ?_; intro w2 hB2 hF2 hs2)
    rw [Exit.noGoto_ret]
    go_ret3
    refine HOUT.out _ _ ⟨_, by rw [HX.out.1, HX.out.2]; rfl, (hF1.alloc _).comp hF2 (by simp; exact hF1.size), fun h => ?_⟩
    rw [HX.out.1] at h
    cases h
  · have he : gpE a = 0 := HEI.out.2 hok
    rw [he]
    have hoq := gpQ_of a hok
    by_cases hol : gpOf a ≤ (L.length : Nat)
    · have hb : jBad L = false := by unfold jBad; rw [HHD.out, hok]; simp [hol]
      have hq : jSeq L = gpSeq a := by unfold jSeq; rw [hb, HHD.out]; rfl
      have HBAD := Lib.hid hb
      have HQ := Lib.hid hq
      clear hb hq
      have HES := Lib.hid (fun k hk b hb ho => jEs_succ L k hk b hb ho)
      have HEY := Lib.hid (fun k ho => jEs_stay L k ho)
      rw [HHD.out] at HES HEY
      have HNOT := Lib.hid (fun k hk b hb h => jR_not L k hk b hb h)
      have HYES := Lib.hid (fun h0 h => jR_yes L h0 h)
      rw [HHD.out] at HNOT HYES
      have HELE := Lib.hid (fun k => jEs_le L k)
      have HES0 := Lib.hid (show jEs L 0 = [] by simp [jEs])
      have HAT := Lib.hid (fun i b => show jAt a i b = (if gpOf a ≤ (i : Int) then decide (b = zeros64) else jPg a i b) from rfl)
      have HPG := Lib.hid (fun i b => show jPg a i b = (gpOk b && (gpSeq b == gpSeq a && (gpNo b == (i : Int) && (gpOf b == gpOf a && jWh (gpOf a) (gpMany b) i)))) from rfl)
      generalize gpSeq a = s0 at *
      generalize gpOf a = o0 at *
      have hB0 : decide ((L.length : Int) < o0) = false := by simpa using hol
      go_wp2_with (refine wpList_stoAll (cs := gpV a) rfl rfl hN rfl rfl (by rw [hVl]; kernel_rfl) (by rw [hVl, hzs]) HV1.out ?_; intro w2 hB2 hF2 hs2; have c2 : w2.cell? ⟨w1.heap.size, 2, none⟩ = some (.int .i64 o0) := hB2.cell HVC.out.2.2.1)
      have hF02 : Fr [] w w2 := (hF1.alloc _).comp hF2 (by simp; exact hF1.size)
      have hs1 := hF1.size
      clear hF1 hF2 hN hs2 c2
      refine wp_label ?_
      go_wp2_with fail
      go_loopw [7, 8, 33] (fun sv rt i wr => ∃ k : Nat, k ≤ L.length ∧ i = .int .i64 k ∧ rt = .bool true ∧ (∀ j b, j < k → L[j]? = some b → jAt a j b = true) ∧ wr.ownsRow w.heap.size 83 4 sv (jEs L k).length (ensC (jEs L k)) ∧ (∀ gg, sv.ownBlock = some gg → ¬ gg = w1.heap.size) ∧ Blk wr w1.heap.size 129 (gpV a).toArray ∧ Fr [] w wr) (fun _ _ i _ => L.length - (intOf i).toNat)
      case atStart => exact ⟨0, Nat.zero_le _, rfl, rfl, fun j b hj => (by omega), by rw [HES0.out]; exact World.ownsRow_nil _ _ _ _, fun gg hg => (by cases hg), hB2, hF02⟩
      case round =>
        obtain ⟨k, hk, rfl, rfl, hall, hown, hnp, hB, hF⟩ := hrel
        have HNP := Lib.hid hnp
        clear hnp
        have HALL := Lib.hid hall
        have HO := Lib.hid hown
        have hc0 : wr.cell? ⟨w1.heap.size, 0, none⟩ = some (.int .i64 s0) := hB.cell HVC.out.1
        have hc2 : wr.cell? ⟨w1.heap.size, 2, none⟩ = some (.int .i64 o0) := hB.cell HVC.out.2.2.1
        have hpl := hB.lt
        clear hall hown
        by_cases hlt : k < L.length
        · have b0 : decide ((k : Int) < (L.length : Nat)) = true := by simp; omega
          obtain ⟨b, hb⟩ : ∃ b, b = L[k] := ⟨_, rfl⟩
          have hLk : L[k]? = some b := by rw [hb]; exact List.getElem?_eq_getElem (by omega)
          have HLK := Lib.hid hLk
          have HRK := Lib.hid (HR.out k hlt wr hF)
          have HBK := Lib.hid (HSL.out k hlt)
          rw [← hb] at HRK HBK
          have hbl := HBK.out.1
          clear hb hLk
          have HRK1 := Lib.hid (((Fr.refl [] wr).alloc (.cells (bv zeros64) 88)).range HRK.out (Nat.lt_of_lt_of_le hg hF.size) (by simp))
          have hNb := Blk.new wr (bv zeros64) 88
          have hbs : (bv b).size = 64 := by rw [bv_size, hbl]
          go_upto_if 41 with (first
            | (refine wpList_load_bv rfl 88 _ rfl g (k * 64) rfl b HRK1.out Tryd.underlying88 (by kernel_rfl) hbl ?_)
            | (refine wpList_load_bv rfl 88 _ rfl g (k * 64) rfl b HRK.out Tryd.underlying88 (by kernel_rfl) hbl ?_)
            | (refine wpList_stoAll (cs := u8s b) rfl rfl hNb rfl rfl (by rw [show (u8s b).length = 64 by simp [u8s, hbl]]; kernel_rfl) (by rw [hzbs]; simp [u8s, hbl]) (by simp [u8s, Value.oneCell']) ?_; intro w4 hB4 hF4 hs4; have c2 : w4.cell? ⟨w1.heap.size, 2, none⟩ = some (.int .i64 o0) := ((hB.alloc _).fr hF4 (by simp; omega)).cell HVC.out.2.2.1))
          have hF04 := (hF.alloc (.cells (bv zeros64) 88)).comp hF4 (by simp; exact hF.size)
          have hB' := (hB.alloc (.cells (bv zeros64) 88)).fr hF4 (by simp; omega)
          have HO4 := Lib.hid (owns_fr (owns_alloc HO.out (.cells (bv zeros64) 88)) hF4 (fun g' hg' hm => by have := owns_lt' HO.out g' hg'; simp at hm; omega))
          have hB4 : Blk w4 wr.heap.size 88 (bv b) := hB4
          have hsz4 : w4.heap.size = wr.heap.size + 1 := by rw [hs4]; simp
          have HSZ4 := Lib.hid hsz4
          clear hB hF4 hs4 hc0 hc2 hNb hsz4
          by_cases hko : o0 ≤ (k : Int)
          · have bA : decide ((k : Int) ≥ o0) = true := by simpa using hko
            have hat := HAT.out k b
            rw [if_pos hko] at hat
            have HAK := Lib.hid hat
            have hgd : ∀ (x y : Operand) (A B : Array Value) (W : World), (eqGuard .eql 88 x y (.agg A) (.agg B)).run Tryd.prog W = .ok () W := guard_eql_blocks
            by_cases hbz : b = zeros64
            · have heq : ∀ W, (binOp .eql 88 (.agg (bv b)) (.agg (bv zeros64))).run Tryd.prog W = .ok (.bool true) W := fun W => by
                rw [eql_blocks b zeros64 hbl (by simp [zeros64]) W, decide_eq_true hbz]
              have HBZ := Lib.hid hbz
              clear hbz hat
              go_wp2_with (first
                | (refine wpList_load_all rfl 88 _ rfl hB4 rfl (by rw [hbs]; kernel_rfl) ?_)
                | (refine wpList_do (run_exec_build (t := 88) rfl rfl HBL.out) rfl ?_))
              go_roundw
              case rel => exact ⟨k + 1, by omega, by go_num, rfl, fun j c hj hc => (by by_cases hjk : j < k; exact HALL.out j c hjk hc; obtain rfl : j = k := (by omega); rw [HLK.out] at hc; cases hc; rw [HAK.out, HBZ.out]; simp), by rw [HEY.out k hko]; exact HO4.out, HNP.out, hB', hF04⟩
              case measure => simp [intOf]; omega
            · have heq : ∀ W, (binOp .eql 88 (.agg (bv b)) (.agg (bv zeros64))).run Tryd.prog W = .ok (.bool false) W := fun W => by
                rw [eql_blocks b zeros64 hbl (by simp [zeros64]) W, decide_eq_false hbz]
              have hr := HNOT.out k hlt b HLK.out (by rw [HAK.out]; exact decide_eq_false hbz)
              have HR0 := Lib.hid hr
              have c0 : w4.cell? ⟨w1.heap.size, 0, none⟩ = some (.int .i64 s0) := hB'.cell HVC.out.1
              clear hbz hat hr
              go_wp2_with (first
                | (refine wpList_load_all rfl 88 _ rfl hB4 rfl (by rw [hbs]; kernel_rfl) ?_)
                | (refine wpList_do (run_exec_build (t := 88) rfl rfl HBL.out) rfl ?_))
              rw [Exit.noGoto_ret]
              go_ret3
              refine HOUT.out _ _ ⟨_, by rw [HR0.out, HQ.out]; rfl, hF04, fun h => ?_⟩
              rw [HR0.out] at h
              cases h
          · have bA : decide ((k : Int) ≥ o0) = false := by simp; omega
            go_wp2_with (refine wpList_load_all rfl 88 _ rfl hB4 rfl (by rw [hbs]; kernel_rfl) ?_)
            refine (HGP.out _ b (HH.out.keep hF04 (by simp)) HBK.out.1 HBK.out.2).mono ?_
            rintro e w5 ⟨rfl, hF5⟩
            have hs5 := hF5.size
            have hF5' := hF5
            have hNp := Blk.new w5 Z.toArray 129
            have hB5 := (hB'.fr hF5 (by simp)).alloc (.cells Z.toArray 129)
            have hF05 := (hF04.trans hF5).alloc (.cells Z.toArray 129)
            have HO5 := Lib.hid (owns_alloc (owns_fr HO4.out hF5 (by simp)) (.cells Z.toArray 129))
            have hbVl := gpV_len b
            have HBV1 := Lib.hid (gpV_one b)
            have hbVc := pageL_cell (gpSeq b) (gpNo b) (gpOf b) (gpMany b) (ensC (gpEs b))
            rw [← gpV_eq] at hbVc
            have HBC := Lib.hid hbVc
            have HBEI := Lib.hid (gpE_iff b)
            have HJ : Hid (jAt a k b = (gpOk b && (gpSeq b == s0 && (gpNo b == (k : Int) && (gpOf b == o0 && jWh o0 (gpMany b) k))))) := by
              have hat := HAT.out k b
              rw [if_neg (by omega), HPG.out] at hat
              exact Lib.hid hat
            have HOB := Lib.hid (gpQ_of b)
            have HTK := Lib.hid (show gpTake b = (gpEs b).take (gpMany b).toNat from rfl)
            have HEL := Lib.hid (gpEs_len b)
            have HVE := Lib.hid (gpV_eq b)
            have hwr5 : wr.heap.size < w5.heap.size := by have := HSZ4.out; omega
            obtain ⟨ho1, ho256⟩ := hoq.2.2
            clear hbVc hB' hF04 hF5 hB4
            generalize gpV b = Vb at *
            generalize gpE b = Eb at *
            generalize gpSeq b = sq at *
            generalize gpNo b = no at *
            generalize gpOf b = ofb at *
            generalize gpMany b = mn at *
            go_upto_region 14 with (refine wpList_stoAll (cs := Vb) rfl rfl hNp rfl rfl (by rw [hbVl]; kernel_rfl) (by rw [hbVl, hzs]) HBV1.out ?_; intro w6 hB6 hF6 hs6; have hP6 := hB5.fr hF6 (by simp; omega); have c2 : w6.cell? ⟨w1.heap.size, 2, none⟩ = some (.int .i64 o0) := hP6.cell HVC.out.2.2.1)
            have HF6 := Lib.hid (hF05.comp hF6 (by simp; omega))
            have HO6 := Lib.hid (owns_fr HO5.out hF6 (fun g' hg' hm => by have := owns_lt' (owns_fr HO4.out hF5' (by simp)) g' hg'; simp at hm; omega))
            have HB6 := Lib.hid hB6
            have HP6 := Lib.hid hP6
            have d0 : w6.cell? ⟨w5.heap.size, 0, none⟩ = some (.int .i64 sq) := hB6.cell HBC.out.1
            have d1 : w6.cell? ⟨w5.heap.size, 1, none⟩ = some (.int .i64 no) := hB6.cell HBC.out.2.1
            have d2 : w6.cell? ⟨w5.heap.size, 2, none⟩ = some (.int .i64 ofb) := hB6.cell HBC.out.2.2.1
            have d3 : w6.cell? ⟨w5.heap.size, 3, none⟩ = some (.int .i64 mn) := hB6.cell HBC.out.2.2.2
            have c0 : w6.cell? ⟨w1.heap.size, 0, none⟩ = some (.int .i64 s0) := hP6.cell HVC.out.1
            have hs6' : w6.heap.size = w5.heap.size + 1 := by rw [hs6]; simp
            have HS6 := Lib.hid hs6'
            clear hs6' hs6 hB6 hP6 hF6 hF05 hB5 hNp
            have HWH := Lib.hid (show jWh o0 mn k = (mn == 4 || ((k : Int) == o0 - 1 && (decide (0 < mn) || k == 0))) from rfl)
            generalize jWh o0 mn k = wh at *
            generalize ((k : Int) == o0 - 1) = lb at *
            go_cut [14] (fun t wr' => t = .bool wh ∧ w6 = wr')
            case first =>
              by_cases m4 : mn = 4
              · have b4 : (mn == 4) = true := by simpa using m4
                have hw := HWH.out
                rw [b4] at hw
                have HW := Lib.hid hw
                clear hw m4
                go_wp2_with fail
                go_meet
                exact ⟨by rw [HW.out]; rfl, rfl⟩
              · have b4 : (mn == 4) = false := by simpa using m4
                cases lb
                · have hw := HWH.out
                  rw [b4] at hw
                  have HW := Lib.hid hw
                  clear hw m4
                  go_wp2_with fail
                  go_meet
                  exact ⟨by rw [HW.out]; rfl, rfl⟩
                · by_cases mp : 0 < mn
                  · have b6 : decide (0 < mn) = true := by simpa using mp
                    have hw := HWH.out
                    rw [b4, b6] at hw
                    have HW := Lib.hid hw
                    clear hw m4
                    go_wp2_with fail
                    go_meet
                    exact ⟨by rw [HW.out]; rfl, rfl⟩
                  · have b6 : decide (0 < mn) = false := by simpa using mp
                    have b7 : ((k : Int) == 0) = (k == 0) := by rw [Bool.eq_iff_iff]; simp
                    have hw := HWH.out
                    rw [b4, b6] at hw
                    have HW := Lib.hid hw
                    clear hw m4
                    go_wp2_with fail
                    go_meet
                    exact ⟨by rw [HW.out]; simp, rfl⟩
            case rest =>
              obtain ⟨rfl, rfl⟩ := hcut
              by_cases q1 : gpOk b = true
              · have e0 := HBEI.out.2 q1
                subst e0
                by_cases q2 : sq = s0
                · have r2 : (sq == s0) = true := by simpa using q2
                  by_cases q3 : no = (k : Int)
                  · have r3 : (no == (k : Int)) = true := by simpa using q3
                    by_cases q4 : ofb = o0
                    · have r4 : (ofb == o0) = true := by simpa using q4
                      cases wh
                      · have HR0 := Lib.hid (HNOT.out k hlt b HLK.out (by rw [HJ.out]; simp []))
                        go_wp2_with fail
                        go_ret3
                        refine HOUT.out _ _ ⟨_, by rw [HR0.out, HQ.out]; rfl, HF6.out, fun h => ?_⟩
                        rw [HR0.out] at h
                        cases h
                      · have HJT : Hid (jAt a k b = true) := Lib.hid (by rw [HJ.out, q1, r2, r3, r4]; rfl)
                        obtain ⟨_, hm4, _⟩ := HOB.out q1
                        obtain ⟨m, rfl⟩ := Int.eq_ofNat_of_zero_le hm4.1
                        have hm4' : m ≤ 4 := by omega
                        clear q2 q3 q4 q1
                        have hLE := HELE.out k
                        have hEB : (gpTake b).length = m := by rw [HTK.out, List.length_take, HEL.out]; simp; omega
                        have HNW : Hid (∀ (j : Nat) (u : Value), (ensC (gpTake b))[j]? = some u → w6.cell? (Addr.add ⟨w5.heap.size, 4, none⟩ j) = some u) := Lib.hid (fun j u hj => by
                          rw [Addr.add_mid]
                          refine HB6.out.cell ?_
                          rw [HTK.out, ← ensC_take] at hj
                          rw [List.getElem?_take] at hj
                          split at hj
                          · rw [HVE.out]
                            simp only [pageL, List.getElem?_toArray]
                            rw [List.getElem?_append_right (by simp)]
                            simpa using hj
                          · cases hj)
                        have HEC := Lib.hid (show (ensC (gpTake b)).length = m * 4 by rw [ensC_len, hEB])
                        have HJS := Lib.hid (HES.out k hlt b HLK.out (by omega))
                        have HEB := Lib.hid hEB
                        have hb1 : (jEs L k).length + m ≤ 20000 := by omega
                        have hw6 : w.heap.size ≤ w6.heap.size := by have := HS6.out; omega
                        have hge := owns_ge HO6.out
                        have HGE := Lib.hid hge
                        clear hEB hLE hge
                        go_wp2_with (at_builtin; refine wpList_append_own_at _ rfl _ _ 29 rfl w.heap.size 83 i0 (.agg (enC en0).toArray) 4 32 Tryd.underlying29 HI.out.1 HI.out.2.1 HI.out.2.2.1 HI.out.2.2.2 rfl (by decide) _ (jEs L k).length _ rfl HO6.out ⟨w5.heap.size, 4, none⟩ m 4 (ensC (gpTake b)) rfl HEC.out HNW.out (ensC_one _) (by unfold maxLen; omega) (by omega) hw6 ?_)
                        intro v7 w7 hown7 hgrow7 _ hat7
                        have hF7 : Fr [] w w7 := HF6.out.grown hgrow7 (fun j hj => .inr (HGE.out j hj))
                        have hP7 := HP6.out.grown hgrow7 (fun hj => HNP.out _ hj rfl)
                        have HN7 := Lib.hid (show ∀ gg, v7.ownBlock = some gg → ¬ gg = w1.heap.size from fun gg hgg => by
                          rcases hat7 with h | h
                          · exact HNP.out gg (by rw [← h]; exact hgg)
                          · rw [h] at hgg; have := HS6.out; simp at hgg; omega)
                        have HO7 := Lib.hid hown7
                        clear hown7 hgrow7 hat7
                        go_wp2
                        go_roundw
                        case rel => exact ⟨k + 1, by omega, by go_num, rfl, fun j c hj hc => (by by_cases hjk : j < k; exact HALL.out j c hjk hc; obtain rfl : j = k := (by omega); rw [HLK.out] at hc; cases hc; exact HJT.out), by rw [HJS.out, List.length_append, HEB.out, ensC_append]; exact HO7.out, HN7.out, hP7, hF7⟩
                        case measure => simp [intOf]; omega
                    · have r4 : (ofb == o0) = false := by simpa using q4
                      have HR0 := Lib.hid (HNOT.out k hlt b HLK.out (by rw [HJ.out]; simp [r4]))
                      go_wp2_with fail
                      go_ret3
                      refine HOUT.out _ _ ⟨_, by rw [HR0.out, HQ.out]; rfl, HF6.out, fun h => ?_⟩
                      rw [HR0.out] at h
                      cases h
                  · have r3 : (no == (k : Int)) = false := by simpa using q3
                    have HR0 := Lib.hid (HNOT.out k hlt b HLK.out (by rw [HJ.out]; simp [r3]))
                    go_wp2_with fail
                    go_ret3
                    refine HOUT.out _ _ ⟨_, by rw [HR0.out, HQ.out]; rfl, HF6.out, fun h => ?_⟩
                    rw [HR0.out] at h
                    cases h
                · have r2 : (sq == s0) = false := by simpa using q2
                  have HR0 := Lib.hid (HNOT.out k hlt b HLK.out (by rw [HJ.out]; simp [r2]))
                  go_wp2_with fail
                  go_ret3
                  refine HOUT.out _ _ ⟨_, by rw [HR0.out, HQ.out]; rfl, HF6.out, fun h => ?_⟩
                  rw [HR0.out] at h
                  cases h
              · have e0 : (Eb == 0) = false := by simpa using fun h => q1 (HBEI.out.1 h)
                have HR0 := Lib.hid (HNOT.out k hlt b HLK.out (by rw [HJ.out]; simp [q1]))
                go_wp2_with fail
                go_ret3
                refine HOUT.out _ _ ⟨_, by rw [HR0.out, HQ.out]; rfl, HF6.out, fun h => ?_⟩
                rw [HR0.out] at h
                cases h
        · have hkn : k = L.length := by omega
          have HKN := Lib.hid hkn
          have b0 : decide ((k : Int) < (L.length : Nat)) = false := by simp; omega
          have b1 : decide (k < L.length) = false := by simp; omega
          clear hkn
          go_wp2_with fail
          rw [Exit.noGoto_ret]
          go_ret3
          have hr : jR L = true := HYES.out HBAD.out (fun j b hj => HALL.out j b (by have := (List.getElem?_eq_some_iff.1 hj).1; have := HKN.out; omega) hj)
          have hq := HQ.out
          refine HOUT.out _ _ ⟨_, by rw [hr, hq]; rfl, hF, fun h => ?_⟩
          rw [← HKN.out]
          exact HO.out
    · have hb : jBad L = true := by unfold jBad; rw [HHD.out, hok]; simp [hol]
      have hr : jR L = false := by unfold jR; rw [hb]; rfl
      have hq : jSeq L = 0 := by unfold jSeq; rw [hb]; rfl
      have HX := Lib.hid (And.intro hr hq)
      clear hb hr hq
      generalize gpOf a = o0 at *
      have hB0 : decide ((L.length : Int) < o0) = true := by simp; omega
      go_wp2_with (refine wpList_stoAll (cs := gpV a) rfl rfl hN rfl rfl (by rw [hVl]; kernel_rfl) (by rw [hVl, hzs]) HV1.out ?_; intro w2 hB2 hF2 hs2; have c2 : w2.cell? ⟨w1.heap.size, 2, none⟩ = some (.int .i64 o0) := hB2.cell HVC.out.2.2.1)
      rw [Exit.noGoto_ret]
      go_ret3
      refine HOUT.out _ _ ⟨_, by rw [HX.out.1, HX.out.2]; rfl, (hF1.alloc _).comp hF2 (by simp; exact hF1.size), fun h => ?_⟩
      rw [HX.out.1] at h
      cases h
end Go.Proofs.YtgmjhpappamenaaDoor
