/- forms: numbers taken; entries. -/
import Derived.Test.YtgmjhpappamenaaDoorAids
import Derived.Test.YtgmjhpappamenaaDoorFormQ
import Derived.Test.YtgmjhpappamenaaDoorPageD
namespace Go.Proofs.YtgmjhpappamenaaDoor
open Go.RowKit Go.Shelf

/-- a number that stands in a sector -/
def nm (l : List Nat) (a s : Nat) : Nat := numOf (nextBytes l a s)
theorem Take_at (b : Nat) (l : List Nat) (a s : Nat) (w : World) (h : IsReader w b l a 0) (hs : 1 ≤ s) (h7 : s ≤ 7) (h60 : a + s ≤ 60) :
    Calls Tryd.prog 96 #[.pointer (some ⟨b, 0, none⟩), .int .i64 (s : Nat)] w fun e' w' => e' = .returned (.int .i64 (nm l a s : Nat)) ∧ IsReader w' b l (a + s) 0 ∧ Fr [b] w w' := by
  have h0 : wrongE (s : Int) ((60 : Int) - (a : Nat)) = 0 := by unfold wrongE; rw [if_neg (by omega), if_neg (by omega)]
  have := Take_all b l (a, 0) (s : Nat) w h
  simp only [takeV, takeS, if_true, h0, Int.toNat_natCast] at this
  exact this
set_option maxRecDepth 100000 in
set_option maxHeartbeats 1000000 in
theorem entry_any (b : Nat) (l : List Nat) (a : Nat) (w : World) (h : IsReader w b l a 0) (h60 : a + 9 ≤ 60) :
    Calls Tryd.prog 74 #[.func (.func 96) #[.pointer (some ⟨b, 0, none⟩)] #[]] w fun e' w' =>
      e' = .returned (.tuple #[.agg (entV (nm l a 2 : Nat) (nm l (a + 2) 2 : Nat) (nm l (a + 4) 1 == 1) (nm l (a + 5) 4 : Nat)), .bool (decide (1 < nm l (a + 4) 1))]) ∧ IsReader w' b l (a + 9) 0 ∧ Fr [b] w w' := by
  have hF1 := (Fr.refl [] w).alloc (.cells #[.int .i64 0, .int .i64 0, .bool false, .int .i64 0] 83)
  have HI := Lib.hid (h.fr hF1 (by simp))
  have hbl := h.blk.lt
  have hB1 := Blk.new w #[.int .i64 0, .int .i64 0, .bool false, .int .i64 0] 83
  have hF1 := hF1.sub (T := [b]) (by simp)
  have h1 := fun W h => Take_at b l a 2 W h (by omega) (by omega) (by omega)
  have h2 := fun W h => Take_at b l (a + 2) 2 W h (by omega) (by omega) (by omega)
  have h3 := fun W h => Take_at b l (a + 4) 1 W h (by omega) (by omega) (by omega)
  have h4 := fun W h => Take_at b l (a + 5) 4 W h (by omega) (by omega) (by omega)
  generalize nm l a 2 = n1 at *
  generalize nm l (a + 2) 2 = n2 at *
  generalize nm l (a + 4) 1 = n3 at *
  generalize nm l (a + 5) 4 = n4 at *
  have H1 := Lib.hid h1
  have H2 := Lib.hid h2
  have H3 := Lib.hid h3
  have H4 := Lib.hid h4
  have d1 : ((n3 : Int) == 1) = (n3 == 1) := by rw [Bool.eq_iff_iff]; simp; omega
  have D1 := Lib.hid d1
  clear d1
  clear h1 h2 h3 h4
  go_enter Tryd.func74, Tryd.ntmps74
  go_wp2_with fail
  refine (H1.out _ HI.out).mono ?_
  rintro e w2 ⟨rfl, hI2, hF2⟩
  go_wp2_with fail
  refine (H2.out _ hI2).mono ?_
  rintro e w3 ⟨rfl, hI3, hF3⟩
  have hB3 := (hB1.fr hF2 (by simp; omega)).fr hF3 (by simp; omega)
  have hF13 := (hF1.trans hF2).trans hF3
  have hne : ¬ b = w.heap.size := by omega
  go_wp2_with (first
    | (refine wpList_put (i := 0) rfl rfl hB3 rfl rfl rfl (by kernel_rfl) (by simp) ?_; intro w4 hB4 hF4 hs4)
    | (refine wpList_put (i := 1) rfl rfl hB4 rfl rfl rfl (by kernel_rfl) (by simp) ?_; intro w5 hB5 hF5 hs5))
  have hI5 := (hI3.fr hF4 (by simpa using hne)).fr hF5 (by simpa using hne)
  refine (H3.out _ hI5).mono ?_
  rintro e w6 ⟨rfl, hI6, hF6⟩
  have hB6 := hB5.fr hF6 (by simp; omega)
  have hF16 := ((hF13.comp hF4 (by simp)).comp hF5 (by simp)).trans hF6
  go_wp2_with (refine wpList_put (i := 2) rfl rfl hB6 rfl rfl rfl (by kernel_rfl) (by simp) ?_; intro w7 hB7 hF7 hs7)
  generalize hq : ((n3 : Int) == 1) = q at *
  clear hq
  have hI7 := hI6.fr hF7 (by simpa using hne)
  refine (H4.out _ hI7).mono ?_
  rintro e w8 ⟨rfl, hI8, hF8⟩
  have hB8 := hB7.fr hF8 (by simp; omega)
  have hF18 := (hF16.comp hF7 (by simp)).trans hF8
  clear hB1 hB3 hB4 hB5 hB6 hB7 hF1 hF2 hF3 hF4 hF5 hF6 hF7 hF8 hF13 hF16 hI2 hI3 hI5 hI6 hI7
  go_wp2_with (first
    | (refine wpList_put (i := 3) rfl rfl hB8 rfl rfl rfl (by kernel_rfl) (by simp) ?_; intro w9 hB9 hF9 hs9)
    | (refine wpList_load_all rfl 83 _ rfl hB9 rfl (by kernel_rfl) ?_)
    | (refine wpList_stoAll (cs := [.int .i64 n1, .int .i64 n2, .bool q, .int .i64 n4]) rfl rfl hB9 rfl rfl (by kernel_rfl) (by simp) (by simp [Value.oneCell']) ?_; intro w10 hB10 hF10 hs10))
  have hld := load_all (P := Tryd.prog) (ty := 83) hB10 (by kernel_rfl)
  have hq := D1.out
  refine bodyPost_ret (res_cell_at Tryd.results74 rfl rfl hld) rfl ⟨?_, ?_, ?_⟩
  · rw [hq]
    simp [entV]
    omega
  · exact ((hI8.fr hF9 (by simpa using hne)).fr hF10 (by simpa using hne))
  · exact (hF18.comp hF9 (by simp)).comp hF10 (by simp)
end Go.Proofs.YtgmjhpappamenaaDoor

/- forms: what a page's sector tells. -/
namespace Go.Proofs.YtgmjhpappamenaaDoor
open Go.RowKit Go.Shelf

def enAt (l : List Nat) (a : Nat) : En := ⟨(nm l a 2 : Nat), (nm l (a + 2) 2 : Nat), nm l (a + 4) 1 == 1, (nm l (a + 5) 4 : Nat)⟩
def badAt (l : List Nat) (a : Nat) : Bool := decide (1 < nm l (a + 4) 1)
def ensAt (l : List Nat) (k : Nat) : List En := (List.range k).map fun i => enAt l (12 + 9 * i)
def ofAt (l : List Nat) : Nat → Int
  | 0 => (nm l 9 2 : Nat)
  | k + 1 => if badAt l (12 + 9 * k) then 0 else ofAt l k
theorem enC_one (e : En) : ∀ v, v ∈ enC e → v.oneCell' = true := by simp [enC, Value.oneCell']
def rdP (l : List Nat) (k : Nat) : List Value := pageL (nm l 1 6 : Nat) (nm l 7 2 : Nat) (ofAt l k) (nm l 11 1 : Nat) (ensC (ensAt l k ++ List.replicate (4 - k) en0))
theorem ensAt_succ (l : List Nat) (k : Nat) : ensAt l (k + 1) = ensAt l k ++ [enAt l (12 + 9 * k)] := by simp [ensAt, List.range_succ]
theorem ensAt_len (l : List Nat) (k : Nat) : (ensAt l k).length = k := by simp [ensAt]
theorem rdP_len (l : List Nat) (k : Nat) (hk : k ≤ 4) : (rdP l k).length = 20 := by
  unfold rdP; rw [pageL_len, ensC_len]; simp [ensAt_len]; omega
theorem pageL_bad (q n o m : Int) (ES : List Value) : (pageL q n o m ES).toArray.setIfInBounds 2 (.int .i64 0) = (pageL q n 0 m ES).toArray := by simp [pageL]
theorem pageL_ent (q n o m : Int) (A R : List En) (e : En) (k : Nat) (hk : A.length = k) :
    (pageL q n o m (ensC (A ++ en0 :: R))).toArray.toList.take (4 + k * 4) ++ enC e ++ (pageL q n o m (ensC (A ++ en0 :: R))).toArray.toList.drop (4 + k * 4 + (enC e).length) = pageL q n o m (ensC (A ++ e :: R)) := by
  have h1 : (ensC (A ++ en0 :: R)).take (k * 4) = ensC A := by rw [ensC_take, List.take_left' hk]
  have h2 : (ensC (A ++ en0 :: R)).drop ((k + 1) * 4) = ensC R := by
    rw [ensC_drop, ← List.drop_drop, List.drop_left' hk]; rfl
  have h3 : (enC e).length = 4 := rfl
  simp only [List.toList_toArray, pageL]
  rw [h3, List.take_append, List.drop_append]
  simp only [List.length_cons, List.length_nil]
  rw [show 4 + k * 4 - (0 + 1 + 1 + 1 + 1) = k * 4 by omega, h1, show 4 + k * 4 + 4 - (0 + 1 + 1 + 1 + 1) = (k + 1) * 4 by omega, h2, List.take_of_length_le (by simp), List.drop_of_length_le (by simp)]
  simp [ensC]
theorem rdP_succ (l : List Nat) (k : Nat) (hk : k < 4) (o : Int) (ho : o = ofAt l (k + 1)) (R : List Value) (hR : R = pageL (nm l 1 6 : Nat) (nm l 7 2 : Nat) o (nm l 11 1 : Nat) (ensC (ensAt l k ++ List.replicate (4 - k) en0))) :
    R.toArray.toList.take (4 + k * 4) ++ enC (enAt l (12 + 9 * k)) ++ R.toArray.toList.drop (4 + k * 4 + (enC (enAt l (12 + 9 * k))).length) = rdP l (k + 1) := by
  subst hR
  obtain ⟨j, hj⟩ : ∃ j, 4 - k = j + 1 := ⟨3 - k, by omega⟩
  rw [hj, List.replicate_succ, pageL_ent _ _ _ _ _ _ _ _ (ensAt_len l k)]
  unfold rdP
  rw [ensAt_succ, ho, show 4 - (k + 1) = j by omega]
  simp
set_option maxRecDepth 100000 in
set_option maxHeartbeats 1000000 in
theorem GetPage1_any (b : Nat) (l : List Nat) (w : World) (h : IsReader w b l 1 0) :
    Calls Tryd.prog 92 #[.func (.func 96) #[.pointer (some ⟨b, 0, none⟩)] #[]] w fun e' w' =>
      e' = .returned (.agg (rdP l 4).toArray) ∧ IsReader w' b l 48 0 ∧ Fr [b] w w' := by
  obtain ⟨Z, hZ, hz⟩ := zeroPage
  have hzs : Z.toArray.size = 20 := by simpa using hZ
  have HBP := Lib.hid (fun q n o m => builtPage q n o m)
  have hze : ∀ w, (zeroValue 83).run Tryd.prog w = .ok (.agg (enC en0).toArray) w := fun _ => by kernel_rfl
  have hes : ∀ e, (enC e).toArray.size = 4 := fun e => rfl
  have HE := Lib.hid (fun W k h (hk : k < 4) => show Calls Tryd.prog 74 #[.func (.func 96) #[.pointer (some ⟨b, 0, none⟩)] #[]] W fun e' w' =>
      e' = .returned (.tuple #[.agg (enC (enAt l (12 + 9 * k))).toArray, .bool (badAt l (12 + 9 * k))]) ∧ IsReader w' b l (12 + 9 * k + 9) 0 ∧ Fr [b] W w' from entry_any b l (12 + 9 * k) W h (by omega))
  have HT := Lib.hid (fun a s W h h1 h2 h3 => Take_at b l a s W h h1 h2 h3)
  have hF1 := (Fr.refl [] w).alloc (.cells Z.toArray 129)
  have hI1 := h.fr hF1 (by simp)
  have hbl := h.blk.lt
  have hF1 := hF1.sub (T := [b]) (by simp)
  have hB1 := Blk.new w Z.toArray 129
  have HLP := Lib.hid (fun k hk => rdP_len l k hk)
  have HSU := Lib.hid (fun k hk o ho R hR => rdP_succ l k hk o ho R hR)
  go_enter Tryd.func92, Tryd.ntmps92
  go_wp2_with fail
  refine (HT.out 1 6 _ hI1 (by omega) (by omega) (by omega)).mono ?_
  rintro e w2 ⟨rfl, hI2, hF2⟩
  go_wp2_with fail
  refine (HT.out 7 2 _ hI2 (by omega) (by omega) (by omega)).mono ?_
  rintro e w3 ⟨rfl, hI3, hF3⟩
  go_wp2_with fail
  refine (HT.out 9 2 _ hI3 (by omega) (by omega) (by omega)).mono ?_
  rintro e w4 ⟨rfl, hI4, hF4⟩
  go_wp2_with fail
  refine (HT.out 11 1 _ hI4 (by omega) (by omega) (by omega)).mono ?_
  rintro e w5 ⟨rfl, hI5, hF5⟩
  have hF15 := ((((hF1.trans hF2).trans hF3).trans hF4).trans hF5)
  have hB5 := (((hB1.fr hF2 (by simp; omega)).fr hF3 (by simp; omega)).fr hF4 (by simp; omega)).fr hF5 (by simp; omega)
  have hN5 := Blk.new w5 Z.toArray 129
  have h05 : w.heap.size < w5.heap.size := hB5.lt
  clear hB1 hF1 hF2 hF3 hF4 hF5 hI1 hI2 hI3 hI4
  go_wp2_with (first
    | (refine wpList_do (run_exec_build (t := 129) rfl rfl (HBP.out _ _ _ _)) rfl ?_)
    | (refine wpList_stoAll (cs := rdP l 0) rfl rfl hN5 rfl rfl (by kernel_rfl) (by rw [HLP.out 0 (by omega), hzs]) (pageL_one _ _ _ _ _) ?_; intro w6 hB6 hF6 hs6))
  have hI6 := (hI5.fr ((Fr.refl [] w5).alloc (.cells Z.toArray 129)) (by simp)).fr hF6 (by simp; omega)
  have hB16 := ((hB5.alloc (.cells Z.toArray 129))).fr hF6 (by simp; omega)
  have hF16 := (hF15.alloc (.cells Z.toArray 129)).comp hF6 (by simp; omega)
  clear hF15 hB5 hN5 hI5 hF6
  go_loopw [16] (fun i wr => ∃ k : Nat, k ≤ 4 ∧ i = .int .i64 k ∧ IsReader wr b l (12 + 9 * k) 0 ∧ Blk wr w5.heap.size 129 (rdP l k).toArray ∧ Blk wr w.heap.size 129 Z.toArray ∧ Fr [b] w wr) (fun i _ => 4 - (intOf i).toNat)
  case atStart => exact ⟨0, by omega, rfl, hI6, hB6, hB16, hF16⟩
  case round =>
    obtain ⟨k, hk, rfl, hI, hB, hBZ, hF⟩ := hrel
    by_cases hlt : k < 4
    · go_wp2_with fail
      refine (HE.out _ k hI hlt).mono ?_
      rintro e w7 ⟨rfl, hI7, hF7⟩
      have hB7 := hB.fr hF7 (by simp; omega)
      have hBZ7 := hBZ.fr hF7 (by simp; omega)
      have hF07 := hF.trans hF7
      have hs7 := hF7.size
      have hN := Blk.new w7 (enC en0).toArray 83
      have HS := HSU.out k hlt
      have h57 : w5.heap.size < w7.heap.size := hB7.lt
      have h07 : w.heap.size < w7.heap.size := by omega
      have hll := HLP.out k hk
      have h1e := enC_one (enAt l (12 + 9 * k))
      have ho : ofAt l (k + 1) = if badAt l (12 + 9 * k) then 0 else ofAt l k := rfl
      unfold rdP at hB7 hll
      generalize enAt l (12 + 9 * k) = en at *
      generalize badAt l (12 + 9 * k) = bd at *
      clear hB hBZ hF hF7 hI
      generalize hR0 : pageL (nm l 1 6 : Nat) (nm l 7 2 : Nat) (ofAt l k) (nm l 11 1 : Nat) (ensC (ensAt l k ++ List.replicate (4 - k) en0)) = R0 at *
      have hbad : R0.toArray.setIfInBounds 2 (.int .i64 0) = (pageL (nm l 1 6 : Nat) (nm l 7 2 : Nat) 0 (nm l 11 1 : Nat) (ensC (ensAt l k ++ List.replicate (4 - k) en0))).toArray := by rw [← hR0, pageL_bad]
      have HR0 := Lib.hid (And.intro hR0 (And.intro ho hbad))
      have HSS := Lib.hid HS
      clear hR0 ho hbad HS
      have h420 : 4 + k * 4 + 4 ≤ 20 := by omega
      cases bd
      · go_wp2_with (first
          | (refine wpList_stoAll (cs := enC en) rfl rfl hN rfl rfl (by kernel_rfl) rfl h1e ?_; intro w8 hB8 hF8 hs8)
          | (refine wpList_load_all rfl 83 _ rfl hB8 rfl (by rw [hes]; kernel_rfl) ?_)
          | (refine wpList_sto (o := 4 + k * 4) (cs := enC en) rfl rfl ((hB7.alloc (.cells (enC en0).toArray 83)).fr hF8 (by simp; omega)) rfl rfl (by kernel_rfl) (by simp only [List.size_toArray, hll]; exact h420) h1e ?_; intro w9 hB9 hF9 hs9))
        have hr := HSS.out (ofAt l k) HR0.out.2.1.symm R0 HR0.out.1.symm
        rw [hr] at hB9
        have hFN : Fr [] w7 (w7.alloc (.cells (enC en0).toArray 83)) := (Fr.refl [] w7).alloc _
        have hI9 := ((hI7.fr hFN (by simp)).fr hF8 (by simp; omega)).fr hF9 (by simp; omega)
        have hBZ9 := ((hBZ7.fr hFN (by simp)).fr hF8 (by simp; omega)).fr hF9 (by simp; omega)
        have hF09 := (((hF07.comp hFN (by simp)).comp hF8 (by simp; omega)).comp hF9 (by simp; omega))
        refine ⟨⟨k + 1, by omega, by go_num, ?_, hB9, hBZ9, hF09⟩, by simp [intOf]; omega⟩
        rw [show 12 + 9 * (k + 1) = 12 + 9 * k + 9 by omega]
        exact hI9
      · go_wp2_with (first
          | (refine wpList_stoAll (cs := enC en) rfl rfl hN rfl rfl (by kernel_rfl) rfl h1e ?_; intro w8 hB8 hF8 hs8)
          | (refine wpList_put (i := 2) rfl rfl ((hB7.alloc (.cells (enC en0).toArray 83)).fr hF8 (by simp; omega)) rfl rfl rfl (by kernel_rfl) (by simp [hll]) ?_; intro w10 hB10 hF10 hs10; replace hB10 := (congrArg (fun c => Blk w10 w5.heap.size 129 c) HR0.out.2.2).mp hB10)
          | (refine wpList_load_all rfl 83 _ rfl (hB8.fr hF10 (by simp; omega)) rfl (by rw [hes]; kernel_rfl) ?_)
          | (refine wpList_sto (o := 4 + k * 4) (cs := enC en) rfl rfl hB10 rfl rfl (by kernel_rfl) (by show 4 + k * 4 + 4 ≤ _; simp only [List.size_toArray, pageL_len, ensC_len, List.length_append, ensAt_len, List.length_replicate]; omega) h1e ?_; intro w9 hB9 hF9 hs9))
        have hr := HSS.out 0 HR0.out.2.1.symm _ rfl
        rw [hr] at hB9
        have hFN : Fr [] w7 (w7.alloc (.cells (enC en0).toArray 83)) := (Fr.refl [] w7).alloc _
        have hI9 := (((hI7.fr hFN (by simp)).fr hF8 (by simp; omega)).fr hF10 (by simp; omega)).fr hF9 (by simp; omega)
        have hBZ9 := (((hBZ7.fr hFN (by simp)).fr hF8 (by simp; omega)).fr hF10 (by simp; omega)).fr hF9 (by simp; omega)
        have hF09 := ((((hF07.comp hFN (by simp)).comp hF8 (by simp; omega)).comp hF10 (by simp; omega)).comp hF9 (by simp; omega))
        refine ⟨⟨k + 1, by omega, by go_num, ?_, hB9, hBZ9, hF09⟩, by simp [intOf]; omega⟩
        rw [show 12 + 9 * (k + 1) = 12 + 9 * k + 9 by omega]
        exact hI9
    · obtain rfl : k = 4 := by omega
      have hl4 := HLP.out 4 (by omega)
      have hs4 : (rdP l 4).toArray.size = 20 := by simpa using hl4
      go_wp2_with (first
        | (refine wpList_load_all rfl 129 _ rfl hB rfl (by rw [hs4]; kernel_rfl) ?_)
        | (refine wpList_stoAll (cs := rdP l 4) rfl rfl hBZ rfl rfl (by rw [hl4]; kernel_rfl) (by rw [hl4, hzs]) (pageL_one _ _ _ _ _) ?_; intro w8 hB8 hF8 hs8))
      refine bodyPost_ret (res_cell Tryd.results92 rfl (load_all hB8 (by rw [hs4]; kernel_rfl))) rfl ⟨rfl, hI.fr hF8 (by simp; omega), hF.comp hF8 (by simp)⟩
end Go.Proofs.YtgmjhpappamenaaDoor

/- forms: the page that a sector is. -/
namespace Go.Proofs.YtgmjhpappamenaaDoor
open Go.RowKit Go.Shelf

def gpQ (l : List Nat) : Bool := pageR (nm l 1 6 : Nat) (nm l 7 2 : Nat) (ofAt l 4) (nm l 11 1 : Nat) (ensAt l 4)
def gpOk (l : List Nat) : Bool := isSealed l && (nm l 0 1 == 3) && decide (endV l (48, 0) = 0) && gpQ l
def zeroP : List Value := pageL 0 0 0 0 (ensC [en0, en0, en0, en0])
def gpV (l : List Nat) : List Value := if gpOk l then rdP l 4 else zeroP
def gpE (l : List Nat) : Int := if gpOk l then 0 else if isSealed l then 12 else 13
theorem gpV_len (l : List Nat) : (gpV l).length = 20 := by unfold gpV; split; exact rdP_len l 4 (by omega); rfl
theorem gpV_one (l : List Nat) : ∀ v, v ∈ gpV l → v.oneCell' = true := by
  unfold gpV; split; exact pageL_one _ _ _ _ _; exact pageL_one 0 0 0 0 [en0, en0, en0, en0]
theorem gpR_any (l : List Nat) (w : World) :
    Calls Tryd.prog 93 #[.agg (rdP l 4).toArray] w fun e w' => e = .returned (.bool (gpQ l)) ∧ Fr [] w w' :=
  pageR_any (nm l 1 6 : Nat) (nm l 7 2 : Nat) (ofAt l 4) (nm l 11 1 : Nat) (enAt l 12) (enAt l 21) (enAt l 30) (enAt l 39) w
set_option maxRecDepth 100000 in
set_option maxHeartbeats 1000000 in
theorem getPg_any (l : List Nat) (w : World) (hH : Halves w) (hl : l.length = 64) (hb : ∀ x, x ∈ l → x < 256) :
    Calls Tryd.prog 91 #[.agg (bv l), .int .i64 3, .func (.func 92) #[] #[], .func (.func 93) #[] #[]] w fun e' w' =>
      e' = .returned (.tuple #[.agg (gpV l).toArray, .int .i64 (gpE l)]) ∧ Fr [] w w' := by
  have hz : ∀ w, (zeroValue 129).run Tryd.prog w = .ok (.agg zeroP.toArray) w := fun _ => by kernel_rfl
  have hzs : zeroP.toArray.size = 20 := rfl
  have hzl : zeroP.length = 20 := rfl
  have hz1 : ∀ v, v ∈ zeroP → v.oneCell' = true := pageL_one 0 0 0 0 [en0, en0, en0, en0]
  have HZ1 := Lib.hid hz1
  have hbs : (bv l).size = 64 := by rw [bv_size, hl]
  have HH := Lib.hid hH
  have HS := Lib.hid (fun W h => Sealed_any l W h hl hb)
  have HR := Lib.hid (fun W => Read_any l W hl hb)
  have HT := Lib.hid (fun b W h => Take_at b l 0 1 W h (by omega) (by omega) (by omega))
  have HG := Lib.hid (fun b W h => GetPage1_any b l W h)
  have HE := Lib.hid (fun b W h => End_all b l (48, 0) W h)
  have HQ := Lib.hid (fun W => gpR_any l W)
  have hrl : (rdP l 4).length = 20 := rdP_len l 4 (by omega)
  have hrs : (rdP l 4).toArray.size = 20 := by simpa using hrl
  have HR1 := Lib.hid (show ∀ v, v ∈ rdP l 4 → v.oneCell' = true from pageL_one _ _ _ _ _)
  clear hH hb hz1
  generalize hgv : gpV l = V at *
  generalize hge : gpE l = E at *
  unfold gpV gpOk at hgv
  unfold gpE gpOk at hge
  generalize zeroP = Z at *
  generalize rdP l 4 = R at *
  generalize gpQ l = q at *
  generalize endV l (48, 0) = ee at *
  have HV := Lib.hid (And.intro hgv hge)
  clear hgv hge
  generalize nm l 0 1 = n0 at *
  have hB0 := ((Blk.new w (bv l) 88).alloc (.cells Z.toArray 129)).alloc (.cells Z.toArray 129)
  have hB1 := (blk_at (w.alloc (.cells (bv l) 88)) Z.toArray 129 (w.heap.size + 1) (by simp)).alloc (.cells Z.toArray 129)
  have hB2 := (blk_at ((w.alloc (.cells (bv l) 88)).alloc (.cells Z.toArray 129)) Z.toArray 129 (w.heap.size + 1 + 1) (by simp))
  have hF0 := (((Fr.refl [] w).alloc (.cells (bv l) 88)).alloc (.cells Z.toArray 129)).alloc (.cells Z.toArray 129)
  go_enter Tryd.func91, Tryd.ntmps91
  go_wp2_with (refine wpList_load_all rfl 88 _ rfl hB0 rfl (by rw [hbs]; kernel_rfl) ?_)
  refine (HS.out _ (HH.out.keep hF0 (by simp))).mono ?_
  rintro e w2 ⟨rfl, hF2⟩
  have hs2 := hF2.size
  simp only [World.size_alloc] at hs2
  have hB0 := hB0.fr hF2 (by simp)
  have hB1 := hB1.fr hF2 (by simp)
  have hB2 := hB2.fr hF2 (by simp)
  have hF0 := hF0.trans hF2
  clear hF2
  have e1 : Hid (w.heap.size = w.heap.size) := Lib.hid rfl
  cases hsl : isSealed l
  · have hv := HV.out
    simp only [hsl, Bool.false_and, Bool.false_eq_true, if_false] at hv
    obtain ⟨rfl, rfl⟩ := hv
    go_wp2_with (first
      | (refine wpList_load_all rfl 129 _ rfl hB2 rfl (by rw [hzs]; kernel_rfl) ?_)
      | (refine wpList_stoAll (cs := Z) rfl rfl hB1 rfl rfl (by rw [hzl]; kernel_rfl) (by simp) HZ1.out ?_; intro w3 hB3 hF3 hs3))
    exact bodyPost_ret (res_cell_at Tryd.results91 rfl rfl (load_all hB3 (by rw [hzs]; kernel_rfl))) rfl ⟨by simp, hF0.comp hF3 (by simp)⟩
  · go_wp2_with (refine wpList_load_all rfl 88 _ rfl hB0 rfl (by rw [hbs]; kernel_rfl) ?_)
    refine (HR.out _).mono ?_
    rintro e w3 ⟨b, rfl, hI3, hF3, hb3⟩
    go_wp2_with fail
    refine (HT.out _ _ hI3).mono ?_
    rintro e w4 ⟨rfl, hI4, hF4⟩
    have hne : ∀ j, j ≤ 2 → ¬ w.heap.size + j = b := fun j hj => by omega
    have hB1 := (hB1.fr hF3 (by simp)).fr hF4 (by simp; omega)
    have hB2 := (hB2.fr hF3 (by simp)).fr hF4 (by simp; omega)
    have hF0 := (hF0.trans hF3).comp hF4 (by simp; omega)
    have hs4 := hF4.size
    have hs3 := hF3.size
    have hb4 := hI4.blk.lt
    clear hF3 hF4 hB0
    by_cases hn : n0 = 3
    · subst hn
      go_wp2_with fail
      refine (HG.out _ _ hI4).mono ?_
      rintro e w5 ⟨rfl, hI5, hF5⟩
      have hB1 := hB1.fr hF5 (by simp; omega)
      have hB2 := hB2.fr hF5 (by simp; omega)
      have hF0 := hF0.comp hF5 (by simp; omega)
      have hs5 := hF5.size
      have hN := Blk.new w5 Z.toArray 129
      clear hF5
      go_wp2_with (refine wpList_stoAll (cs := R) rfl rfl hN rfl rfl (by rw [hrl]; kernel_rfl) (by simp [hrl, hzl]) HR1.out ?_; intro w6 hB6 hF6 hs6)
      have hFN := ((Fr.refl [] w5).alloc (.cells Z.toArray 129))
      have hI6 := (hI5.fr hFN (by simp)).fr hF6 (by simp; omega)
      have hB1 := (hB1.fr hFN (by simp)).fr hF6 (by simp; omega)
      have hB2 := (hB2.fr hFN (by simp)).fr hF6 (by simp; omega)
      have hF0 := (hF0.comp hFN (by simp)).comp hF6 (by simp; omega)
      clear hF6 hFN hI5 hN
      simp only [World.size_alloc] at hs6
      refine (HE.out _ _ hI6).mono ?_
      rintro e w7 ⟨rfl, hF7⟩
      have hB1 := hB1.fr hF7 (by simp)
      have hB2 := hB2.fr hF7 (by simp)
      have hB6 := hB6.fr hF7 (by simp)
      have hF0 := hF0.trans hF7
      have hs7 := hF7.size
      clear hF7
      by_cases he : ee = 0
      · subst he
        go_wp2_with (refine wpList_load_allg rfl 129 _ rfl hB6 rfl (by rw [hrs]; kernel_rfl) ?_)
        refine (HQ.out _).mono ?_
        rintro e w8 ⟨rfl, hF8⟩
        have hB1 := hB1.fr hF8 (by simp)
        have hB2 := hB2.fr hF8 (by simp)
        have hB6 := hB6.fr hF8 (by simp)
        have hF0 := hF0.trans hF8
        have hs8 := hF8.size
        clear hF8
        have hv := HV.out
        cases q
        · simp only [hsl, show ((3 : Nat) == 3) = true from rfl, decide_true, Bool.true_and, Bool.and_true, Bool.and_false, Bool.false_eq_true, if_false, if_true] at hv
          obtain ⟨rfl, rfl⟩ := hv
          go_wp2_with (first
            | (refine wpList_load_all rfl 129 _ rfl hB2 rfl (by rw [hzs]; kernel_rfl) ?_)
            | (refine wpList_stoAll (cs := Z) rfl rfl hB1 rfl rfl (by rw [hzl]; kernel_rfl) (by simp) HZ1.out ?_; intro w9 hB9 hF9 hs9))
          exact bodyPost_ret (res_cell_at Tryd.results91 rfl rfl (load_all hB9 (by rw [hzs]; kernel_rfl))) rfl ⟨by simp, hF0.comp hF9 (by simp)⟩
        · simp only [hsl, show ((3 : Nat) == 3) = true from rfl, decide_true, Bool.true_and, Bool.and_true, Bool.and_false, Bool.false_eq_true, if_false, if_true] at hv
          obtain ⟨rfl, rfl⟩ := hv
          go_wp2_with (first
            | (refine wpList_load_all rfl 129 _ rfl hB6 rfl (by rw [hrs]; kernel_rfl) ?_)
            | (refine wpList_stoAll (cs := R) rfl rfl hB1 rfl rfl (by rw [hrl]; kernel_rfl) (by simp [hrl, hzl]) HR1.out ?_; intro w9 hB9 hF9 hs9))
          exact bodyPost_ret (res_cell_at Tryd.results91 rfl rfl (load_all hB9 (by rw [hrs]; kernel_rfl))) rfl ⟨by simp, hF0.comp hF9 (by simp)⟩
      · have hv := HV.out
        have b4 : (ee != 0) = true := by simpa using he
        simp only [hsl, show ((3 : Nat) == 3) = true from rfl, he, decide_false, Bool.true_and, Bool.false_and, Bool.and_false, Bool.false_eq_true, if_false, if_true] at hv
        obtain ⟨rfl, rfl⟩ := hv
        go_wp2_with (first
          | (refine wpList_load_all rfl 129 _ rfl hB2 rfl (by rw [hzs]; kernel_rfl) ?_)
          | (refine wpList_stoAll (cs := Z) rfl rfl hB1 rfl rfl (by rw [hzl]; kernel_rfl) (by simp) HZ1.out ?_; intro w9 hB9 hF9 hs9))
        exact bodyPost_ret (res_cell_at Tryd.results91 rfl rfl (load_all hB9 (by rw [hzs]; kernel_rfl))) rfl ⟨by simp, hF0.comp hF9 (by simp)⟩
    · have hv := HV.out
      have b3 : ((n0 : Int) != 3) = true := by simp; omega
      simp only [hsl, show (n0 == 3) = false by simpa using hn, Bool.true_and, Bool.false_and, Bool.false_eq_true, if_false, if_true] at hv
      obtain ⟨rfl, rfl⟩ := hv
      go_wp2_with (first
        | (refine wpList_load_all rfl 129 _ rfl hB2 rfl (by rw [hzs]; kernel_rfl) ?_)
        | (refine wpList_stoAll (cs := Z) rfl rfl hB1 rfl rfl (by rw [hzl]; kernel_rfl) (by simp) HZ1.out ?_; intro w5 hB5 hF5 hs5))
      exact bodyPost_ret (res_cell_at Tryd.results91 rfl rfl (load_all hB5 (by rw [hzs]; kernel_rfl))) rfl ⟨by simp, hF0.comp hF5 (by simp)⟩
set_option maxRecDepth 100000 in
theorem GetPage_any (l : List Nat) (w : World) (hH : Halves w) (hl : l.length = 64) (hb : ∀ x, x ∈ l → x < 256) :
    Calls Tryd.prog 69 #[.agg (bv l)] w fun e' w' => e' = .returned (.tuple #[.agg (gpV l).toArray, .int .i64 (gpE l)]) ∧ Fr [] w w' := by
  have hz : ∀ w, (zeroValue 129).run Tryd.prog w = .ok (.agg zeroP.toArray) w := fun _ => by kernel_rfl
  have hzs : zeroP.toArray.size = 20 := rfl
  have hzl : zeroP.length = 20 := rfl
  have hbs : (bv l).size = 64 := by rw [bv_size, hl]
  have hvl := gpV_len l
  have hvs : (gpV l).toArray.size = 20 := by simpa using hvl
  have HV1 := Lib.hid (gpV_one l)
  have HG := Lib.hid (fun W h => getPg_any l W h hl hb)
  have HH := Lib.hid hH
  have hB0 := ((Blk.new w (bv l) 88).alloc (.cells zeroP.toArray 129))
  have hB1 := (blk_at (w.alloc (.cells (bv l) 88)) zeroP.toArray 129 (w.heap.size + 1) (by simp))
  have hF0 := (((Fr.refl [] w).alloc (.cells (bv l) 88)).alloc (.cells zeroP.toArray 129))
  clear hH hb
  generalize gpV l = V at *
  generalize gpE l = E at *
  generalize zeroP = Z at *
  go_enter Tryd.func69, Tryd.ntmps69
  go_wp2_with (refine wpList_load_all rfl 88 _ rfl hB0 rfl (by rw [hbs]; kernel_rfl) ?_)
  refine (HG.out _ (HH.out.keep hF0 (by simp))).mono ?_
  rintro e w2 ⟨rfl, hF2⟩
  have hB1 := hB1.fr hF2 (by simp)
  go_wp2_with (refine wpList_stoAll (cs := V) rfl rfl hB1 rfl rfl (by rw [hvl]; kernel_rfl) (by simp [hvl, hzl]) HV1.out ?_; intro w3 hB3 hF3 hs3)
  exact bodyPost_ret (res_cell_at Tryd.results69 rfl rfl (load_all hB3 (by rw [hvs]; kernel_rfl))) rfl ⟨by simp, (hF0.trans hF2).comp hF3 (by simp)⟩
end Go.Proofs.YtgmjhpappamenaaDoor
