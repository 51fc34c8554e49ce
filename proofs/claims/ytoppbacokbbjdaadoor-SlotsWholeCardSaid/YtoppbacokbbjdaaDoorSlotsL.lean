/- SlotsTakes: the walk. -/
import Derived.Test.YtoppbacokbbjdaaDoorSlotsI
import Derived.Deep.DeepCutAuto
namespace Go.Proofs.YtoppbacokbbjdaaDoor
open Go.RowKit Go.Shelf

/-- the calls that an argument holds -/
def IsOps (w : World) (oa : Option Addr) (l : List (Bool × Int × Int)) : Prop :=
  ∀ i (h : i < l.length), ∃ b off, oa = some ⟨b, off, none⟩ ∧ w.cell? ⟨b, off + i * 3, none⟩ = some (.bool l[i].1) ∧
    w.cell? ⟨b, off + i * 3 + 1, none⟩ = some (.int .i64 l[i].2.1) ∧ w.cell? ⟨b, off + i * 3 + 2, none⟩ = some (.int .i64 l[i].2.2)
def stepL (l : List Nat) (o : Bool × Int × Int) : List Nat := if o.1 then allocL l else turnL l o.2.1 o.2.2
def runL (n : Nat) (ops : List (Bool × Int × Int)) (k : Nat) : List Nat := (ops.take k).foldl stepL (List.replicate n 0)
theorem runL_succ (n : Nat) (ops : List (Bool × Int × Int)) (k : Nat) (h : k < ops.length) : runL n ops (k + 1) = stepL (runL n ops k) ops[k] := by
  unfold runL
  rw [List.take_succ_eq_append_getElem h, List.foldl_append]
  rfl
theorem allocL_len (l : List Nat) : (allocL l).length = l.length := by unfold allocL; split <;> simp
theorem turnL_len (l : List Nat) (a b : Int) : (turnL l a b).length = l.length := by unfold turnL; split <;> simp
theorem stepL_len (l : List Nat) (o : Bool × Int × Int) : (stepL l o).length = l.length := by
  unfold stepL; split
  · exact allocL_len l
  · exact turnL_len _ _ _
theorem runL_len (n : Nat) (ops : List (Bool × Int × Int)) (k : Nat) : (runL n ops k).length = n := by
  unfold runL
  have : ∀ (l : List (Bool × Int × Int)) (s : List Nat), (l.foldl stepL s).length = s.length := by
    intro l
    induction l with
    | nil => intro s; rfl
    | cons o l ih => intro s; rw [List.foldl_cons, ih, stepL_len]
  rw [this]; simp

theorem SlotsTakes_out (n : Int) (oa : Option Addr) (len cap : Nat) (w : World) (hT : Turns w) (h : n < 1 ∨ 40 < n ∨ 100 < len) :
    Calls Tryd.prog 6 #[.int .i64 n, .slice oa len cap] w fun e w' => e = .returned (.bool true) ∧ Fr [] w w' := by
  have HT := Lib.hid hT
  clear hT
  by_cases h0 : n < 1
  · clear h
    go_enter Tryd.func6, Tryd.ntmps6
    go_wp2_with fail
    refine (awake_ok _ HT.out).mono ?_
    rintro e w' ⟨rfl, hF⟩
    go_wp2
    go_ret
    exact ⟨rfl, hF⟩
  · by_cases h1 : 40 < n
    · clear h
      go_enter Tryd.func6, Tryd.ntmps6
      go_wp2_with fail
      refine (awake_ok _ HT.out).mono ?_
      rintro e w' ⟨rfl, hF⟩
      go_wp2
      go_ret
      exact ⟨rfl, hF⟩
    · have h2 : (100 : Int) < len := by omega
      clear h
      go_enter Tryd.func6, Tryd.ntmps6
      go_wp2_with fail
      refine (awake_ok _ HT.out).mono ?_
      rintro e w' ⟨rfl, hF⟩
      go_wp2
      go_ret
      exact ⟨rfl, hF⟩

set_option maxRecDepth 100000 in
set_option maxHeartbeats 2000000 in
theorem SlotsTakes_in (n : Nat) (oa : Option Addr) (cap : Nat) (ops : List (Bool × Int × Int)) (w : World) (hT : Turns w) (h1 : 1 ≤ n) (h2 : n ≤ 40) (h3 : ops.length ≤ 100) (hO : IsOps w oa ops) :
    Calls Tryd.prog 6 #[.int .i64 n, .slice oa ops.length cap] w fun e w' => e = .returned (.bool true) ∧ Fr [] w w' := by
  have hg := hT.lt
  have HT := Lib.hid hT
  have HO := Lib.hid hO
  clear hT hO
  obtain ⟨len, hlen⟩ : ∃ len, len = ops.length := ⟨_, rfl⟩
  rw [← hlen] at h3 ⊢
  have HL := Lib.hid hlen
  clear hlen
  go_enter Tryd.func6, Tryd.ntmps6
  go_wp2_with fail
  refine (New_ok n _ (by omega) (by omega)).mono ?_
  rintro e w1 ⟨b, bl, rfl, hI1, hF1, hb1, hb2⟩
  have HI1 := Lib.hid hI1
  have hg1 : 0 < b := by omega
  have hg2 : 0 < bl := by omega
  clear hI1
  go_wp2_with fail
  go_loopw [7] (fun i wr => ∃ k : Nat, k ≤ len ∧ i = .int .i64 k ∧ IsSlots wr b bl (runL n ops k) ∧ Fr [] w wr) (fun i _ => len - (intOf i).toNat)
  case atStart => exact ⟨0, Nat.zero_le _, rfl, HI1.out, hF1⟩
  case round =>
    obtain ⟨k, hk, rfl, hI, hF⟩ := hrel
    have HIk := Lib.hid hI
    have HTk := Lib.hid (HT.out.keep hF (by simp))
    clear hI
    by_cases hlt : k < len
    · have hlt' : k < ops.length := by rw [← HL.out]; exact hlt
      obtain ⟨ab, off, hoa, c0, c1, c2⟩ := HO.out k hlt'
      have hab := cell_lt c0
      have k0 := (hF.cell _ (cell_lt c0) (by simp)).trans c0
      have k1 := (hF.cell _ (cell_lt c1) (by simp)).trans c1
      have k2 := (hF.cell _ (cell_lt c2) (by simp)).trans c2
      have hs := runL_succ n ops k hlt'
      have HS := Lib.hid hs
      obtain ⟨o, ho⟩ : ∃ o, o = ops[k] := ⟨_, rfl⟩
      rw [← ho] at k0 k1 k2
      have HO1 := Lib.hid ho
      obtain ⟨oal, osl, ost⟩ := o
      simp only at k0 k1 k2
      rw [hoa]
      clear hs c0 c1 c2 hoa ho
      cases oal with
      | true =>
        go_wp2_with fail
        refine (Alloc_any b bl _ _ HIk.out).mono ?_
        rintro e w2 ⟨rfl, hI2, hF2⟩
        go_wp2
        go_roundw
        case rel => exact ⟨k + 1, by omega, by go_num, by rw [HS.out, ← HO1.out]; exact hI2, hF.comp hF2 (by simp; omega)⟩
        case measure => simp [intOf]; omega
      | false =>
        go_wp2_with fail
        go_region_with (go_at_call 16; refine (Turn_any b bl _ _ _ _ (HIk.out.fr (Fr.refl [] wr).drew (by simp) (by simp)) (HTk.out.keep (Fr.refl [] wr).drew (by simp))).mono ?_; rintro e w2 ⟨rfl, hI2, hF2⟩)
        all_goals
          go_wp2
          go_roundw
          case rel => exact ⟨k + 1, by omega, by go_num, by rw [HS.out, ← HO1.out]; exact hI2, (hF.drew).comp hF2 (by simp; omega)⟩
          case measure => simp [intOf]; omega
    · obtain rfl : k = len := by omega
      obtain ⟨l, hl⟩ : ∃ l, l = runL n ops k := ⟨_, rfl⟩
      rw [← hl] at HIk
      have hln : l.length = n := by rw [hl]; exact runL_len _ _ _
      have HLN := Lib.hid hln
      clear hl hln
      go_wp2_with fail
      refine (lawAll_any b bl l 0 _ HIk.out).mono ?_
      rintro e w2 ⟨v, rfl, hov, hF2⟩
      have HI2 := Lib.hid (HIk.out.fr hF2 (by simp) (by simp))
      have HT2 := Lib.hid (HTk.out.keep hF2 (by simp))
      obtain ⟨ov, cv, hv, hcells⟩ := owns_at hov
      rw [hv]
      have hF02 := hF.trans hF2
      have HC := Lib.hid hcells
      clear hv hov hcells hF hF2
      go_wp2_with fail
      refine (Copy_any b bl _ _ HI2.out).mono ?_
      rintro e w3 ⟨b', bl', rfl, hI3, hF3, hb3, hb4⟩
      have HI3' := Lib.hid (HI2.out.fr hF3 (by simp) (by simp))
      have HI3 := Lib.hid hI3
      have HT3 := Lib.hid (HT2.out.keep hF3 (by simp))
      have hd1 : ¬ b' = b := by have := HI2.out.b_lt; omega
      have hd2 : ¬ bl' = b := by have := HI2.out.b_lt; omega
      have hd3 : ¬ b' = bl := by have := HI2.out.bl_lt; omega
      have hd4 : ¬ bl' = bl := by have := HI2.out.bl_lt; omega
      have hF03 := hF02.trans hF3
      have hs2 := hF02.size
      clear hI3 hF02
      go_wp2_with fail
      refine (Alloc_any b bl _ _ HI3'.out).mono ?_
      rintro e w4 ⟨rfl, hI4, hF4⟩
      have HI4 := Lib.hid hI4
      have HI5 := Lib.hid (HI3.out.fr hF4 (by simp; omega) (by simp; omega))
      have HT4 := Lib.hid (HT3.out.keep hF4 (by simp; omega))
      have hF04 : Fr [] w w4 := hF03.comp hF4 (by simp; omega)
      clear hI4
      by_cases hfr : frees l = []
      · have e1 : (allOf l 0 l.length).length = 0 := by show (frees l).length = 0; rw [hfr]; rfl
        have e2 : allocN l = 0 := by simp [allocN, hfr]
        have e3 : allocE l = 17 := by simp [allocE, hfr]
        rw [e1, e2, e3]
        clear e1 e2 e3 hfr hF3 hF4
        go_wp2_with fail
        refine (awake_ok _ HT4.out).mono ?_
        rintro e w5 ⟨rfl, hF5⟩
        go_wp2
        go_ret
        exact ⟨rfl, hF04.trans hF5⟩
      · obtain ⟨x, r, hxr⟩ : ∃ x r, frees l = x :: r := by
          cases h : frees l with
          | nil => exact absurd h hfr
          | cons x r => exact ⟨x, r, rfl⟩
        have e2 : allocN l = x := by simp [allocN, hxr]
        have e3 : allocE l = 0 := by simp [allocE, hfr]
        have e4 : allocL l = l.set x 1 := by simp [allocL, hfr, e2]
        have e1 : (allOf l 0 l.length).length = r.length + 1 := by show (frees l).length = _; rw [hxr]; rfl
        obtain ⟨g, cur, hov, hgb, hbg, hcur⟩ := HC.out 0 (.int .i64 x) (by show (natVals (frees l))[0]? = _; rw [hxr]; rfl)
        have hb5 := HIk.out.b_lt
        have hb6 := HIk.out.bl_lt
        have cg := ((hbg.fr hF3 (by simp)).fr hF4 (by simp; omega)).cell hcur
        obtain ⟨hx1, _⟩ := allocN_spec l hfr
        rw [e2] at hx1
        rw [e1, e2, e3, hov]
        rw [e4] at HI4
        have HX := Lib.hid hx1
        have b0 : ((r.length : Int) + 1 == 0) = false := beq_eq_false_iff_ne.2 (by omega)
        clear e1 e2 e3 e4 hfr hF3 hF4 hxr hcur hov hx1 hbg
        go_wp2_with fail
        go_loop [13] (fun i => ∃ m : Nat, m ≤ n ∧ i = .int .i64 m) (fun i => n - (intOf i).toNat)
        case atStart => exact ⟨0, Nat.zero_le _, rfl⟩
        case round =>
          obtain ⟨m, hm, rfl⟩ := hrel
          by_cases hlt : m < n
          · have hml : m < l.length := by rw [HLN.out]; exact hlt
            have hml' : m < (l.set x 1).length := by simpa using hml
            have c1 := State_in b' bl' l m w4 HI5.out hml
            have c2 := State_in b bl (l.set x 1) m w4 HI4.out hml'
            have hne : ¬ m = x → (l.set x 1)[m] = l[m] := fun h => by rw [List.getElem_set_ne (fun e => h e.symm)]
            have heq : m = x → (l.set x 1)[m] = 1 := fun h => by subst h; simp
            obtain ⟨y, hy⟩ : ∃ y, y = l[m] := ⟨_, rfl⟩
            obtain ⟨z, hz⟩ : ∃ z, z = (l.set x 1)[m] := ⟨_, rfl⟩
            rw [← hy] at c1 hne
            rw [← hz] at c2 hne heq
            have C1 := Lib.hid c1
            have C2 := Lib.hid c2
            clear c1 c2 hy hz
            by_cases hmx : m = x
            · have hz1 := heq hmx
              subst hz1
              have b1 : ((m : Int) == (x : Int)) = true := by simp [hmx]
              have b2 : ((m : Int) != (x : Int)) = false := by simp [hmx]
              have HM := Lib.hid hmx
              clear hmx hne heq
              go_wp2_with fail
              refine C1.out.mono ?_
              rintro e w' ⟨rfl, rfl⟩
              go_wp2_with fail
              refine C2.out.mono ?_
              rintro e w' ⟨rfl, rfl⟩
              go_wp2
              go_round
              case rel => exact ⟨m + 1, by omega, by go_num⟩
              case measure => simp [intOf]; omega
            · have hz1 := hne hmx
              subst hz1
              have b1 : ((m : Int) == (x : Int)) = false := beq_eq_false_iff_ne.2 (by omega)
              have b2 : ((m : Int) != (x : Int)) = true := bne_iff_ne.2 (by omega)
              clear hmx hne heq
              go_wp2_with fail
              refine C1.out.mono ?_
              rintro e w' ⟨rfl, rfl⟩
              go_wp2_with fail
              refine C2.out.mono ?_
              rintro e w' ⟨rfl, rfl⟩
              go_wp2
              go_round
              case rel => exact ⟨m + 1, by omega, by go_num⟩
              case measure => simp [intOf]; omega
          · obtain rfl : m = n := by omega
            go_wp2_with fail
            refine (awake_ok _ HT4.out).mono ?_
            rintro e w5 ⟨rfl, hF5⟩
            go_wp2
            go_ret
            exact ⟨rfl, hF04.trans hF5⟩
end Go.Proofs.YtoppbacokbbjdaaDoor
