/- Contracts of package crc. -/
import Derived.Test.YtgmjhpappamenaaDoorProg
import Derived.Test.YtgmjhpappamenaaDoorCrcPlain
import Derived.Test.YtgmjhpappamenaaDoorBits
namespace Go.Proofs.YtgmjhpappamenaaDoor
open Go.RowKit

def Halves (w : World) : Prop := ∀ i : Nat, i < 16 → w.cell? ⟨0, i, none⟩ = some (.int .i64 (halvesL.getD i 0 : Nat))
def nibs : Nat → Nat → Nat
  | 0, s => s
  | k + 1, s => nib (nibs k s)
theorem nib_lt (s : Nat) (h : s < 4294967296) : nib s < 4294967296 := by rw [nib_steps]; exact steps_lt _ _ h
theorem nibs_lt (k s : Nat) (h : s < 4294967296) : nibs k s < 4294967296 := by
  induction k with
  | zero => exact h
  | succ k ih => exact nib_lt _ ih

theorem next_any (s x : Nat) (w : World) (hH : Halves w) (hs : s < 4294967296) (hx : x < 256) :
    Calls Tryd.prog 142 #[.int .i64 s, .int .u8 x] w fun e w' => e = .returned (.int .i64 (nextB s x)) ∧ w = w' := by
  have e1 := bits_xor_i64 s x (by omega) (by omega)
  have hs0 := xor_lt32 s x hs hx
  obtain ⟨s0, h0⟩ : ∃ s0, s0 = s ^^^ x := ⟨_, rfl⟩
  rw [← h0] at e1 hs0
  have HN := Lib.hid (show nextB s x = nibs 2 s0 by rw [h0]; rfl)
  have HH := Lib.hid hH
  clear h0 hH
  go_enter Tryd.func142, Tryd.ntmps142
  go_wp2_with fail
  go_loop [0, 9] (fun a i => ∃ k : Nat, k ≤ 2 ∧ i = .int .i64 k ∧ a = .int .i64 (nibs k s0)) (fun _ i => 2 - (intOf i).toNat)
  case atStart => exact ⟨0, by omega, rfl, rfl⟩
  case round =>
    obtain ⟨k, hk, rfl, rfl⟩ := hrel
    by_cases hlt : k < 2
    · have hb := nibs_lt k s0 hs0
      have HE := Lib.hid (show nibs (k + 1) s0 = nib (nibs k s0) from rfl)
      obtain ⟨t, ht⟩ : ∃ t, t = nibs k s0 := ⟨_, rfl⟩
      rw [← ht] at HE hb ⊢
      have e2 := and15 t (by omega)
      have hm : t % 16 < 16 := Nat.mod_lt _ (by omega)
      have hc := HH.out (t % 16) hm
      obtain ⟨y, hy⟩ : ∃ y, y = halvesL.getD (t % 16) 0 := ⟨_, rfl⟩
      have hyb : ∀ i, i < 16 → halvesL.getD i 0 < 4294967296 := by decide
      have hy2 : y < 4294967296 := by rw [hy]; exact hyb _ hm
      rw [← hy] at hc
      have e3 := bits_xor_i64 y (t / 16) (by omega) (by omega)
      rw [show ((t / 16 : Nat) : Int) = (t : Int) / 16 from by omega] at e3
      have HY := Lib.hid (show nib t = y ^^^ (t / 16) by rw [hy]; rfl)
      clear hy hyb ht e1
      go_wp2
      go_round
      case rel => exact ⟨k + 1, by omega, by go_num, by rw [HE.out, HY.out]⟩
      case measure => simp [intOf]; omega
    · obtain rfl : k = 2 := by omega
      rw [← HN.out]
      go_wp2
      go_ret
      exact ⟨rfl, rfl⟩

theorem Halves.fr {S : List Nat} {w w' : World} (h : Halves w) (hf : Fr S w w') (hg : 0 < w.heap.size) (hs : ¬ 0 ∈ S) : Halves w' :=
  fun i hi => (hf.cell ⟨_, _, _⟩ hg hs).trans (h i hi)
theorem cell_lt {w : World} {a : Addr} {v : Value} (h : w.cell? a = some v) : a.block < w.heap.size := by
  unfold World.cell? at h
  split at h
  · rename_i hb; exact (Array.getElem?_eq_some_iff.1 hb).1
  · cases h
theorem Halves.lt {w : World} (h : Halves w) : 0 < w.heap.size := cell_lt (h 0 (by omega))
theorem Halves.keep {S : List Nat} {w w' : World} (h : Halves w) (hf : Fr S w w') (hs : ∀ i, i ∈ S → ¬ i = 0) : Halves w' :=
  h.fr hf h.lt (fun hm => hs _ hm rfl)

theorem Sum1_any (c s x : Nat) (w : World) (hH : Halves w) (hc : Blk w c 3 #[.int .i64 s]) (hs : s < 4294967296) (hx : x < 256) :
    Calls Tryd.prog 141 #[.int .u8 x, .pointer (some ⟨c, 0, none⟩)] w fun e w' => e = .returned (.tuple #[]) ∧ Blk w' c 3 #[.int .i64 (nextB s x)] ∧ Fr [c] w w' := by
  have h0 := hc.cell (i := 0) rfl
  have hf := hc.frozen 0
  have HH := Lib.hid hH
  clear hH
  go_enter Tryd.func141, Tryd.ntmps141
  go_wp2_with fail
  refine (next_any s x _ HH.out hs hx).mono ?_
  rintro e w' ⟨rfl, rfl⟩
  go_wp2
  go_end0
  exact ⟨rfl, hc.set 0 _, (Fr.refl _ _).setCell _ (by simp) _⟩

/-- the bytes l lie in block b, from o on -/
def BytesAt (w : World) (b o : Nat) (l : List Nat) : Prop := ∀ j (h : j < l.length), w.cell? ⟨b, o + j, none⟩ = some (.int .u8 (l[j] : Nat))
theorem BytesAt.fr {S : List Nat} {w w' : World} {b o : Nat} {l : List Nat} (h : BytesAt w b o l) (hf : Fr S w w') (hb : b < w.heap.size) (hs : ¬ b ∈ S) : BytesAt w' b o l :=
  fun j hj => (hf.cell ⟨_, _, _⟩ hb hs).trans (h j hj)

set_option maxHeartbeats 400000 in
theorem Sum_one (g b o n cap : Nat) (l : List Nat) (w : World) (hH : Halves w) (hg : w.cell? ⟨g, 0, none⟩ = some (.slice (some ⟨b, o, none⟩) l.length cap)) (hB : BytesAt w b o l) (hb : b < w.heap.size) (hl : ∀ x, x ∈ l → x < 256) (hn : l.length ≤ 1000000) :
    Calls Tryd.prog 135 #[.slice (some ⟨g, 0, none⟩) 1 n] w fun e w' => e = .returned (.int .i64 (crc l)) ∧ Fr [] w w' := by
  have hgl := cell_lt hg
  have hH0 := hH.lt
  have HH := Lib.hid hH
  have HB := Lib.hid hB
  have HL := Lib.hid hl
  clear hH hB hl
  obtain ⟨len, hlen⟩ : ∃ len, len = l.length := ⟨_, rfl⟩
  rw [← hlen] at hg hn
  have HN := Lib.hid hlen
  clear hlen
  go_enter Tryd.func135, Tryd.ntmps135
  go_wp2_with fail
  apply wp_scope_straight
  go_wp2_with fail
  refine wp_label ?_
  go_wp2_with fail
  go_loopw [12] (fun i wr => ∃ k : Nat, k ≤ 1 ∧ i = .int .i64 k ∧ Blk wr w.heap.size 3 #[.int .i64 (crcF all32 (l.take (k * len)) : Nat)] ∧ Fr [] w wr) (fun i _ => 1 - (intOf i).toNat)
  case atStart => exact ⟨0, by omega, rfl, by simpa [crcF, all32] using Blk.new w #[.int .i64 4294967295] 3, (Fr.refl _ _).alloc _⟩
  case round =>
    obtain ⟨k, hk, rfl, hb1, hF⟩ := hrel
    by_cases hlt : k < 1
    · obtain rfl : k = 0 := by omega
      have hg1 := (hF.cell ⟨g, 0, none⟩ hgl (by simp)).trans hg
      have HB1 := Lib.hid hb1
      clear hg hb1
      by_cases h0 : len = 0
      · have b0 : ((len : Int) == 0) = true := beq_iff_eq.2 (by omega)
        have HE := Lib.hid (show l.take ((0 + 1) * len) = l.take (0 * len) by rw [h0])
        clear h0
        go_wp2
        go_roundw
        case rel => exact ⟨0 + 1, by omega, by go_num, by rw [HE.out]; exact HB1.out, hF⟩
        case measure => simp [intOf]
      · have b0 : ((len : Int) == 0) = false := beq_eq_false_iff_ne.2 (by omega)
        have hlen0 : 0 < len := by omega
        clear h0
        rw [show ((0 : Nat) : Int) = 0 from rfl]
        go_wp2_with fail
        go_loopw [21] (fun i ws => ∃ j : Nat, j ≤ len ∧ i = .int .i64 j ∧ Blk ws w.heap.size 3 #[.int .i64 (crcF all32 (l.take j) : Nat)] ∧ Fr [] w ws) (fun i _ => len - (intOf i).toNat)
        case atStart => exact ⟨0, by omega, rfl, by simpa using HB1.out, hF⟩
        case round =>
          obtain ⟨j, hj, rfl, hbj, hFj⟩ := hrel
          by_cases hlt2 : j < len
          · have hjl : j < l.length := by rw [← HN.out]; exact hlt2
            have hcb := (hFj.cell ⟨b, o + j, none⟩ hb (by simp)).trans (HB.out j hjl)
            have hx := HL.out l[j] (List.getElem_mem hjl)
            have hs := crcF_lt (l.take j) all32 (by decide) (fun x hx => HL.out x (List.mem_of_mem_take hx))
            have HE := Lib.hid (show crcF all32 (l.take (j + 1)) = nextB (crcF all32 (l.take j)) l[j] by rw [List.take_succ_eq_append_getElem hjl, crcF_snoc])
            have HT := Lib.hid (HH.out.keep hFj (by simp))
            obtain ⟨x, hxx⟩ : ∃ x, x = l[j] := ⟨_, rfl⟩
            obtain ⟨s, hss⟩ : ∃ s, s = crcF all32 (l.take j) := ⟨_, rfl⟩
            rw [← hxx] at hcb hx HE
            rw [← hss] at hbj hs HE
            have HBJ := Lib.hid hbj
            clear hxx hss hbj hg1
            go_wp2_with fail
            refine (Sum1_any _ s x _ HT.out HBJ.out hs hx).mono ?_
            rintro e w' ⟨rfl, hb', hF'⟩
            go_wp2
            go_roundw
            case rel => exact ⟨j + 1, by omega, by go_num, by rw [HE.out]; exact hb', hFj.comp hF' (by simp)⟩
            case measure => simp [intOf]; omega
          · obtain rfl : j = len := by omega
            go_wp2
            go_roundw
            case rel => exact ⟨0 + 1, by omega, by go_num, by simpa using hbj, hFj⟩
            case measure => simp [intOf]
    · obtain rfl : k = 1 := by omega
      have hcf : wr.cell? ⟨w.heap.size, 0, none⟩ = some (.int .i64 (crcF all32 (l.take (1 * len)) : Nat)) := hb1.cell (i := 0) rfl
      have hE : crcF all32 (l.take (1 * len)) = crcF all32 l := by rw [HN.out]; simp
      have hs := crcF_lt l all32 (by decide) HL.out
      have HC := Lib.hid (show crc l = crcF all32 l ^^^ all32 from rfl)
      rw [hE] at hcf
      obtain ⟨s, hss⟩ : ∃ s, s = crcF all32 l := ⟨_, rfl⟩
      rw [← hss] at hcf hs HC
      have e1 := bits_xor_i64 s all32 (by omega) (by decide)
      rw [show ((all32 : Nat) : Int) = 4294967295 from rfl] at e1
      clear hss hE hb1 hg
      rw [show ((1 : Nat) : Int) = 1 from rfl]
      go_wp2
      simp only [Exit.noGoto_ret]
      go_ret
      exact ⟨by rw [HC.out]; rfl, hF⟩
end Go.Proofs.YtgmjhpappamenaaDoor
