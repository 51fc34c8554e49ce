/- Contracts of package field: Seal. -/
import Derived.Test.YtgmjhpappamenaaDoorFieldF
import Derived.Deep.RegionLaw
import Derived.Laws.CopyOwn
namespace Go.Proofs.YtgmjhpappamenaaDoor
open Go.RowKit Go.Shelf

theorem Fr.over {S : List Nat} {a b c : World} {B : Nat} (h : Fr S a b) (hb : Below B b c) (hB : a.heap.size ≤ B) : Fr S a c :=
  ⟨hb.os.trans h.os, hb.tape.trans h.tape, hb.output.trans h.output, Nat.le_trans h.size hb.size, fun k hk hs => (hb.block k (by omega)).trans (h.block k hk hs)⟩
theorem pad64_60 (l : List Nat) (h : l.length ≤ 60) : pad 64 l = pad 60 l ++ [0, 0, 0, 0] := by
  unfold pad
  rw [List.append_assoc]
  congr 1
  rw [show 64 - l.length = (60 - l.length) + 4 by omega, ← List.replicate_append_replicate]
  rfl
theorem wcA_sub (l : List Nat) (a : Nat) (e : Int) (h : l.length ≤ 64) : ∀ (j : Nat) (v : Value), (u8s (pad 64 l))[j]? = some v → (wcA l a e)[0 + j]? = some v := by
  intro j v hj
  have hl := pad_len 64 l h
  have hj' : j < 64 := by
    have := (List.getElem?_eq_some_iff.1 hj).1
    simpa [u8s, hl] using this
  rw [Nat.zero_add]
  simp only [wcA, List.getElem?_toArray]
  rw [List.getElem?_append_left (by simp [u8s, hl, hj'])]
  exact hj

set_option maxRecDepth 100000 in
set_option maxHeartbeats 1000000 in
theorem Seal_ok (b : Nat) (l : List Nat) (w : World) (h : IsWriter w b l 0) (hH : Halves w) (hl : ∀ x, x ∈ l → x < 256) :
    Calls Tryd.prog 108 #[.pointer (some ⟨b, 0, none⟩)] w fun e' w' => e' = .returned (.tuple #[.agg (bv (sealed l)), .int .i64 0]) ∧ Fr [] w w' := by
  have hz : ∀ w, (zeroValue 88).run Tryd.prog w = .ok (.agg (bv zeros64)) w := fun _ => by kernel_rfl
  have hb := h.blk.lt
  have hlen := h.len
  have HB := Lib.hid h.blk
  have c1 := h.blk.cell (wcA_e l l.length 0 (by omega))
  have HH := Lib.hid hH
  have HL := Lib.hid hl
  have hpl := pad_len 64 l (by omega)
  have hsz : (bv (pad 64 l)).size = 64 := by rw [bv_size, hpl]
  have hra := Lib.hid ((h.blk.alloc (.cells (bv zeros64) 88)).range 0 (u8s (pad 64 l)) (wcA_sub l _ _ (by omega)))
  have hii : (Tryd.prog.info? 88).map (·.size) = some 64 := by kernel_rfl
  obtain ⟨W1, hst, hB1, hF1, hs1⟩ := store_all (P := Tryd.prog) (Blk.new (w.alloc (.cells (bv zeros64) 88)) (bv zeros64) 88) (pad 64 l) (by simp [bv_size, zeros64, hpl])
  have hF01 : Fr [] w W1 := (((Fr.refl [] w).alloc _).alloc _).comp hF1 (by simp)
  have hR1 := ((Blk.new w (bv zeros64) 88).alloc (.cells (bv zeros64) 88)).fr hF1 (by simp)
  rw [World.size_alloc] at hB1 hst
  simp only [World.size_alloc] at hs1
  have HPL := Lib.hid hpl
  have HII := Lib.hid hii
  clear hH hl h hF1 hpl hii
  go_enter Tryd.func108, Tryd.ntmps108
  have hra1 := Lib.hid (range_bv hB1)
  have hp60 : (pad 64 l).take 60 = pad 60 l := by
    rw [pad64_60 l hlen]
    exact List.take_left' (pad_len 60 l hlen)
  go_wp2_with first
    | refine wpList_load_bv rfl 88 _ rfl b 0 rfl (pad 64 l) hra.out Tryd.underlying88 HII.out HPL.out ?_
    | refine wpList_load_bv rfl 88 _ rfl (w.heap.size + 1) 0 rfl (pad 64 l) hra1.out Tryd.underlying88 HII.out HPL.out ?_
  have hpx : ∀ x, x ∈ pad 64 l → x < 256 := by
    intro x hx
    simp only [pad, List.mem_append, List.mem_replicate] at hx
    rcases hx with hx | ⟨_, rfl⟩
    · exact HL.out x hx
    · omega
  refine (sum_any (pad 64 l) W1 (HH.out.keep hF01 (by simp)) HPL.out hpx).mono ?_
  rintro e1 w1 ⟨rfl, hF2⟩
  have hs2 := hF2.size
  have hB2 := hB1.fr hF2 (by simp)
  have hR2 := hR1.fr hF2 (by simp)
  have hF02 : Fr [] w w1 := hF01.comp hF2 (by simp)
  clear hB1 hR1 hF01 hra hra1
  rw [hp60, bv4_all]
  go_wp2_with fail
  have hB3 := hB2.alloc (.cells (bv (bytesOf (crc (pad 60 l)) 4)) 186)
  have hR3 := hR2.alloc (.cells (bv (bytesOf (crc (pad 60 l)) 4)) 186)
  have hN3 := Blk.new w1 (bv (bytesOf (crc (pad 60 l)) 4)) 186
  have hF03 := hF02.alloc (.cells (bv (bytesOf (crc (pad 60 l)) 4)) 186)
  rw [bv4_all] at hB3 hR3 hN3 hF03
  generalize (w1.alloc _) = w2 at hB3 hR3 hN3 hF03 ⊢
  rw [← bv4_all] at hN3
  generalize hn : w1.heap.size = n2 at hN3 ⊢
  have hB4 := hB3.drew
  have hR4 := hR3.drew
  have hN4 := hN3.drew
  have hF04 := hF03.drew
  clear hB3 hR3 hN3 hB2 hR2 hF2 hst
  go_region_law (refine step_copy_splice rfl (.tmp 27) (.tmp 28) 188 188 rfl 5 Tryd.underlying188 (by kernel_rfl) (some ⟨w.heap.size + 1, 60, none⟩) (some ⟨n2, 0, none⟩) 4 4 4 4 rfl rfl (w.heap.size + 1) 60 (u8s (pad 64 l)) 88 hB4 (u8s (bytesOf (crc (pad 60 l)) 4)) rfl (fun _ => ⟨rfl, _, rfl, fun j v hj => by have := (hN4.range 0 _ (bv_self _)) j v hj; cases j <;> simpa [Addr.add] using this⟩) (by simp [u8s, HPL.out, bytesOf_len]) (by simp [u8s, Value.oneCell']) (w.heap.size + 1) w2.drew ⟨rfl, rfl, rfl, Nat.le_refl _, fun _ _ => rfl⟩ (Nat.le_refl _) ?_; intro w3 hg3 hb3)
  have hsp : (splice (u8s (pad 64 l)) 60 (u8s (bytesOf (crc (pad 60 l)) 4))) = u8s (sealed l) := by
    have h1 : (u8s (bytesOf (crc (pad 60 l)) 4)).length = 4 := by simp [u8s, bytesOf_len]
    unfold splice
    rw [h1, List.drop_eq_nil_of_le (by simp [u8s, HPL.out])]
    simp only [u8s, sealed, List.append_nil, ← List.map_take, hp60, List.map_append]
  have hB5 : Blk w3 (w.heap.size + 1) 88 (bv (sealed l)) := by
    have := hg3.out
    rw [hsp] at this
    exact this
  have hR5 : Blk w3 w.heap.size 88 (bv zeros64) := (hb3.block _ (by omega)).trans hR4
  have hF5 : Fr [] w w3 := hF04.over hb3 (by omega)
  have hsl : (sealed l).length = 64 := by simp [sealed, bytesOf_len, pad_len 60 l hlen]
  have hsz5 : (bv (sealed l)).size = 64 := by rw [bv_size, hsl]
  clear hB4 hR4 hN4 hg3 hb3 hF04 hF03 hF02 hs1 hs2 hn hpx
  have hra5 := Lib.hid (range_bv hB5)
  obtain ⟨W6, hst6, hB6, hF6, hs6⟩ := store_all (P := Tryd.prog) hR5 (sealed l) (by rw [hsl, bv_size]; rfl)
  have HSL := Lib.hid hsl
  clear hB5 hR5 hsl
  go_wp2_with (refine wpList_load_bv rfl 88 _ rfl (w.heap.size + 1) 0 rfl (sealed l) hra5.out Tryd.underlying88 HII.out HSL.out ?_)
  have hld := load_var (P := Tryd.prog) (o := 0) hB6 (sealed l) (bv_self _) Tryd.underlying88 HII.out HSL.out
  refine bodyPost_ret (res_cell_tmp Tryd.results108 rfl hld) rfl ⟨rfl, ?_⟩
  exact hF5.comp hF6 (by simp)
end Go.Proofs.YtgmjhpappamenaaDoor
