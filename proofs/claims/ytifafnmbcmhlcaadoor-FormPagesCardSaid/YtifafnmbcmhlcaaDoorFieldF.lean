/- Contracts of package field: Write, Seal, Sealed. -/
import Derived.Test.YtifafnmbcmhlcaaDoorFieldE
namespace Go.Proofs.YtifafnmbcmhlcaaDoor
open Go.RowKit Go.Shelf

theorem Write_any (w : World) :
    Calls Tryd.prog 10 #[] w fun e w' => e = .returned (.pointer (some ⟨w.heap.size, 0, none⟩)) ∧ IsWriter w' w.heap.size [] 0 ∧ Fr [] w w' := by
  go_enter Tryd.func10, Tryd.ntmps10
  go_wp2
  go_ret
  exact ⟨rfl, ⟨by simp, Blk.new w (wcA [] 0 0) _⟩, (Fr.refl _ _).alloc _⟩

/-- the sealed sector of bytes -/
def sealed (l : List Nat) : List Nat := pad 60 l ++ bytesOf (crc (pad 60 l)) 4
def zeros64 : List Nat := List.replicate 64 0

set_option maxRecDepth 100000 in
theorem Seal_nil (w : World) :
    Calls Tryd.prog 14 #[.pointer none] w fun e w' => e = .returned (.tuple #[.agg (bv zeros64), .int .i64 2]) ∧ Fr [] w w' := by
  have hz : ∀ w, (zeroValue 33).run Tryd.prog w = .ok (.agg (bv zeros64)) w := fun _ => by kernel_rfl
  go_enter Tryd.func14, Tryd.ntmps14
  obtain ⟨W1, hst, hB1, hF1, hs1⟩ := store_all (P := Tryd.prog) (Blk.new w (bv zeros64) 33) zeros64 (by simp [bv_size])
  go_wp2_with fail
  have hld := load_var (P := Tryd.prog) (o := 0) hB1 zeros64 (bv_self _) Tryd.underlying33 (by kernel_rfl) (by simp [zeros64])
  refine bodyPost_ret (res_cell_tmp Tryd.results14 rfl hld) rfl ⟨rfl, ?_⟩
  exact ((Fr.refl [] w).alloc _).comp hF1 (by simp)
set_option maxRecDepth 100000 in
theorem Seal_err (b : Nat) (l : List Nat) (e : Int) (w : World) (h : IsWriter w b l e) (he : ¬ e = 0) :
    Calls Tryd.prog 14 #[.pointer (some ⟨b, 0, none⟩)] w fun e' w' => e' = .returned (.tuple #[.agg (bv zeros64), .int .i64 e]) ∧ Fr [] w w' := by
  have hz : ∀ w, (zeroValue 33).run Tryd.prog w = .ok (.agg (bv zeros64)) w := fun _ => by kernel_rfl
  have hb := h.blk.lt
  have c1 := h.blk.cell (wcA_e l l.length e (by have := h.len; omega))
  have b0 : (e != 0) = true := bne_iff_ne.2 he
  obtain ⟨W1, hst, hB1, hF1, hs1⟩ := store_all (P := Tryd.prog) (Blk.new w (bv zeros64) 33).drew zeros64 (by simp [bv_size])
  have c2 : W1.cell? ⟨b, 65, none⟩ = some (.int .i64 e) := (hF1.cell ⟨b, 65, none⟩ (by simp; omega) (by simp; omega)).trans (((h.blk.alloc _).drew).cell (wcA_e l l.length e (by have := h.len; omega)))
  have hsz : (bv zeros64).size = 64 := by simp [bv_size, zeros64]
  clear he
  go_enter Tryd.func14, Tryd.ntmps14
  go_wp2_with fail
  go_region
  all_goals
    go_wp2_with fail
    have hld := load_var (P := Tryd.prog) (o := 0) hB1 zeros64 (bv_self _) Tryd.underlying33 (by kernel_rfl) (by simp [zeros64])
    refine bodyPost_ret (res_cell_tmp Tryd.results14 rfl hld) rfl ⟨rfl, ?_⟩
    exact ((Fr.refl [] w).alloc _).drew.comp hF1 (by simp)
end Go.Proofs.YtifafnmbcmhlcaaDoor
