/- Contracts of package field: the writer. -/
import Derived.Test.YtifafnmbcmhlcaaDoorFieldA
namespace Go.Proofs.YtifafnmbcmhlcaaDoor
open Go.RowKit

/-- byte number i of a number -/
def byteOf (n i : Nat) : Nat := n / 2 ^ (8 * i) % 256
theorem byteOf_int (n i : Nat) : (n : Int) / 2 ^ (8 * i) % 256 = ((byteOf n i : Nat) : Int) := by
  simp [byteOf]
theorem byteOf_lt (n i : Nat) : byteOf n i < 256 := Nat.mod_lt _ (by omega)

theorem Put1_any (b cn cw : Nat) (l : List Nat) (a i n : Nat) (e : Int) (w : World) (hb : Blk w b 71 (wcA l a e)) (hn : Blk w cn 3 #[.int .i64 n]) (hw : Blk w cw 23 #[.pointer (some ⟨b, 0, none⟩)])
    (hl : l.length = a + i) (h60 : l.length < 60) (hi : i < 7) (hnb : n < 72057594037927936) (hd : ¬ b = cn) (hd2 : ¬ b = cw) :
    Calls Tryd.prog 31 #[.int .i64 i, .int .i64 (8 * i : Nat), .pointer (some ⟨cn, 0, none⟩), .pointer (some ⟨cw, 0, none⟩)] w fun e' w' => e' = .returned (.tuple #[]) ∧
      Blk w' b 71 (wcA (l ++ [byteOf n i]) a e) ∧ Fr [b] w w' := by
  have c0 := hb.cell (wcA_at l a e (by omega))
  have c1 : w.cell? ⟨cn, 0, none⟩ = some (.int .i64 n) := hn.cell (i := 0) rfl
  have c2 : w.cell? ⟨cw, 0, none⟩ = some (.pointer (some ⟨b, 0, none⟩)) := hw.cell (i := 0) rfl
  have c3 := hb.cell (wcA_b l a e (by omega) (a + i) (by omega))
  have f := hb.frozen
  have hcs := wcA_set l a e (byteOf n i) (by omega)
  rw [hl] at hcs
  have HC := Lib.hid (hcs ▸ hb.set (a + i) (.int .u8 (byteOf n i : Nat)))
  have ha : a < 60 := by omega
  have hai : a + i < 60 := by omega
  clear hcs hl h60
  go_enter Tryd.func31, Tryd.ntmps31
  go_wp2
  go_region
  rw [byteOf_int]
  go_end0
  exact ⟨rfl, HC.out, ((Fr.refl _ _).setCell _ (by simp) _).drew⟩

/-- a number's bytes -/
def bytesOf (n size : Nat) : List Nat := (List.range size).map (byteOf n)
theorem bytesOf_succ (n k : Nat) : bytesOf n (k + 1) = bytesOf n k ++ [byteOf n k] := by simp [bytesOf, List.range_succ]
theorem bytesOf_len (n k : Nat) : (bytesOf n k).length = k := by simp [bytesOf]
/-- a writer at block b: its bytes, its first error -/
structure IsWriter (w : World) (b : Nat) (l : List Nat) (e : Int) : Prop where
  len : l.length ≤ 60
  blk : Blk w b 71 (wcA l l.length e)
theorem IsWriter.fr {S : List Nat} {w w' : World} {b : Nat} {l : List Nat} {e : Int} (h : IsWriter w b l e) (hf : Fr S w w') (hb : ¬ b ∈ S) : IsWriter w' b l e := ⟨h.len, h.blk.fr hf hb⟩
/-- what the first error is behind a Put -/
def putE (len : Nat) (n size : Int) : Int :=
  if wrongE size (60 - len) = 1 then 1 else if n < 0 ∨ ¬ n / 2 ^ (8 * size.toNat) = 0 then 11 else wrongE size (60 - len)
def putL (l : List Nat) (n size : Int) : List Nat := if putE l.length n size = 0 then l ++ bytesOf n.toNat size.toNat else l

theorem Put_nil (n size : Int) (w : World) :
    Calls Tryd.prog 12 #[.pointer none, .int .i64 n, .int .i64 size] w fun e w' => e = .returned (.pointer none) ∧ Fr [] w w' := by
  go_enter Tryd.func12, Tryd.ntmps12
  go_wp2
  go_ret
  exact ⟨rfl, ((Fr.refl _ _).alloc _).alloc _⟩
theorem Put_err (b : Nat) (l : List Nat) (e : Int) (n size : Int) (w : World) (h : IsWriter w b l e) (he : ¬ e = 0) :
    Calls Tryd.prog 12 #[.pointer (some ⟨b, 0, none⟩), .int .i64 n, .int .i64 size] w fun e' w' => e' = .returned (.pointer (some ⟨b, 0, none⟩)) ∧ Fr [] w w' := by
  have c1 := h.blk.cell (wcA_e l l.length e (by have := h.len; omega))
  have b0 : (e != 0) = true := bne_iff_ne.2 he
  clear he
  have hb := h.blk.lt
  go_enter Tryd.func12, Tryd.ntmps12
  go_wp2
  go_ret
  exact ⟨rfl, ((Fr.refl _ _).alloc _).alloc _⟩
end Go.Proofs.YtifafnmbcmhlcaaDoor
