/-
  No cell of these rows narrows 'for every input' (looked for: loops, veiled, ifaces, maps, wideKeys, modest, calm, conditions, laid).
  DERIVED. THE GIVEN ROWS OF THIS SEAT. 4 by the template 'for every input the law returns true; each argument reads behind the call as it read before'; 0 by the template 'total and deterministic' (their statements: YthhkgknolclakaaTotals.lean).
  GIVEN WITH THE SEED: the statements are not yours to turn. If you find one false, say at which input.
  Laid BY PROGRAM, IN A SANDBOX (cutbox-rows.mjs): the forced cells as the released guide's own fill.sh prints them over the translation 7ae438ab5e489fc6… (all of the seat's roots in one cut). By AI agents, Wed Nov 11 2026. No macro, syntax, notation, axiom, sorry.
-/
import Derived.Test.YthhkgknolclakaaChecked
import GoSem.Claim
import GoSem.ClaimJoined
import GoSem.ClaimMapViews
import Derived.JoinedTies
import Derived.KernelRfl
namespace Go.Proofs.Ythhkgknolclakaa
/- THE CELL 'sum', in the pinned program and in every row, IS THE sha256 OF THE DUMP (.gsa) THAT YthhkgknolclakaaProg.lean LOADS. Nothing in Lean hashes anything: it is a label: what it is worth is what the hold of that sum in a sandbox is worth. -/
noncomputable def Try.pinned : Pinned := { name := "ythhkgknolclakaa", sum := "7ae438ab5e489fc61fb8a65bd4c5df75acf9254dfc8b0e27305d9a5e47bed1f0", checked := Try.checked }
namespace Rows
def none {H : Type} : Left H := { results := [], args := [] }

/-- 'lavabolaw07.SecondBack': WHATEVER THE INPUT: true; the input reads as it did. -/
def secondBackSpec : ChangeSpec := { name := "secondBack", fn := fun _ => fun
  | [d1, d2] => { results := [.lit (.bool true)], args := [d1, d2] }
  | _ => none }
def secondBackRow : OpenClaim := { program := "ythhkgknolclakaa", sum := "7ae438ab5e489fc61fb8a65bd4c5df75acf9254dfc8b0e27305d9a5e47bed1f0", func := "lavabo/lavabolaw07.SecondBack", spec := "secondBack", unfollowed := true, recurses := true, apart := false }
def SecondBackSaid : Prop := secondBackRow.holds Try.pinned (OpenSpec.ofChange secondBackSpec)

/-- ITS FALSE NEIGHBOUR: 'it returns false'. Refute it at one input. -/
def secondBackWrong : ChangeSpec := { name := "secondBack", fn := fun _ => fun
  | [d1, d2] => { results := [.lit (.bool false)], args := [d1, d2] }
  | _ => none }
def SecondBackWrongFalsely : Prop := secondBackRow.holds Try.pinned (OpenSpec.ofChange secondBackWrong)

/-- 'lavabolaw07.SecondDrops': WHATEVER THE INPUT: true; the input reads as it did. -/
def secondDropsSpec : ChangeSpec := { name := "secondDrops", fn := fun _ => fun
  | [d1, d2] => { results := [.lit (.bool true)], args := [d1, d2] }
  | _ => none }
def secondDropsRow : OpenClaim := { program := "ythhkgknolclakaa", sum := "7ae438ab5e489fc61fb8a65bd4c5df75acf9254dfc8b0e27305d9a5e47bed1f0", func := "lavabo/lavabolaw07.SecondDrops", spec := "secondDrops", unfollowed := true, recurses := true, apart := false }
def SecondDropsSaid : Prop := secondDropsRow.holds Try.pinned (OpenSpec.ofChange secondDropsSpec)

/-- ITS FALSE NEIGHBOUR: 'it returns false'. Refute it at one input. -/
def secondDropsWrong : ChangeSpec := { name := "secondDrops", fn := fun _ => fun
  | [d1, d2] => { results := [.lit (.bool false)], args := [d1, d2] }
  | _ => none }
def SecondDropsWrongFalsely : Prop := secondDropsRow.holds Try.pinned (OpenSpec.ofChange secondDropsWrong)

/-- 'lavabolaw07.SecondTurns': WHATEVER THE INPUT: true; the input reads as it did. -/
def secondTurnsSpec : ChangeSpec := { name := "secondTurns", fn := fun _ => fun
  | [d1, d2] => { results := [.lit (.bool true)], args := [d1, d2] }
  | _ => none }
def secondTurnsRow : OpenClaim := { program := "ythhkgknolclakaa", sum := "7ae438ab5e489fc61fb8a65bd4c5df75acf9254dfc8b0e27305d9a5e47bed1f0", func := "lavabo/lavabolaw07.SecondTurns", spec := "secondTurns", unfollowed := true, recurses := true, apart := false }
def SecondTurnsSaid : Prop := secondTurnsRow.holds Try.pinned (OpenSpec.ofChange secondTurnsSpec)

/-- ITS FALSE NEIGHBOUR: 'it returns false'. Refute it at one input. -/
def secondTurnsWrong : ChangeSpec := { name := "secondTurns", fn := fun _ => fun
  | [d1, d2] => { results := [.lit (.bool false)], args := [d1, d2] }
  | _ => none }
def SecondTurnsWrongFalsely : Prop := secondTurnsRow.holds Try.pinned (OpenSpec.ofChange secondTurnsWrong)

/-- 'lavabolaw07.SecondNil': WHATEVER THE INPUT: true; the input reads as it did. -/
def secondNilSpec : ChangeSpec := { name := "secondNil", fn := fun _ => fun
  | [d1, d2] => { results := [.lit (.bool true)], args := [d1, d2] }
  | _ => none }
def secondNilRow : OpenClaim := { program := "ythhkgknolclakaa", sum := "7ae438ab5e489fc61fb8a65bd4c5df75acf9254dfc8b0e27305d9a5e47bed1f0", func := "lavabo/lavabolaw07.SecondNil", spec := "secondNil", unfollowed := true, recurses := true, apart := false }
def SecondNilSaid : Prop := secondNilRow.holds Try.pinned (OpenSpec.ofChange secondNilSpec)

/-- ITS FALSE NEIGHBOUR: 'it returns false'. Refute it at one input. -/
def secondNilWrong : ChangeSpec := { name := "secondNil", fn := fun _ => fun
  | [d1, d2] => { results := [.lit (.bool false)], args := [d1, d2] }
  | _ => none }
def SecondNilWrongFalsely : Prop := secondNilRow.holds Try.pinned (OpenSpec.ofChange secondNilWrong)

/- THE SECOND FORM. 'bulk': how many values and letters a reading holds, each counted each time it is reached (what is shared counts as often as it is met; a slice's spare places count too). A statement '..UptoSaid' is the law's where the arguments, and the package variables that the reading takes, are together of bulk at most 1048576: NARROWER than '..Said'. Prove '..Said' where nothing that the law and all that it calls make is longer than what came in: it says more and counts as full. Else prove '..UptoSaid'. A law counts once. -/
mutual
def uptoBulk {H : Type} : DataW H → Nat
  | .lit (.string bytes) => bytes.length + 1
  | .lit _ => 1
  | .nil => 1
  | .ptr d => uptoBulk d + 1
  | .slice elems spare => uptoBulkAll elems + uptoBulkAll spare + 1
  | .agg parts => uptoBulkAll parts + 1
  | .iface _ d => uptoBulk d + 1
  | .map entries => uptoBulkEntries entries + 1
  | .held _ => 1
def uptoBulkAll {H : Type} : List (DataW H) → Nat
  | [] => 0
  | d :: r => uptoBulk d + uptoBulkAll r
def uptoBulkEntries {H : Type} : List (Lit × DataW H) → Nat
  | [] => 0
  | x :: r => uptoBulkEntry x + uptoBulkEntries r
def uptoBulkEntry {H : Type} : Lit × DataW H → Nat
  | (.string bytes, d) => bytes.length + uptoBulk d + 1
  | (_, d) => uptoBulk d + 1
 end
def uptoSmall : (H : Type) → List (DataW H) → Bool := fun _ ds => decide (uptoBulkAll ds ≤ 1048576)
def OpenSpec.upto (s : _root_.Go.ChangeSpec) : _root_.Go.OpenSpec := { _root_.Go.OpenSpec.ofChange s with cond := some uptoSmall }

/-- 'lavabolaw07.SecondBack', WHERE WHAT IT READS IS OF BULK AT MOST 1048576: true; the input reads as it did. -/
def secondBackUptoRow : OpenClaim := { program := "ythhkgknolclakaa", sum := "7ae438ab5e489fc61fb8a65bd4c5df75acf9254dfc8b0e27305d9a5e47bed1f0", func := "lavabo/lavabolaw07.SecondBack", spec := "secondBack", unfollowed := true, recurses := true, apart := false, narrowed := true }
def SecondBackUptoSaid : Prop := secondBackUptoRow.holds Try.pinned (OpenSpec.upto secondBackSpec)

/-- 'lavabolaw07.SecondDrops', WHERE WHAT IT READS IS OF BULK AT MOST 1048576: true; the input reads as it did. -/
def secondDropsUptoRow : OpenClaim := { program := "ythhkgknolclakaa", sum := "7ae438ab5e489fc61fb8a65bd4c5df75acf9254dfc8b0e27305d9a5e47bed1f0", func := "lavabo/lavabolaw07.SecondDrops", spec := "secondDrops", unfollowed := true, recurses := true, apart := false, narrowed := true }
def SecondDropsUptoSaid : Prop := secondDropsUptoRow.holds Try.pinned (OpenSpec.upto secondDropsSpec)

/-- 'lavabolaw07.SecondTurns', WHERE WHAT IT READS IS OF BULK AT MOST 1048576: true; the input reads as it did. -/
def secondTurnsUptoRow : OpenClaim := { program := "ythhkgknolclakaa", sum := "7ae438ab5e489fc61fb8a65bd4c5df75acf9254dfc8b0e27305d9a5e47bed1f0", func := "lavabo/lavabolaw07.SecondTurns", spec := "secondTurns", unfollowed := true, recurses := true, apart := false, narrowed := true }
def SecondTurnsUptoSaid : Prop := secondTurnsUptoRow.holds Try.pinned (OpenSpec.upto secondTurnsSpec)

/-- 'lavabolaw07.SecondNil', WHERE WHAT IT READS IS OF BULK AT MOST 1048576: true; the input reads as it did. -/
def secondNilUptoRow : OpenClaim := { program := "ythhkgknolclakaa", sum := "7ae438ab5e489fc61fb8a65bd4c5df75acf9254dfc8b0e27305d9a5e47bed1f0", func := "lavabo/lavabolaw07.SecondNil", spec := "secondNil", unfollowed := true, recurses := true, apart := false, narrowed := true }
def SecondNilUptoSaid : Prop := secondNilUptoRow.holds Try.pinned (OpenSpec.upto secondNilSpec)

end Rows
end Go.Proofs.Ythhkgknolclakaa
