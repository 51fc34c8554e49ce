/-
  DERIVED. GIVEN WITH THE SEED: THE CARDS: each row of YtifafnmbcmhlcaaDoorRows.lean that lists a variable, with what it lists TIED to the program's text (the seventh form; the later family's looks); each row that meets fmt, with fmt's text TOLD by the authors' own Lean function (tested against real Go, not proved from fmt's source: count such statements apart). THE CARD IS WHAT COUNTS. Prove the row's statement (the work); the ties are given (YtifafnmbcmhlcaaDoorTie.lean); close each card by the builder's one call (the guide's Derived/Test/ToyasCard.lean, 'card_holds'). Laid BY PROGRAM, IN A SANDBOX (cutbox-door.mjs). By AI agents, Wed Nov 11 2026. No macro, syntax, notation, axiom, sorry.
-/
import Derived.Test.YtifafnmbcmhlcaaDoorRows
import GoSem.ClaimSeven
namespace Go.Proofs.YtifafnmbcmhlcaaDoor
namespace Rows

/-- THE TIED CARD OF 'lavabolaw04.FieldPuts'. -/
def fieldPutsCard : Claim7 := { stood := { row := fieldPutsRow, standIns := [], harness := (true, "ca7d4e3bc7145526c95cd0f403cee91bb87bfe20dec5c07c42711c48863f3b21"), looks := false }, kinds := [], alts := [], laidByText := true, laidKinds := [.data], laidTests := true, laidLooks := .later }
def FieldPutsCardSaid : Prop := Claim7.holds Tryd.pinned (.plain (OpenSpec.ofChange fieldPutsSpec)) fieldPutsCard

/-- THE TIED CARD OF 'lavabolaw04.FieldSeals'. -/
def fieldSealsCard : Claim7 := { stood := { row := fieldSealsRow, standIns := [], harness := (true, "ca7d4e3bc7145526c95cd0f403cee91bb87bfe20dec5c07c42711c48863f3b21"), looks := false }, kinds := [], alts := [], laidByText := true, laidKinds := [.data], laidTests := true, laidLooks := .later }
def FieldSealsCardSaid : Prop := Claim7.holds Tryd.pinned (.plain (OpenSpec.ofChange fieldSealsSpec)) fieldSealsCard

/-- THE TIED CARD OF 'lavabolaw04.FieldParts'. -/
def fieldPartsCard : Claim7 := { stood := { row := fieldPartsRow, standIns := [], harness := (true, "ca7d4e3bc7145526c95cd0f403cee91bb87bfe20dec5c07c42711c48863f3b21"), looks := false }, kinds := [], alts := [], laidByText := true, laidKinds := [.data], laidTests := true, laidLooks := .later }
def FieldPartsCardSaid : Prop := Claim7.holds Tryd.pinned (.plain (OpenSpec.ofChange fieldPartsSpec)) fieldPartsCard

/-- THE TIED CARD OF 'lavabolaw04.FieldNil'. -/
def fieldNilCard : Claim7 := { stood := { row := fieldNilRow, standIns := [], harness := (true, "ca7d4e3bc7145526c95cd0f403cee91bb87bfe20dec5c07c42711c48863f3b21"), looks := false }, kinds := [], alts := [], laidByText := true, laidKinds := [.data], laidTests := true, laidLooks := .later }
def FieldNilCardSaid : Prop := Claim7.holds Tryd.pinned (.plain (OpenSpec.ofChange fieldNilSpec)) fieldNilCard

/-- THE TIED CARD OF 'lavabolaw04.FieldBack'. -/
def fieldBackCard : Claim7 := { stood := { row := fieldBackRow, standIns := [], harness := (true, "ca7d4e3bc7145526c95cd0f403cee91bb87bfe20dec5c07c42711c48863f3b21"), looks := false }, kinds := [], alts := [], laidByText := true, laidKinds := [.data], laidTests := true, laidLooks := .later }
def FieldBackCardSaid : Prop := Claim7.holds Tryd.pinned (.plain (OpenSpec.ofChange fieldBackSpec)) fieldBackCard

/-- THE TIED CARD OF 'lavabolaw06.FormCaches'. -/
def formCachesCard : Claim7 := { stood := { row := formCachesRow, standIns := [], harness := (true, "ca7d4e3bc7145526c95cd0f403cee91bb87bfe20dec5c07c42711c48863f3b21"), looks := false }, kinds := [], alts := [], laidByText := true, laidKinds := [.data], laidTests := true, laidLooks := .later }
def FormCachesCardSaid : Prop := Claim7.holds Tryd.pinned (.plain (OpenSpec.ofChange formCachesSpec)) formCachesCard

/-- THE TIED CARD OF 'lavabolaw06.FormPages'. -/
def formPagesCard : Claim7 := { stood := { row := formPagesRow, standIns := [], harness := (true, "ca7d4e3bc7145526c95cd0f403cee91bb87bfe20dec5c07c42711c48863f3b21"), looks := false }, kinds := [], alts := [], laidByText := true, laidKinds := [.data], laidTests := true, laidLooks := .later }
def FormPagesCardSaid : Prop := Claim7.holds Tryd.pinned (.plain (OpenSpec.ofChange formPagesSpec)) formPagesCard

/-- THE SECOND FORM's CARD OF 'lavabolaw04.FieldPuts'. -/
def fieldPutsUptoCard : Claim7 := { stood := { row := fieldPutsUptoRow, standIns := [], harness := (true, "ca7d4e3bc7145526c95cd0f403cee91bb87bfe20dec5c07c42711c48863f3b21"), looks := false }, kinds := [], alts := [], laidByText := true, laidKinds := [.data], laidTests := true, laidLooks := .later }
def FieldPutsUptoCardSaid : Prop := Claim7.holds Tryd.pinned (.plain (OpenSpec.upto fieldPutsSpec)) fieldPutsUptoCard

/-- THE SECOND FORM's CARD OF 'lavabolaw04.FieldSeals'. -/
def fieldSealsUptoCard : Claim7 := { stood := { row := fieldSealsUptoRow, standIns := [], harness := (true, "ca7d4e3bc7145526c95cd0f403cee91bb87bfe20dec5c07c42711c48863f3b21"), looks := false }, kinds := [], alts := [], laidByText := true, laidKinds := [.data], laidTests := true, laidLooks := .later }
def FieldSealsUptoCardSaid : Prop := Claim7.holds Tryd.pinned (.plain (OpenSpec.upto fieldSealsSpec)) fieldSealsUptoCard

/-- THE SECOND FORM's CARD OF 'lavabolaw04.FieldParts'. -/
def fieldPartsUptoCard : Claim7 := { stood := { row := fieldPartsUptoRow, standIns := [], harness := (true, "ca7d4e3bc7145526c95cd0f403cee91bb87bfe20dec5c07c42711c48863f3b21"), looks := false }, kinds := [], alts := [], laidByText := true, laidKinds := [.data], laidTests := true, laidLooks := .later }
def FieldPartsUptoCardSaid : Prop := Claim7.holds Tryd.pinned (.plain (OpenSpec.upto fieldPartsSpec)) fieldPartsUptoCard

/-- THE SECOND FORM's CARD OF 'lavabolaw04.FieldNil'. -/
def fieldNilUptoCard : Claim7 := { stood := { row := fieldNilUptoRow, standIns := [], harness := (true, "ca7d4e3bc7145526c95cd0f403cee91bb87bfe20dec5c07c42711c48863f3b21"), looks := false }, kinds := [], alts := [], laidByText := true, laidKinds := [.data], laidTests := true, laidLooks := .later }
def FieldNilUptoCardSaid : Prop := Claim7.holds Tryd.pinned (.plain (OpenSpec.upto fieldNilSpec)) fieldNilUptoCard

/-- THE SECOND FORM's CARD OF 'lavabolaw04.FieldBack'. -/
def fieldBackUptoCard : Claim7 := { stood := { row := fieldBackUptoRow, standIns := [], harness := (true, "ca7d4e3bc7145526c95cd0f403cee91bb87bfe20dec5c07c42711c48863f3b21"), looks := false }, kinds := [], alts := [], laidByText := true, laidKinds := [.data], laidTests := true, laidLooks := .later }
def FieldBackUptoCardSaid : Prop := Claim7.holds Tryd.pinned (.plain (OpenSpec.upto fieldBackSpec)) fieldBackUptoCard

/-- THE SECOND FORM's CARD OF 'lavabolaw06.FormCaches'. -/
def formCachesUptoCard : Claim7 := { stood := { row := formCachesUptoRow, standIns := [], harness := (true, "ca7d4e3bc7145526c95cd0f403cee91bb87bfe20dec5c07c42711c48863f3b21"), looks := false }, kinds := [], alts := [], laidByText := true, laidKinds := [.data], laidTests := true, laidLooks := .later }
def FormCachesUptoCardSaid : Prop := Claim7.holds Tryd.pinned (.plain (OpenSpec.upto formCachesSpec)) formCachesUptoCard

/-- THE SECOND FORM's CARD OF 'lavabolaw06.FormPages'. -/
def formPagesUptoCard : Claim7 := { stood := { row := formPagesUptoRow, standIns := [], harness := (true, "ca7d4e3bc7145526c95cd0f403cee91bb87bfe20dec5c07c42711c48863f3b21"), looks := false }, kinds := [], alts := [], laidByText := true, laidKinds := [.data], laidTests := true, laidLooks := .later }
def FormPagesUptoCardSaid : Prop := Claim7.holds Tryd.pinned (.plain (OpenSpec.upto formPagesSpec)) formPagesUptoCard
end Rows
end Go.Proofs.YtifafnmbcmhlcaaDoor
