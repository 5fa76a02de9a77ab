/-
  DERIVED. GIVEN WITH THE SEED: THE CARDS: each row of YtnefdmbdkljifaaGreatDoorRows.lean that lists a variable, with what it lists TIED to the program's text (the seventh form; the later family's looks); each row that meets fmt, with fmt's text TOLD by the authors' own Lean function (tested against real Go, not proved from fmt's source: count such statements apart). THE CARD IS WHAT COUNTS. Prove the row's statement (the work); the ties are given (YtnefdmbdkljifaaGreatDoorTie.lean); close each card by the builder's one call (the guide's Derived/Test/ToyasCard.lean, 'card_holds'). Laid BY PROGRAM, IN A SANDBOX (cutbox-door.mjs). By AI agents, Wed Nov 11 2026. No macro, syntax, notation, axiom, sorry.
-/
import Derived.Test.YtnefdmbdkljifaaGreatDoorRows
import GoSem.ClaimSeven
namespace Go.Proofs.YtnefdmbdkljifaaGreatDoor
namespace Rows

/-- THE TIED CARD OF 'kintsugilaw12.TableMaps'. -/
def tableMapsCard : Claim7 := { stood := { row := tableMapsRow, standIns := [], harness := (true, "804dcc6c0e82b5d9d03f6b6e3cbd8916604af6eb66f6e79b8c0a5bdd488723ca"), looks := false }, kinds := [], alts := [], laidByText := true, laidKinds := [.data, .data], laidTests := true, laidLooks := .later }
def TableMapsCardSaid : Prop := Claim7.holds Tryz.pinned (.plain (OpenSpec.ofChange tableMapsSpec)) tableMapsCard

/-- THE TIED CARD OF 'kintsugilaw12.TableFails'. -/
def tableFailsCard : Claim7 := { stood := { row := tableFailsRow, standIns := [], harness := (true, "804dcc6c0e82b5d9d03f6b6e3cbd8916604af6eb66f6e79b8c0a5bdd488723ca"), looks := false }, kinds := [], alts := [], laidByText := true, laidKinds := [.data, .data], laidTests := true, laidLooks := .later }
def TableFailsCardSaid : Prop := Claim7.holds Tryz.pinned (.plain (OpenSpec.ofChange tableFailsSpec)) tableFailsCard

/-- THE TIED CARD OF 'kintsugilaw12.TableTops'. -/
def tableTopsCard : Claim7 := { stood := { row := tableTopsRow, standIns := [], harness := (true, "804dcc6c0e82b5d9d03f6b6e3cbd8916604af6eb66f6e79b8c0a5bdd488723ca"), looks := false }, kinds := [], alts := [], laidByText := true, laidKinds := [.data, .data], laidTests := true, laidLooks := .later }
def TableTopsCardSaid : Prop := Claim7.holds Tryz.pinned (.plain (OpenSpec.ofChange tableTopsSpec)) tableTopsCard

/-- THE SECOND FORM's CARD OF 'kintsugilaw12.TableMaps'. -/
def tableMapsUptoCard : Claim7 := { stood := { row := tableMapsUptoRow, standIns := [], harness := (true, "804dcc6c0e82b5d9d03f6b6e3cbd8916604af6eb66f6e79b8c0a5bdd488723ca"), looks := false }, kinds := [], alts := [], laidByText := true, laidKinds := [.data, .data], laidTests := true, laidLooks := .later }
def TableMapsUptoCardSaid : Prop := Claim7.holds Tryz.pinned (.plain (OpenSpec.upto tableMapsSpec)) tableMapsUptoCard

/-- THE SECOND FORM's CARD OF 'kintsugilaw12.TableFails'. -/
def tableFailsUptoCard : Claim7 := { stood := { row := tableFailsUptoRow, standIns := [], harness := (true, "804dcc6c0e82b5d9d03f6b6e3cbd8916604af6eb66f6e79b8c0a5bdd488723ca"), looks := false }, kinds := [], alts := [], laidByText := true, laidKinds := [.data, .data], laidTests := true, laidLooks := .later }
def TableFailsUptoCardSaid : Prop := Claim7.holds Tryz.pinned (.plain (OpenSpec.upto tableFailsSpec)) tableFailsUptoCard

/-- THE SECOND FORM's CARD OF 'kintsugilaw12.TableTops'. -/
def tableTopsUptoCard : Claim7 := { stood := { row := tableTopsUptoRow, standIns := [], harness := (true, "804dcc6c0e82b5d9d03f6b6e3cbd8916604af6eb66f6e79b8c0a5bdd488723ca"), looks := false }, kinds := [], alts := [], laidByText := true, laidKinds := [.data, .data], laidTests := true, laidLooks := .later }
def TableTopsUptoCardSaid : Prop := Claim7.holds Tryz.pinned (.plain (OpenSpec.upto tableTopsSpec)) tableTopsUptoCard
end Rows
end Go.Proofs.YtnefdmbdkljifaaGreatDoor
