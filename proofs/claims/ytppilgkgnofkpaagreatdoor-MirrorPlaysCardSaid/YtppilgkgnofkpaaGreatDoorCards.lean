/-
  DERIVED. GIVEN WITH THE SEED: THE CARDS: each row of YtppilgkgnofkpaaGreatDoorRows.lean that lists a variable, with what it lists TIED to the program's text (the seventh form; the later family's looks); each row that meets fmt, with fmt's text TOLD by the authors' own Lean function (tested against real Go, not proved from fmt's source: count such statements apart). THE CARD IS WHAT COUNTS. Prove the row's statement (the work); the ties are given (YtppilgkgnofkpaaGreatDoorTie.lean); close each card by the builder's one call (the guide's Derived/Test/ToyasCard.lean, 'card_holds'). Laid BY PROGRAM, IN A SANDBOX (cutbox-door.mjs). By AI agents, Wed Nov 11 2026. No macro, syntax, notation, axiom, sorry.
-/
import Derived.Test.YtppilgkgnofkpaaGreatDoorRows
import GoSem.ClaimSeven
namespace Go.Proofs.YtppilgkgnofkpaaGreatDoor
namespace Rows

/-- THE TIED CARD OF 'kintsugilaw08.MirrorPlays'. -/
def mirrorPlaysCard : Claim7 := { stood := { row := mirrorPlaysRow, standIns := [], harness := (true, "1d24d9eae8774bd06320f86cfef3256598c4f5cfd27506e9337df7c5f93b2d30"), looks := false }, kinds := [], alts := [], laidByText := true, laidKinds := [.data, .data], laidTests := true, laidLooks := .later }
def MirrorPlaysCardSaid : Prop := Claim7.holds Tryz.pinned (.plain (OpenSpec.ofChange mirrorPlaysSpec)) mirrorPlaysCard

/-- THE TIED CARD OF 'kintsugilaw08.MirrorHeals'. -/
def mirrorHealsCard : Claim7 := { stood := { row := mirrorHealsRow, standIns := [], harness := (true, "1d24d9eae8774bd06320f86cfef3256598c4f5cfd27506e9337df7c5f93b2d30"), looks := false }, kinds := [], alts := [], laidByText := true, laidKinds := [.data, .data], laidTests := true, laidLooks := .later }
def MirrorHealsCardSaid : Prop := Claim7.holds Tryz.pinned (.plain (OpenSpec.ofChange mirrorHealsSpec)) mirrorHealsCard

/-- THE SECOND FORM's CARD OF 'kintsugilaw08.MirrorPlays'. -/
def mirrorPlaysUptoCard : Claim7 := { stood := { row := mirrorPlaysUptoRow, standIns := [], harness := (true, "1d24d9eae8774bd06320f86cfef3256598c4f5cfd27506e9337df7c5f93b2d30"), looks := false }, kinds := [], alts := [], laidByText := true, laidKinds := [.data, .data], laidTests := true, laidLooks := .later }
def MirrorPlaysUptoCardSaid : Prop := Claim7.holds Tryz.pinned (.plain (OpenSpec.upto mirrorPlaysSpec)) mirrorPlaysUptoCard

/-- THE SECOND FORM's CARD OF 'kintsugilaw08.MirrorHeals'. -/
def mirrorHealsUptoCard : Claim7 := { stood := { row := mirrorHealsUptoRow, standIns := [], harness := (true, "1d24d9eae8774bd06320f86cfef3256598c4f5cfd27506e9337df7c5f93b2d30"), looks := false }, kinds := [], alts := [], laidByText := true, laidKinds := [.data, .data], laidTests := true, laidLooks := .later }
def MirrorHealsUptoCardSaid : Prop := Claim7.holds Tryz.pinned (.plain (OpenSpec.upto mirrorHealsSpec)) mirrorHealsUptoCard
end Rows
end Go.Proofs.YtppilgkgnofkpaaGreatDoor
