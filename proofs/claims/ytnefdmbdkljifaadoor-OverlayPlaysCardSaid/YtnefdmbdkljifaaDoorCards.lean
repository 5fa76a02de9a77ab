/-
  DERIVED. GIVEN WITH THE SEED: THE CARDS: each row of YtnefdmbdkljifaaDoorRows.lean that lists a variable, with what it lists TIED to the program's text (the seventh form; the later family's looks); each row that meets fmt, with fmt's text TOLD by the authors' own Lean function (tested against real Go, not proved from fmt's source: count such statements apart). THE CARD IS WHAT COUNTS. Prove the row's statement (the work); the ties are given (YtnefdmbdkljifaaDoorTie.lean); close each card by the builder's one call (the guide's Derived/Test/ToyasCard.lean, 'card_holds'). Laid BY PROGRAM, IN A SANDBOX (cutbox-door.mjs). By AI agents, Wed Nov 11 2026. No macro, syntax, notation, axiom, sorry.
-/
import Derived.Test.YtnefdmbdkljifaaDoorRows
import GoSem.ClaimSeven
namespace Go.Proofs.YtnefdmbdkljifaaDoor
namespace Rows

/-- THE TIED CARD OF 'kintsugilaw15.OverlayPlays'. -/
def overlayPlaysCard : Claim7 := { stood := { row := overlayPlaysRow, standIns := [], harness := (true, "c1dffb78940a394cdf4839420d521637a70d2d21dc48d00417b3218c956a5b08"), looks := true }, kinds := [], alts := [], laidByText := true, laidKinds := [.data], laidTests := true, laidLooks := .later }
def OverlayPlaysCardSaid : Prop := Claim7.holds Tryd.pinned (.plain (OpenSpec.ofChange overlayPlaysSpec)) overlayPlaysCard

/-- THE SECOND FORM's CARD OF 'kintsugilaw15.OverlayPlays'. -/
def overlayPlaysUptoCard : Claim7 := { stood := { row := overlayPlaysUptoRow, standIns := [], harness := (true, "c1dffb78940a394cdf4839420d521637a70d2d21dc48d00417b3218c956a5b08"), looks := true }, kinds := [], alts := [], laidByText := true, laidKinds := [.data], laidTests := true, laidLooks := .later }
def OverlayPlaysUptoCardSaid : Prop := Claim7.holds Tryd.pinned (.plain (OpenSpec.upto overlayPlaysSpec)) overlayPlaysUptoCard
end Rows
end Go.Proofs.YtnefdmbdkljifaaDoor
