/-
  DERIVED. GIVEN WITH THE SEED: THE CARDS: each row of YtmhnlgndgdmebaaDoorRows.lean that lists a variable, with what it lists TIED to the program's text (the seventh form; the later family's looks); each row that meets fmt, with fmt's text TOLD by the authors' own Lean function (tested against real Go, not proved from fmt's source: count such statements apart). THE CARD IS WHAT COUNTS. Prove the row's statement (the work); the ties are given (YtmhnlgndgdmebaaDoorTie.lean); close each card by the builder's one call (the guide's Derived/Test/ToyasCard.lean, 'card_holds'). Laid BY PROGRAM, IN A SANDBOX (cutbox-door.mjs). By AI agents, Wed Nov 11 2026. No macro, syntax, notation, axiom, sorry.
-/
import Derived.Test.YtmhnlgndgdmebaaDoorRows
import GoSem.ClaimSeven
namespace Go.Proofs.YtmhnlgndgdmebaaDoor
namespace Rows

/-- THE TIED CARD OF 'kintsugilaw16.ChargeAdds'. -/
def chargeAddsCard : Claim7 := { stood := { row := chargeAddsRow, standIns := [], harness := (true, "979eb0d8ec760616091989d544cfca71e3e4cc8d4b8dddce661705d0de2f5231"), looks := false }, kinds := [], alts := [], laidByText := true, laidKinds := [.data], laidTests := true, laidLooks := .later }
def ChargeAddsCardSaid : Prop := Claim7.holds Tryd.pinned (.plain (OpenSpec.ofChange chargeAddsSpec)) chargeAddsCard

/-- THE TIED CARD OF 'kintsugilaw16.ChargeBounds'. -/
def chargeBoundsCard : Claim7 := { stood := { row := chargeBoundsRow, standIns := [], harness := (true, "979eb0d8ec760616091989d544cfca71e3e4cc8d4b8dddce661705d0de2f5231"), looks := false }, kinds := [], alts := [], laidByText := true, laidKinds := [.data], laidTests := true, laidLooks := .later }
def ChargeBoundsCardSaid : Prop := Claim7.holds Tryd.pinned (.plain (OpenSpec.ofChange chargeBoundsSpec)) chargeBoundsCard

/-- THE TIED CARD OF 'kintsugilaw15.OverlayWhole'. -/
def overlayWholeCard : Claim7 := { stood := { row := overlayWholeRow, standIns := [], harness := (true, "979eb0d8ec760616091989d544cfca71e3e4cc8d4b8dddce661705d0de2f5231"), looks := false }, kinds := [], alts := [], laidByText := true, laidKinds := [.data], laidTests := true, laidLooks := .later }
def OverlayWholeCardSaid : Prop := Claim7.holds Tryd.pinned (.plain (OpenSpec.ofChange overlayWholeSpec)) overlayWholeCard

/-- THE SECOND FORM's CARD OF 'kintsugilaw16.ChargeAdds'. -/
def chargeAddsUptoCard : Claim7 := { stood := { row := chargeAddsUptoRow, standIns := [], harness := (true, "979eb0d8ec760616091989d544cfca71e3e4cc8d4b8dddce661705d0de2f5231"), looks := false }, kinds := [], alts := [], laidByText := true, laidKinds := [.data], laidTests := true, laidLooks := .later }
def ChargeAddsUptoCardSaid : Prop := Claim7.holds Tryd.pinned (.plain (OpenSpec.upto chargeAddsSpec)) chargeAddsUptoCard

/-- THE SECOND FORM's CARD OF 'kintsugilaw16.ChargeBounds'. -/
def chargeBoundsUptoCard : Claim7 := { stood := { row := chargeBoundsUptoRow, standIns := [], harness := (true, "979eb0d8ec760616091989d544cfca71e3e4cc8d4b8dddce661705d0de2f5231"), looks := false }, kinds := [], alts := [], laidByText := true, laidKinds := [.data], laidTests := true, laidLooks := .later }
def ChargeBoundsUptoCardSaid : Prop := Claim7.holds Tryd.pinned (.plain (OpenSpec.upto chargeBoundsSpec)) chargeBoundsUptoCard

/-- THE SECOND FORM's CARD OF 'kintsugilaw15.OverlayWhole'. -/
def overlayWholeUptoCard : Claim7 := { stood := { row := overlayWholeUptoRow, standIns := [], harness := (true, "979eb0d8ec760616091989d544cfca71e3e4cc8d4b8dddce661705d0de2f5231"), looks := false }, kinds := [], alts := [], laidByText := true, laidKinds := [.data], laidTests := true, laidLooks := .later }
def OverlayWholeUptoCardSaid : Prop := Claim7.holds Tryd.pinned (.plain (OpenSpec.upto overlayWholeSpec)) overlayWholeUptoCard
end Rows
end Go.Proofs.YtmhnlgndgdmebaaDoor
