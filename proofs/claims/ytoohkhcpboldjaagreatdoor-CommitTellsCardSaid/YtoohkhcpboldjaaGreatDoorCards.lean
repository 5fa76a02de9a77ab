/-
  DERIVED. GIVEN WITH THE SEED: THE CARDS: each row of YtoohkhcpboldjaaGreatDoorRows.lean that lists a variable, with what it lists TIED to the program's text (the seventh form; the later family's looks); each row that meets fmt, with fmt's text TOLD by the authors' own Lean function (tested against real Go, not proved from fmt's source: count such statements apart). THE CARD IS WHAT COUNTS. Prove the row's statement (the work); the ties are given (YtoohkhcpboldjaaGreatDoorTie.lean); close each card by the builder's one call (the guide's Derived/Test/ToyasCard.lean, 'card_holds'). Laid BY PROGRAM, IN A SANDBOX (cutbox-door.mjs). By AI agents, Wed Nov 11 2026. No macro, syntax, notation, axiom, sorry.
-/
import Derived.Test.YtoohkhcpboldjaaGreatDoorRows
import GoSem.ClaimSeven
namespace Go.Proofs.YtoohkhcpboldjaaGreatDoor
namespace Rows

/-- THE TIED CARD OF 'kintsugilaw17.CommitFails'. -/
def commitFailsCard : Claim7 := { stood := { row := commitFailsRow, standIns := [], harness := (true, "3611cedb9bffc3fca312311d615c33394a6cbe8a527f62451bcbb1803d81a56c"), looks := true }, kinds := [], alts := [], laidByText := true, laidKinds := [.data, .data, .data, .data], laidTests := true, laidLooks := .later }
def CommitFailsCardSaid : Prop := Claim7.holds Tryz.pinned (.plain (OpenSpec.ofChange commitFailsSpec)) commitFailsCard

/-- THE TIED CARD OF 'kintsugilaw17.CommitPower'. -/
def commitPowerCard : Claim7 := { stood := { row := commitPowerRow, standIns := [], harness := (true, "3611cedb9bffc3fca312311d615c33394a6cbe8a527f62451bcbb1803d81a56c"), looks := true }, kinds := [], alts := [], laidByText := true, laidKinds := [.data, .data, .data, .data], laidTests := true, laidLooks := .later }
def CommitPowerCardSaid : Prop := Claim7.holds Tryz.pinned (.plain (OpenSpec.ofChange commitPowerSpec)) commitPowerCard

/-- THE TIED CARD OF 'kintsugilaw17.CommitTells'. -/
def commitTellsCard : Claim7 := { stood := { row := commitTellsRow, standIns := [], harness := (true, "3611cedb9bffc3fca312311d615c33394a6cbe8a527f62451bcbb1803d81a56c"), looks := true }, kinds := [], alts := [], laidByText := true, laidKinds := [.data, .data, .data, .data], laidTests := true, laidLooks := .later }
def CommitTellsCardSaid : Prop := Claim7.holds Tryz.pinned (.plain (OpenSpec.ofChange commitTellsSpec)) commitTellsCard

/-- THE TIED CARD OF 'kintsugilaw18.MountNil'. -/
def mountNilCard : Claim7 := { stood := { row := mountNilRow, standIns := [], harness := (true, "3611cedb9bffc3fca312311d615c33394a6cbe8a527f62451bcbb1803d81a56c"), looks := true }, kinds := [], alts := [], laidByText := true, laidKinds := [.data, .data, .data, .data], laidTests := true, laidLooks := .later }
def MountNilCardSaid : Prop := Claim7.holds Tryz.pinned (.plain (OpenSpec.ofChange mountNilSpec)) mountNilCard

/-- THE TIED CARD OF 'kintsugilaw24.LiveNil'. -/
def liveNilCard : Claim7 := { stood := { row := liveNilRow, standIns := [], harness := (true, "3611cedb9bffc3fca312311d615c33394a6cbe8a527f62451bcbb1803d81a56c"), looks := true }, kinds := [], alts := [], laidByText := true, laidKinds := [.data, .data, .data, .data], laidTests := true, laidLooks := .later }
def LiveNilCardSaid : Prop := Claim7.holds Tryz.pinned (.plain (OpenSpec.ofChange liveNilSpec)) liveNilCard

/-- THE TIED CARD OF 'kintsugilaw18.MountOrEIO'. -/
def mountOrEIOCard : Claim7 := { stood := { row := mountOrEIORow, standIns := [], harness := (true, "3611cedb9bffc3fca312311d615c33394a6cbe8a527f62451bcbb1803d81a56c"), looks := true }, kinds := [], alts := [], laidByText := true, laidKinds := [.data, .data, .data, .data], laidTests := true, laidLooks := .later }
def MountOrEIOCardSaid : Prop := Claim7.holds Tryz.pinned (.plain (OpenSpec.ofChange mountOrEIOSpec)) mountOrEIOCard

/-- THE SECOND FORM's CARD OF 'kintsugilaw17.CommitFails'. -/
def commitFailsUptoCard : Claim7 := { stood := { row := commitFailsUptoRow, standIns := [], harness := (true, "3611cedb9bffc3fca312311d615c33394a6cbe8a527f62451bcbb1803d81a56c"), looks := true }, kinds := [], alts := [], laidByText := true, laidKinds := [.data, .data, .data, .data], laidTests := true, laidLooks := .later }
def CommitFailsUptoCardSaid : Prop := Claim7.holds Tryz.pinned (.plain (OpenSpec.upto commitFailsSpec)) commitFailsUptoCard

/-- THE SECOND FORM's CARD OF 'kintsugilaw17.CommitPower'. -/
def commitPowerUptoCard : Claim7 := { stood := { row := commitPowerUptoRow, standIns := [], harness := (true, "3611cedb9bffc3fca312311d615c33394a6cbe8a527f62451bcbb1803d81a56c"), looks := true }, kinds := [], alts := [], laidByText := true, laidKinds := [.data, .data, .data, .data], laidTests := true, laidLooks := .later }
def CommitPowerUptoCardSaid : Prop := Claim7.holds Tryz.pinned (.plain (OpenSpec.upto commitPowerSpec)) commitPowerUptoCard

/-- THE SECOND FORM's CARD OF 'kintsugilaw17.CommitTells'. -/
def commitTellsUptoCard : Claim7 := { stood := { row := commitTellsUptoRow, standIns := [], harness := (true, "3611cedb9bffc3fca312311d615c33394a6cbe8a527f62451bcbb1803d81a56c"), looks := true }, kinds := [], alts := [], laidByText := true, laidKinds := [.data, .data, .data, .data], laidTests := true, laidLooks := .later }
def CommitTellsUptoCardSaid : Prop := Claim7.holds Tryz.pinned (.plain (OpenSpec.upto commitTellsSpec)) commitTellsUptoCard

/-- THE SECOND FORM's CARD OF 'kintsugilaw18.MountNil'. -/
def mountNilUptoCard : Claim7 := { stood := { row := mountNilUptoRow, standIns := [], harness := (true, "3611cedb9bffc3fca312311d615c33394a6cbe8a527f62451bcbb1803d81a56c"), looks := true }, kinds := [], alts := [], laidByText := true, laidKinds := [.data, .data, .data, .data], laidTests := true, laidLooks := .later }
def MountNilUptoCardSaid : Prop := Claim7.holds Tryz.pinned (.plain (OpenSpec.upto mountNilSpec)) mountNilUptoCard

/-- THE SECOND FORM's CARD OF 'kintsugilaw24.LiveNil'. -/
def liveNilUptoCard : Claim7 := { stood := { row := liveNilUptoRow, standIns := [], harness := (true, "3611cedb9bffc3fca312311d615c33394a6cbe8a527f62451bcbb1803d81a56c"), looks := true }, kinds := [], alts := [], laidByText := true, laidKinds := [.data, .data, .data, .data], laidTests := true, laidLooks := .later }
def LiveNilUptoCardSaid : Prop := Claim7.holds Tryz.pinned (.plain (OpenSpec.upto liveNilSpec)) liveNilUptoCard

/-- THE SECOND FORM's CARD OF 'kintsugilaw18.MountOrEIO'. -/
def mountOrEIOUptoCard : Claim7 := { stood := { row := mountOrEIOUptoRow, standIns := [], harness := (true, "3611cedb9bffc3fca312311d615c33394a6cbe8a527f62451bcbb1803d81a56c"), looks := true }, kinds := [], alts := [], laidByText := true, laidKinds := [.data, .data, .data, .data], laidTests := true, laidLooks := .later }
def MountOrEIOUptoCardSaid : Prop := Claim7.holds Tryz.pinned (.plain (OpenSpec.upto mountOrEIOSpec)) mountOrEIOUptoCard
end Rows
end Go.Proofs.YtoohkhcpboldjaaGreatDoor
