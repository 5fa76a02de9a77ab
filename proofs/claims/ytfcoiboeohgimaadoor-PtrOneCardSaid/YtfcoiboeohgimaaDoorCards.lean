/-
  DERIVED. GIVEN WITH THE SEED: THE CARDS: each row of YtfcoiboeohgimaaDoorRows.lean that lists a variable, with what it lists TIED to the program's text (the seventh form; the later family's looks); each row that meets fmt, with fmt's text TOLD by the authors' own Lean function (tested against real Go, not proved from fmt's source: count such statements apart). THE CARD IS WHAT COUNTS. Prove the row's statement (the work); the ties are given (YtfcoiboeohgimaaDoorTie.lean); close each card by the builder's one call (the guide's Derived/Test/ToyasCard.lean, 'card_holds'). Laid BY PROGRAM, IN A SANDBOX (cutbox-door.mjs). By AI agents, Wed Nov 11 2026. No macro, syntax, notation, axiom, sorry.
-/
import Derived.Test.YtfcoiboeohgimaaDoorRows
import GoSem.ClaimSeven
namespace Go.Proofs.YtfcoiboeohgimaaDoor
namespace Rows

/-- THE TIED CARD OF 'kintsugilaw09.NodePuts'. -/
def nodePutsCard : Claim7 := { stood := { row := nodePutsRow, standIns := [], harness := (true, "9c85245e3df9f98406eccbdb67a2a076a9e57b8e46b7237a3a2c02c7b55f7e29"), looks := false }, kinds := [], alts := [], laidByText := true, laidKinds := [.data], laidTests := true, laidLooks := .later }
def NodePutsCardSaid : Prop := Claim7.holds Tryd.pinned (.plain (OpenSpec.ofChange nodePutsSpec)) nodePutsCard

/-- THE TIED CARD OF 'kintsugilaw09.NodeTakes'. -/
def nodeTakesCard : Claim7 := { stood := { row := nodeTakesRow, standIns := [], harness := (true, "9c85245e3df9f98406eccbdb67a2a076a9e57b8e46b7237a3a2c02c7b55f7e29"), looks := false }, kinds := [], alts := [], laidByText := true, laidKinds := [.data], laidTests := true, laidLooks := .later }
def NodeTakesCardSaid : Prop := Claim7.holds Tryd.pinned (.plain (OpenSpec.ofChange nodeTakesSpec)) nodeTakesCard

/-- THE TIED CARD OF 'kintsugilaw09.NodeBack'. -/
def nodeBackCard : Claim7 := { stood := { row := nodeBackRow, standIns := [], harness := (true, "9c85245e3df9f98406eccbdb67a2a076a9e57b8e46b7237a3a2c02c7b55f7e29"), looks := false }, kinds := [], alts := [], laidByText := true, laidKinds := [.data], laidTests := true, laidLooks := .later }
def NodeBackCardSaid : Prop := Claim7.holds Tryd.pinned (.plain (OpenSpec.ofChange nodeBackSpec)) nodeBackCard

/-- THE TIED CARD OF 'kintsugilaw11.InodePuts'. -/
def inodePutsCard : Claim7 := { stood := { row := inodePutsRow, standIns := [], harness := (true, "9c85245e3df9f98406eccbdb67a2a076a9e57b8e46b7237a3a2c02c7b55f7e29"), looks := false }, kinds := [], alts := [], laidByText := true, laidKinds := [.data, .data], laidTests := true, laidLooks := .later }
def InodePutsCardSaid : Prop := Claim7.holds Tryd.pinned (.plain (OpenSpec.ofChange inodePutsSpec)) inodePutsCard

/-- THE TIED CARD OF 'kintsugilaw11.InodeTakes'. -/
def inodeTakesCard : Claim7 := { stood := { row := inodeTakesRow, standIns := [], harness := (true, "9c85245e3df9f98406eccbdb67a2a076a9e57b8e46b7237a3a2c02c7b55f7e29"), looks := false }, kinds := [], alts := [], laidByText := true, laidKinds := [.data, .data], laidTests := true, laidLooks := .later }
def InodeTakesCardSaid : Prop := Claim7.holds Tryd.pinned (.plain (OpenSpec.ofChange inodeTakesSpec)) inodeTakesCard

/-- THE TIED CARD OF 'kintsugilaw11.InodeLeaves'. -/
def inodeLeavesCard : Claim7 := { stood := { row := inodeLeavesRow, standIns := [], harness := (true, "9c85245e3df9f98406eccbdb67a2a076a9e57b8e46b7237a3a2c02c7b55f7e29"), looks := false }, kinds := [], alts := [], laidByText := true, laidKinds := [.data, .data], laidTests := true, laidLooks := .later }
def InodeLeavesCardSaid : Prop := Claim7.holds Tryd.pinned (.plain (OpenSpec.ofChange inodeLeavesSpec)) inodeLeavesCard

/-- THE TIED CARD OF 'kintsugilaw11.InodeBack'. -/
def inodeBackCard : Claim7 := { stood := { row := inodeBackRow, standIns := [], harness := (true, "9c85245e3df9f98406eccbdb67a2a076a9e57b8e46b7237a3a2c02c7b55f7e29"), looks := false }, kinds := [], alts := [], laidByText := true, laidKinds := [.data, .data], laidTests := true, laidLooks := .later }
def InodeBackCardSaid : Prop := Claim7.holds Tryd.pinned (.plain (OpenSpec.ofChange inodeBackSpec)) inodeBackCard

/-- THE TIED CARD OF 'kintsugilaw06.PtrTells'. -/
def ptrTellsCard : Claim7 := { stood := { row := ptrTellsRow, standIns := [], harness := (true, "9c85245e3df9f98406eccbdb67a2a076a9e57b8e46b7237a3a2c02c7b55f7e29"), looks := false }, kinds := [], alts := [], laidByText := true, laidKinds := [.data, .data], laidTests := true, laidLooks := .later }
def PtrTellsCardSaid : Prop := Claim7.holds Tryd.pinned (.plain (OpenSpec.ofChange ptrTellsSpec)) ptrTellsCard

/-- THE TIED CARD OF 'kintsugilaw06.PtrTakes'. -/
def ptrTakesCard : Claim7 := { stood := { row := ptrTakesRow, standIns := [], harness := (true, "9c85245e3df9f98406eccbdb67a2a076a9e57b8e46b7237a3a2c02c7b55f7e29"), looks := false }, kinds := [], alts := [], laidByText := true, laidKinds := [.data, .data], laidTests := true, laidLooks := .later }
def PtrTakesCardSaid : Prop := Claim7.holds Tryd.pinned (.plain (OpenSpec.ofChange ptrTakesSpec)) ptrTakesCard

/-- THE TIED CARD OF 'kintsugilaw06.PtrOne'. -/
def ptrOneCard : Claim7 := { stood := { row := ptrOneRow, standIns := [], harness := (true, "9c85245e3df9f98406eccbdb67a2a076a9e57b8e46b7237a3a2c02c7b55f7e29"), looks := false }, kinds := [], alts := [], laidByText := true, laidKinds := [.data, .data], laidTests := true, laidLooks := .later }
def PtrOneCardSaid : Prop := Claim7.holds Tryd.pinned (.plain (OpenSpec.ofChange ptrOneSpec)) ptrOneCard

/-- THE SECOND FORM's CARD OF 'kintsugilaw09.NodePuts'. -/
def nodePutsUptoCard : Claim7 := { stood := { row := nodePutsUptoRow, standIns := [], harness := (true, "9c85245e3df9f98406eccbdb67a2a076a9e57b8e46b7237a3a2c02c7b55f7e29"), looks := false }, kinds := [], alts := [], laidByText := true, laidKinds := [.data], laidTests := true, laidLooks := .later }
def NodePutsUptoCardSaid : Prop := Claim7.holds Tryd.pinned (.plain (OpenSpec.upto nodePutsSpec)) nodePutsUptoCard

/-- THE SECOND FORM's CARD OF 'kintsugilaw09.NodeTakes'. -/
def nodeTakesUptoCard : Claim7 := { stood := { row := nodeTakesUptoRow, standIns := [], harness := (true, "9c85245e3df9f98406eccbdb67a2a076a9e57b8e46b7237a3a2c02c7b55f7e29"), looks := false }, kinds := [], alts := [], laidByText := true, laidKinds := [.data], laidTests := true, laidLooks := .later }
def NodeTakesUptoCardSaid : Prop := Claim7.holds Tryd.pinned (.plain (OpenSpec.upto nodeTakesSpec)) nodeTakesUptoCard

/-- THE SECOND FORM's CARD OF 'kintsugilaw09.NodeBack'. -/
def nodeBackUptoCard : Claim7 := { stood := { row := nodeBackUptoRow, standIns := [], harness := (true, "9c85245e3df9f98406eccbdb67a2a076a9e57b8e46b7237a3a2c02c7b55f7e29"), looks := false }, kinds := [], alts := [], laidByText := true, laidKinds := [.data], laidTests := true, laidLooks := .later }
def NodeBackUptoCardSaid : Prop := Claim7.holds Tryd.pinned (.plain (OpenSpec.upto nodeBackSpec)) nodeBackUptoCard

/-- THE SECOND FORM's CARD OF 'kintsugilaw11.InodePuts'. -/
def inodePutsUptoCard : Claim7 := { stood := { row := inodePutsUptoRow, standIns := [], harness := (true, "9c85245e3df9f98406eccbdb67a2a076a9e57b8e46b7237a3a2c02c7b55f7e29"), looks := false }, kinds := [], alts := [], laidByText := true, laidKinds := [.data, .data], laidTests := true, laidLooks := .later }
def InodePutsUptoCardSaid : Prop := Claim7.holds Tryd.pinned (.plain (OpenSpec.upto inodePutsSpec)) inodePutsUptoCard

/-- THE SECOND FORM's CARD OF 'kintsugilaw11.InodeTakes'. -/
def inodeTakesUptoCard : Claim7 := { stood := { row := inodeTakesUptoRow, standIns := [], harness := (true, "9c85245e3df9f98406eccbdb67a2a076a9e57b8e46b7237a3a2c02c7b55f7e29"), looks := false }, kinds := [], alts := [], laidByText := true, laidKinds := [.data, .data], laidTests := true, laidLooks := .later }
def InodeTakesUptoCardSaid : Prop := Claim7.holds Tryd.pinned (.plain (OpenSpec.upto inodeTakesSpec)) inodeTakesUptoCard

/-- THE SECOND FORM's CARD OF 'kintsugilaw11.InodeLeaves'. -/
def inodeLeavesUptoCard : Claim7 := { stood := { row := inodeLeavesUptoRow, standIns := [], harness := (true, "9c85245e3df9f98406eccbdb67a2a076a9e57b8e46b7237a3a2c02c7b55f7e29"), looks := false }, kinds := [], alts := [], laidByText := true, laidKinds := [.data, .data], laidTests := true, laidLooks := .later }
def InodeLeavesUptoCardSaid : Prop := Claim7.holds Tryd.pinned (.plain (OpenSpec.upto inodeLeavesSpec)) inodeLeavesUptoCard

/-- THE SECOND FORM's CARD OF 'kintsugilaw11.InodeBack'. -/
def inodeBackUptoCard : Claim7 := { stood := { row := inodeBackUptoRow, standIns := [], harness := (true, "9c85245e3df9f98406eccbdb67a2a076a9e57b8e46b7237a3a2c02c7b55f7e29"), looks := false }, kinds := [], alts := [], laidByText := true, laidKinds := [.data, .data], laidTests := true, laidLooks := .later }
def InodeBackUptoCardSaid : Prop := Claim7.holds Tryd.pinned (.plain (OpenSpec.upto inodeBackSpec)) inodeBackUptoCard

/-- THE SECOND FORM's CARD OF 'kintsugilaw06.PtrTells'. -/
def ptrTellsUptoCard : Claim7 := { stood := { row := ptrTellsUptoRow, standIns := [], harness := (true, "9c85245e3df9f98406eccbdb67a2a076a9e57b8e46b7237a3a2c02c7b55f7e29"), looks := false }, kinds := [], alts := [], laidByText := true, laidKinds := [.data, .data], laidTests := true, laidLooks := .later }
def PtrTellsUptoCardSaid : Prop := Claim7.holds Tryd.pinned (.plain (OpenSpec.upto ptrTellsSpec)) ptrTellsUptoCard

/-- THE SECOND FORM's CARD OF 'kintsugilaw06.PtrTakes'. -/
def ptrTakesUptoCard : Claim7 := { stood := { row := ptrTakesUptoRow, standIns := [], harness := (true, "9c85245e3df9f98406eccbdb67a2a076a9e57b8e46b7237a3a2c02c7b55f7e29"), looks := false }, kinds := [], alts := [], laidByText := true, laidKinds := [.data, .data], laidTests := true, laidLooks := .later }
def PtrTakesUptoCardSaid : Prop := Claim7.holds Tryd.pinned (.plain (OpenSpec.upto ptrTakesSpec)) ptrTakesUptoCard

/-- THE SECOND FORM's CARD OF 'kintsugilaw06.PtrOne'. -/
def ptrOneUptoCard : Claim7 := { stood := { row := ptrOneUptoRow, standIns := [], harness := (true, "9c85245e3df9f98406eccbdb67a2a076a9e57b8e46b7237a3a2c02c7b55f7e29"), looks := false }, kinds := [], alts := [], laidByText := true, laidKinds := [.data, .data], laidTests := true, laidLooks := .later }
def PtrOneUptoCardSaid : Prop := Claim7.holds Tryd.pinned (.plain (OpenSpec.upto ptrOneSpec)) ptrOneUptoCard
end Rows
end Go.Proofs.YtfcoiboeohgimaaDoor
