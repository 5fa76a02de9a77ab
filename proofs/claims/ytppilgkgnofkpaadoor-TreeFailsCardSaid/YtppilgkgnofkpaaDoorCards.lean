/-
  DERIVED. GIVEN WITH THE SEED: THE CARDS: each row of YtppilgkgnofkpaaDoorRows.lean that lists a variable, with what it lists TIED to the program's text (the seventh form; the later family's looks); each row that meets fmt, with fmt's text TOLD by the authors' own Lean function (tested against real Go, not proved from fmt's source: count such statements apart). THE CARD IS WHAT COUNTS. Prove the row's statement (the work); the ties are given (YtppilgkgnofkpaaDoorTie.lean); close each card by the builder's one call (the guide's Derived/Test/ToyasCard.lean, 'card_holds'). Laid BY PROGRAM, IN A SANDBOX (cutbox-door.mjs). By AI agents, Wed Nov 11 2026. No macro, syntax, notation, axiom, sorry.
-/
import Derived.Test.YtppilgkgnofkpaaDoorRows
import GoSem.ClaimSeven
namespace Go.Proofs.YtppilgkgnofkpaaDoor
namespace Rows

/-- THE TIED CARD OF 'kintsugilaw08.MirrorNil'. -/
def mirrorNilCard : Claim7 := { stood := { row := mirrorNilRow, standIns := [], harness := (true, "80faa658f577bf6ac4f02202467926dd6cb099b7cc0cf69058a714d874fc86c6"), looks := false }, kinds := [], alts := [], laidByText := true, laidKinds := [.data, .data], laidTests := true, laidLooks := .later }
def MirrorNilCardSaid : Prop := Claim7.holds Tryd.pinned (.plain (OpenSpec.ofChange mirrorNilSpec)) mirrorNilCard

/-- THE TIED CARD OF 'kintsugilaw10.TreeMaps'. -/
def treeMapsCard : Claim7 := { stood := { row := treeMapsRow, standIns := [], harness := (true, "80faa658f577bf6ac4f02202467926dd6cb099b7cc0cf69058a714d874fc86c6"), looks := false }, kinds := [], alts := [], laidByText := true, laidKinds := [.data, .data], laidTests := true, laidLooks := .later }
def TreeMapsCardSaid : Prop := Claim7.holds Tryd.pinned (.plain (OpenSpec.ofChange treeMapsSpec)) treeMapsCard

/-- THE TIED CARD OF 'kintsugilaw10.TreeFails'. -/
def treeFailsCard : Claim7 := { stood := { row := treeFailsRow, standIns := [], harness := (true, "80faa658f577bf6ac4f02202467926dd6cb099b7cc0cf69058a714d874fc86c6"), looks := false }, kinds := [], alts := [], laidByText := true, laidKinds := [.data, .data], laidTests := true, laidLooks := .later }
def TreeFailsCardSaid : Prop := Claim7.holds Tryd.pinned (.plain (OpenSpec.ofChange treeFailsSpec)) treeFailsCard

/-- THE TIED CARD OF 'kintsugilaw10.TreeWrong'. -/
def treeWrongCard : Claim7 := { stood := { row := treeWrongRow, standIns := [], harness := (true, "80faa658f577bf6ac4f02202467926dd6cb099b7cc0cf69058a714d874fc86c6"), looks := false }, kinds := [], alts := [], laidByText := true, laidKinds := [.data, .data], laidTests := true, laidLooks := .later }
def TreeWrongCardSaid : Prop := Claim7.holds Tryd.pinned (.plain (OpenSpec.ofChange treeWrongSpec)) treeWrongCard

/-- THE SECOND FORM's CARD OF 'kintsugilaw08.MirrorNil'. -/
def mirrorNilUptoCard : Claim7 := { stood := { row := mirrorNilUptoRow, standIns := [], harness := (true, "80faa658f577bf6ac4f02202467926dd6cb099b7cc0cf69058a714d874fc86c6"), looks := false }, kinds := [], alts := [], laidByText := true, laidKinds := [.data, .data], laidTests := true, laidLooks := .later }
def MirrorNilUptoCardSaid : Prop := Claim7.holds Tryd.pinned (.plain (OpenSpec.upto mirrorNilSpec)) mirrorNilUptoCard

/-- THE SECOND FORM's CARD OF 'kintsugilaw10.TreeMaps'. -/
def treeMapsUptoCard : Claim7 := { stood := { row := treeMapsUptoRow, standIns := [], harness := (true, "80faa658f577bf6ac4f02202467926dd6cb099b7cc0cf69058a714d874fc86c6"), looks := false }, kinds := [], alts := [], laidByText := true, laidKinds := [.data, .data], laidTests := true, laidLooks := .later }
def TreeMapsUptoCardSaid : Prop := Claim7.holds Tryd.pinned (.plain (OpenSpec.upto treeMapsSpec)) treeMapsUptoCard

/-- THE SECOND FORM's CARD OF 'kintsugilaw10.TreeFails'. -/
def treeFailsUptoCard : Claim7 := { stood := { row := treeFailsUptoRow, standIns := [], harness := (true, "80faa658f577bf6ac4f02202467926dd6cb099b7cc0cf69058a714d874fc86c6"), looks := false }, kinds := [], alts := [], laidByText := true, laidKinds := [.data, .data], laidTests := true, laidLooks := .later }
def TreeFailsUptoCardSaid : Prop := Claim7.holds Tryd.pinned (.plain (OpenSpec.upto treeFailsSpec)) treeFailsUptoCard

/-- THE SECOND FORM's CARD OF 'kintsugilaw10.TreeWrong'. -/
def treeWrongUptoCard : Claim7 := { stood := { row := treeWrongUptoRow, standIns := [], harness := (true, "80faa658f577bf6ac4f02202467926dd6cb099b7cc0cf69058a714d874fc86c6"), looks := false }, kinds := [], alts := [], laidByText := true, laidKinds := [.data, .data], laidTests := true, laidLooks := .later }
def TreeWrongUptoCardSaid : Prop := Claim7.holds Tryd.pinned (.plain (OpenSpec.upto treeWrongSpec)) treeWrongUptoCard
end Rows
end Go.Proofs.YtppilgkgnofkpaaDoor
