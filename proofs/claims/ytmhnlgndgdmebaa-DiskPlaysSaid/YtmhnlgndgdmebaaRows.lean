/-
  No cell of these rows narrows 'for every input' (looked for: loops, veiled, ifaces, maps, wideKeys, modest, calm, conditions, laid).
  DERIVED. THE GIVEN ROWS OF THIS SEAT. 8 by the template 'for every input the law returns true; each argument reads behind the call as it read before'; 0 by the template 'total and deterministic' (their statements: YtmhnlgndgdmebaaTotals.lean).
  GIVEN WITH THE SEED: the statements are not yours to turn. If you find one false, say at which input.
  Laid BY PROGRAM, IN A SANDBOX (cutbox-rows.mjs): the forced cells as the released guide's own fill.sh prints them over the translation 4dc9884657a13dd0… (all of the seat's roots in one cut). By AI agents, Wed Nov 11 2026. No macro, syntax, notation, axiom, sorry.
-/
import Derived.Test.YtmhnlgndgdmebaaChecked
import GoSem.Claim
import GoSem.ClaimJoined
import GoSem.ClaimMapViews
import Derived.JoinedTies
import Derived.KernelRfl
namespace Go.Proofs.Ytmhnlgndgdmebaa
/- THE CELL 'sum', in the pinned program and in every row, IS THE sha256 OF THE DUMP (.gsa) THAT YtmhnlgndgdmebaaProg.lean LOADS. Nothing in Lean hashes anything: it is a label: what it is worth is what the hold of that sum in a sandbox is worth. -/
noncomputable def Try.pinned : Pinned := { name := "ytmhnlgndgdmebaa", sum := "4dc9884657a13dd0c1f3f11e149138389aa7c60c668e90226bf06f0a3eb0df4c", checked := Try.checked }
namespace Rows
def none {H : Type} : Left H := { results := [], args := [] }

/-- 'kintsugilaw05.AnchorBytes': WHATEVER THE INPUT: true; the input reads as it did. -/
def anchorBytesSpec : ChangeSpec := { name := "anchorBytes", fn := fun _ => fun
  | [d1, d2] => { results := [.lit (.bool true)], args := [d1, d2] }
  | _ => none }
def anchorBytesRow : OpenClaim := { program := "ytmhnlgndgdmebaa", sum := "4dc9884657a13dd0c1f3f11e149138389aa7c60c668e90226bf06f0a3eb0df4c", func := "kintsugi/kintsugilaw05.AnchorBytes", spec := "anchorBytes", apart := false }
def AnchorBytesSaid : Prop := anchorBytesRow.holds Try.pinned (OpenSpec.ofChange anchorBytesSpec)

/-- ITS FALSE NEIGHBOUR: 'it returns false'. Refute it at one input. -/
def anchorBytesWrong : ChangeSpec := { name := "anchorBytes", fn := fun _ => fun
  | [d1, d2] => { results := [.lit (.bool false)], args := [d1, d2] }
  | _ => none }
def AnchorBytesWrongFalsely : Prop := anchorBytesRow.holds Try.pinned (OpenSpec.ofChange anchorBytesWrong)

/-- 'kintsugilaw05.AnchorNil': WHATEVER THE INPUT: true; the input reads as it did. -/
def anchorNilSpec : ChangeSpec := { name := "anchorNil", fn := fun _ => fun
  | [d] => { results := [.lit (.bool true)], args := [d] }
  | _ => none }
def anchorNilRow : OpenClaim := { program := "ytmhnlgndgdmebaa", sum := "4dc9884657a13dd0c1f3f11e149138389aa7c60c668e90226bf06f0a3eb0df4c", func := "kintsugi/kintsugilaw05.AnchorNil", spec := "anchorNil", apart := false }
def AnchorNilSaid : Prop := anchorNilRow.holds Try.pinned (OpenSpec.ofChange anchorNilSpec)

/-- ITS FALSE NEIGHBOUR: 'it returns false'. Refute it at one input. -/
def anchorNilWrong : ChangeSpec := { name := "anchorNil", fn := fun _ => fun
  | [d] => { results := [.lit (.bool false)], args := [d] }
  | _ => none }
def AnchorNilWrongFalsely : Prop := anchorNilRow.holds Try.pinned (OpenSpec.ofChange anchorNilWrong)

/-- 'kintsugilaw05.AnchorWhole': WHATEVER THE INPUT: true; the input reads as it did. -/
def anchorWholeSpec : ChangeSpec := { name := "anchorWhole", fn := fun _ => fun
  | [d] => { results := [.lit (.bool true)], args := [d] }
  | _ => none }
def anchorWholeRow : OpenClaim := { program := "ytmhnlgndgdmebaa", sum := "4dc9884657a13dd0c1f3f11e149138389aa7c60c668e90226bf06f0a3eb0df4c", func := "kintsugi/kintsugilaw05.AnchorWhole", spec := "anchorWhole", apart := false }
def AnchorWholeSaid : Prop := anchorWholeRow.holds Try.pinned (OpenSpec.ofChange anchorWholeSpec)

/-- ITS FALSE NEIGHBOUR: 'it returns false'. Refute it at one input. -/
def anchorWholeWrong : ChangeSpec := { name := "anchorWhole", fn := fun _ => fun
  | [d] => { results := [.lit (.bool false)], args := [d] }
  | _ => none }
def AnchorWholeWrongFalsely : Prop := anchorWholeRow.holds Try.pinned (OpenSpec.ofChange anchorWholeWrong)

/-- 'kintsugilaw04.DiskTears': WHATEVER THE INPUT: true; the input reads as it did. -/
def diskTearsSpec : ChangeSpec := { name := "diskTears", fn := fun _ => fun
  | [d1, d2, d3, d4] => { results := [.lit (.bool true)], args := [d1, d2, d3, d4] }
  | _ => none }
def diskTearsRow : OpenClaim := { program := "ytmhnlgndgdmebaa", sum := "4dc9884657a13dd0c1f3f11e149138389aa7c60c668e90226bf06f0a3eb0df4c", func := "kintsugi/kintsugilaw04.DiskTears", spec := "diskTears", unfollowed := true, recurses := true, apart := false }
def DiskTearsSaid : Prop := diskTearsRow.holds Try.pinned (OpenSpec.ofChange diskTearsSpec)

/-- ITS FALSE NEIGHBOUR: 'it returns false'. Refute it at one input. -/
def diskTearsWrong : ChangeSpec := { name := "diskTears", fn := fun _ => fun
  | [d1, d2, d3, d4] => { results := [.lit (.bool false)], args := [d1, d2, d3, d4] }
  | _ => none }
def DiskTearsWrongFalsely : Prop := diskTearsRow.holds Try.pinned (OpenSpec.ofChange diskTearsWrong)

/-- 'kintsugilaw04.DiskPower': WHATEVER THE INPUT: true; the input reads as it did. -/
def diskPowerSpec : ChangeSpec := { name := "diskPower", fn := fun _ => fun
  | [d1, d2] => { results := [.lit (.bool true)], args := [d1, d2] }
  | _ => none }
def diskPowerRow : OpenClaim := { program := "ytmhnlgndgdmebaa", sum := "4dc9884657a13dd0c1f3f11e149138389aa7c60c668e90226bf06f0a3eb0df4c", func := "kintsugi/kintsugilaw04.DiskPower", spec := "diskPower", unfollowed := true, recurses := true, apart := false }
def DiskPowerSaid : Prop := diskPowerRow.holds Try.pinned (OpenSpec.ofChange diskPowerSpec)

/-- ITS FALSE NEIGHBOUR: 'it returns false'. Refute it at one input. -/
def diskPowerWrong : ChangeSpec := { name := "diskPower", fn := fun _ => fun
  | [d1, d2] => { results := [.lit (.bool false)], args := [d1, d2] }
  | _ => none }
def DiskPowerWrongFalsely : Prop := diskPowerRow.holds Try.pinned (OpenSpec.ofChange diskPowerWrong)

/-- 'kintsugilaw04.DiskFaults': WHATEVER THE INPUT: true; the input reads as it did. -/
def diskFaultsSpec : ChangeSpec := { name := "diskFaults", fn := fun _ => fun
  | [] => { results := [.lit (.bool true)], args := [] }
  | _ => none }
def diskFaultsRow : OpenClaim := { program := "ytmhnlgndgdmebaa", sum := "4dc9884657a13dd0c1f3f11e149138389aa7c60c668e90226bf06f0a3eb0df4c", func := "kintsugi/kintsugilaw04.DiskFaults", spec := "diskFaults", unfollowed := true, recurses := true, apart := false }
def DiskFaultsSaid : Prop := diskFaultsRow.holds Try.pinned (OpenSpec.ofChange diskFaultsSpec)

/-- ITS FALSE NEIGHBOUR: 'it returns false'. Refute it at one input. -/
def diskFaultsWrong : ChangeSpec := { name := "diskFaults", fn := fun _ => fun
  | [] => { results := [.lit (.bool false)], args := [] }
  | _ => none }
def DiskFaultsWrongFalsely : Prop := diskFaultsRow.holds Try.pinned (OpenSpec.ofChange diskFaultsWrong)

/-- 'kintsugilaw04.DiskPlays': WHATEVER THE INPUT: true; the input reads as it did. -/
def diskPlaysSpec : ChangeSpec := { name := "diskPlays", fn := fun _ => fun
  | [d1, d2] => { results := [.lit (.bool true)], args := [d1, d2] }
  | _ => none }
def diskPlaysRow : OpenClaim := { program := "ytmhnlgndgdmebaa", sum := "4dc9884657a13dd0c1f3f11e149138389aa7c60c668e90226bf06f0a3eb0df4c", func := "kintsugi/kintsugilaw04.DiskPlays", spec := "diskPlays", unfollowed := true, recurses := true, apart := false }
def DiskPlaysSaid : Prop := diskPlaysRow.holds Try.pinned (OpenSpec.ofChange diskPlaysSpec)

/-- ITS FALSE NEIGHBOUR: 'it returns false'. Refute it at one input. -/
def diskPlaysWrong : ChangeSpec := { name := "diskPlays", fn := fun _ => fun
  | [d1, d2] => { results := [.lit (.bool false)], args := [d1, d2] }
  | _ => none }
def DiskPlaysWrongFalsely : Prop := diskPlaysRow.holds Try.pinned (OpenSpec.ofChange diskPlaysWrong)

/-- 'kintsugilaw04.DiskNil': WHATEVER THE INPUT: true; the input reads as it did. -/
def diskNilSpec : ChangeSpec := { name := "diskNil", fn := fun _ => fun
  | [d1, d2, d3] => { results := [.lit (.bool true)], args := [d1, d2, d3] }
  | _ => none }
def diskNilRow : OpenClaim := { program := "ytmhnlgndgdmebaa", sum := "4dc9884657a13dd0c1f3f11e149138389aa7c60c668e90226bf06f0a3eb0df4c", func := "kintsugi/kintsugilaw04.DiskNil", spec := "diskNil", unfollowed := true, recurses := true, apart := false }
def DiskNilSaid : Prop := diskNilRow.holds Try.pinned (OpenSpec.ofChange diskNilSpec)

/-- ITS FALSE NEIGHBOUR: 'it returns false'. Refute it at one input. -/
def diskNilWrong : ChangeSpec := { name := "diskNil", fn := fun _ => fun
  | [d1, d2, d3] => { results := [.lit (.bool false)], args := [d1, d2, d3] }
  | _ => none }
def DiskNilWrongFalsely : Prop := diskNilRow.holds Try.pinned (OpenSpec.ofChange diskNilWrong)

/- THE SECOND FORM. 'bulk': how many values and letters a reading holds, each counted each time it is reached (what is shared counts as often as it is met; a slice's spare places count too). A statement '..UptoSaid' is the law's where the arguments, and the package variables that the reading takes, are together of bulk at most 1048576: NARROWER than '..Said'. Prove '..Said' where nothing that the law and all that it calls make is longer than what came in: it says more and counts as full. Else prove '..UptoSaid'. A law counts once. -/
mutual
def uptoBulk {H : Type} : DataW H → Nat
  | .lit (.string bytes) => bytes.length + 1
  | .lit _ => 1
  | .nil => 1
  | .ptr d => uptoBulk d + 1
  | .slice elems spare => uptoBulkAll elems + uptoBulkAll spare + 1
  | .agg parts => uptoBulkAll parts + 1
  | .iface _ d => uptoBulk d + 1
  | .map entries => uptoBulkEntries entries + 1
  | .held _ => 1
def uptoBulkAll {H : Type} : List (DataW H) → Nat
  | [] => 0
  | d :: r => uptoBulk d + uptoBulkAll r
def uptoBulkEntries {H : Type} : List (Lit × DataW H) → Nat
  | [] => 0
  | x :: r => uptoBulkEntry x + uptoBulkEntries r
def uptoBulkEntry {H : Type} : Lit × DataW H → Nat
  | (.string bytes, d) => bytes.length + uptoBulk d + 1
  | (_, d) => uptoBulk d + 1
 end
def uptoSmall : (H : Type) → List (DataW H) → Bool := fun _ ds => decide (uptoBulkAll ds ≤ 1048576)
def OpenSpec.upto (s : _root_.Go.ChangeSpec) : _root_.Go.OpenSpec := { _root_.Go.OpenSpec.ofChange s with cond := some uptoSmall }

/-- 'kintsugilaw05.AnchorBytes', WHERE WHAT IT READS IS OF BULK AT MOST 1048576: true; the input reads as it did. -/
def anchorBytesUptoRow : OpenClaim := { program := "ytmhnlgndgdmebaa", sum := "4dc9884657a13dd0c1f3f11e149138389aa7c60c668e90226bf06f0a3eb0df4c", func := "kintsugi/kintsugilaw05.AnchorBytes", spec := "anchorBytes", apart := false, narrowed := true }
def AnchorBytesUptoSaid : Prop := anchorBytesUptoRow.holds Try.pinned (OpenSpec.upto anchorBytesSpec)

/-- 'kintsugilaw05.AnchorNil', WHERE WHAT IT READS IS OF BULK AT MOST 1048576: true; the input reads as it did. -/
def anchorNilUptoRow : OpenClaim := { program := "ytmhnlgndgdmebaa", sum := "4dc9884657a13dd0c1f3f11e149138389aa7c60c668e90226bf06f0a3eb0df4c", func := "kintsugi/kintsugilaw05.AnchorNil", spec := "anchorNil", apart := false, narrowed := true }
def AnchorNilUptoSaid : Prop := anchorNilUptoRow.holds Try.pinned (OpenSpec.upto anchorNilSpec)

/-- 'kintsugilaw05.AnchorWhole', WHERE WHAT IT READS IS OF BULK AT MOST 1048576: true; the input reads as it did. -/
def anchorWholeUptoRow : OpenClaim := { program := "ytmhnlgndgdmebaa", sum := "4dc9884657a13dd0c1f3f11e149138389aa7c60c668e90226bf06f0a3eb0df4c", func := "kintsugi/kintsugilaw05.AnchorWhole", spec := "anchorWhole", apart := false, narrowed := true }
def AnchorWholeUptoSaid : Prop := anchorWholeUptoRow.holds Try.pinned (OpenSpec.upto anchorWholeSpec)

/-- 'kintsugilaw04.DiskTears', WHERE WHAT IT READS IS OF BULK AT MOST 1048576: true; the input reads as it did. -/
def diskTearsUptoRow : OpenClaim := { program := "ytmhnlgndgdmebaa", sum := "4dc9884657a13dd0c1f3f11e149138389aa7c60c668e90226bf06f0a3eb0df4c", func := "kintsugi/kintsugilaw04.DiskTears", spec := "diskTears", unfollowed := true, recurses := true, apart := false, narrowed := true }
def DiskTearsUptoSaid : Prop := diskTearsUptoRow.holds Try.pinned (OpenSpec.upto diskTearsSpec)

/-- 'kintsugilaw04.DiskPower', WHERE WHAT IT READS IS OF BULK AT MOST 1048576: true; the input reads as it did. -/
def diskPowerUptoRow : OpenClaim := { program := "ytmhnlgndgdmebaa", sum := "4dc9884657a13dd0c1f3f11e149138389aa7c60c668e90226bf06f0a3eb0df4c", func := "kintsugi/kintsugilaw04.DiskPower", spec := "diskPower", unfollowed := true, recurses := true, apart := false, narrowed := true }
def DiskPowerUptoSaid : Prop := diskPowerUptoRow.holds Try.pinned (OpenSpec.upto diskPowerSpec)

/-- 'kintsugilaw04.DiskFaults', WHERE WHAT IT READS IS OF BULK AT MOST 1048576: true; the input reads as it did. -/
def diskFaultsUptoRow : OpenClaim := { program := "ytmhnlgndgdmebaa", sum := "4dc9884657a13dd0c1f3f11e149138389aa7c60c668e90226bf06f0a3eb0df4c", func := "kintsugi/kintsugilaw04.DiskFaults", spec := "diskFaults", unfollowed := true, recurses := true, apart := false, narrowed := true }
def DiskFaultsUptoSaid : Prop := diskFaultsUptoRow.holds Try.pinned (OpenSpec.upto diskFaultsSpec)

/-- 'kintsugilaw04.DiskPlays', WHERE WHAT IT READS IS OF BULK AT MOST 1048576: true; the input reads as it did. -/
def diskPlaysUptoRow : OpenClaim := { program := "ytmhnlgndgdmebaa", sum := "4dc9884657a13dd0c1f3f11e149138389aa7c60c668e90226bf06f0a3eb0df4c", func := "kintsugi/kintsugilaw04.DiskPlays", spec := "diskPlays", unfollowed := true, recurses := true, apart := false, narrowed := true }
def DiskPlaysUptoSaid : Prop := diskPlaysUptoRow.holds Try.pinned (OpenSpec.upto diskPlaysSpec)

/-- 'kintsugilaw04.DiskNil', WHERE WHAT IT READS IS OF BULK AT MOST 1048576: true; the input reads as it did. -/
def diskNilUptoRow : OpenClaim := { program := "ytmhnlgndgdmebaa", sum := "4dc9884657a13dd0c1f3f11e149138389aa7c60c668e90226bf06f0a3eb0df4c", func := "kintsugi/kintsugilaw04.DiskNil", spec := "diskNil", unfollowed := true, recurses := true, apart := false, narrowed := true }
def DiskNilUptoSaid : Prop := diskNilUptoRow.holds Try.pinned (OpenSpec.upto diskNilSpec)

end Rows
end Go.Proofs.Ytmhnlgndgdmebaa
