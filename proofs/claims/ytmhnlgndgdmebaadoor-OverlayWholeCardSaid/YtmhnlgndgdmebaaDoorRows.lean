/-
  NARROWER THAN 'FOR EVERY INPUT', by the rows' own cells (each row's printed sentence says how): ChargeAdds: laid · ChargeBounds: laid · OverlayWhole: laid.
  DERIVED. THE GIVEN ROWS OF THIS SEAT. 3 by the template 'for every input the law returns true; each argument reads behind the call as it read before'; 0 by the template 'total and deterministic' (their statements: YtmhnlgndgdmebaaDoorTotals.lean).
  GIVEN WITH THE SEED: the statements are not yours to turn. If you find one false, say at which input.
  Laid BY PROGRAM, IN A SANDBOX (cutbox-rows.mjs): the forced cells as the released guide's own fill.sh prints them over the translation 98dcbc921d6d36b3… (all of the seat's roots in one cut). By AI agents, Wed Nov 11 2026. No macro, syntax, notation, axiom, sorry.
-/
import Derived.Test.YtmhnlgndgdmebaaDoorChecked
import GoSem.Claim
import GoSem.ClaimJoined
import GoSem.ClaimMapViews
import Derived.JoinedTies
import Derived.KernelRfl
namespace Go.Proofs.YtmhnlgndgdmebaaDoor
/- THE CELL 'sum', in the pinned program and in every row, IS THE sha256 OF THE DUMP (.gsa) THAT YtmhnlgndgdmebaaDoorProg.lean LOADS. Nothing in Lean hashes anything: it is a label: what it is worth is what the hold of that sum in a sandbox is worth. -/
noncomputable def Tryd.pinned : Pinned := { name := "ytmhnlgndgdmebaadoor", sum := "98dcbc921d6d36b349ac4e798393b051ec2254ab8dfe5e5c473cfd2b217e1245", checked := Tryd.checked }
namespace Rows
def none {H : Type} : Left H := { results := [], args := [] }

/- WHAT THE LISTED PACKAGE-LEVEL VARIABLES READ AS WHEN THE CALL BEGINS. Each datum BY PROGRAM (the guide's laid-datum.mjs) off the statement by which the dump's own 'gosem.cut.vars' lays the variable. In a bare row this is a premise. The card (YtmhnlgndgdmebaaDoorCards.lean) ties it to the program's text. -/
def laid_kintsugi_inode_leaves {H : Type} : DataW H := .agg [.lit (.int .u8 0), .lit (.int .u8 1), .lit (.int .u8 2), .lit (.int .u8 2)]
def laid_kintsugi_ptr_wide {H : Type} : DataW H := .agg [.lit (.int .i64 0), .lit (.int .i64 1), .lit (.int .i64 2), .lit (.int .i64 2), .lit (.int .i64 2), .lit (.int .i64 2)]

/-- 'kintsugilaw16.ChargeAdds': WHATEVER THE INPUT: true; the input reads as it did. -/
def chargeAddsSpec : ChangeSpec := { name := "chargeAdds", fn := fun _ => fun
  | [d1, d2, d3, d4, d5, d6, d7] => { results := [.lit (.bool true)], args := [d1, d2, d3, d4, d5, d6, d7] }
  | _ => none }
def chargeAddsRow : OpenClaim := { program := "ytmhnlgndgdmebaadoor", sum := "98dcbc921d6d36b349ac4e798393b051ec2254ab8dfe5e5c473cfd2b217e1245", func := "kintsugi/kintsugilaw16.ChargeAdds", spec := "chargeAdds", unfollowed := true, recurses := true, named := ["kintsugi/inode.leaves"], plainKeys := false, apart := false, laid := [("kintsugi/inode.leaves", laid_kintsugi_inode_leaves)] }
def ChargeAddsSaid : Prop := chargeAddsRow.holds Tryd.pinned (OpenSpec.ofChange chargeAddsSpec)

/-- ITS FALSE NEIGHBOUR: 'it returns false'. Refute it at one input. -/
def chargeAddsWrong : ChangeSpec := { name := "chargeAdds", fn := fun _ => fun
  | [d1, d2, d3, d4, d5, d6, d7] => { results := [.lit (.bool false)], args := [d1, d2, d3, d4, d5, d6, d7] }
  | _ => none }
def ChargeAddsWrongFalsely : Prop := chargeAddsRow.holds Tryd.pinned (OpenSpec.ofChange chargeAddsWrong)

/-- 'kintsugilaw16.ChargeBounds': WHATEVER THE INPUT: true; the input reads as it did. -/
def chargeBoundsSpec : ChangeSpec := { name := "chargeBounds", fn := fun _ => fun
  | [d1, d2] => { results := [.lit (.bool true)], args := [d1, d2] }
  | _ => none }
def chargeBoundsRow : OpenClaim := { program := "ytmhnlgndgdmebaadoor", sum := "98dcbc921d6d36b349ac4e798393b051ec2254ab8dfe5e5c473cfd2b217e1245", func := "kintsugi/kintsugilaw16.ChargeBounds", spec := "chargeBounds", unfollowed := true, recurses := true, named := ["kintsugi/inode.leaves"], plainKeys := false, apart := false, laid := [("kintsugi/inode.leaves", laid_kintsugi_inode_leaves)] }
def ChargeBoundsSaid : Prop := chargeBoundsRow.holds Tryd.pinned (OpenSpec.ofChange chargeBoundsSpec)

/-- ITS FALSE NEIGHBOUR: 'it returns false'. Refute it at one input. -/
def chargeBoundsWrong : ChangeSpec := { name := "chargeBounds", fn := fun _ => fun
  | [d1, d2] => { results := [.lit (.bool false)], args := [d1, d2] }
  | _ => none }
def ChargeBoundsWrongFalsely : Prop := chargeBoundsRow.holds Tryd.pinned (OpenSpec.ofChange chargeBoundsWrong)

/-- 'kintsugilaw15.OverlayWhole': WHATEVER THE INPUT: true; the input reads as it did. -/
def overlayWholeSpec : ChangeSpec := { name := "overlayWhole", fn := fun _ => fun
  | [d1, d2, d3, d4, d5] => { results := [.lit (.bool true)], args := [d1, d2, d3, d4, d5] }
  | _ => none }
def overlayWholeRow : OpenClaim := { program := "ytmhnlgndgdmebaadoor", sum := "98dcbc921d6d36b349ac4e798393b051ec2254ab8dfe5e5c473cfd2b217e1245", func := "kintsugi/kintsugilaw15.OverlayWhole", spec := "overlayWhole", unfollowed := true, recurses := true, named := ["kintsugi/ptr.wide"], plainKeys := false, apart := false, laid := [("kintsugi/ptr.wide", laid_kintsugi_ptr_wide)] }
def OverlayWholeSaid : Prop := overlayWholeRow.holds Tryd.pinned (OpenSpec.ofChange overlayWholeSpec)

/-- ITS FALSE NEIGHBOUR: 'it returns false'. Refute it at one input. -/
def overlayWholeWrong : ChangeSpec := { name := "overlayWhole", fn := fun _ => fun
  | [d1, d2, d3, d4, d5] => { results := [.lit (.bool false)], args := [d1, d2, d3, d4, d5] }
  | _ => none }
def OverlayWholeWrongFalsely : Prop := overlayWholeRow.holds Tryd.pinned (OpenSpec.ofChange overlayWholeWrong)

/- THE SECOND FORM. 'bulk': how many values and letters a reading holds, each counted each time it is reached (what is shared counts as often as it is met; a slice's spare places count too). A statement '..UptoSaid' is the law's where the arguments, and the package variables that the reading takes, are together of bulk at most 1048576: NARROWER than '..Said'. Prove '..Said' where nothing that the law and all that it calls make is longer than what came in: it says more and counts as full. Else prove '..UptoSaid'. A law counts once. -/
mutual
def uptoBulk {H : Type} : DataW H → Nat
  | .lit (.string bytes) => bytes.length + 1
  | .lit _ => 1
  | .nil => 1
  | .ptr d => uptoBulk d + 1
  | .slice elems spare => uptoBulkAll elems + uptoBulkAll spare + 1
  | .agg parts => uptoBulkAll parts + 1
  | .iface _ d => uptoBulk d + 1
  | .map entries => uptoBulkEntries entries + 1
  | .held _ => 1
def uptoBulkAll {H : Type} : List (DataW H) → Nat
  | [] => 0
  | d :: r => uptoBulk d + uptoBulkAll r
def uptoBulkEntries {H : Type} : List (Lit × DataW H) → Nat
  | [] => 0
  | x :: r => uptoBulkEntry x + uptoBulkEntries r
def uptoBulkEntry {H : Type} : Lit × DataW H → Nat
  | (.string bytes, d) => bytes.length + uptoBulk d + 1
  | (_, d) => uptoBulk d + 1
 end
def uptoSmall : (H : Type) → List (DataW H) → Bool := fun _ ds => decide (uptoBulkAll ds ≤ 1048576)
def OpenSpec.upto (s : _root_.Go.ChangeSpec) : _root_.Go.OpenSpec := { _root_.Go.OpenSpec.ofChange s with cond := some uptoSmall }

/-- 'kintsugilaw16.ChargeAdds', WHERE WHAT IT READS IS OF BULK AT MOST 1048576: true; the input reads as it did. -/
def chargeAddsUptoRow : OpenClaim := { program := "ytmhnlgndgdmebaadoor", sum := "98dcbc921d6d36b349ac4e798393b051ec2254ab8dfe5e5c473cfd2b217e1245", func := "kintsugi/kintsugilaw16.ChargeAdds", spec := "chargeAdds", unfollowed := true, recurses := true, named := ["kintsugi/inode.leaves"], plainKeys := false, apart := false, laid := [("kintsugi/inode.leaves", laid_kintsugi_inode_leaves)], narrowed := true }
def ChargeAddsUptoSaid : Prop := chargeAddsUptoRow.holds Tryd.pinned (OpenSpec.upto chargeAddsSpec)

/-- 'kintsugilaw16.ChargeBounds', WHERE WHAT IT READS IS OF BULK AT MOST 1048576: true; the input reads as it did. -/
def chargeBoundsUptoRow : OpenClaim := { program := "ytmhnlgndgdmebaadoor", sum := "98dcbc921d6d36b349ac4e798393b051ec2254ab8dfe5e5c473cfd2b217e1245", func := "kintsugi/kintsugilaw16.ChargeBounds", spec := "chargeBounds", unfollowed := true, recurses := true, named := ["kintsugi/inode.leaves"], plainKeys := false, apart := false, laid := [("kintsugi/inode.leaves", laid_kintsugi_inode_leaves)], narrowed := true }
def ChargeBoundsUptoSaid : Prop := chargeBoundsUptoRow.holds Tryd.pinned (OpenSpec.upto chargeBoundsSpec)

/-- 'kintsugilaw15.OverlayWhole', WHERE WHAT IT READS IS OF BULK AT MOST 1048576: true; the input reads as it did. -/
def overlayWholeUptoRow : OpenClaim := { program := "ytmhnlgndgdmebaadoor", sum := "98dcbc921d6d36b349ac4e798393b051ec2254ab8dfe5e5c473cfd2b217e1245", func := "kintsugi/kintsugilaw15.OverlayWhole", spec := "overlayWhole", unfollowed := true, recurses := true, named := ["kintsugi/ptr.wide"], plainKeys := false, apart := false, laid := [("kintsugi/ptr.wide", laid_kintsugi_ptr_wide)], narrowed := true }
def OverlayWholeUptoSaid : Prop := overlayWholeUptoRow.holds Tryd.pinned (OpenSpec.upto overlayWholeSpec)

end Rows
end Go.Proofs.YtmhnlgndgdmebaaDoor
