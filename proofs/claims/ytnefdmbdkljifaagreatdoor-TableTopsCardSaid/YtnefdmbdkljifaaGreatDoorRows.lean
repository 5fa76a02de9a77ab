/-
  NARROWER THAN 'FOR EVERY INPUT', by the rows' own cells (each row's printed sentence says how): TableMaps: laid · TableFails: laid · TableTops: laid.
  DERIVED. THE GIVEN ROWS OF THIS SEAT. 3 by the template 'for every input the law returns true; each argument reads behind the call as it read before'; 0 by the template 'total and deterministic' (their statements: YtnefdmbdkljifaaGreatDoorTotals.lean).
  GIVEN WITH THE SEED: the statements are not yours to turn. If you find one false, say at which input.
  Laid BY PROGRAM, IN A SANDBOX (cutbox-rows.mjs): the forced cells as the released guide's own fill.sh prints them over the translation cefc53b271b8204c… (all of the seat's roots in one cut). By AI agents, Wed Nov 11 2026. No macro, syntax, notation, axiom, sorry.
-/
import Derived.Test.YtnefdmbdkljifaaGreatDoorChecked
import GoSem.Claim
import GoSem.ClaimJoined
import GoSem.ClaimMapViews
import Derived.JoinedTies
import Derived.KernelRfl
namespace Go.Proofs.YtnefdmbdkljifaaGreatDoor
/- THE CELL 'sum', in the pinned program and in every row, IS THE sha256 OF THE DUMP (.gsa) THAT YtnefdmbdkljifaaGreatDoorProg.lean LOADS. Nothing in Lean hashes anything: it is a label: what it is worth is what the hold of that sum in a sandbox is worth. -/
noncomputable def Tryz.pinned : Pinned := { name := "ytnefdmbdkljifaagreatdoor", sum := "cefc53b271b8204ccf811b9c7568747decfe4482d48bab4bf2982bd0f30e0e80", checked := Tryz.checked }
namespace Rows
def none {H : Type} : Left H := { results := [], args := [] }

/- WHAT THE LISTED PACKAGE-LEVEL VARIABLES READ AS WHEN THE CALL BEGINS. Each datum BY PROGRAM (the guide's laid-datum.mjs) off the statement by which the dump's own 'gosem.cut.vars' lays the variable. In a bare row this is a premise. The card (YtnefdmbdkljifaaGreatDoorCards.lean) ties it to the program's text. -/
def laid_kintsugi_ptr_wide {H : Type} : DataW H := .agg [.lit (.int .i64 0), .lit (.int .i64 1), .lit (.int .i64 2), .lit (.int .i64 2), .lit (.int .i64 2), .lit (.int .i64 2)]
def laid_kintsugi_tree_hole {H : Type} : DataW H := .agg [.lit (.int .u8 0), .lit (.int .u8 0), .lit (.int .u16 0), .lit (.int .u32 0), .lit (.int .u64 0), .agg [.lit (.int .u8 0), .lit (.int .u8 0), .lit (.int .u8 0), .lit (.int .u8 0), .lit (.int .u8 0), .lit (.int .u8 0), .lit (.int .u8 0), .lit (.int .u8 0), .lit (.int .u8 0), .lit (.int .u8 0), .lit (.int .u8 0), .lit (.int .u8 0), .lit (.int .u8 0), .lit (.int .u8 0), .lit (.int .u8 0), .lit (.int .u8 0), .lit (.int .u8 0), .lit (.int .u8 0), .lit (.int .u8 0), .lit (.int .u8 0), .lit (.int .u8 0), .lit (.int .u8 0), .lit (.int .u8 0), .lit (.int .u8 0), .lit (.int .u8 0), .lit (.int .u8 0), .lit (.int .u8 0), .lit (.int .u8 0), .lit (.int .u8 0), .lit (.int .u8 0), .lit (.int .u8 0), .lit (.int .u8 0)], .agg [.lit (.int .u16 0), .lit (.int .u16 0), .lit (.int .u16 0), .lit (.int .u16 0)]]

/-- 'kintsugilaw12.TableMaps': WHATEVER THE INPUT: true; the input reads as it did. -/
def tableMapsSpec : ChangeSpec := { name := "tableMaps", fn := fun _ => fun
  | [d] => { results := [.lit (.bool true)], args := [d] }
  | _ => none }
def tableMapsRow : OpenClaim := { program := "ytnefdmbdkljifaagreatdoor", sum := "cefc53b271b8204ccf811b9c7568747decfe4482d48bab4bf2982bd0f30e0e80", func := "kintsugi/kintsugilaw12.TableMaps", spec := "tableMaps", unfollowed := true, recurses := true, named := ["kintsugi/ptr.wide", "kintsugi/tree.hole"], apart := false, laid := [("kintsugi/ptr.wide", laid_kintsugi_ptr_wide), ("kintsugi/tree.hole", laid_kintsugi_tree_hole)] }
def TableMapsSaid : Prop := tableMapsRow.holds Tryz.pinned (OpenSpec.ofChange tableMapsSpec)

/-- ITS FALSE NEIGHBOUR: 'it returns false'. Refute it at one input. -/
def tableMapsWrong : ChangeSpec := { name := "tableMaps", fn := fun _ => fun
  | [d] => { results := [.lit (.bool false)], args := [d] }
  | _ => none }
def TableMapsWrongFalsely : Prop := tableMapsRow.holds Tryz.pinned (OpenSpec.ofChange tableMapsWrong)

/-- 'kintsugilaw12.TableFails': WHATEVER THE INPUT: true; the input reads as it did. -/
def tableFailsSpec : ChangeSpec := { name := "tableFails", fn := fun _ => fun
  | [d1, d2, d3, d4, d5] => { results := [.lit (.bool true)], args := [d1, d2, d3, d4, d5] }
  | _ => none }
def tableFailsRow : OpenClaim := { program := "ytnefdmbdkljifaagreatdoor", sum := "cefc53b271b8204ccf811b9c7568747decfe4482d48bab4bf2982bd0f30e0e80", func := "kintsugi/kintsugilaw12.TableFails", spec := "tableFails", unfollowed := true, recurses := true, named := ["kintsugi/ptr.wide", "kintsugi/tree.hole"], apart := false, laid := [("kintsugi/ptr.wide", laid_kintsugi_ptr_wide), ("kintsugi/tree.hole", laid_kintsugi_tree_hole)] }
def TableFailsSaid : Prop := tableFailsRow.holds Tryz.pinned (OpenSpec.ofChange tableFailsSpec)

/-- ITS FALSE NEIGHBOUR: 'it returns false'. Refute it at one input. -/
def tableFailsWrong : ChangeSpec := { name := "tableFails", fn := fun _ => fun
  | [d1, d2, d3, d4, d5] => { results := [.lit (.bool false)], args := [d1, d2, d3, d4, d5] }
  | _ => none }
def TableFailsWrongFalsely : Prop := tableFailsRow.holds Tryz.pinned (OpenSpec.ofChange tableFailsWrong)

/-- 'kintsugilaw12.TableTops': WHATEVER THE INPUT: true; the input reads as it did. -/
def tableTopsSpec : ChangeSpec := { name := "tableTops", fn := fun _ => fun
  | [d1, d2, d3] => { results := [.lit (.bool true)], args := [d1, d2, d3] }
  | _ => none }
def tableTopsRow : OpenClaim := { program := "ytnefdmbdkljifaagreatdoor", sum := "cefc53b271b8204ccf811b9c7568747decfe4482d48bab4bf2982bd0f30e0e80", func := "kintsugi/kintsugilaw12.TableTops", spec := "tableTops", unfollowed := true, recurses := true, named := ["kintsugi/ptr.wide", "kintsugi/tree.hole"], apart := false, laid := [("kintsugi/ptr.wide", laid_kintsugi_ptr_wide), ("kintsugi/tree.hole", laid_kintsugi_tree_hole)] }
def TableTopsSaid : Prop := tableTopsRow.holds Tryz.pinned (OpenSpec.ofChange tableTopsSpec)

/-- ITS FALSE NEIGHBOUR: 'it returns false'. Refute it at one input. -/
def tableTopsWrong : ChangeSpec := { name := "tableTops", fn := fun _ => fun
  | [d1, d2, d3] => { results := [.lit (.bool false)], args := [d1, d2, d3] }
  | _ => none }
def TableTopsWrongFalsely : Prop := tableTopsRow.holds Tryz.pinned (OpenSpec.ofChange tableTopsWrong)

/- THE SECOND FORM. 'bulk': how many values and letters a reading holds, each counted each time it is reached (what is shared counts as often as it is met; a slice's spare places count too). A statement '..UptoSaid' is the law's where the arguments, and the package variables that the reading takes, are together of bulk at most 1048576: NARROWER than '..Said'. Prove '..Said' where nothing that the law and all that it calls make is longer than what came in: it says more and counts as full. Else prove '..UptoSaid'. A law counts once. -/
mutual
def uptoBulk {H : Type} : DataW H → Nat
  | .lit (.string bytes) => bytes.length + 1
  | .lit _ => 1
  | .nil => 1
  | .ptr d => uptoBulk d + 1
  | .slice elems spare => uptoBulkAll elems + uptoBulkAll spare + 1
  | .agg parts => uptoBulkAll parts + 1
  | .iface _ d => uptoBulk d + 1
  | .map entries => uptoBulkEntries entries + 1
  | .held _ => 1
def uptoBulkAll {H : Type} : List (DataW H) → Nat
  | [] => 0
  | d :: r => uptoBulk d + uptoBulkAll r
def uptoBulkEntries {H : Type} : List (Lit × DataW H) → Nat
  | [] => 0
  | x :: r => uptoBulkEntry x + uptoBulkEntries r
def uptoBulkEntry {H : Type} : Lit × DataW H → Nat
  | (.string bytes, d) => bytes.length + uptoBulk d + 1
  | (_, d) => uptoBulk d + 1
 end
def uptoSmall : (H : Type) → List (DataW H) → Bool := fun _ ds => decide (uptoBulkAll ds ≤ 1048576)
def OpenSpec.upto (s : _root_.Go.ChangeSpec) : _root_.Go.OpenSpec := { _root_.Go.OpenSpec.ofChange s with cond := some uptoSmall }

/-- 'kintsugilaw12.TableMaps', WHERE WHAT IT READS IS OF BULK AT MOST 1048576: true; the input reads as it did. -/
def tableMapsUptoRow : OpenClaim := { program := "ytnefdmbdkljifaagreatdoor", sum := "cefc53b271b8204ccf811b9c7568747decfe4482d48bab4bf2982bd0f30e0e80", func := "kintsugi/kintsugilaw12.TableMaps", spec := "tableMaps", unfollowed := true, recurses := true, named := ["kintsugi/ptr.wide", "kintsugi/tree.hole"], apart := false, laid := [("kintsugi/ptr.wide", laid_kintsugi_ptr_wide), ("kintsugi/tree.hole", laid_kintsugi_tree_hole)], narrowed := true }
def TableMapsUptoSaid : Prop := tableMapsUptoRow.holds Tryz.pinned (OpenSpec.upto tableMapsSpec)

/-- 'kintsugilaw12.TableFails', WHERE WHAT IT READS IS OF BULK AT MOST 1048576: true; the input reads as it did. -/
def tableFailsUptoRow : OpenClaim := { program := "ytnefdmbdkljifaagreatdoor", sum := "cefc53b271b8204ccf811b9c7568747decfe4482d48bab4bf2982bd0f30e0e80", func := "kintsugi/kintsugilaw12.TableFails", spec := "tableFails", unfollowed := true, recurses := true, named := ["kintsugi/ptr.wide", "kintsugi/tree.hole"], apart := false, laid := [("kintsugi/ptr.wide", laid_kintsugi_ptr_wide), ("kintsugi/tree.hole", laid_kintsugi_tree_hole)], narrowed := true }
def TableFailsUptoSaid : Prop := tableFailsUptoRow.holds Tryz.pinned (OpenSpec.upto tableFailsSpec)

/-- 'kintsugilaw12.TableTops', WHERE WHAT IT READS IS OF BULK AT MOST 1048576: true; the input reads as it did. -/
def tableTopsUptoRow : OpenClaim := { program := "ytnefdmbdkljifaagreatdoor", sum := "cefc53b271b8204ccf811b9c7568747decfe4482d48bab4bf2982bd0f30e0e80", func := "kintsugi/kintsugilaw12.TableTops", spec := "tableTops", unfollowed := true, recurses := true, named := ["kintsugi/ptr.wide", "kintsugi/tree.hole"], apart := false, laid := [("kintsugi/ptr.wide", laid_kintsugi_ptr_wide), ("kintsugi/tree.hole", laid_kintsugi_tree_hole)], narrowed := true }
def TableTopsUptoSaid : Prop := tableTopsUptoRow.holds Tryz.pinned (OpenSpec.upto tableTopsSpec)

end Rows
end Go.Proofs.YtnefdmbdkljifaaGreatDoor
