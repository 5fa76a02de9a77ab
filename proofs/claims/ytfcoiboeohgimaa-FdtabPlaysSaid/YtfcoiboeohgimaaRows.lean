/-
  No cell of these rows narrows 'for every input' (looked for: loops, veiled, ifaces, maps, wideKeys, modest, calm, conditions, laid).
  DERIVED. THE GIVEN ROWS OF THIS SEAT. 2 by the template 'for every input the law returns true; each argument reads behind the call as it read before'; 0 by the template 'total and deterministic' (their statements: YtfcoiboeohgimaaTotals.lean).
  GIVEN WITH THE SEED: the statements are not yours to turn. If you find one false, say at which input.
  Laid BY PROGRAM, IN A SANDBOX (cutbox-rows.mjs): the forced cells as the released guide's own fill.sh prints them over the translation 3529eb7b041b5961… (all of the seat's roots in one cut). By AI agents, Wed Nov 11 2026. No macro, syntax, notation, axiom, sorry.
-/
import Derived.Test.YtfcoiboeohgimaaChecked
import GoSem.Claim
import GoSem.ClaimJoined
import GoSem.ClaimMapViews
import Derived.JoinedTies
import Derived.KernelRfl
namespace Go.Proofs.Ytfcoiboeohgimaa
/- THE CELL 'sum', in the pinned program and in every row, IS THE sha256 OF THE DUMP (.gsa) THAT YtfcoiboeohgimaaProg.lean LOADS. Nothing in Lean hashes anything: it is a label: what it is worth is what the hold of that sum in a sandbox is worth. -/
noncomputable def Try.pinned : Pinned := { name := "ytfcoiboeohgimaa", sum := "3529eb7b041b59610b6c4ca75e7511f375e22b46ceb7876d0c4459ef239b8fe5", checked := Try.checked }
namespace Rows
def none {H : Type} : Left H := { results := [], args := [] }

/-- 'kintsugilaw20.FdtabPlays': WHATEVER THE INPUT: true; the input reads as it did. -/
def fdtabPlaysSpec : ChangeSpec := { name := "fdtabPlays", fn := fun _ => fun
  | [d] => { results := [.lit (.bool true)], args := [d] }
  | _ => none }
def fdtabPlaysRow : OpenClaim := { program := "ytfcoiboeohgimaa", sum := "3529eb7b041b59610b6c4ca75e7511f375e22b46ceb7876d0c4459ef239b8fe5", func := "kintsugi/kintsugilaw20.FdtabPlays", spec := "fdtabPlays", unfollowed := true, recurses := true, apart := false }
def FdtabPlaysSaid : Prop := fdtabPlaysRow.holds Try.pinned (OpenSpec.ofChange fdtabPlaysSpec)

/-- ITS FALSE NEIGHBOUR: 'it returns false'. Refute it at one input. -/
def fdtabPlaysWrong : ChangeSpec := { name := "fdtabPlays", fn := fun _ => fun
  | [d] => { results := [.lit (.bool false)], args := [d] }
  | _ => none }
def FdtabPlaysWrongFalsely : Prop := fdtabPlaysRow.holds Try.pinned (OpenSpec.ofChange fdtabPlaysWrong)

/-- 'kintsugilaw20.FdtabNil': WHATEVER THE INPUT: true; the input reads as it did. -/
def fdtabNilSpec : ChangeSpec := { name := "fdtabNil", fn := fun _ => fun
  | [d1, d2] => { results := [.lit (.bool true)], args := [d1, d2] }
  | _ => none }
def fdtabNilRow : OpenClaim := { program := "ytfcoiboeohgimaa", sum := "3529eb7b041b59610b6c4ca75e7511f375e22b46ceb7876d0c4459ef239b8fe5", func := "kintsugi/kintsugilaw20.FdtabNil", spec := "fdtabNil", unfollowed := true, recurses := true, apart := false }
def FdtabNilSaid : Prop := fdtabNilRow.holds Try.pinned (OpenSpec.ofChange fdtabNilSpec)

/-- ITS FALSE NEIGHBOUR: 'it returns false'. Refute it at one input. -/
def fdtabNilWrong : ChangeSpec := { name := "fdtabNil", fn := fun _ => fun
  | [d1, d2] => { results := [.lit (.bool false)], args := [d1, d2] }
  | _ => none }
def FdtabNilWrongFalsely : Prop := fdtabNilRow.holds Try.pinned (OpenSpec.ofChange fdtabNilWrong)

/- THE SECOND FORM. 'bulk': how many values and letters a reading holds, each counted each time it is reached (what is shared counts as often as it is met; a slice's spare places count too). A statement '..UptoSaid' is the law's where the arguments, and the package variables that the reading takes, are together of bulk at most 1048576: NARROWER than '..Said'. Prove '..Said' where nothing that the law and all that it calls make is longer than what came in: it says more and counts as full. Else prove '..UptoSaid'. A law counts once. -/
mutual
def uptoBulk {H : Type} : DataW H → Nat
  | .lit (.string bytes) => bytes.length + 1
  | .lit _ => 1
  | .nil => 1
  | .ptr d => uptoBulk d + 1
  | .slice elems spare => uptoBulkAll elems + uptoBulkAll spare + 1
  | .agg parts => uptoBulkAll parts + 1
  | .iface _ d => uptoBulk d + 1
  | .map entries => uptoBulkEntries entries + 1
  | .held _ => 1
def uptoBulkAll {H : Type} : List (DataW H) → Nat
  | [] => 0
  | d :: r => uptoBulk d + uptoBulkAll r
def uptoBulkEntries {H : Type} : List (Lit × DataW H) → Nat
  | [] => 0
  | x :: r => uptoBulkEntry x + uptoBulkEntries r
def uptoBulkEntry {H : Type} : Lit × DataW H → Nat
  | (.string bytes, d) => bytes.length + uptoBulk d + 1
  | (_, d) => uptoBulk d + 1
 end
def uptoSmall : (H : Type) → List (DataW H) → Bool := fun _ ds => decide (uptoBulkAll ds ≤ 1048576)
def OpenSpec.upto (s : _root_.Go.ChangeSpec) : _root_.Go.OpenSpec := { _root_.Go.OpenSpec.ofChange s with cond := some uptoSmall }

/-- 'kintsugilaw20.FdtabPlays', WHERE WHAT IT READS IS OF BULK AT MOST 1048576: true; the input reads as it did. -/
def fdtabPlaysUptoRow : OpenClaim := { program := "ytfcoiboeohgimaa", sum := "3529eb7b041b59610b6c4ca75e7511f375e22b46ceb7876d0c4459ef239b8fe5", func := "kintsugi/kintsugilaw20.FdtabPlays", spec := "fdtabPlays", unfollowed := true, recurses := true, apart := false, narrowed := true }
def FdtabPlaysUptoSaid : Prop := fdtabPlaysUptoRow.holds Try.pinned (OpenSpec.upto fdtabPlaysSpec)

/-- 'kintsugilaw20.FdtabNil', WHERE WHAT IT READS IS OF BULK AT MOST 1048576: true; the input reads as it did. -/
def fdtabNilUptoRow : OpenClaim := { program := "ytfcoiboeohgimaa", sum := "3529eb7b041b59610b6c4ca75e7511f375e22b46ceb7876d0c4459ef239b8fe5", func := "kintsugi/kintsugilaw20.FdtabNil", spec := "fdtabNil", unfollowed := true, recurses := true, apart := false, narrowed := true }
def FdtabNilUptoSaid : Prop := fdtabNilUptoRow.holds Try.pinned (OpenSpec.upto fdtabNilSpec)

end Rows
end Go.Proofs.Ytfcoiboeohgimaa
