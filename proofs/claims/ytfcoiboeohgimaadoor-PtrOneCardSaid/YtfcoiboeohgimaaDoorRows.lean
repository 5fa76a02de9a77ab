/-
  NARROWER THAN 'FOR EVERY INPUT', by the rows' own cells (each row's printed sentence says how): NodePuts: laid · NodeTakes: laid · NodeBack: laid · InodePuts: laid · InodeTakes: laid · InodeLeaves: laid · InodeBack: laid · PtrTells: laid · PtrTakes: laid · PtrOne: laid.
  DERIVED. THE GIVEN ROWS OF THIS SEAT. 10 by the template 'for every input the law returns true; each argument reads behind the call as it read before'; 0 by the template 'total and deterministic' (their statements: YtfcoiboeohgimaaDoorTotals.lean).
  GIVEN WITH THE SEED: the statements are not yours to turn. If you find one false, say at which input.
  Laid BY PROGRAM, IN A SANDBOX (cutbox-rows.mjs): the forced cells as the released guide's own fill.sh prints them over the translation 7ceec5345e5c1a6b… (all of the seat's roots in one cut). By AI agents, Wed Nov 11 2026. No macro, syntax, notation, axiom, sorry.
-/
import Derived.Test.YtfcoiboeohgimaaDoorChecked
import GoSem.Claim
import GoSem.ClaimJoined
import GoSem.ClaimMapViews
import Derived.JoinedTies
import Derived.KernelRfl
namespace Go.Proofs.YtfcoiboeohgimaaDoor
/- THE CELL 'sum', in the pinned program and in every row, IS THE sha256 OF THE DUMP (.gsa) THAT YtfcoiboeohgimaaDoorProg.lean LOADS. Nothing in Lean hashes anything: it is a label: what it is worth is what the hold of that sum in a sandbox is worth. -/
noncomputable def Tryd.pinned : Pinned := { name := "ytfcoiboeohgimaadoor", sum := "7ceec5345e5c1a6bc0f6bdf2c856cc0183a795ab266af693620030eb32842d71", checked := Tryd.checked }
namespace Rows
def none {H : Type} : Left H := { results := [], args := [] }

/- WHAT THE LISTED PACKAGE-LEVEL VARIABLES READ AS WHEN THE CALL BEGINS. Each datum BY PROGRAM (the guide's laid-datum.mjs) off the statement by which the dump's own 'gosem.cut.vars' lays the variable. In a bare row this is a premise. The card (YtfcoiboeohgimaaDoorCards.lean) ties it to the program's text. -/
def laid_kintsugi_ptr_wide {H : Type} : DataW H := .agg [.lit (.int .i64 0), .lit (.int .i64 1), .lit (.int .i64 2), .lit (.int .i64 2), .lit (.int .i64 2), .lit (.int .i64 2)]
def laid_kintsugi_inode_leaves {H : Type} : DataW H := .agg [.lit (.int .u8 0), .lit (.int .u8 1), .lit (.int .u8 2), .lit (.int .u8 2)]
def laid_kintsugi_sha_constants {H : Type} : DataW H := .agg [.lit (.int .u32 1116352408), .lit (.int .u32 1899447441), .lit (.int .u32 3049323471), .lit (.int .u32 3921009573), .lit (.int .u32 961987163), .lit (.int .u32 1508970993), .lit (.int .u32 2453635748), .lit (.int .u32 2870763221), .lit (.int .u32 3624381080), .lit (.int .u32 310598401), .lit (.int .u32 607225278), .lit (.int .u32 1426881987), .lit (.int .u32 1925078388), .lit (.int .u32 2162078206), .lit (.int .u32 2614888103), .lit (.int .u32 3248222580), .lit (.int .u32 3835390401), .lit (.int .u32 4022224774), .lit (.int .u32 264347078), .lit (.int .u32 604807628), .lit (.int .u32 770255983), .lit (.int .u32 1249150122), .lit (.int .u32 1555081692), .lit (.int .u32 1996064986), .lit (.int .u32 2554220882), .lit (.int .u32 2821834349), .lit (.int .u32 2952996808), .lit (.int .u32 3210313671), .lit (.int .u32 3336571891), .lit (.int .u32 3584528711), .lit (.int .u32 113926993), .lit (.int .u32 338241895), .lit (.int .u32 666307205), .lit (.int .u32 773529912), .lit (.int .u32 1294757372), .lit (.int .u32 1396182291), .lit (.int .u32 1695183700), .lit (.int .u32 1986661051), .lit (.int .u32 2177026350), .lit (.int .u32 2456956037), .lit (.int .u32 2730485921), .lit (.int .u32 2820302411), .lit (.int .u32 3259730800), .lit (.int .u32 3345764771), .lit (.int .u32 3516065817), .lit (.int .u32 3600352804), .lit (.int .u32 4094571909), .lit (.int .u32 275423344), .lit (.int .u32 430227734), .lit (.int .u32 506948616), .lit (.int .u32 659060556), .lit (.int .u32 883997877), .lit (.int .u32 958139571), .lit (.int .u32 1322822218), .lit (.int .u32 1537002063), .lit (.int .u32 1747873779), .lit (.int .u32 1955562222), .lit (.int .u32 2024104815), .lit (.int .u32 2227730452), .lit (.int .u32 2361852424), .lit (.int .u32 2428436474), .lit (.int .u32 2756734187), .lit (.int .u32 3204031479), .lit (.int .u32 3329325298)]

/-- 'kintsugilaw09.NodePuts': WHATEVER THE INPUT: true; the input reads as it did. -/
def nodePutsSpec : ChangeSpec := { name := "nodePuts", fn := fun _ => fun
  | [d] => { results := [.lit (.bool true)], args := [d] }
  | _ => none }
def nodePutsRow : OpenClaim := { program := "ytfcoiboeohgimaadoor", sum := "7ceec5345e5c1a6bc0f6bdf2c856cc0183a795ab266af693620030eb32842d71", func := "kintsugi/kintsugilaw09.NodePuts", spec := "nodePuts", unfollowed := true, recurses := true, named := ["kintsugi/ptr.wide"], apart := false, laid := [("kintsugi/ptr.wide", laid_kintsugi_ptr_wide)] }
def NodePutsSaid : Prop := nodePutsRow.holds Tryd.pinned (OpenSpec.ofChange nodePutsSpec)

/-- ITS FALSE NEIGHBOUR: 'it returns false'. Refute it at one input. -/
def nodePutsWrong : ChangeSpec := { name := "nodePuts", fn := fun _ => fun
  | [d] => { results := [.lit (.bool false)], args := [d] }
  | _ => none }
def NodePutsWrongFalsely : Prop := nodePutsRow.holds Tryd.pinned (OpenSpec.ofChange nodePutsWrong)

/-- 'kintsugilaw09.NodeTakes': WHATEVER THE INPUT: true; the input reads as it did. -/
def nodeTakesSpec : ChangeSpec := { name := "nodeTakes", fn := fun _ => fun
  | [d] => { results := [.lit (.bool true)], args := [d] }
  | _ => none }
def nodeTakesRow : OpenClaim := { program := "ytfcoiboeohgimaadoor", sum := "7ceec5345e5c1a6bc0f6bdf2c856cc0183a795ab266af693620030eb32842d71", func := "kintsugi/kintsugilaw09.NodeTakes", spec := "nodeTakes", unfollowed := true, recurses := true, named := ["kintsugi/ptr.wide"], apart := false, laid := [("kintsugi/ptr.wide", laid_kintsugi_ptr_wide)] }
def NodeTakesSaid : Prop := nodeTakesRow.holds Tryd.pinned (OpenSpec.ofChange nodeTakesSpec)

/-- ITS FALSE NEIGHBOUR: 'it returns false'. Refute it at one input. -/
def nodeTakesWrong : ChangeSpec := { name := "nodeTakes", fn := fun _ => fun
  | [d] => { results := [.lit (.bool false)], args := [d] }
  | _ => none }
def NodeTakesWrongFalsely : Prop := nodeTakesRow.holds Tryd.pinned (OpenSpec.ofChange nodeTakesWrong)

/-- 'kintsugilaw09.NodeBack': WHATEVER THE INPUT: true; the input reads as it did. -/
def nodeBackSpec : ChangeSpec := { name := "nodeBack", fn := fun _ => fun
  | [d1, d2, d3, d4] => { results := [.lit (.bool true)], args := [d1, d2, d3, d4] }
  | _ => none }
def nodeBackRow : OpenClaim := { program := "ytfcoiboeohgimaadoor", sum := "7ceec5345e5c1a6bc0f6bdf2c856cc0183a795ab266af693620030eb32842d71", func := "kintsugi/kintsugilaw09.NodeBack", spec := "nodeBack", unfollowed := true, recurses := true, named := ["kintsugi/ptr.wide"], apart := false, laid := [("kintsugi/ptr.wide", laid_kintsugi_ptr_wide)] }
def NodeBackSaid : Prop := nodeBackRow.holds Tryd.pinned (OpenSpec.ofChange nodeBackSpec)

/-- ITS FALSE NEIGHBOUR: 'it returns false'. Refute it at one input. -/
def nodeBackWrong : ChangeSpec := { name := "nodeBack", fn := fun _ => fun
  | [d1, d2, d3, d4] => { results := [.lit (.bool false)], args := [d1, d2, d3, d4] }
  | _ => none }
def NodeBackWrongFalsely : Prop := nodeBackRow.holds Tryd.pinned (OpenSpec.ofChange nodeBackWrong)

/-- 'kintsugilaw11.InodePuts': WHATEVER THE INPUT: true; the input reads as it did. -/
def inodePutsSpec : ChangeSpec := { name := "inodePuts", fn := fun _ => fun
  | [d] => { results := [.lit (.bool true)], args := [d] }
  | _ => none }
def inodePutsRow : OpenClaim := { program := "ytfcoiboeohgimaadoor", sum := "7ceec5345e5c1a6bc0f6bdf2c856cc0183a795ab266af693620030eb32842d71", func := "kintsugi/kintsugilaw11.InodePuts", spec := "inodePuts", unfollowed := true, recurses := true, named := ["kintsugi/ptr.wide", "kintsugi/inode.leaves"], apart := false, laid := [("kintsugi/ptr.wide", laid_kintsugi_ptr_wide), ("kintsugi/inode.leaves", laid_kintsugi_inode_leaves)] }
def InodePutsSaid : Prop := inodePutsRow.holds Tryd.pinned (OpenSpec.ofChange inodePutsSpec)

/-- ITS FALSE NEIGHBOUR: 'it returns false'. Refute it at one input. -/
def inodePutsWrong : ChangeSpec := { name := "inodePuts", fn := fun _ => fun
  | [d] => { results := [.lit (.bool false)], args := [d] }
  | _ => none }
def InodePutsWrongFalsely : Prop := inodePutsRow.holds Tryd.pinned (OpenSpec.ofChange inodePutsWrong)

/-- 'kintsugilaw11.InodeTakes': WHATEVER THE INPUT: true; the input reads as it did. -/
def inodeTakesSpec : ChangeSpec := { name := "inodeTakes", fn := fun _ => fun
  | [d] => { results := [.lit (.bool true)], args := [d] }
  | _ => none }
def inodeTakesRow : OpenClaim := { program := "ytfcoiboeohgimaadoor", sum := "7ceec5345e5c1a6bc0f6bdf2c856cc0183a795ab266af693620030eb32842d71", func := "kintsugi/kintsugilaw11.InodeTakes", spec := "inodeTakes", unfollowed := true, recurses := true, named := ["kintsugi/ptr.wide", "kintsugi/inode.leaves"], apart := false, laid := [("kintsugi/ptr.wide", laid_kintsugi_ptr_wide), ("kintsugi/inode.leaves", laid_kintsugi_inode_leaves)] }
def InodeTakesSaid : Prop := inodeTakesRow.holds Tryd.pinned (OpenSpec.ofChange inodeTakesSpec)

/-- ITS FALSE NEIGHBOUR: 'it returns false'. Refute it at one input. -/
def inodeTakesWrong : ChangeSpec := { name := "inodeTakes", fn := fun _ => fun
  | [d] => { results := [.lit (.bool false)], args := [d] }
  | _ => none }
def InodeTakesWrongFalsely : Prop := inodeTakesRow.holds Tryd.pinned (OpenSpec.ofChange inodeTakesWrong)

/-- 'kintsugilaw11.InodeLeaves': WHATEVER THE INPUT: true; the input reads as it did. -/
def inodeLeavesSpec : ChangeSpec := { name := "inodeLeaves", fn := fun _ => fun
  | [d1, d2] => { results := [.lit (.bool true)], args := [d1, d2] }
  | _ => none }
def inodeLeavesRow : OpenClaim := { program := "ytfcoiboeohgimaadoor", sum := "7ceec5345e5c1a6bc0f6bdf2c856cc0183a795ab266af693620030eb32842d71", func := "kintsugi/kintsugilaw11.InodeLeaves", spec := "inodeLeaves", unfollowed := true, recurses := true, named := ["kintsugi/inode.leaves", "kintsugi/ptr.wide"], apart := false, laid := [("kintsugi/ptr.wide", laid_kintsugi_ptr_wide), ("kintsugi/inode.leaves", laid_kintsugi_inode_leaves)] }
def InodeLeavesSaid : Prop := inodeLeavesRow.holds Tryd.pinned (OpenSpec.ofChange inodeLeavesSpec)

/-- ITS FALSE NEIGHBOUR: 'it returns false'. Refute it at one input. -/
def inodeLeavesWrong : ChangeSpec := { name := "inodeLeaves", fn := fun _ => fun
  | [d1, d2] => { results := [.lit (.bool false)], args := [d1, d2] }
  | _ => none }
def InodeLeavesWrongFalsely : Prop := inodeLeavesRow.holds Tryd.pinned (OpenSpec.ofChange inodeLeavesWrong)

/-- 'kintsugilaw11.InodeBack': WHATEVER THE INPUT: true; the input reads as it did. -/
def inodeBackSpec : ChangeSpec := { name := "inodeBack", fn := fun _ => fun
  | [d1, d2] => { results := [.lit (.bool true)], args := [d1, d2] }
  | _ => none }
def inodeBackRow : OpenClaim := { program := "ytfcoiboeohgimaadoor", sum := "7ceec5345e5c1a6bc0f6bdf2c856cc0183a795ab266af693620030eb32842d71", func := "kintsugi/kintsugilaw11.InodeBack", spec := "inodeBack", unfollowed := true, recurses := true, named := ["kintsugi/ptr.wide", "kintsugi/inode.leaves"], apart := false, laid := [("kintsugi/ptr.wide", laid_kintsugi_ptr_wide), ("kintsugi/inode.leaves", laid_kintsugi_inode_leaves)] }
def InodeBackSaid : Prop := inodeBackRow.holds Tryd.pinned (OpenSpec.ofChange inodeBackSpec)

/-- ITS FALSE NEIGHBOUR: 'it returns false'. Refute it at one input. -/
def inodeBackWrong : ChangeSpec := { name := "inodeBack", fn := fun _ => fun
  | [d1, d2] => { results := [.lit (.bool false)], args := [d1, d2] }
  | _ => none }
def InodeBackWrongFalsely : Prop := inodeBackRow.holds Tryd.pinned (OpenSpec.ofChange inodeBackWrong)

/-- 'kintsugilaw06.PtrTells': WHATEVER THE INPUT: true; the input reads as it did. -/
def ptrTellsSpec : ChangeSpec := { name := "ptrTells", fn := fun _ => fun
  | [d1, d2, d3] => { results := [.lit (.bool true)], args := [d1, d2, d3] }
  | _ => none }
def ptrTellsRow : OpenClaim := { program := "ytfcoiboeohgimaadoor", sum := "7ceec5345e5c1a6bc0f6bdf2c856cc0183a795ab266af693620030eb32842d71", func := "kintsugi/kintsugilaw06.PtrTells", spec := "ptrTells", unfollowed := true, recurses := true, named := ["kintsugi/sha.constants", "kintsugi/ptr.wide"], apart := false, laid := [("kintsugi/sha.constants", laid_kintsugi_sha_constants), ("kintsugi/ptr.wide", laid_kintsugi_ptr_wide)] }
def PtrTellsSaid : Prop := ptrTellsRow.holds Tryd.pinned (OpenSpec.ofChange ptrTellsSpec)

/-- ITS FALSE NEIGHBOUR: 'it returns false'. Refute it at one input. -/
def ptrTellsWrong : ChangeSpec := { name := "ptrTells", fn := fun _ => fun
  | [d1, d2, d3] => { results := [.lit (.bool false)], args := [d1, d2, d3] }
  | _ => none }
def PtrTellsWrongFalsely : Prop := ptrTellsRow.holds Tryd.pinned (OpenSpec.ofChange ptrTellsWrong)

/-- 'kintsugilaw06.PtrTakes': WHATEVER THE INPUT: true; the input reads as it did. -/
def ptrTakesSpec : ChangeSpec := { name := "ptrTakes", fn := fun _ => fun
  | [d] => { results := [.lit (.bool true)], args := [d] }
  | _ => none }
def ptrTakesRow : OpenClaim := { program := "ytfcoiboeohgimaadoor", sum := "7ceec5345e5c1a6bc0f6bdf2c856cc0183a795ab266af693620030eb32842d71", func := "kintsugi/kintsugilaw06.PtrTakes", spec := "ptrTakes", unfollowed := true, recurses := true, named := ["kintsugi/sha.constants", "kintsugi/ptr.wide"], apart := false, laid := [("kintsugi/sha.constants", laid_kintsugi_sha_constants), ("kintsugi/ptr.wide", laid_kintsugi_ptr_wide)] }
def PtrTakesSaid : Prop := ptrTakesRow.holds Tryd.pinned (OpenSpec.ofChange ptrTakesSpec)

/-- ITS FALSE NEIGHBOUR: 'it returns false'. Refute it at one input. -/
def ptrTakesWrong : ChangeSpec := { name := "ptrTakes", fn := fun _ => fun
  | [d] => { results := [.lit (.bool false)], args := [d] }
  | _ => none }
def PtrTakesWrongFalsely : Prop := ptrTakesRow.holds Tryd.pinned (OpenSpec.ofChange ptrTakesWrong)

/-- 'kintsugilaw06.PtrOne': WHATEVER THE INPUT: true; the input reads as it did. -/
def ptrOneSpec : ChangeSpec := { name := "ptrOne", fn := fun _ => fun
  | [d1, d2, d3, d4] => { results := [.lit (.bool true)], args := [d1, d2, d3, d4] }
  | _ => none }
def ptrOneRow : OpenClaim := { program := "ytfcoiboeohgimaadoor", sum := "7ceec5345e5c1a6bc0f6bdf2c856cc0183a795ab266af693620030eb32842d71", func := "kintsugi/kintsugilaw06.PtrOne", spec := "ptrOne", unfollowed := true, recurses := true, named := ["kintsugi/sha.constants", "kintsugi/ptr.wide"], apart := false, laid := [("kintsugi/sha.constants", laid_kintsugi_sha_constants), ("kintsugi/ptr.wide", laid_kintsugi_ptr_wide)] }
def PtrOneSaid : Prop := ptrOneRow.holds Tryd.pinned (OpenSpec.ofChange ptrOneSpec)

/-- ITS FALSE NEIGHBOUR: 'it returns false'. Refute it at one input. -/
def ptrOneWrong : ChangeSpec := { name := "ptrOne", fn := fun _ => fun
  | [d1, d2, d3, d4] => { results := [.lit (.bool false)], args := [d1, d2, d3, d4] }
  | _ => none }
def PtrOneWrongFalsely : Prop := ptrOneRow.holds Tryd.pinned (OpenSpec.ofChange ptrOneWrong)

/- THE SECOND FORM. 'bulk': how many values and letters a reading holds, each counted each time it is reached (what is shared counts as often as it is met; a slice's spare places count too). A statement '..UptoSaid' is the law's where the arguments, and the package variables that the reading takes, are together of bulk at most 1048576: NARROWER than '..Said'. Prove '..Said' where nothing that the law and all that it calls make is longer than what came in: it says more and counts as full. Else prove '..UptoSaid'. A law counts once. -/
mutual
def uptoBulk {H : Type} : DataW H → Nat
  | .lit (.string bytes) => bytes.length + 1
  | .lit _ => 1
  | .nil => 1
  | .ptr d => uptoBulk d + 1
  | .slice elems spare => uptoBulkAll elems + uptoBulkAll spare + 1
  | .agg parts => uptoBulkAll parts + 1
  | .iface _ d => uptoBulk d + 1
  | .map entries => uptoBulkEntries entries + 1
  | .held _ => 1
def uptoBulkAll {H : Type} : List (DataW H) → Nat
  | [] => 0
  | d :: r => uptoBulk d + uptoBulkAll r
def uptoBulkEntries {H : Type} : List (Lit × DataW H) → Nat
  | [] => 0
  | x :: r => uptoBulkEntry x + uptoBulkEntries r
def uptoBulkEntry {H : Type} : Lit × DataW H → Nat
  | (.string bytes, d) => bytes.length + uptoBulk d + 1
  | (_, d) => uptoBulk d + 1
 end
def uptoSmall : (H : Type) → List (DataW H) → Bool := fun _ ds => decide (uptoBulkAll ds ≤ 1048576)
def OpenSpec.upto (s : _root_.Go.ChangeSpec) : _root_.Go.OpenSpec := { _root_.Go.OpenSpec.ofChange s with cond := some uptoSmall }

/-- 'kintsugilaw09.NodePuts', WHERE WHAT IT READS IS OF BULK AT MOST 1048576: true; the input reads as it did. -/
def nodePutsUptoRow : OpenClaim := { program := "ytfcoiboeohgimaadoor", sum := "7ceec5345e5c1a6bc0f6bdf2c856cc0183a795ab266af693620030eb32842d71", func := "kintsugi/kintsugilaw09.NodePuts", spec := "nodePuts", unfollowed := true, recurses := true, named := ["kintsugi/ptr.wide"], apart := false, laid := [("kintsugi/ptr.wide", laid_kintsugi_ptr_wide)], narrowed := true }
def NodePutsUptoSaid : Prop := nodePutsUptoRow.holds Tryd.pinned (OpenSpec.upto nodePutsSpec)

/-- 'kintsugilaw09.NodeTakes', WHERE WHAT IT READS IS OF BULK AT MOST 1048576: true; the input reads as it did. -/
def nodeTakesUptoRow : OpenClaim := { program := "ytfcoiboeohgimaadoor", sum := "7ceec5345e5c1a6bc0f6bdf2c856cc0183a795ab266af693620030eb32842d71", func := "kintsugi/kintsugilaw09.NodeTakes", spec := "nodeTakes", unfollowed := true, recurses := true, named := ["kintsugi/ptr.wide"], apart := false, laid := [("kintsugi/ptr.wide", laid_kintsugi_ptr_wide)], narrowed := true }
def NodeTakesUptoSaid : Prop := nodeTakesUptoRow.holds Tryd.pinned (OpenSpec.upto nodeTakesSpec)

/-- 'kintsugilaw09.NodeBack', WHERE WHAT IT READS IS OF BULK AT MOST 1048576: true; the input reads as it did. -/
def nodeBackUptoRow : OpenClaim := { program := "ytfcoiboeohgimaadoor", sum := "7ceec5345e5c1a6bc0f6bdf2c856cc0183a795ab266af693620030eb32842d71", func := "kintsugi/kintsugilaw09.NodeBack", spec := "nodeBack", unfollowed := true, recurses := true, named := ["kintsugi/ptr.wide"], apart := false, laid := [("kintsugi/ptr.wide", laid_kintsugi_ptr_wide)], narrowed := true }
def NodeBackUptoSaid : Prop := nodeBackUptoRow.holds Tryd.pinned (OpenSpec.upto nodeBackSpec)

/-- 'kintsugilaw11.InodePuts', WHERE WHAT IT READS IS OF BULK AT MOST 1048576: true; the input reads as it did. -/
def inodePutsUptoRow : OpenClaim := { program := "ytfcoiboeohgimaadoor", sum := "7ceec5345e5c1a6bc0f6bdf2c856cc0183a795ab266af693620030eb32842d71", func := "kintsugi/kintsugilaw11.InodePuts", spec := "inodePuts", unfollowed := true, recurses := true, named := ["kintsugi/ptr.wide", "kintsugi/inode.leaves"], apart := false, laid := [("kintsugi/ptr.wide", laid_kintsugi_ptr_wide), ("kintsugi/inode.leaves", laid_kintsugi_inode_leaves)], narrowed := true }
def InodePutsUptoSaid : Prop := inodePutsUptoRow.holds Tryd.pinned (OpenSpec.upto inodePutsSpec)

/-- 'kintsugilaw11.InodeTakes', WHERE WHAT IT READS IS OF BULK AT MOST 1048576: true; the input reads as it did. -/
def inodeTakesUptoRow : OpenClaim := { program := "ytfcoiboeohgimaadoor", sum := "7ceec5345e5c1a6bc0f6bdf2c856cc0183a795ab266af693620030eb32842d71", func := "kintsugi/kintsugilaw11.InodeTakes", spec := "inodeTakes", unfollowed := true, recurses := true, named := ["kintsugi/ptr.wide", "kintsugi/inode.leaves"], apart := false, laid := [("kintsugi/ptr.wide", laid_kintsugi_ptr_wide), ("kintsugi/inode.leaves", laid_kintsugi_inode_leaves)], narrowed := true }
def InodeTakesUptoSaid : Prop := inodeTakesUptoRow.holds Tryd.pinned (OpenSpec.upto inodeTakesSpec)

/-- 'kintsugilaw11.InodeLeaves', WHERE WHAT IT READS IS OF BULK AT MOST 1048576: true; the input reads as it did. -/
def inodeLeavesUptoRow : OpenClaim := { program := "ytfcoiboeohgimaadoor", sum := "7ceec5345e5c1a6bc0f6bdf2c856cc0183a795ab266af693620030eb32842d71", func := "kintsugi/kintsugilaw11.InodeLeaves", spec := "inodeLeaves", unfollowed := true, recurses := true, named := ["kintsugi/inode.leaves", "kintsugi/ptr.wide"], apart := false, laid := [("kintsugi/ptr.wide", laid_kintsugi_ptr_wide), ("kintsugi/inode.leaves", laid_kintsugi_inode_leaves)], narrowed := true }
def InodeLeavesUptoSaid : Prop := inodeLeavesUptoRow.holds Tryd.pinned (OpenSpec.upto inodeLeavesSpec)

/-- 'kintsugilaw11.InodeBack', WHERE WHAT IT READS IS OF BULK AT MOST 1048576: true; the input reads as it did. -/
def inodeBackUptoRow : OpenClaim := { program := "ytfcoiboeohgimaadoor", sum := "7ceec5345e5c1a6bc0f6bdf2c856cc0183a795ab266af693620030eb32842d71", func := "kintsugi/kintsugilaw11.InodeBack", spec := "inodeBack", unfollowed := true, recurses := true, named := ["kintsugi/ptr.wide", "kintsugi/inode.leaves"], apart := false, laid := [("kintsugi/ptr.wide", laid_kintsugi_ptr_wide), ("kintsugi/inode.leaves", laid_kintsugi_inode_leaves)], narrowed := true }
def InodeBackUptoSaid : Prop := inodeBackUptoRow.holds Tryd.pinned (OpenSpec.upto inodeBackSpec)

/-- 'kintsugilaw06.PtrTells', WHERE WHAT IT READS IS OF BULK AT MOST 1048576: true; the input reads as it did. -/
def ptrTellsUptoRow : OpenClaim := { program := "ytfcoiboeohgimaadoor", sum := "7ceec5345e5c1a6bc0f6bdf2c856cc0183a795ab266af693620030eb32842d71", func := "kintsugi/kintsugilaw06.PtrTells", spec := "ptrTells", unfollowed := true, recurses := true, named := ["kintsugi/sha.constants", "kintsugi/ptr.wide"], apart := false, laid := [("kintsugi/sha.constants", laid_kintsugi_sha_constants), ("kintsugi/ptr.wide", laid_kintsugi_ptr_wide)], narrowed := true }
def PtrTellsUptoSaid : Prop := ptrTellsUptoRow.holds Tryd.pinned (OpenSpec.upto ptrTellsSpec)

/-- 'kintsugilaw06.PtrTakes', WHERE WHAT IT READS IS OF BULK AT MOST 1048576: true; the input reads as it did. -/
def ptrTakesUptoRow : OpenClaim := { program := "ytfcoiboeohgimaadoor", sum := "7ceec5345e5c1a6bc0f6bdf2c856cc0183a795ab266af693620030eb32842d71", func := "kintsugi/kintsugilaw06.PtrTakes", spec := "ptrTakes", unfollowed := true, recurses := true, named := ["kintsugi/sha.constants", "kintsugi/ptr.wide"], apart := false, laid := [("kintsugi/sha.constants", laid_kintsugi_sha_constants), ("kintsugi/ptr.wide", laid_kintsugi_ptr_wide)], narrowed := true }
def PtrTakesUptoSaid : Prop := ptrTakesUptoRow.holds Tryd.pinned (OpenSpec.upto ptrTakesSpec)

/-- 'kintsugilaw06.PtrOne', WHERE WHAT IT READS IS OF BULK AT MOST 1048576: true; the input reads as it did. -/
def ptrOneUptoRow : OpenClaim := { program := "ytfcoiboeohgimaadoor", sum := "7ceec5345e5c1a6bc0f6bdf2c856cc0183a795ab266af693620030eb32842d71", func := "kintsugi/kintsugilaw06.PtrOne", spec := "ptrOne", unfollowed := true, recurses := true, named := ["kintsugi/sha.constants", "kintsugi/ptr.wide"], apart := false, laid := [("kintsugi/sha.constants", laid_kintsugi_sha_constants), ("kintsugi/ptr.wide", laid_kintsugi_ptr_wide)], narrowed := true }
def PtrOneUptoSaid : Prop := ptrOneUptoRow.holds Tryd.pinned (OpenSpec.upto ptrOneSpec)

end Rows
end Go.Proofs.YtfcoiboeohgimaaDoor
