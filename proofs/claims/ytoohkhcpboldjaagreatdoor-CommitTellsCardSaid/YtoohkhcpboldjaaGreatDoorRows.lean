/-
  NARROWER THAN 'FOR EVERY INPUT', by the rows' own cells (each row's printed sentence says how): CommitFails: laid · CommitPower: laid · CommitTells: laid · MountNil: laid · LiveNil: laid · MountOrEIO: laid.
  DERIVED. THE GIVEN ROWS OF THIS SEAT. 6 by the template 'for every input the law returns true; each argument reads behind the call as it read before'; 0 by the template 'total and deterministic' (their statements: YtoohkhcpboldjaaGreatDoorTotals.lean).
  GIVEN WITH THE SEED: the statements are not yours to turn. If you find one false, say at which input.
  Laid BY PROGRAM, IN A SANDBOX (cutbox-rows.mjs): the forced cells as the released guide's own fill.sh prints them over the translation f68b23d3e2c72073… (all of the seat's roots in one cut). By AI agents, Wed Nov 11 2026. No macro, syntax, notation, axiom, sorry.
-/
import Derived.Test.YtoohkhcpboldjaaGreatDoorChecked
import GoSem.Claim
import GoSem.ClaimJoined
import GoSem.ClaimMapViews
import Derived.JoinedTies
import Derived.KernelRfl
namespace Go.Proofs.YtoohkhcpboldjaaGreatDoor
/- THE CELL 'sum', in the pinned program and in every row, IS THE sha256 OF THE DUMP (.gsa) THAT YtoohkhcpboldjaaGreatDoorProg.lean LOADS. Nothing in Lean hashes anything: it is a label: what it is worth is what the hold of that sum in a sandbox is worth. -/
noncomputable def Tryz.pinned : Pinned := { name := "ytoohkhcpboldjaagreatdoor", sum := "f68b23d3e2c72073bda61b665e8437aaccd30d36e38201b4b1784e79813e6d1c", checked := Tryz.checked }
namespace Rows
def none {H : Type} : Left H := { results := [], args := [] }

/- WHAT THE LISTED PACKAGE-LEVEL VARIABLES READ AS WHEN THE CALL BEGINS. Each datum BY PROGRAM (the guide's laid-datum.mjs) off the statement by which the dump's own 'gosem.cut.vars' lays the variable. In a bare row this is a premise. The card (YtoohkhcpboldjaaGreatDoorCards.lean) ties it to the program's text. -/
def laid_kintsugi_sha_constants {H : Type} : DataW H := .agg [.lit (.int .u32 1116352408), .lit (.int .u32 1899447441), .lit (.int .u32 3049323471), .lit (.int .u32 3921009573), .lit (.int .u32 961987163), .lit (.int .u32 1508970993), .lit (.int .u32 2453635748), .lit (.int .u32 2870763221), .lit (.int .u32 3624381080), .lit (.int .u32 310598401), .lit (.int .u32 607225278), .lit (.int .u32 1426881987), .lit (.int .u32 1925078388), .lit (.int .u32 2162078206), .lit (.int .u32 2614888103), .lit (.int .u32 3248222580), .lit (.int .u32 3835390401), .lit (.int .u32 4022224774), .lit (.int .u32 264347078), .lit (.int .u32 604807628), .lit (.int .u32 770255983), .lit (.int .u32 1249150122), .lit (.int .u32 1555081692), .lit (.int .u32 1996064986), .lit (.int .u32 2554220882), .lit (.int .u32 2821834349), .lit (.int .u32 2952996808), .lit (.int .u32 3210313671), .lit (.int .u32 3336571891), .lit (.int .u32 3584528711), .lit (.int .u32 113926993), .lit (.int .u32 338241895), .lit (.int .u32 666307205), .lit (.int .u32 773529912), .lit (.int .u32 1294757372), .lit (.int .u32 1396182291), .lit (.int .u32 1695183700), .lit (.int .u32 1986661051), .lit (.int .u32 2177026350), .lit (.int .u32 2456956037), .lit (.int .u32 2730485921), .lit (.int .u32 2820302411), .lit (.int .u32 3259730800), .lit (.int .u32 3345764771), .lit (.int .u32 3516065817), .lit (.int .u32 3600352804), .lit (.int .u32 4094571909), .lit (.int .u32 275423344), .lit (.int .u32 430227734), .lit (.int .u32 506948616), .lit (.int .u32 659060556), .lit (.int .u32 883997877), .lit (.int .u32 958139571), .lit (.int .u32 1322822218), .lit (.int .u32 1537002063), .lit (.int .u32 1747873779), .lit (.int .u32 1955562222), .lit (.int .u32 2024104815), .lit (.int .u32 2227730452), .lit (.int .u32 2361852424), .lit (.int .u32 2428436474), .lit (.int .u32 2756734187), .lit (.int .u32 3204031479), .lit (.int .u32 3329325298)]
def laid_kintsugi_ptr_wide {H : Type} : DataW H := .agg [.lit (.int .i64 0), .lit (.int .i64 1), .lit (.int .i64 2), .lit (.int .i64 2), .lit (.int .i64 2), .lit (.int .i64 2)]
def laid_kintsugi_inode_leaves {H : Type} : DataW H := .agg [.lit (.int .u8 0), .lit (.int .u8 1), .lit (.int .u8 2), .lit (.int .u8 2)]
def laid_kintsugi_tree_hole {H : Type} : DataW H := .agg [.lit (.int .u8 0), .lit (.int .u8 0), .lit (.int .u16 0), .lit (.int .u32 0), .lit (.int .u64 0), .agg [.lit (.int .u8 0), .lit (.int .u8 0), .lit (.int .u8 0), .lit (.int .u8 0), .lit (.int .u8 0), .lit (.int .u8 0), .lit (.int .u8 0), .lit (.int .u8 0), .lit (.int .u8 0), .lit (.int .u8 0), .lit (.int .u8 0), .lit (.int .u8 0), .lit (.int .u8 0), .lit (.int .u8 0), .lit (.int .u8 0), .lit (.int .u8 0), .lit (.int .u8 0), .lit (.int .u8 0), .lit (.int .u8 0), .lit (.int .u8 0), .lit (.int .u8 0), .lit (.int .u8 0), .lit (.int .u8 0), .lit (.int .u8 0), .lit (.int .u8 0), .lit (.int .u8 0), .lit (.int .u8 0), .lit (.int .u8 0), .lit (.int .u8 0), .lit (.int .u8 0), .lit (.int .u8 0), .lit (.int .u8 0)], .agg [.lit (.int .u16 0), .lit (.int .u16 0), .lit (.int .u16 0), .lit (.int .u16 0)]]

/-- 'kintsugilaw17.CommitFails': WHATEVER THE INPUT: true; the input reads as it did. -/
def commitFailsSpec : ChangeSpec := { name := "commitFails", fn := fun _ => fun
  | [d1, d2, d3, d4, d5] => { results := [.lit (.bool true)], args := [d1, d2, d3, d4, d5] }
  | _ => none }
def commitFailsRow : OpenClaim := { program := "ytoohkhcpboldjaagreatdoor", sum := "f68b23d3e2c72073bda61b665e8437aaccd30d36e38201b4b1784e79813e6d1c", func := "kintsugi/kintsugilaw17.CommitFails", spec := "commitFails", inPlace := ["maps.clone"], unfollowed := true, recurses := true, named := ["kintsugi/ptr.wide", "kintsugi/tree.hole", "kintsugi/inode.leaves", "kintsugi/sha.constants"], plainKeys := false, apart := false, laid := [("kintsugi/sha.constants", laid_kintsugi_sha_constants), ("kintsugi/ptr.wide", laid_kintsugi_ptr_wide), ("kintsugi/inode.leaves", laid_kintsugi_inode_leaves), ("kintsugi/tree.hole", laid_kintsugi_tree_hole)] }
def CommitFailsSaid : Prop := commitFailsRow.holds Tryz.pinned (OpenSpec.ofChange commitFailsSpec)

/-- ITS FALSE NEIGHBOUR: 'it returns false'. Refute it at one input. -/
def commitFailsWrong : ChangeSpec := { name := "commitFails", fn := fun _ => fun
  | [d1, d2, d3, d4, d5] => { results := [.lit (.bool false)], args := [d1, d2, d3, d4, d5] }
  | _ => none }
def CommitFailsWrongFalsely : Prop := commitFailsRow.holds Tryz.pinned (OpenSpec.ofChange commitFailsWrong)

/-- 'kintsugilaw17.CommitPower': WHATEVER THE INPUT: true; the input reads as it did. -/
def commitPowerSpec : ChangeSpec := { name := "commitPower", fn := fun _ => fun
  | [d1, d2, d3, d4, d5] => { results := [.lit (.bool true)], args := [d1, d2, d3, d4, d5] }
  | _ => none }
def commitPowerRow : OpenClaim := { program := "ytoohkhcpboldjaagreatdoor", sum := "f68b23d3e2c72073bda61b665e8437aaccd30d36e38201b4b1784e79813e6d1c", func := "kintsugi/kintsugilaw17.CommitPower", spec := "commitPower", inPlace := ["maps.clone"], unfollowed := true, recurses := true, named := ["kintsugi/ptr.wide", "kintsugi/tree.hole", "kintsugi/inode.leaves", "kintsugi/sha.constants"], plainKeys := false, apart := false, laid := [("kintsugi/sha.constants", laid_kintsugi_sha_constants), ("kintsugi/ptr.wide", laid_kintsugi_ptr_wide), ("kintsugi/inode.leaves", laid_kintsugi_inode_leaves), ("kintsugi/tree.hole", laid_kintsugi_tree_hole)] }
def CommitPowerSaid : Prop := commitPowerRow.holds Tryz.pinned (OpenSpec.ofChange commitPowerSpec)

/-- ITS FALSE NEIGHBOUR: 'it returns false'. Refute it at one input. -/
def commitPowerWrong : ChangeSpec := { name := "commitPower", fn := fun _ => fun
  | [d1, d2, d3, d4, d5] => { results := [.lit (.bool false)], args := [d1, d2, d3, d4, d5] }
  | _ => none }
def CommitPowerWrongFalsely : Prop := commitPowerRow.holds Tryz.pinned (OpenSpec.ofChange commitPowerWrong)

/-- 'kintsugilaw17.CommitTells': WHATEVER THE INPUT: true; the input reads as it did. -/
def commitTellsSpec : ChangeSpec := { name := "commitTells", fn := fun _ => fun
  | [d1, d2] => { results := [.lit (.bool true)], args := [d1, d2] }
  | _ => none }
def commitTellsRow : OpenClaim := { program := "ytoohkhcpboldjaagreatdoor", sum := "f68b23d3e2c72073bda61b665e8437aaccd30d36e38201b4b1784e79813e6d1c", func := "kintsugi/kintsugilaw17.CommitTells", spec := "commitTells", inPlace := ["maps.clone"], unfollowed := true, recurses := true, named := ["kintsugi/ptr.wide", "kintsugi/tree.hole", "kintsugi/inode.leaves", "kintsugi/sha.constants"], plainKeys := false, apart := false, laid := [("kintsugi/sha.constants", laid_kintsugi_sha_constants), ("kintsugi/ptr.wide", laid_kintsugi_ptr_wide), ("kintsugi/inode.leaves", laid_kintsugi_inode_leaves), ("kintsugi/tree.hole", laid_kintsugi_tree_hole)] }
def CommitTellsSaid : Prop := commitTellsRow.holds Tryz.pinned (OpenSpec.ofChange commitTellsSpec)

/-- ITS FALSE NEIGHBOUR: 'it returns false'. Refute it at one input. -/
def commitTellsWrong : ChangeSpec := { name := "commitTells", fn := fun _ => fun
  | [d1, d2] => { results := [.lit (.bool false)], args := [d1, d2] }
  | _ => none }
def CommitTellsWrongFalsely : Prop := commitTellsRow.holds Tryz.pinned (OpenSpec.ofChange commitTellsWrong)

/-- 'kintsugilaw18.MountNil': WHATEVER THE INPUT: true; the input reads as it did. -/
def mountNilSpec : ChangeSpec := { name := "mountNil", fn := fun _ => fun
  | [d] => { results := [.lit (.bool true)], args := [d] }
  | _ => none }
def mountNilRow : OpenClaim := { program := "ytoohkhcpboldjaagreatdoor", sum := "f68b23d3e2c72073bda61b665e8437aaccd30d36e38201b4b1784e79813e6d1c", func := "kintsugi/kintsugilaw18.MountNil", spec := "mountNil", inPlace := ["maps.clone"], unfollowed := true, recurses := true, named := ["kintsugi/ptr.wide", "kintsugi/tree.hole", "kintsugi/inode.leaves", "kintsugi/sha.constants"], plainKeys := false, apart := false, laid := [("kintsugi/sha.constants", laid_kintsugi_sha_constants), ("kintsugi/ptr.wide", laid_kintsugi_ptr_wide), ("kintsugi/inode.leaves", laid_kintsugi_inode_leaves), ("kintsugi/tree.hole", laid_kintsugi_tree_hole)] }
def MountNilSaid : Prop := mountNilRow.holds Tryz.pinned (OpenSpec.ofChange mountNilSpec)

/-- ITS FALSE NEIGHBOUR: 'it returns false'. Refute it at one input. -/
def mountNilWrong : ChangeSpec := { name := "mountNil", fn := fun _ => fun
  | [d] => { results := [.lit (.bool false)], args := [d] }
  | _ => none }
def MountNilWrongFalsely : Prop := mountNilRow.holds Tryz.pinned (OpenSpec.ofChange mountNilWrong)

/-- 'kintsugilaw24.LiveNil': WHATEVER THE INPUT: true; the input reads as it did. -/
def liveNilSpec : ChangeSpec := { name := "liveNil", fn := fun _ => fun
  | [d] => { results := [.lit (.bool true)], args := [d] }
  | _ => none }
def liveNilRow : OpenClaim := { program := "ytoohkhcpboldjaagreatdoor", sum := "f68b23d3e2c72073bda61b665e8437aaccd30d36e38201b4b1784e79813e6d1c", func := "kintsugi/kintsugilaw24.LiveNil", spec := "liveNil", inPlace := ["maps.clone"], unfollowed := true, recurses := true, named := ["kintsugi/ptr.wide", "kintsugi/sha.constants", "kintsugi/tree.hole", "kintsugi/inode.leaves"], plainKeys := false, apart := false, laid := [("kintsugi/sha.constants", laid_kintsugi_sha_constants), ("kintsugi/ptr.wide", laid_kintsugi_ptr_wide), ("kintsugi/inode.leaves", laid_kintsugi_inode_leaves), ("kintsugi/tree.hole", laid_kintsugi_tree_hole)] }
def LiveNilSaid : Prop := liveNilRow.holds Tryz.pinned (OpenSpec.ofChange liveNilSpec)

/-- ITS FALSE NEIGHBOUR: 'it returns false'. Refute it at one input. -/
def liveNilWrong : ChangeSpec := { name := "liveNil", fn := fun _ => fun
  | [d] => { results := [.lit (.bool false)], args := [d] }
  | _ => none }
def LiveNilWrongFalsely : Prop := liveNilRow.holds Tryz.pinned (OpenSpec.ofChange liveNilWrong)

/-- 'kintsugilaw18.MountOrEIO': WHATEVER THE INPUT: true; the input reads as it did. -/
def mountOrEIOSpec : ChangeSpec := { name := "mountOrEIO", fn := fun _ => fun
  | [d1, d2] => { results := [.lit (.bool true)], args := [d1, d2] }
  | _ => none }
def mountOrEIORow : OpenClaim := { program := "ytoohkhcpboldjaagreatdoor", sum := "f68b23d3e2c72073bda61b665e8437aaccd30d36e38201b4b1784e79813e6d1c", func := "kintsugi/kintsugilaw18.MountOrEIO", spec := "mountOrEIO", inPlace := ["maps.clone"], unfollowed := true, recurses := true, named := ["kintsugi/ptr.wide", "kintsugi/tree.hole", "kintsugi/inode.leaves", "kintsugi/sha.constants"], plainKeys := false, apart := false, laid := [("kintsugi/sha.constants", laid_kintsugi_sha_constants), ("kintsugi/ptr.wide", laid_kintsugi_ptr_wide), ("kintsugi/inode.leaves", laid_kintsugi_inode_leaves), ("kintsugi/tree.hole", laid_kintsugi_tree_hole)] }
def MountOrEIOSaid : Prop := mountOrEIORow.holds Tryz.pinned (OpenSpec.ofChange mountOrEIOSpec)

/-- ITS FALSE NEIGHBOUR: 'it returns false'. Refute it at one input. -/
def mountOrEIOWrong : ChangeSpec := { name := "mountOrEIO", fn := fun _ => fun
  | [d1, d2] => { results := [.lit (.bool false)], args := [d1, d2] }
  | _ => none }
def MountOrEIOWrongFalsely : Prop := mountOrEIORow.holds Tryz.pinned (OpenSpec.ofChange mountOrEIOWrong)

/- THE SECOND FORM. 'bulk': how many values and letters a reading holds, each counted each time it is reached (what is shared counts as often as it is met; a slice's spare places count too). A statement '..UptoSaid' is the law's where the arguments, and the package variables that the reading takes, are together of bulk at most 1048576: NARROWER than '..Said'. Prove '..Said' where nothing that the law and all that it calls make is longer than what came in: it says more and counts as full. Else prove '..UptoSaid'. A law counts once. -/
mutual
def uptoBulk {H : Type} : DataW H → Nat
  | .lit (.string bytes) => bytes.length + 1
  | .lit _ => 1
  | .nil => 1
  | .ptr d => uptoBulk d + 1
  | .slice elems spare => uptoBulkAll elems + uptoBulkAll spare + 1
  | .agg parts => uptoBulkAll parts + 1
  | .iface _ d => uptoBulk d + 1
  | .map entries => uptoBulkEntries entries + 1
  | .held _ => 1
def uptoBulkAll {H : Type} : List (DataW H) → Nat
  | [] => 0
  | d :: r => uptoBulk d + uptoBulkAll r
def uptoBulkEntries {H : Type} : List (Lit × DataW H) → Nat
  | [] => 0
  | x :: r => uptoBulkEntry x + uptoBulkEntries r
def uptoBulkEntry {H : Type} : Lit × DataW H → Nat
  | (.string bytes, d) => bytes.length + uptoBulk d + 1
  | (_, d) => uptoBulk d + 1
 end
def uptoSmall : (H : Type) → List (DataW H) → Bool := fun _ ds => decide (uptoBulkAll ds ≤ 1048576)
def OpenSpec.upto (s : _root_.Go.ChangeSpec) : _root_.Go.OpenSpec := { _root_.Go.OpenSpec.ofChange s with cond := some uptoSmall }

/-- 'kintsugilaw17.CommitFails', WHERE WHAT IT READS IS OF BULK AT MOST 1048576: true; the input reads as it did. -/
def commitFailsUptoRow : OpenClaim := { program := "ytoohkhcpboldjaagreatdoor", sum := "f68b23d3e2c72073bda61b665e8437aaccd30d36e38201b4b1784e79813e6d1c", func := "kintsugi/kintsugilaw17.CommitFails", spec := "commitFails", inPlace := ["maps.clone"], unfollowed := true, recurses := true, named := ["kintsugi/ptr.wide", "kintsugi/tree.hole", "kintsugi/inode.leaves", "kintsugi/sha.constants"], plainKeys := false, apart := false, laid := [("kintsugi/sha.constants", laid_kintsugi_sha_constants), ("kintsugi/ptr.wide", laid_kintsugi_ptr_wide), ("kintsugi/inode.leaves", laid_kintsugi_inode_leaves), ("kintsugi/tree.hole", laid_kintsugi_tree_hole)], narrowed := true }
def CommitFailsUptoSaid : Prop := commitFailsUptoRow.holds Tryz.pinned (OpenSpec.upto commitFailsSpec)

/-- 'kintsugilaw17.CommitPower', WHERE WHAT IT READS IS OF BULK AT MOST 1048576: true; the input reads as it did. -/
def commitPowerUptoRow : OpenClaim := { program := "ytoohkhcpboldjaagreatdoor", sum := "f68b23d3e2c72073bda61b665e8437aaccd30d36e38201b4b1784e79813e6d1c", func := "kintsugi/kintsugilaw17.CommitPower", spec := "commitPower", inPlace := ["maps.clone"], unfollowed := true, recurses := true, named := ["kintsugi/ptr.wide", "kintsugi/tree.hole", "kintsugi/inode.leaves", "kintsugi/sha.constants"], plainKeys := false, apart := false, laid := [("kintsugi/sha.constants", laid_kintsugi_sha_constants), ("kintsugi/ptr.wide", laid_kintsugi_ptr_wide), ("kintsugi/inode.leaves", laid_kintsugi_inode_leaves), ("kintsugi/tree.hole", laid_kintsugi_tree_hole)], narrowed := true }
def CommitPowerUptoSaid : Prop := commitPowerUptoRow.holds Tryz.pinned (OpenSpec.upto commitPowerSpec)

/-- 'kintsugilaw17.CommitTells', WHERE WHAT IT READS IS OF BULK AT MOST 1048576: true; the input reads as it did. -/
def commitTellsUptoRow : OpenClaim := { program := "ytoohkhcpboldjaagreatdoor", sum := "f68b23d3e2c72073bda61b665e8437aaccd30d36e38201b4b1784e79813e6d1c", func := "kintsugi/kintsugilaw17.CommitTells", spec := "commitTells", inPlace := ["maps.clone"], unfollowed := true, recurses := true, named := ["kintsugi/ptr.wide", "kintsugi/tree.hole", "kintsugi/inode.leaves", "kintsugi/sha.constants"], plainKeys := false, apart := false, laid := [("kintsugi/sha.constants", laid_kintsugi_sha_constants), ("kintsugi/ptr.wide", laid_kintsugi_ptr_wide), ("kintsugi/inode.leaves", laid_kintsugi_inode_leaves), ("kintsugi/tree.hole", laid_kintsugi_tree_hole)], narrowed := true }
def CommitTellsUptoSaid : Prop := commitTellsUptoRow.holds Tryz.pinned (OpenSpec.upto commitTellsSpec)

/-- 'kintsugilaw18.MountNil', WHERE WHAT IT READS IS OF BULK AT MOST 1048576: true; the input reads as it did. -/
def mountNilUptoRow : OpenClaim := { program := "ytoohkhcpboldjaagreatdoor", sum := "f68b23d3e2c72073bda61b665e8437aaccd30d36e38201b4b1784e79813e6d1c", func := "kintsugi/kintsugilaw18.MountNil", spec := "mountNil", inPlace := ["maps.clone"], unfollowed := true, recurses := true, named := ["kintsugi/ptr.wide", "kintsugi/tree.hole", "kintsugi/inode.leaves", "kintsugi/sha.constants"], plainKeys := false, apart := false, laid := [("kintsugi/sha.constants", laid_kintsugi_sha_constants), ("kintsugi/ptr.wide", laid_kintsugi_ptr_wide), ("kintsugi/inode.leaves", laid_kintsugi_inode_leaves), ("kintsugi/tree.hole", laid_kintsugi_tree_hole)], narrowed := true }
def MountNilUptoSaid : Prop := mountNilUptoRow.holds Tryz.pinned (OpenSpec.upto mountNilSpec)

/-- 'kintsugilaw24.LiveNil', WHERE WHAT IT READS IS OF BULK AT MOST 1048576: true; the input reads as it did. -/
def liveNilUptoRow : OpenClaim := { program := "ytoohkhcpboldjaagreatdoor", sum := "f68b23d3e2c72073bda61b665e8437aaccd30d36e38201b4b1784e79813e6d1c", func := "kintsugi/kintsugilaw24.LiveNil", spec := "liveNil", inPlace := ["maps.clone"], unfollowed := true, recurses := true, named := ["kintsugi/ptr.wide", "kintsugi/sha.constants", "kintsugi/tree.hole", "kintsugi/inode.leaves"], plainKeys := false, apart := false, laid := [("kintsugi/sha.constants", laid_kintsugi_sha_constants), ("kintsugi/ptr.wide", laid_kintsugi_ptr_wide), ("kintsugi/inode.leaves", laid_kintsugi_inode_leaves), ("kintsugi/tree.hole", laid_kintsugi_tree_hole)], narrowed := true }
def LiveNilUptoSaid : Prop := liveNilUptoRow.holds Tryz.pinned (OpenSpec.upto liveNilSpec)

/-- 'kintsugilaw18.MountOrEIO', WHERE WHAT IT READS IS OF BULK AT MOST 1048576: true; the input reads as it did. -/
def mountOrEIOUptoRow : OpenClaim := { program := "ytoohkhcpboldjaagreatdoor", sum := "f68b23d3e2c72073bda61b665e8437aaccd30d36e38201b4b1784e79813e6d1c", func := "kintsugi/kintsugilaw18.MountOrEIO", spec := "mountOrEIO", inPlace := ["maps.clone"], unfollowed := true, recurses := true, named := ["kintsugi/ptr.wide", "kintsugi/tree.hole", "kintsugi/inode.leaves", "kintsugi/sha.constants"], plainKeys := false, apart := false, laid := [("kintsugi/sha.constants", laid_kintsugi_sha_constants), ("kintsugi/ptr.wide", laid_kintsugi_ptr_wide), ("kintsugi/inode.leaves", laid_kintsugi_inode_leaves), ("kintsugi/tree.hole", laid_kintsugi_tree_hole)], narrowed := true }
def MountOrEIOUptoSaid : Prop := mountOrEIOUptoRow.holds Tryz.pinned (OpenSpec.upto mountOrEIOSpec)

end Rows
end Go.Proofs.YtoohkhcpboldjaaGreatDoor
