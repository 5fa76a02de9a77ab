/- Arguments that are pointers, opened; the variable ptr.wide as the text lays it. No condition. -/
import Derived.Test.YtppilgkgnofkpaaDoorRow
import Derived.Test.YtppilgkgnofkpaaDoorAgg
import Derived.OpenShut
import Derived.FnData
import Derived.LaidLaws
import Derived.Handed
import Derived.Test.YtppilgkgnofkpaaDoorRows
import Derived.Test.YtppilgkgnofkpaaDoorCards
import Derived.Test.YtppilgkgnofkpaaDoorTie
import Derived.Test.YtppilgkgnofkpaaDoorPtB
import Derived.Test.YtppilgkgnofkpaaDoorShaA
import Derived.Test.YtppilgkgnofkpaaDoorBsl
import Derived.ProofKit
import Derived.LaidSub
import Derived.LaidHandle
import Derived.SevenTiedAt
set_option linter.unusedSimpArgs false
set_option linter.unusedVariables false

/- Arguments that are arrays of whole numbers, opened. They speak of no program. No condition. -/
namespace Go.Kin
open Go Go.RowKit Go.WideShapes Go.ChangeShapes
section
variable {H : Type} {enc : TypeId × Value → H} {P : Program} {W : World} {base : Nat} {spare : Nat → Bool} {held : Bool} {fuel : Nat} {t e n : Nat} {cs : List Value} {x : DataW H × List MemPlace}
/-- an array of whole numbers -/
theorem trod_ints {k : IntKind} (ht : P.underlying t = some (.array n e)) (he : P.underlying e = some (.int k)) (hc : P.cellsOf e = 1) (hn : P.cellsOf t = n) (h : DataW.trod enc P W base spare held fuel t cs = some x) :
    ∃ zs : List Int, zs.length = n ∧ cs = zs.map (Value.int k) ∧ ∀ z ∈ zs, (Lit.int k z).wf = true := by
  obtain ⟨xs, m, _, _, hl, hxl, hi⟩ := DataW.trod_array ht h
  rw [hn] at hl
  have key : ∀ i, i < n → ∃ z, cs[i]? = some (.int k z) ∧ (Lit.int k z).wf = true := fun i hin => by
    have := hi i hin
    rw [hc, Nat.mul_one] at this
    have hx : xs[i]? = some (xs[i]'(by omega)) := List.getElem?_eq_getElem _
    rw [hx] at this
    obtain ⟨z, hz, _, hw⟩ := DataW.trod_int he this
    refine ⟨z, ?_, hw⟩
    have h1 : ((cs.drop i).take 1)[0]? = some (.int k z) := by rw [hz]; rfl
    rw [List.getElem?_take, if_pos (by omega), List.getElem?_drop] at h1
    simpa using h1
  refine ⟨cs.map intOf, by simpa using hl, ?_, ?_⟩
  · apply List.ext_getElem?
    intro i
    by_cases hin : i < n
    · obtain ⟨z, hz, _⟩ := key i hin
      simp [hz, intOf]
    · rw [List.getElem?_eq_none (by omega), List.getElem?_eq_none (by simp; omega)]
  · intro z hz
    obtain ⟨v, hv, rfl⟩ := List.mem_map.1 hz
    obtain ⟨i, hi', hvi⟩ := List.mem_iff_getElem.1 hv
    obtain ⟨z, hz, hw⟩ := key i (by omega)
    rw [List.getElem?_eq_getElem hi', hvi] at hz
    obtain rfl := Option.some.inj hz
    simpa [intOf] using hw
/-- an array of bytes -/
theorem trod_bytesA (ht : P.underlying t = some (.array n e)) (he : P.underlying e = some (.int .u8)) (hc : P.cellsOf e = 1) (hn : P.cellsOf t = n) (h : DataW.trod enc P W base spare held fuel t cs = some x) :
    ∃ l : List UInt8, l.length = n ∧ cs = bvs l := by
  obtain ⟨zs, h1, rfl, h3⟩ := trod_ints ht he hc hn h
  obtain ⟨l, hl1, hl2⟩ := zsOf zs h3
  exact ⟨l, by omega, hl1⟩
/-- an array of numbers of 16 bits -/
theorem trod_u16A (ht : P.underlying t = some (.array n e)) (he : P.underlying e = some (.int .u16)) (hc : P.cellsOf e = 1) (hn : P.cellsOf t = n) (h : DataW.trod enc P W base spare held fuel t cs = some x) :
    ∃ l : List Nat, l.length = n ∧ cs = u16s l ∧ ∀ (i : Nat) (x : Nat), l[i]? = some x → x < 65536 := by
  obtain ⟨zs, h1, rfl, h3⟩ := trod_ints ht he hc hn h
  have hz : ∀ z ∈ zs, 0 ≤ z ∧ z < 65536 := fun z hz => by
    have := h3 z hz
    simp [Lit.wf, IntKind.min, IntKind.max, IntKind.signed, IntKind.bits] at this
    omega
  refine ⟨zs.map Int.toNat, by simpa using h1, ?_, fun i x hx => ?_⟩
  · rw [u16s, List.map_map]
    refine List.map_congr_left fun z h => ?_
    have := hz z h
    simp [u16v]
    omega
  · rw [List.getElem?_map, Option.map_eq_some_iff] at hx
    obtain ⟨z, hz1, rfl⟩ := hx
    have := hz z (List.mem_of_getElem? hz1)
    omega
/-- an unsigned number of 64 bits, of 16, of 8 -/
theorem trod_nat {k : IntKind} (he : P.underlying e = some (.int k)) (hk : k = .u64 ∨ k = .u32 ∨ k = .u16 ∨ k = .u8) (h : DataW.trod enc P W base spare held fuel e cs = some x) : ∃ z : Nat, cs = [.int k z] ∧ (k = .u64 → z < 18446744073709551616) ∧ (k = .u32 → z < 4294967296) ∧ (k = .u16 → z < 65536) ∧ (k = .u8 → z < 256) := by
  obtain ⟨z, rfl, _, hw⟩ := DataW.trod_int he h
  rcases hk with rfl | rfl | rfl | rfl <;> simp [Lit.wf, IntKind.min, IntKind.max, IntKind.signed, IntKind.bits] at hw <;> refine ⟨z.toNat, by congr 2; omega, ?_, ?_, ?_, ?_⟩ <;> intro hh <;> first | omega | cases hh
theorem cells_split {cs : List Value} {a b : Nat} (h : cs.length = a + b) : cs = cs.take a ++ cs.drop a := (List.take_append_drop a cs).symm
/-- an argument's cells -/
theorem open_agg {v : Value} {d : DataW H} {p : List MemPlace} {r : Reach} {b0 : Nat} (hv : Value.okWide P W r b0 t v) (ht : (∃ fs, P.underlying t = some (.struct fs)) ∨ ∃ n e, P.underlying t = some (.array n e)) (h : DataW.Trod enc P W base spare held t v d p) :
    ∃ (fuel : Nat) (cs : List Value), v = .agg cs.toArray ∧ DataW.trod enc P W base spare held fuel t cs = some (d, p) := by
  obtain ⟨fuel, hf⟩ := h
  have : ∃ cs : Array Value, v = .agg cs := by
    unfold Value.okWide at hv
    rcases ht with ⟨fs, ht⟩ | ⟨n, e, ht⟩
    · rw [ht] at hv
      obtain ⟨cs, hcs, _⟩ := hv
      exact ⟨cs, hcs⟩
    · rw [ht] at hv
      obtain ⟨cs, hcs, _⟩ := hv
      exact ⟨cs, hcs⟩
  obtain ⟨cs, rfl⟩ := this
  exact ⟨fuel, cs.toList, by simp, hf⟩
end
end Go.Kin

/- A listed package variable that is an array of whole numbers: its cells. -/
namespace Go.Kin
open Go Go.RowKit Go.WideShapes Go.ChangeShapes
theorem laid_ints {P : Program} {w : World} {nm : String} {g t e n : Nat} {k : IntKind} {zs : List Int} (hg : P.globalNamed nm = some g) (hT : (P.globals[g]?).map (·.type) = some t) (ht : P.underlying t = some (.array n e)) (he : P.underlying e = some (.int k)) (hc : P.cellsOf e = 1) (hn : P.cellsOf t = n) (hz : zs.length = n)
    (h : laidMet P [(nm, .agg (zs.map fun z => .lit (.int k z)))] w) : ∀ i z, zs[i]? = some z → w.cell? ⟨g, i, none⟩ = some (.int k z) := by
  obtain ⟨ps, ⟨g', t', cs, fuel, p, q, h1, h2, h3, h4, _⟩, _⟩ := h
  rw [hg] at h1
  obtain rfl := Option.some.inj h1
  rw [hT] at h2
  obtain rfl := Option.some.inj h2
  obtain ⟨xs, m, _, hx, hl, hxl, hi⟩ := DataW.trod_array ht h4
  have hxs := congrArg Prod.fst hx
  simp at hxs
  intro i z hzi
  have hin : i < n := by have := (List.getElem?_eq_some_iff.1 hzi).1; omega
  have := hi i hin
  rw [hc, Nat.mul_one] at this
  have hxi : xs[i]? = some (xs[i]'(by omega)) := List.getElem?_eq_getElem _
  rw [hxi] at this
  obtain ⟨z', hz', hd, _⟩ := DataW.trod_int he this
  have e1 : (xs.map (·.1))[i]? = some (.lit (.int k z')) := by rw [List.getElem?_map, hxi, hd]; rfl
  rw [← hxs, List.getElem?_map, hzi] at e1
  simp at e1
  subst e1
  rw [World.var?_cell hg h3 i]
  have h5 : ((cs.toList.drop i).take 1)[0]? = some (.int k z) := by rw [hz']; rfl
  rw [List.getElem?_take, if_pos (by omega), List.getElem?_drop] at h5
  simpa using h5
end Go.Kin

namespace Go.Proofs.YtppilgkgnofkpaaDoor
open Go.ChangeShapes Go.WideShapes Go.ChangeAt Go.RowKit Go.Kin

theorem own : ownKnob Tryd.prog.godebug = none := by kernel_rfl
theorem laidOut : laidOutB Tryd.prog = true := by kernel_rfl
theorem wide_g : Tryd.prog.globalNamed "kintsugi/ptr.wide" = some 0 := by kernel_rfl
theorem wide_T : (Tryd.prog.globals[(0 : Nat)]?).map (·.type) = some 109 := by kernel_rfl
theorem lw_of_laid1 {w : World} (h' : laidMet Tryd.prog [("kintsugi/ptr.wide", .agg (([0, 1, 2, 2, 2, 2] : List Int).map fun z => .lit (.int .i64 z)))] w) : Lw w := by
  have := laid_ints wide_g wide_T Tryd.underlying109 Tryd.underlying3 (by kernel_rfl) (by kernel_rfl) rfl h'
  exact this
theorem no_stand {P : Program} {ps : Array TypeId} (h : (ps.toList.all fun t => !P.wantsStandIn t) = true) (j : Nat) (t : TypeId) (ht : ps[j]? = some t) : P.wantsStandIn t = false := by
  rw [List.all_eq_true] at h
  have := h t (List.mem_of_getElem? (i := j) (by rw [Array.getElem?_toList]; exact ht))
  simpa using this
section
variable {H : Type} {enc : TypeId × Value → H} {P : Program} {W : World} {base : Nat} {spare : Nat → Bool} {held : Bool} {fuel : Nat} {cs : List Value} {x : DataW H × List MemPlace}
theorem open_u8 {t : TypeId} {r : Reach} {b0 : Nat} {v : Value} {d : DataW H} {p : List MemPlace} (ht : P.underlying t = some (.int .u8))
    (hv : Value.okWide P W r b0 t v) (h : DataW.Trod enc P W 0 spare held t v d p) : ∃ n : Nat, v = .int .u8 n ∧ n < 256 := by
  obtain ⟨a, rfl, _, _, wa⟩ := open_int ht hv h
  simp [Lit.wf, IntKind.min, IntKind.max, IntKind.signed, IntKind.bits] at wa
  exact ⟨a.toNat, by congr 1; omega, by omega⟩
theorem open_u32 {t : TypeId} {r : Reach} {b0 : Nat} {v : Value} {d : DataW H} {p : List MemPlace} (ht : P.underlying t = some (.int .u32))
    (hv : Value.okWide P W r b0 t v) (h : DataW.Trod enc P W 0 spare held t v d p) : ∃ n : Nat, v = .int .u32 n ∧ n < 4294967296 := by
  obtain ⟨a, rfl, _, _, wa⟩ := open_int ht hv h
  simp [Lit.wf, IntKind.min, IntKind.max, IntKind.signed, IntKind.bits] at wa
  exact ⟨a.toNat, by congr 1; omega, by omega⟩
theorem open_i64 {t : TypeId} {r : Reach} {b0 : Nat} {v : Value} {d : DataW H} {p : List MemPlace} (ht : P.underlying t = some (.int .i64))
    (hv : Value.okWide P W r b0 t v) (h : DataW.Trod enc P W 0 spare held t v d p) : ∃ n : Int, v = .int .i64 n ∧ -9223372036854775808 ≤ n ∧ n ≤ 9223372036854775807 := by
  obtain ⟨a, rfl, _, _, wa⟩ := open_int ht hv h
  simp [Lit.wf, IntKind.min, IntKind.max, IntKind.signed, IntKind.bits] at wa
  exact ⟨a, rfl, by omega, by omega⟩
set_option maxRecDepth 100000 in
/-- a pointer's cells, read -/
theorem trod_pt (h : DataW.trod enc Tryd.prog W base spare held fuel 28 cs = some x) : ∃ p, PtOk p ∧ cs = (pt p).toList := by
  obtain ⟨xs, m, _, _, hl, hxl, hf⟩ := DataW.trod_struct Tryd.underlying28 h
  have hc : Tryd.prog.cellsOf 28 = 41 := by kernel_rfl
  rw [hc] at hl
  match xs, hxl with
  | [y0, y1, y2, y3, y4, y5, y6], _ =>
    have f0 := hf 0 _ rfl
    have f1 := hf 1 _ rfl
    have f2 := hf 2 _ rfl
    have f3 := hf 3 _ rfl
    have f4 := hf 4 _ rfl
    have f5 := hf 5 _ rfl
    have f6 := hf 6 _ rfl
    obtain ⟨k, hk, _, _, _, hk8⟩ := trod_nat Tryd.underlying5 (.inr (.inr (.inr rfl))) f0
    obtain ⟨lv, hlv, _, _, _, hl8⟩ := trod_nat Tryd.underlying5 (.inr (.inr (.inr rfl))) f1
    obtain ⟨o, ho, _, _, ho16, _⟩ := trod_nat Tryd.underlying22 (.inr (.inr (.inl rfl))) f2
    obtain ⟨f, hff, _, hf32, _, _⟩ := trod_nat Tryd.underlying23 (.inr (.inl rfl)) f3
    obtain ⟨b, hb, hb64, _⟩ := trod_nat Tryd.underlying24 (.inl rfl) f4
    obtain ⟨l, hll, hlc⟩ := trod_bytesA Tryd.underlying25 Tryd.underlying5 (by kernel_rfl) (by kernel_rfl) f5
    obtain ⟨a, hal, hac, halt⟩ := trod_u16A Tryd.underlying26 Tryd.underlying22 (by kernel_rfl) (by kernel_rfl) f6
    have c8 : Tryd.prog.cellsOf 5 = 1 := by kernel_rfl
    have c16 : Tryd.prog.cellsOf 22 = 1 := by kernel_rfl
    have c32 : Tryd.prog.cellsOf 23 = 1 := by kernel_rfl
    have c64 : Tryd.prog.cellsOf 24 = 1 := by kernel_rfl
    have cA : Tryd.prog.cellsOf 25 = 32 := by kernel_rfl
    have cB : Tryd.prog.cellsOf 26 = 4 := by kernel_rfl
    have hk : (cs.drop 0).take (Tryd.prog.cellsOf 5) = [.int .u8 k] := hk
    have hlv : (cs.drop 1).take (Tryd.prog.cellsOf 5) = [.int .u8 lv] := hlv
    have ho : (cs.drop 2).take (Tryd.prog.cellsOf 22) = [.int .u16 o] := ho
    have hff : (cs.drop 3).take (Tryd.prog.cellsOf 23) = [.int .u32 f] := hff
    have hb : (cs.drop 4).take (Tryd.prog.cellsOf 24) = [.int .u64 b] := hb
    have hlc : (cs.drop 5).take (Tryd.prog.cellsOf 25) = bvs l := hlc
    have hac : (cs.drop 37).take (Tryd.prog.cellsOf 26) = u16s a := hac
    rw [c8] at hk hlv
    rw [c16] at ho
    rw [c32] at hff
    rw [c64] at hb
    rw [cA] at hlc
    rw [cB] at hac
    refine ⟨⟨k, lv, o, f, b, l, a⟩, ⟨hk8 rfl, hl8 rfl, ho16 rfl, hf32 rfl, hb64 rfl, hll, hal, fun x hx => ?_⟩, ?_⟩
    · obtain ⟨i, hi⟩ := List.mem_iff_getElem?.1 hx
      exact halt i x hi
    have st : ∀ i j, (cs.drop i).take j ++ cs.drop (i + j) = cs.drop i := fun i j => by rw [← List.drop_drop, List.take_append_drop]
    have e1 : cs = (cs.drop 0).take 1 ++ ((cs.drop 1).take 1 ++ ((cs.drop 2).take 1 ++ ((cs.drop 3).take 1 ++ ((cs.drop 4).take 1 ++ ((cs.drop 5).take 32 ++ (cs.drop 37).take 4))))) := by
      rw [List.take_of_length_le (i := 4) (by simp; omega), st 5 32, st 4 1, st 3 1, st 2 1, st 1 1, st 0 1, List.drop_zero]
    rw [e1, hk, hlv, ho, hff, hb, hlc, hac]
    simp [pt]
/-- cells that lie behind one another, read -/
theorem rows_of {α : Type} {f : α → Array Value} {m : Nat} (Y : Nat → α) : ∀ (n : Nat) (cs : List Value), cs.length = n * m → (∀ i, i < n → (cs.drop (i * m)).take m = (f (Y i)).toList) → ∀ k, k ≤ n → cs.take (k * m) = rowsL f ((List.range k).map Y) := by
  intro n cs hl h k
  induction k with
  | zero => intro _; simp [rowsL]
  | succ k ih =>
    intro hk
    rw [Nat.add_mul, Nat.one_mul, List.take_add, ih (by omega), h k (by omega), List.range_succ, List.map_append, rowsL_append]
    simp [rowsL]
end
end Go.Proofs.YtppilgkgnofkpaaDoor
