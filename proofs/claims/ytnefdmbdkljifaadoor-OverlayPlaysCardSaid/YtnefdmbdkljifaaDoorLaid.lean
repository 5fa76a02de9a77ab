/- A listed package variable that is an array of whole numbers: its cells. -/
import Derived.Test.YtnefdmbdkljifaaDoorRow
import Derived.Test.YtnefdmbdkljifaaDoorAgg
import Derived.OpenShut
import Derived.FnData
import Derived.LaidLaws
import Derived.Handed
set_option linter.unusedSimpArgs false
set_option linter.unusedVariables false

/- Arguments that are arrays of whole numbers, opened. They speak of no program. No condition. -/
namespace Go.Kin
open Go Go.RowKit Go.WideShapes Go.ChangeShapes
section
variable {H : Type} {enc : TypeId × Value → H} {P : Program} {W : World} {base : Nat} {spare : Nat → Bool} {held : Bool} {fuel : Nat} {t e n : Nat} {cs : List Value} {x : DataW H × List MemPlace}
/-- an array of whole numbers -/
theorem trod_ints {k : IntKind} (ht : P.underlying t = some (.array n e)) (he : P.underlying e = some (.int k)) (hc : P.cellsOf e = 1) (hn : P.cellsOf t = n) (h : DataW.trod enc P W base spare held fuel t cs = some x) :
    ∃ zs : List Int, zs.length = n ∧ cs = zs.map (Value.int k) ∧ ∀ z ∈ zs, (Lit.int k z).wf = true := by
  obtain ⟨xs, m, _, _, hl, hxl, hi⟩ := DataW.trod_array ht h
  rw [hn] at hl
  have key : ∀ i, i < n → ∃ z, cs[i]? = some (.int k z) ∧ (Lit.int k z).wf = true := fun i hin => by
    have := hi i hin
    rw [hc, Nat.mul_one] at this
    have hx : xs[i]? = some (xs[i]'(by omega)) := List.getElem?_eq_getElem _
    rw [hx] at this
    obtain ⟨z, hz, _, hw⟩ := DataW.trod_int he this
    refine ⟨z, ?_, hw⟩
    have h1 : ((cs.drop i).take 1)[0]? = some (.int k z) := by rw [hz]; rfl
    rw [List.getElem?_take, if_pos (by omega), List.getElem?_drop] at h1
    simpa using h1
  refine ⟨cs.map intOf, by simpa using hl, ?_, ?_⟩
  · apply List.ext_getElem?
    intro i
    by_cases hin : i < n
    · obtain ⟨z, hz, _⟩ := key i hin
      simp [hz, intOf]
    · rw [List.getElem?_eq_none (by omega), List.getElem?_eq_none (by simp; omega)]
  · intro z hz
    obtain ⟨v, hv, rfl⟩ := List.mem_map.1 hz
    obtain ⟨i, hi', hvi⟩ := List.mem_iff_getElem.1 hv
    obtain ⟨z, hz, hw⟩ := key i (by omega)
    rw [List.getElem?_eq_getElem hi', hvi] at hz
    obtain rfl := Option.some.inj hz
    simpa [intOf] using hw
/-- an array of bytes -/
theorem trod_bytesA (ht : P.underlying t = some (.array n e)) (he : P.underlying e = some (.int .u8)) (hc : P.cellsOf e = 1) (hn : P.cellsOf t = n) (h : DataW.trod enc P W base spare held fuel t cs = some x) :
    ∃ l : List UInt8, l.length = n ∧ cs = bvs l := by
  obtain ⟨zs, h1, rfl, h3⟩ := trod_ints ht he hc hn h
  obtain ⟨l, hl1, hl2⟩ := zsOf zs h3
  exact ⟨l, by omega, hl1⟩
/-- an array of numbers of 16 bits -/
theorem trod_u16A (ht : P.underlying t = some (.array n e)) (he : P.underlying e = some (.int .u16)) (hc : P.cellsOf e = 1) (hn : P.cellsOf t = n) (h : DataW.trod enc P W base spare held fuel t cs = some x) :
    ∃ l : List Nat, l.length = n ∧ cs = u16s l ∧ ∀ (i : Nat) (x : Nat), l[i]? = some x → x < 65536 := by
  obtain ⟨zs, h1, rfl, h3⟩ := trod_ints ht he hc hn h
  have hz : ∀ z ∈ zs, 0 ≤ z ∧ z < 65536 := fun z hz => by
    have := h3 z hz
    simp [Lit.wf, IntKind.min, IntKind.max, IntKind.signed, IntKind.bits] at this
    omega
  refine ⟨zs.map Int.toNat, by simpa using h1, ?_, fun i x hx => ?_⟩
  · rw [u16s, List.map_map]
    refine List.map_congr_left fun z h => ?_
    have := hz z h
    simp [u16v]
    omega
  · rw [List.getElem?_map, Option.map_eq_some_iff] at hx
    obtain ⟨z, hz1, rfl⟩ := hx
    have := hz z (List.mem_of_getElem? hz1)
    omega
/-- an unsigned number of 64 bits, of 16, of 8 -/
theorem trod_nat {k : IntKind} (he : P.underlying e = some (.int k)) (hk : k = .u64 ∨ k = .u32 ∨ k = .u16 ∨ k = .u8) (h : DataW.trod enc P W base spare held fuel e cs = some x) : ∃ z : Nat, cs = [.int k z] ∧ (k = .u64 → z < 18446744073709551616) ∧ (k = .u32 → z < 4294967296) ∧ (k = .u16 → z < 65536) ∧ (k = .u8 → z < 256) := by
  obtain ⟨z, rfl, _, hw⟩ := DataW.trod_int he h
  rcases hk with rfl | rfl | rfl | rfl <;> simp [Lit.wf, IntKind.min, IntKind.max, IntKind.signed, IntKind.bits] at hw <;> refine ⟨z.toNat, by congr 2; omega, ?_, ?_, ?_, ?_⟩ <;> intro hh <;> first | omega | cases hh
theorem cells_split {cs : List Value} {a b : Nat} (h : cs.length = a + b) : cs = cs.take a ++ cs.drop a := (List.take_append_drop a cs).symm
/-- an argument's cells -/
theorem open_agg {v : Value} {d : DataW H} {p : List MemPlace} {r : Reach} {b0 : Nat} (hv : Value.okWide P W r b0 t v) (ht : (∃ fs, P.underlying t = some (.struct fs)) ∨ ∃ n e, P.underlying t = some (.array n e)) (h : DataW.Trod enc P W base spare held t v d p) :
    ∃ (fuel : Nat) (cs : List Value), v = .agg cs.toArray ∧ DataW.trod enc P W base spare held fuel t cs = some (d, p) := by
  obtain ⟨fuel, hf⟩ := h
  have : ∃ cs : Array Value, v = .agg cs := by
    unfold Value.okWide at hv
    rcases ht with ⟨fs, ht⟩ | ⟨n, e, ht⟩
    · rw [ht] at hv
      obtain ⟨cs, hcs, _⟩ := hv
      exact ⟨cs, hcs⟩
    · rw [ht] at hv
      obtain ⟨cs, hcs, _⟩ := hv
      exact ⟨cs, hcs⟩
  obtain ⟨cs, rfl⟩ := this
  exact ⟨fuel, cs.toList, by simp, hf⟩
end
end Go.Kin

namespace Go.Kin
open Go Go.RowKit Go.WideShapes Go.ChangeShapes
theorem laid_ints {P : Program} {w : World} {nm : String} {g t e n : Nat} {k : IntKind} {zs : List Int} (hg : P.globalNamed nm = some g) (hT : (P.globals[g]?).map (·.type) = some t) (ht : P.underlying t = some (.array n e)) (he : P.underlying e = some (.int k)) (hc : P.cellsOf e = 1) (hn : P.cellsOf t = n) (hz : zs.length = n)
    (h : laidMet P [(nm, .agg (zs.map fun z => .lit (.int k z)))] w) : ∀ i z, zs[i]? = some z → w.cell? ⟨g, i, none⟩ = some (.int k z) := by
  obtain ⟨ps, ⟨g', t', cs, fuel, p, q, h1, h2, h3, h4, _⟩, _⟩ := h
  rw [hg] at h1
  obtain rfl := Option.some.inj h1
  rw [hT] at h2
  obtain rfl := Option.some.inj h2
  obtain ⟨xs, m, _, hx, hl, hxl, hi⟩ := DataW.trod_array ht h4
  have hxs := congrArg Prod.fst hx
  simp at hxs
  intro i z hzi
  have hin : i < n := by have := (List.getElem?_eq_some_iff.1 hzi).1; omega
  have := hi i hin
  rw [hc, Nat.mul_one] at this
  have hxi : xs[i]? = some (xs[i]'(by omega)) := List.getElem?_eq_getElem _
  rw [hxi] at this
  obtain ⟨z', hz', hd, _⟩ := DataW.trod_int he this
  have e1 : (xs.map (·.1))[i]? = some (.lit (.int k z')) := by rw [List.getElem?_map, hxi, hd]; rfl
  rw [← hxs, List.getElem?_map, hzi] at e1
  simp at e1
  subst e1
  rw [World.var?_cell hg h3 i]
  have h5 : ((cs.toList.drop i).take 1)[0]? = some (.int k z) := by rw [hz']; rfl
  rw [List.getElem?_take, if_pos (by omega), List.getElem?_drop] at h5
  simpa using h5
end Go.Kin
