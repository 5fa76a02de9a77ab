/- A listed package variable that is an array of whole numbers: its cells. -/
import Derived.Test.YtmhnlgndgdmebaaDoorFlat
import Derived.FnData
import Derived.LaidLaws
import Derived.Handed
namespace Go.Kin
open Go Go.RowKit Go.WideShapes Go.ChangeShapes
theorem laid_ints {P : Program} {w : World} {nm : String} {g t e n : Nat} {k : IntKind} {zs : List Int} (hg : P.globalNamed nm = some g) (hT : (P.globals[g]?).map (·.type) = some t) (ht : P.underlying t = some (.array n e)) (he : P.underlying e = some (.int k)) (hc : P.cellsOf e = 1) (hn : P.cellsOf t = n) (hz : zs.length = n)
    (h : laidMet P [(nm, .agg (zs.map fun z => .lit (.int k z)))] w) : ∀ i z, zs[i]? = some z → w.cell? ⟨g, i, none⟩ = some (.int k z) := by
  obtain ⟨ps, ⟨g', t', cs, fuel, p, q, h1, h2, h3, h4, _⟩, _⟩ := h
  rw [hg] at h1
  obtain rfl := Option.some.inj h1
  rw [hT] at h2
  obtain rfl := Option.some.inj h2
  obtain ⟨xs, m, _, hx, hl, hxl, hi⟩ := DataW.trod_array ht h4
  have hxs := congrArg Prod.fst hx
  simp at hxs
  intro i z hzi
  have hin : i < n := by have := (List.getElem?_eq_some_iff.1 hzi).1; omega
  have := hi i hin
  rw [hc, Nat.mul_one] at this
  have hxi : xs[i]? = some (xs[i]'(by omega)) := List.getElem?_eq_getElem _
  rw [hxi] at this
  obtain ⟨z', hz', hd, _⟩ := DataW.trod_int he this
  have e1 : (xs.map (·.1))[i]? = some (.lit (.int k z')) := by rw [List.getElem?_map, hxi, hd]; rfl
  rw [← hxs, List.getElem?_map, hzi] at e1
  simp at e1
  subst e1
  rw [World.var?_cell hg h3 i]
  have h5 : ((cs.toList.drop i).take 1)[0]? = some (.int k z) := by rw [hz']; rfl
  rw [List.getElem?_take, if_pos (by omega), List.getElem?_drop] at h5
  simpa using h5
end Go.Kin
