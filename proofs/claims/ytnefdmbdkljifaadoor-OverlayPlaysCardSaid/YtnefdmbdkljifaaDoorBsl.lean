/- A slice of one value of several cells, built. It speaks of no program. No condition. -/
import Derived.Test.YtnefdmbdkljifaaDoorLots
set_option linter.unusedSimpArgs false
set_option linter.unusedVariables false

namespace Go.Kin
open Go Go.RowKit
theorem run_buildSlice1 {P : Program} {t e size : Nat} {cs : Array Value} {z : Value} (ht : P.underlying t = some (.slice e)) (hs : ∀ w, (sizeOf e).run P w = .ok size w) (hz : (P.info? e).bind (·.zero) = some z) (hc : cs.size = size) (h0 : 0 < size) (h24 : size ≤ 16777216) (w : World) :
    (Instr.buildSlice t 1 #[(0, .agg cs)]).run P w = .ok (.slice (some ⟨w.heap.size, 0, none⟩) 1 1) (w.alloc (.cells cs e)) := by
  cases hi : P.info? e with
  | none => simp [hi] at hz
  | some i =>
    simp [hi] at hz
    have hf : fillB (fun i => some (i * size, size)) ((Array.range size).map fun x => z.cells[x % z.cells.size]!) [(0, .agg cs)] = some cs := by
      simp [fillB, Value.cells, hc]
      unfold blit
      apply Array.ext'
      simp [hc]
    rw [← fill_eq] at hf
    simp [Instr.buildSlice, run_underlying ht, hs, zeroValue, typeInfo, hi, hz, show ¬ size = 0 by omega, show ¬ 16777216 < size by omega, newRow]
    simp only [hf]
    simp
/-- a slice of one value, built: as a constant, so that simp does not lay it open -/
def VBs (P : Program) (t : TypeId) (v : Value) (w : World) (K : Value → World → Prop) : Prop := VR ((Instr.buildSlice t 1 #[(0, v)]).run P w) K
theorem VX_bsl1 (P : Program) (ρ : Operand → Value) (w : World) (K : Value → World → Prop) (d : Option Tmp) (ty : TypeId) (pos : String) (aft : Array Edge) (g : Option (Nat × Bool)) (t : TypeId) (x : Operand) :
    VX P ρ ⟨d, .buildSlice t 1 [(0, x)].toArray, ty, pos, aft, g⟩ w K = VBs P t (ρ x) w K := by
  rw [VX_buildSlice]
  rfl
theorem VBs_run {P : Program} {t : TypeId} {v v' : Value} {w w' : World} {K : Value → World → Prop} (h : (Instr.buildSlice t 1 #[(0, v)]).run P w = .ok v' w') (hk : K v' w') : VBs P t v w K := by
  unfold VBs VR
  rw [h]
  exact hk
attribute [irreducible] VBs
end Go.Kin
