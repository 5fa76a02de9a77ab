/- The walk's rules at ranges over maps and at calls through an interface. They speak of no program. No condition. -/
import Derived.Test.YtmhnlgndgdmebaaDoorVee
namespace Go.Kin
open Go Go.RowKit

section
variable (P : Program) (ρ : Operand → Value) (w : World) (K : Value → World → Prop) (d : Option Tmp) (ty : TypeId) (pos : String) (aft : Array Edge) (g : Option (Nat × Bool))
@[simp] theorem VX_range (t : TypeId) (x : Operand) : VX P ρ ⟨d, .range t x, ty, pos, aft, g⟩ w K = VR ((Instr.range t (ρ x)).run P w) K := VX_s rfl
@[simp] theorem VX_next (x : Operand) (s : Bool) : VX P ρ ⟨d, .next x s, ty, pos, aft, g⟩ w K = VR ((Instr.next (ρ x) s ty).run P w) K := VX_s rfl
@[simp] theorem VX_entry (x : Operand) : VX P ρ ⟨d, .entry x, ty, pos, aft, g⟩ w K = VR ((Instr.entry (ρ x)).run P w) K := VX_s rfl
/-- a call through an interface -/
def VInv (P : Program) (recv : Value) (name : String) (args : List Value) (w : World) (K : Value → World → Prop) : Prop :=
  match (callMethod recv name args.toArray : Sem Go.Next).run P w with
  | .ok (.value v) w' => K v w'
  | .ok .skip w' => K undef w'
  | .ok (.enter g args) w' => Ret P g args w' K
  | .ok (.round l g tmps x y) w' => VRound P l g tmps x y w' K
  | _ => False
@[simp] theorem VX_invoke (x : Operand) (name : String) (l : List Operand) (ts : Array TypeId) : VX P ρ ⟨d, .call ⟨.invoke x name, l.toArray, ts⟩, ty, pos, aft, g⟩ w K = VInv P (ρ x) name (l.map ρ) w K := by
  unfold VX VInv
  simp [execOp, resolve, invoke]
  rw [List.take_of_length_le (by simp)]
  exact Iff.rfl
theorem VInv_to {recv : Value} {name : String} {args : List Value} {f : FuncId} {as : Array Value} {P : Program} {w : World} {K : Value → World → Prop} (h : (callMethod recv name args.toArray).run P w = .ok (.enter f as) w) : VInv P recv name args w K = Ret P f as w K := by
  unfold VInv
  rw [h]
end
end Go.Kin
