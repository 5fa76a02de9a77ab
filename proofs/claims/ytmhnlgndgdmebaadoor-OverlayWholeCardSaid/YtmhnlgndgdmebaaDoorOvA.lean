/- The keys of an overlay's maps. No condition. -/
import Derived.Test.YtmhnlgndgdmebaaDoorMapV
import Derived.Test.YtmhnlgndgdmebaaDoorVeM
import Derived.Test.YtmhnlgndgdmebaaDoorInV
import Derived.DeepKeys4
namespace Go.Proofs.YtmhnlgndgdmebaaDoor
open Go.RowKit Go.Kin Go.Maps

abbrev Num := Fin 65536
abbrev Off := Fin 4294967296
def kU (a : Num) : Value := .int .u16 a.val
def kP (a : Num × Off) : Value := .agg #[.int .u16 a.1.val, .int .u32 a.2.val]
theorem laidOutD : laidOutB Tryd.prog = true := by kernel_rfl
theorem wf16 (a : Num) : (Lit.int .u16 a.val).wf = true := by
  have := a.isLt
  simp [Lit.wf, IntKind.min, IntKind.max, IntKind.signed, IntKind.bits]
  omega
theorem wf32 (a : Off) : (Lit.int .u32 a.val).wf = true := by
  have := a.isLt
  simp [Lit.wf, IntKind.min, IntKind.max, IntKind.signed, IntKind.bits]
  omega
theorem of16 {x : Int} (h : (Lit.int .u16 x).wf = true) : ∃ a : Num, x = a.val := by
  simp [Lit.wf, IntKind.min, IntKind.max, IntKind.signed, IntKind.bits] at h
  exact ⟨⟨x.toNat, by omega⟩, by simp only; omega⟩
theorem of32 {x : Int} (h : (Lit.int .u32 x).wf = true) : ∃ a : Off, x = a.val := by
  simp [Lit.wf, IntKind.min, IntKind.max, IntKind.signed, IntKind.bits] at h
  exact ⟨⟨x.toNat, by omega⟩, by simp only; omega⟩
theorem kysU : Kys Tryd.prog 30 kU := by
  refine ⟨int_keyed Tryd.underlying30, fun a => ⟨_, keyOf_int_mk Tryd.underlying30 (wf16 a)⟩, fun v l h => ?_, fun a b h => ?_⟩
  · obtain ⟨x, rfl, _, hw⟩ := keyOf_int_inv Tryd.underlying30 h
    obtain ⟨a, rfl⟩ := of16 hw
    exact ⟨a, rfl⟩
  · unfold kU at h
    injection h with _ h
    exact Fin.ext (by omega)
theorem kp_cells : Tryd.prog.cellsOf 95 = 2 := by kernel_rfl
theorem kp_type : Tryd.prog.keyType 95 = true := by kernel_rfl
theorem kp_c16 : Tryd.prog.cellsOf 30 = 1 := by kernel_rfl
theorem kp_c32 : Tryd.prog.cellsOf 49 = 1 := by kernel_rfl
theorem kp_law : Keyed Tryd.prog 95 := Keyed.of_law (deep_law_laid laidOutD (m := 2) (by omega) (of_decide_eq_true (by kernel_rfl)) (by kernel_rfl) (by rw [Tryd.underlying95]))
set_option maxRecDepth 100000 in
theorem kp_of (d : Nat) (a : Num) (b : Off) : Tryd.prog.keyLits (d + 2) 95 [.int .u16 a.val, .int .u32 b.val] = some [.int .u16 a.val, .int .u32 b.val] := by
  simp only [Program.keyLits, Tryd.underlying95]
  have h1 := wf16 a
  have h2 := wf32 b
  simp [kp_cells, kp_c16, kp_c32, Tryd.underlying30, Tryd.underlying49, h1, h2]
set_option maxRecDepth 100000 in
theorem kp_inv (d : Nat) (cs : List Value) (l : List Lit) (h : Tryd.prog.keyLits (d + 2) 95 cs = some l) : ∃ (a : Num) (b : Off), cs = [.int .u16 a.val, .int .u32 b.val] := by
  rw [Program.keyLits.eq_def] at h
  simp only [Tryd.underlying95, kp_cells] at h
  split at h
  · rename_i hl
    simp [kp_c16, kp_c32] at h
    match cs, hl.1 with
    | [x, y], _ =>
      cases hx : Tryd.prog.keyLits (d + 1) 30 [x] with
      | none => simp [hx] at h
      | some lx =>
        cases hy : Tryd.prog.keyLits (d + 1) 49 [y] with
        | none => simp [hx, hy] at h
        | some ly =>
          rw [Program.keyLits.eq_def] at hx hy
          simp only [Tryd.underlying30] at hx
          simp only [Tryd.underlying49] at hy
          cases x <;> simp at hx
          cases y <;> simp at hy
          obtain ⟨⟨rfl, hwx⟩, _⟩ := hx
          obtain ⟨⟨rfl, hwy⟩, _⟩ := hy
          obtain ⟨a, rfl⟩ := of16 hwx
          obtain ⟨b, rfl⟩ := of32 hwy
          exact ⟨a, b, rfl⟩
  · cases h
set_option maxRecDepth 100000 in
theorem sizeD : ∃ d, Tryd.prog.types.size = d + 1 := by
  have h : decide (0 < Tryd.prog.types.size) = true := by kernel_rfl
  have := of_decide_eq_true h
  exact ⟨_, (Nat.succ_pred_eq_of_pos this).symm⟩
set_option maxRecDepth 100000 in
theorem kysP : Kys Tryd.prog 95 kP := by
  obtain ⟨d, hd⟩ := sizeD
  have hf : ∀ cs : Array Value, (Value.agg cs).formed Tryd.prog 95 = (cs.size == 2) := fun cs => by
    unfold Value.formed
    rw [Tryd.underlying95, kp_cells]
  refine ⟨kp_law, fun a => ?_, fun v l h => ?_, fun a b h => ?_⟩
  · unfold keyOf
    rw [Tryd.underlying95, hd, kp_type]
    refine ⟨.string (keyBytes [.int .u16 a.1.val, .int .u32 a.2.val]), ?_⟩
    have e := kp_of d a.1 a.2
    unfold kP
    rw [hf]
    simp only [Value.cells]
    rw [e]
    rfl
  · unfold keyOf at h
    rw [Tryd.underlying95, hd, kp_type] at h
    simp only [Bool.true_and] at h
    split at h
    · rename_i hfm
      obtain ⟨ls, hls, _⟩ := Option.map_eq_some_iff.1 h
      obtain ⟨a, b, hab⟩ := kp_inv d _ _ hls
      refine ⟨(a, b), ?_⟩
      cases v with
      | agg cs =>
        have e : cs = #[.int .u16 a.val, .int .u32 b.val] := Array.ext' hab
        rw [e]
        rfl
      | _ => simp [Value.formed, Tryd.underlying95] at hfm
    · cases h
  · unfold kP at h
    injection h with h
    simp at h
    exact Prod.ext (Fin.ext (by omega)) (Fin.ext (by omega))
end Go.Proofs.YtmhnlgndgdmebaaDoor
