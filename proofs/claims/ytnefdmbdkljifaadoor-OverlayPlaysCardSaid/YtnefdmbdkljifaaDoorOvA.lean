/- The keys of an overlay's maps. No condition. -/
import Derived.Test.YtnefdmbdkljifaaDoorVee
import Derived.Test.YtnefdmbdkljifaaDoorChecked
import Derived.Test.YtnefdmbdkljifaaDoorMapV
import Derived.Test.YtnefdmbdkljifaaDoorInB
import Derived.DeepKeys4
set_option linter.unusedSimpArgs false
set_option linter.unusedVariables false

/- The walk's rules at ranges over maps and at calls through an interface. They speak of no program. No condition. -/
namespace Go.Kin
open Go Go.RowKit

section
variable (P : Program) (ρ : Operand → Value) (w : World) (K : Value → World → Prop) (d : Option Tmp) (ty : TypeId) (pos : String) (aft : Array Edge) (g : Option (Nat × Bool))
@[simp] theorem VX_range (t : TypeId) (x : Operand) : VX P ρ ⟨d, .range t x, ty, pos, aft, g⟩ w K = VR ((Instr.range t (ρ x)).run P w) K := VX_s rfl
@[simp] theorem VX_next (x : Operand) (s : Bool) : VX P ρ ⟨d, .next x s, ty, pos, aft, g⟩ w K = VR ((Instr.next (ρ x) s ty).run P w) K := VX_s rfl
@[simp] theorem VX_entry (x : Operand) : VX P ρ ⟨d, .entry x, ty, pos, aft, g⟩ w K = VR ((Instr.entry (ρ x)).run P w) K := VX_s rfl
/-- a call through an interface -/
def VInv (P : Program) (recv : Value) (name : String) (args : List Value) (w : World) (K : Value → World → Prop) : Prop :=
  match (callMethod recv name args.toArray : Sem Go.Next).run P w with
  | .ok (.value v) w' => K v w'
  | .ok .skip w' => K undef w'
  | .ok (.enter g args) w' => Ret P g args w' K
  | .ok (.round l g tmps x y) w' => VRound P l g tmps x y w' K
  | _ => False
@[simp] theorem VX_invoke (x : Operand) (name : String) (l : List Operand) (ts : Array TypeId) : VX P ρ ⟨d, .call ⟨.invoke x name, l.toArray, ts⟩, ty, pos, aft, g⟩ w K = VInv P (ρ x) name (l.map ρ) w K := by
  unfold VX VInv
  simp [execOp, resolve, invoke]
  rw [List.take_of_length_le (by simp)]
  exact Iff.rfl
theorem VInv_to {recv : Value} {name : String} {args : List Value} {f : FuncId} {ars : Array Value} {P : Program} {w : World} {K : Value → World → Prop} (h : (callMethod recv name args.toArray).run P w = .ok (.enter f ars) w) : VInv P recv name args w K = Ret P f ars w K := by
  unfold VInv
  rw [h]
end
end Go.Kin

/- Keys of maps that are whole numbers of 16 and 32 bits. No condition. -/
namespace Go.Proofs.YtnefdmbdkljifaaDoor
open Go.RowKit Go.Kin Go.Maps

abbrev Num := Fin 65536
abbrev Off := Fin 4294967296
def kU (a : Num) : Value := .int .u16 a.val
def kO (a : Off) : Value := .int .u32 a.val
theorem wf16 (a : Num) : (Lit.int .u16 a.val).wf = true := by
  have := a.isLt
  simp [Lit.wf, IntKind.min, IntKind.max, IntKind.signed, IntKind.bits]
  omega
theorem wf32 (a : Off) : (Lit.int .u32 a.val).wf = true := by
  have := a.isLt
  simp [Lit.wf, IntKind.min, IntKind.max, IntKind.signed, IntKind.bits]
  omega
theorem of16 {x : Int} (h : (Lit.int .u16 x).wf = true) : ∃ a : Num, x = a.val := by
  simp [Lit.wf, IntKind.min, IntKind.max, IntKind.signed, IntKind.bits] at h
  exact ⟨⟨x.toNat, by omega⟩, by simp only; omega⟩
theorem of32 {x : Int} (h : (Lit.int .u32 x).wf = true) : ∃ a : Off, x = a.val := by
  simp [Lit.wf, IntKind.min, IntKind.max, IntKind.signed, IntKind.bits] at h
  exact ⟨⟨x.toNat, by omega⟩, by simp only; omega⟩
theorem kysU : Kys Tryd.prog 22 kU := by
  refine ⟨int_keyed Tryd.underlying22, fun a => ⟨_, keyOf_int_mk Tryd.underlying22 (wf16 a)⟩, fun v l h => ?_, fun a b h => ?_⟩
  · obtain ⟨x, rfl, _, hw⟩ := keyOf_int_inv Tryd.underlying22 h
    obtain ⟨a, rfl⟩ := of16 hw
    exact ⟨a, rfl⟩
  · unfold kU at h
    injection h with _ h
    exact Fin.ext (by omega)
theorem kysO : Kys Tryd.prog 24 kO := by
  refine ⟨int_keyed Tryd.underlying24, fun a => ⟨_, keyOf_int_mk Tryd.underlying24 (wf32 a)⟩, fun v l h => ?_, fun a b h => ?_⟩
  · obtain ⟨x, rfl, _, hw⟩ := keyOf_int_inv Tryd.underlying24 h
    obtain ⟨a, rfl⟩ := of32 hw
    exact ⟨a, rfl⟩
  · unfold kO at h
    injection h with _ h
    exact Fin.ext (by omega)
end Go.Proofs.YtnefdmbdkljifaaDoor

/- Which inodes may be, by the document; an inode's bytes, the program's and the document's. Condition: the variable ptr.wide holds what the text lays. -/
namespace Go.Proofs.YtnefdmbdkljifaaDoor
open Go.RowKit Go.Kin

theorem rimay_any (x : In) (w : World) (ok : InOk x) : Ret Tryd.prog 22 #[.agg (ino x)] w fun v' w' => v' = .bool (mayI x) ∧ Ch Nw w w' := by
  refine v_enter Tryd.func22 Tryd.ntmps22 rfl (by simp) fun R' hR => ?_
  have hs := ino_size ok
  have ha := ino_all ok
  have hr := ino_r ok
  have heq := fun w => eq_rino w ok inz_ok
  have heqp := fun w => eq_pt w ok.r ptz_ok
  have c1 := (Ch.refl Nw w).alloc (.cells (ino x) 41)
  have hbeq : ∀ a b : Nat, ((a : Int) == (b : Int)) = eqb a b := fun a b => by
    by_cases h : a = b
    · simp [h, eqb]
    · rw [beq_false_of_ne (by omega), eqb_f h]
  have hb2 : ∀ a : Nat, ((a : Int) == 2) = eqb a 2 := fun a => hbeq a 2
  have hb3 : ∀ a : Nat, ((a : Int) == 3) = eqb a 3 := fun a => hbeq a 3
  by_cases hz : x = inz
  · subst hz
    simp [go_sem, hs, ha, bld_rino0, heq]
    exact hR _ _ ⟨by rw [show mayI inz = true by decide], c1⟩
  by_cases k1 : x.k < 1
  · have k1' : (x.k : Int) < 1 := by omega
    simp [go_sem, hs, ha, bld_rino0, heq, hz, ino_k, k1']
    exact hR _ _ ⟨by simp [mayI, show x.k = 0 by omega, hz], c1⟩
  have k1' : ¬ (x.k : Int) < 1 := by omega
  by_cases k3 : 3 < x.k
  · have k3' : (3 : Int) < x.k := by omega
    simp [go_sem, hs, ha, bld_rino0, heq, hz, ino_k, k1', k3']
    exact hR _ _ ⟨by simp [mayI, show ¬ x.k = 0 by omega, show ¬ x.k = 3 by omega, show ¬ x.k = 1 by omega, show ¬ x.k = 2 by omega], c1⟩
  have k3' : ¬ (3 : Int) < x.k := by omega
  by_cases s3 : 32768 < x.s
  · have s3' : (32768 : Int) < x.s := by omega
    simp [go_sem, hs, ha, bld_rino0, heq, hz, ino_k, ino_s, k1', k3', s3']
    exact hR _ _ ⟨by simp [mayI, show ¬ x.k = 0 by omega, show ¬ x.s ≤ 128 by omega, show ¬ x.s ≤ 32768 by omega], c1⟩
  have s3' : ¬ (32768 : Int) < x.s := by omega
  by_cases k : x.k = 3
  · have q3 := eqb_t k
    by_cases s1 : x.s < 1
    · have s1' : (x.s : Int) < 1 := by omega
      simp [go_sem, hs, ha, bld_rino0, heq, hz, ino_k, ino_s, k1', k3', s3', hb3, q3, s1']
      exact hR _ _ ⟨by simp [mayI, k, show x.s = 0 by omega], c1⟩
    have s1' : ¬ (x.s : Int) < 1 := by omega
    by_cases s2 : 128 < x.s
    · have s2' : (128 : Int) < x.s := by omega
      simp [go_sem, hs, ha, bld_rino0, heq, hz, ino_k, ino_s, k1', k3', s3', hb3, q3, s1', s2']
      exact hR _ _ ⟨by simp [mayI, k, show ¬ x.s ≤ 128 by omega], c1⟩
    have s2' : ¬ (128 : Int) < x.s := by omega
    have hm : mayI x = rootB x.r := by simp [mayI, k, show x.s ≠ 0 by omega, show x.s ≤ 128 by omega]
    by_cases hrz : x.r = ptz
    · rw [hrz] at hr heqp
      simp [go_sem, hs, ha, bld_rino0, heq, hz, ino_k, ino_s, k1', k3', s3', hb3, q3, s1', s2', hr, bld_pt0, heqp, hrz]
      exact hR _ _ ⟨by rw [hm]; simp [rootB, hrz], c1⟩
    · by_cases h3 : x.r.k = 3
      · have g3 := eqb_t h3
        by_cases h2 : x.r.l = 2
        · have g2 := eqb_t h2
          simp [go_sem, hs, ha, bld_rino0, heq, hz, ino_k, ino_s, k1', k3', s3', hb3, q3, s1', s2', hr, bld_pt0, heqp, hrz, ino_rk, ino_rl, hb2, hb3, g3, g2]
          refine (rmay_any x.r _ ok.r).mono ?_
          rintro _ w3 ⟨rfl, c3⟩
          rw [mayR_eq _ ok.r]
          simp [go_sem]
          exact hR _ _ ⟨by rw [hm]; simp [rootB, hrz, h3, h2], c1.trans c3⟩
        · have g2 := eqb_f h2
          simp [go_sem, hs, ha, bld_rino0, heq, hz, ino_k, ino_s, k1', k3', s3', hb3, q3, s1', s2', hr, bld_pt0, heqp, hrz, ino_rk, ino_rl, hb2, hb3, g3, g2]
          exact hR _ _ ⟨by rw [hm]; simp [rootB, hrz, h2], c1⟩
      · have g3 := eqb_f h3
        simp [go_sem, hs, ha, bld_rino0, heq, hz, ino_k, ino_s, k1', k3', s3', hb3, q3, s1', s2', hr, bld_pt0, heqp, hrz, ino_rk, hb3, g3]
        exact hR _ _ ⟨by rw [hm]; simp [rootB, hrz, h3], c1⟩
  have q3 := eqb_f k
  have hm : mayI x = rootB x.r := by simp [mayI, k, show x.k ≠ 0 by omega, show x.k = 1 ∨ x.k = 2 by omega, show x.s ≤ 32768 by omega]
  by_cases hrz : x.r = ptz
  · rw [hrz] at hr heqp
    simp [go_sem, hs, ha, bld_rino0, heq, hz, ino_k, ino_s, k1', k3', s3', hb3, q3, hr, bld_pt0, heqp, hrz]
    exact hR _ _ ⟨by rw [hm]; simp [rootB, hrz], c1⟩
  · by_cases h3 : x.r.k = 3
    · have g3 := eqb_t h3
      by_cases h2 : x.r.l = 2
      · have g2 := eqb_t h2
        simp [go_sem, hs, ha, bld_rino0, heq, hz, ino_k, ino_s, k1', k3', s3', hb3, q3, hr, bld_pt0, heqp, hrz, ino_rk, ino_rl, hb2, hb3, g3, g2]
        refine (rmay_any x.r _ ok.r).mono ?_
        rintro _ w3 ⟨rfl, c3⟩
        rw [mayR_eq _ ok.r]
        simp [go_sem]
        exact hR _ _ ⟨by rw [hm]; simp [rootB, hrz, h3, h2], c1.trans c3⟩
      · have g2 := eqb_f h2
        simp [go_sem, hs, ha, bld_rino0, heq, hz, ino_k, ino_s, k1', k3', s3', hb3, q3, hr, bld_pt0, heqp, hrz, ino_rk, ino_rl, hb2, hb3, g3, g2]
        exact hR _ _ ⟨by rw [hm]; simp [rootB, hrz, h2], c1⟩
    · have g3 := eqb_f h3
      simp [go_sem, hs, ha, bld_rino0, heq, hz, ino_k, ino_s, k1', k3', s3', hb3, q3, hr, bld_pt0, heqp, hrz, ino_rk, hb3, g3]
      exact hR _ _ ⟨by rw [hm]; simp [rootB, hrz, h3], c1⟩

/-- an inode's bytes -/
def putI (x : In) : List UInt8 := [UInt8.ofNat x.k, 0] ++ (le x.n 2 ++ (le x.s 4 ++ (putP x.r ++ zb 56)))
theorem putI_eq (x : In) : putI x = le x.k 1 ++ (zb 1 ++ (le x.n 2 ++ (le x.s 4 ++ (putP x.r ++ zb 56)))) := rfl
theorem putI_length {x : In} (ok : InOk x) : (putI x).length = 128 := by
  rw [putI_eq]
  simp [le_length, putP_length ok.r, zb_length]
end Go.Proofs.YtnefdmbdkljifaaDoor

namespace Go.Proofs.YtnefdmbdkljifaaDoor
open Go.RowKit Go.Kin Go.Maps

def kP (a : Num × Off) : Value := .agg #[.int .u16 a.1.val, .int .u32 a.2.val]
theorem laidOutD : laidOutB Tryd.prog = true := by kernel_rfl
theorem kp_cells : Tryd.prog.cellsOf 76 = 2 := by kernel_rfl
theorem kp_type : Tryd.prog.keyType 76 = true := by kernel_rfl
theorem kp_c16 : Tryd.prog.cellsOf 22 = 1 := by kernel_rfl
theorem kp_c32 : Tryd.prog.cellsOf 24 = 1 := by kernel_rfl
theorem kp_law : Keyed Tryd.prog 76 := Keyed.of_law (deep_law_laid laidOutD (m := 2) (by omega) (of_decide_eq_true (by kernel_rfl)) (by kernel_rfl) (by rw [Tryd.underlying76]))
set_option maxRecDepth 100000 in
theorem kp_of (d : Nat) (a : Num) (b : Off) : Tryd.prog.keyLits (d + 2) 76 [.int .u16 a.val, .int .u32 b.val] = some [.int .u16 a.val, .int .u32 b.val] := by
  simp only [Program.keyLits, Tryd.underlying76]
  have h1 := wf16 a
  have h2 := wf32 b
  simp [kp_cells, kp_c16, kp_c32, Tryd.underlying22, Tryd.underlying24, h1, h2]
set_option maxRecDepth 100000 in
theorem kp_inv (d : Nat) (cs : List Value) (l : List Lit) (h : Tryd.prog.keyLits (d + 2) 76 cs = some l) : ∃ (a : Num) (b : Off), cs = [.int .u16 a.val, .int .u32 b.val] := by
  rw [Program.keyLits.eq_def] at h
  simp only [Tryd.underlying76, kp_cells] at h
  split at h
  · rename_i hl
    simp [kp_c16, kp_c32] at h
    match cs, hl.1 with
    | [x, y], _ =>
      cases hx : Tryd.prog.keyLits (d + 1) 22 [x] with
      | none => simp [hx] at h
      | some lx =>
        cases hy : Tryd.prog.keyLits (d + 1) 24 [y] with
        | none => simp [hx, hy] at h
        | some ly =>
          rw [Program.keyLits.eq_def] at hx hy
          simp only [Tryd.underlying22] at hx
          simp only [Tryd.underlying24] at hy
          cases x <;> simp at hx
          cases y <;> simp at hy
          obtain ⟨⟨rfl, hwx⟩, _⟩ := hx
          obtain ⟨⟨rfl, hwy⟩, _⟩ := hy
          obtain ⟨a, rfl⟩ := of16 hwx
          obtain ⟨b, rfl⟩ := of32 hwy
          exact ⟨a, b, rfl⟩
  · cases h
set_option maxRecDepth 100000 in
theorem sizeD : ∃ d, Tryd.prog.types.size = d + 1 := by
  have h : decide (0 < Tryd.prog.types.size) = true := by kernel_rfl
  have := of_decide_eq_true h
  exact ⟨_, (Nat.succ_pred_eq_of_pos this).symm⟩
set_option maxRecDepth 100000 in
theorem kysP : Kys Tryd.prog 76 kP := by
  obtain ⟨d, hd⟩ := sizeD
  have hf : ∀ cs : Array Value, (Value.agg cs).formed Tryd.prog 76 = (cs.size == 2) := fun cs => by
    unfold Value.formed
    rw [Tryd.underlying76, kp_cells]
  refine ⟨kp_law, fun a => ?_, fun v l h => ?_, fun a b h => ?_⟩
  · unfold keyOf
    rw [Tryd.underlying76, hd, kp_type]
    refine ⟨.string (keyBytes [.int .u16 a.1.val, .int .u32 a.2.val]), ?_⟩
    have e := kp_of d a.1 a.2
    unfold kP
    rw [hf]
    simp only [Value.cells]
    rw [e]
    rfl
  · unfold keyOf at h
    rw [Tryd.underlying76, hd, kp_type] at h
    simp only [Bool.true_and] at h
    split at h
    · rename_i hfm
      obtain ⟨ls, hls, _⟩ := Option.map_eq_some_iff.1 h
      obtain ⟨a, b, hab⟩ := kp_inv d _ _ hls
      refine ⟨(a, b), ?_⟩
      cases v with
      | agg cs =>
        have e : cs = #[.int .u16 a.val, .int .u32 b.val] := Array.ext' hab
        rw [e]
        rfl
      | _ => simp [Value.formed, Tryd.underlying76] at hfm
    · cases h
  · unfold kP at h
    injection h with h
    simp at h
    exact Prod.ext (Fin.ext (by omega)) (Fin.ext (by omega))
end Go.Proofs.YtnefdmbdkljifaaDoor
