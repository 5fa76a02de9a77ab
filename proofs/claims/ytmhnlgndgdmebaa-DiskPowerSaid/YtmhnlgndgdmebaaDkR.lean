/- DiskFaults, DiskNil and DiskPower answer true for every input. No condition. -/
import Derived.Test.YtmhnlgndgdmebaaRows
import Derived.Test.YtmhnlgndgdmebaaDkO
import Derived.Test.YtmhnlgndgdmebaaDkQ
import Derived.Test.YtmhnlgndgdmebaaRow
import Derived.Test.YtmhnlgndgdmebaaOpn
import Derived.ProofKit
namespace Go.Proofs.Ytmhnlgndgdmebaa
open Go.ChangeShapes Go.WideShapes Go.ChangeAt Go.RowKit Go.Kin

theorem own : ownKnob Try.prog.godebug = none := by kernel_rfl
theorem laidOut : laidOutB Try.prog = true := by kernel_rfl
set_option maxRecDepth 100000 in
theorem diskFaults_lifted (os : Os) (started : os.Started) (H : Type) (enc : TypeId × Value → H) :
    ReturnsInHanded {} Try.checked os 8 .any (Rows.diskFaultsSpec.pre6 enc Try.prog Try.f8 Rows.diskFaultsRow.domain false) (Rows.diskFaultsSpec.post enc Try.prog Try.f8 false true false false) := by
  refine returnsInHanded_of_change (C := Try.checked) own started (by kernel_rfl) Try.func8
    (ChangeSpec.witness6 (enc := enc) (C := Try.checked) false ⟨#[], #[], []⟩ 8 (by kernel_rfl) (by kernel_rfl) (by kernel_rfl) (by kernel_rfl)) ?_
  intro W base args ds gs before hval0 hW hcnd _
  have hval : ∀ (j : Nat) t v, Try.f8.params[j]? = some t → args[j]? = some v → Value.okWide Try.prog W .any base t v := hval0
  have hW' := hW
  obtain ⟨p, q, hA0, hV, rfl, hfz, hnd⟩ := hW
  have hA : DataW.TrodAll enc Try.prog W 0 (fun _ => true) true Try.f8.params.toList args.toList ds p := hA0
  have hAk := hA
  rw [Try.params8] at hA hval
  obtain ⟨rfl, rfl, rfl⟩ := trodAll_none hA
  obtain ⟨rfl, rfl⟩ := trodVars_none hV
  have fin : Ret Try.prog 8 #[] W fun v' w' => v' = .bool true ∧ Ch Nw W w' := by
    exact faults_any W
  refine fin.calls.mono fun e W' ⟨v, he, hv, hc⟩ => ?_
  subst he; subst hv
  exact ⟨_, rfl, post_law laidOut hW' hAk rfl (by kernel_rfl) (by kernel_rfl) Try.underlying4 rfl rfl hc.below⟩

theorem diskFaults_holds : Rows.DiskFaultsSaid :=
  OpenClaim.holds_of_wide 8 Try.f8 rfl rfl rfl rfl rfl rfl rfl ⟨rfl, rfl, rfl, rfl, rfl⟩ rfl rfl rfl rfl rfl (by kernel_rfl) Try.func8 (by kernel_rfl)
    (of_decide_eq_true (by kernel_rfl)) (by unfold Func.isWrapper; first | (rw [if_pos (by decide +kernel)]; kernel_rfl) | (rw [if_neg (by decide +kernel)]; exact ⟨rfl, rfl⟩))
    (fun os started H enc _ => diskFaults_lifted os started H enc)
#print axioms diskFaults_holds
set_option maxRecDepth 100000 in
theorem diskNil_lifted (os : Os) (started : os.Started) (H : Type) (enc : TypeId × Value → H) :
    ReturnsInHanded {} Try.checked os 10 .any (Rows.diskNilSpec.pre6 enc Try.prog Try.f10 Rows.diskNilRow.domain false) (Rows.diskNilSpec.post enc Try.prog Try.f10 false true false false) := by
  refine returnsInHanded_of_change (C := Try.checked) own started (by kernel_rfl) Try.func10
    (ChangeSpec.witness6 (enc := enc) (C := Try.checked) false ⟨#[], #[.int .i64 0, .int .u16 0, .slice none 0 0], []⟩ 8 (by kernel_rfl) (by kernel_rfl) (by kernel_rfl) (by kernel_rfl)) ?_
  intro W base args ds gs before hval0 hW hcnd _
  have hval : ∀ (j : Nat) t v, Try.f10.params[j]? = some t → args[j]? = some v → Value.okWide Try.prog W .any base t v := hval0
  have hW' := hW
  obtain ⟨p, q, hA0, hV, rfl, hfz, hnd⟩ := hW
  have hA : DataW.TrodAll enc Try.prog W 0 (fun _ => true) true Try.f10.params.toList args.toList ds p := hA0
  have hAk := hA
  rw [Try.params10] at hA hval
  obtain ⟨v0, v1, v2, d0, d1, d2, p0, p1, p2, rfl, rfl, rfl, h0, h1, h2⟩ := trodAll_three hA
  obtain ⟨rfl, rfl⟩ := trodVars_none hV
  have o0 := hval 0 3 v0 rfl rfl
  obtain ⟨z0, rfl, _, _, wa0⟩ := Go.ChangeShapes.open_int Try.underlying3 o0 h0
  simp [Lit.wf, IntKind.min, IntKind.max, IntKind.signed, IntKind.bits] at wa0
  have o1 := hval 1 24 v1 rfl rfl
  obtain ⟨y1, rfl, _, _, wa1⟩ := Go.ChangeShapes.open_int Try.underlying24 o1 h1
  simp [Lit.wf, IntKind.min, IntKind.max, IntKind.signed, IntKind.bits] at wa1
  obtain ⟨z1, rfl⟩ : ∃ n : Nat, y1 = n := ⟨y1.toNat, by omega⟩
  have o2 := hval 2 60 v2 rfl rfl
  obtain ⟨l2, hl2⟩ := open_bytes Try.underlying60 Try.underlying5 (by kernel_rfl) o2 h2
  have fin : Ret Try.prog 10 #[.int .i64 z0, .int .u16 z1, v2] W fun v' w' => v' = .bool true ∧ Ch Nw W w' := by
    exact nil_any z0 z1 v2 l2 W hl2
  refine fin.calls.mono fun e W' ⟨v, he, hv, hc⟩ => ?_
  subst he; subst hv
  exact ⟨_, rfl, post_law laidOut hW' hAk rfl (by kernel_rfl) (by kernel_rfl) Try.underlying4 rfl rfl hc.below⟩

theorem diskNil_holds : Rows.DiskNilSaid :=
  OpenClaim.holds_of_wide 10 Try.f10 rfl rfl rfl rfl rfl rfl rfl ⟨rfl, rfl, rfl, rfl, rfl⟩ rfl rfl rfl rfl rfl (by kernel_rfl) Try.func10 (by kernel_rfl)
    (of_decide_eq_true (by kernel_rfl)) (by unfold Func.isWrapper; first | (rw [if_pos (by decide +kernel)]; kernel_rfl) | (rw [if_neg (by decide +kernel)]; exact ⟨rfl, rfl⟩))
    (fun os started H enc _ => diskNil_lifted os started H enc)
#print axioms diskNil_holds
set_option maxRecDepth 100000 in
theorem diskPower_lifted (os : Os) (started : os.Started) (H : Type) (enc : TypeId × Value → H) :
    ReturnsInHanded {} Try.checked os 7 .any (Rows.diskPowerSpec.pre6 enc Try.prog Try.f7 Rows.diskPowerRow.domain false) (Rows.diskPowerSpec.post enc Try.prog Try.f7 false true false false) := by
  refine returnsInHanded_of_change (C := Try.checked) own started (by kernel_rfl) Try.func7
    (ChangeSpec.witness6 (enc := enc) (C := Try.checked) false ⟨#[], #[.int .u8 0, .int .u8 0], []⟩ 8 (by kernel_rfl) (by kernel_rfl) (by kernel_rfl) (by kernel_rfl)) ?_
  intro W base args ds gs before hval0 hW hcnd _
  have hval : ∀ (j : Nat) t v, Try.f7.params[j]? = some t → args[j]? = some v → Value.okWide Try.prog W .any base t v := hval0
  have hW' := hW
  obtain ⟨p, q, hA0, hV, rfl, hfz, hnd⟩ := hW
  have hA : DataW.TrodAll enc Try.prog W 0 (fun _ => true) true Try.f7.params.toList args.toList ds p := hA0
  have hAk := hA
  rw [Try.params7] at hA hval
  obtain ⟨v0, v1, d0, d1, p0, p1, rfl, rfl, rfl, h0, h1⟩ := trodAll_two hA
  obtain ⟨rfl, rfl⟩ := trodVars_none hV
  have o0 := hval 0 5 v0 rfl rfl
  obtain ⟨y0, rfl, _, _, wa0⟩ := Go.ChangeShapes.open_int Try.underlying5 o0 h0
  simp [Lit.wf, IntKind.min, IntKind.max, IntKind.signed, IntKind.bits] at wa0
  obtain ⟨z0, rfl⟩ : ∃ n : Nat, y0 = n := ⟨y0.toNat, by omega⟩
  have o1 := hval 1 5 v1 rfl rfl
  obtain ⟨y1, rfl, _, _, wa1⟩ := Go.ChangeShapes.open_int Try.underlying5 o1 h1
  simp [Lit.wf, IntKind.min, IntKind.max, IntKind.signed, IntKind.bits] at wa1
  obtain ⟨z1, rfl⟩ : ∃ n : Nat, y1 = n := ⟨y1.toNat, by omega⟩
  have fin : Ret Try.prog 7 #[.int .u8 z0, .int .u8 z1] W fun v' w' => v' = .bool true ∧ Ch Nw W w' := by
    exact power_any z0 z1 (by omega) (by omega) W
  refine fin.calls.mono fun e W' ⟨v, he, hv, hc⟩ => ?_
  subst he; subst hv
  exact ⟨_, rfl, post_law laidOut hW' hAk rfl (by kernel_rfl) (by kernel_rfl) Try.underlying4 rfl rfl hc.below⟩

theorem diskPower_holds : Rows.DiskPowerSaid :=
  OpenClaim.holds_of_wide 7 Try.f7 rfl rfl rfl rfl rfl rfl rfl ⟨rfl, rfl, rfl, rfl, rfl⟩ rfl rfl rfl rfl rfl (by kernel_rfl) Try.func7 (by kernel_rfl)
    (of_decide_eq_true (by kernel_rfl)) (by unfold Func.isWrapper; first | (rw [if_pos (by decide +kernel)]; kernel_rfl) | (rw [if_neg (by decide +kernel)]; exact ⟨rfl, rfl⟩))
    (fun os started H enc _ => diskPower_lifted os started H enc)
#print axioms diskPower_holds
end Go.Proofs.Ytmhnlgndgdmebaa
