/- DiskPlays answers true for every input. No condition. -/
import Derived.Test.YtmhnlgndgdmebaaRows
import Derived.Test.YtmhnlgndgdmebaaRkL
import Derived.Test.YtmhnlgndgdmebaaDkW
import Derived.Test.YtmhnlgndgdmebaaRow
import Derived.Test.YtmhnlgndgdmebaaOpn
import Derived.ProofKit
namespace Go.Proofs.Ytmhnlgndgdmebaa
open Go.ChangeShapes Go.WideShapes Go.ChangeAt Go.RowKit Go.Kin

set_option maxRecDepth 100000 in
theorem diskPlays_lifted (os : Os) (started : os.Started) (H : Type) (enc : TypeId × Value → H) :
    ReturnsInHanded {} Try.checked os 9 .any (Rows.diskPlaysSpec.pre6 enc Try.prog Try.f9 Rows.diskPlaysRow.domain false) (Rows.diskPlaysSpec.post enc Try.prog Try.f9 false true false false) := by
  refine returnsInHanded_of_change (C := Try.checked) own started (by kernel_rfl) Try.func9
    (ChangeSpec.witness6 (enc := enc) (C := Try.checked) false ⟨#[], #[.int .u8 0, .slice none 0 0], []⟩ 8 (by kernel_rfl) (by kernel_rfl) (by kernel_rfl) (by kernel_rfl)) ?_
  intro W base args ds gs before hval0 hW hcnd _
  have hval : ∀ (j : Nat) t v, Try.f9.params[j]? = some t → args[j]? = some v → Value.okWide Try.prog W .any base t v := hval0
  have hW' := hW
  obtain ⟨p, q, hA0, hV, rfl, hfz, hnd⟩ := hW
  have hA : DataW.TrodAll enc Try.prog W 0 (fun _ => true) true Try.f9.params.toList args.toList ds p := hA0
  have hAk := hA
  rw [Try.params9] at hA hval
  obtain ⟨v0, v1, d0, d1, p0, p1, rfl, rfl, rfl, h0, h1⟩ := trodAll_two hA
  obtain ⟨rfl, rfl⟩ := trodVars_none hV
  have o0 := hval 0 5 v0 rfl rfl
  obtain ⟨y0, rfl, _, _, wa0⟩ := Go.ChangeShapes.open_int Try.underlying5 o0 h0
  simp [Lit.wf, IntKind.min, IntKind.max, IntKind.signed, IntKind.bits] at wa0
  obtain ⟨z0, rfl⟩ : ∃ n : Nat, y0 = n := ⟨y0.toNat, by omega⟩
  have o1 := hval 1 53 v1 rfl rfl
  obtain ⟨L1, hin1, hL1⟩ := open_list (fun a : Ac => a.In W) acv (by decide) Try.underlying53 (by kernel_rfl) o1 h1 fun cs fuel x hl ht => trod_ac hl ht
  have fin : Ret Try.prog 9 #[.int .u8 z0, v1] W fun v' w' => v' = .bool true ∧ Ch Nw W w' := by
    exact plays_any z0 (by omega) v1 L1 W hL1 hin1
  refine fin.calls.mono fun e W' ⟨v, he, hv, hc⟩ => ?_
  subst he; subst hv
  exact ⟨_, rfl, post_law laidOut hW' hAk rfl (by kernel_rfl) (by kernel_rfl) Try.underlying4 rfl rfl hc.below⟩

theorem diskPlays_holds : Rows.DiskPlaysSaid :=
  OpenClaim.holds_of_wide 9 Try.f9 rfl rfl rfl rfl rfl rfl rfl ⟨rfl, rfl, rfl, rfl, rfl⟩ rfl rfl rfl rfl rfl (by kernel_rfl) Try.func9 (by kernel_rfl)
    (of_decide_eq_true (by kernel_rfl)) (by unfold Func.isWrapper; first | (rw [if_pos (by decide +kernel)]; kernel_rfl) | (rw [if_neg (by decide +kernel)]; exact ⟨rfl, rfl⟩))
    (fun os started H enc _ => diskPlays_lifted os started H enc)
#print axioms diskPlays_holds
end Go.Proofs.Ytmhnlgndgdmebaa
