/- OverlayWhole answers true for every input. Condition: the listed package variable holds what the text lays. (Printed by genOvQ.py.) -/
import Derived.Test.YtmhnlgndgdmebaaDoorOvO
namespace Go.Proofs.YtmhnlgndgdmebaaDoor
open Go.ChangeShapes Go.WideShapes Go.ChangeAt Go.RowKit Go.Kin

set_option maxRecDepth 100000 in
theorem overlayWhole_lifted (os : Os) (started : os.Started) (H : Type) (enc : TypeId × Value → H) :
    ReturnsInHanded {} Tryd.checked os 5 .any (fun w args => (Rows.overlayWholeSpec.pre enc Tryd.prog Tryd.f5 [] false w args ∧ laidMetH Tryd.prog Rows.overlayWholeRow.laid w) ∧ sizedMet enc Tryd.prog Tryd.f5 (OpenSpec.ofChange Rows.overlayWholeSpec) false w args)
      (Rows.overlayWholeSpec.post enc Tryd.prog Tryd.f5 false true false false) := by
  refine returnsInHanded_of_change_and (C := Tryd.checked) (X := fun w _ => laidMetH Tryd.prog Rows.overlayWholeRow.laid w) (fun _ _ _ hh h => h.of_heap hh) own started (by kernel_rfl) Tryd.func5
    (ChangeSpec.witness_at (enc := enc) (C := Tryd.checked) (os := os) (X := fun w _ => laidMetH Tryd.prog Rows.overlayWholeRow.laid w) false (laidWorld os) #[.int .u16 0, .slice none 0 0, .slice none 0 0, .slice none 0 0, .bool false] 8 rfl (by kernel_rfl) (by kernel_rfl) (by kernel_rfl) (by kernel_rfl) (by kernel_rfl) (laidWorld_met os _)) ?_
  intro W base args ds gs before hval0 hW _ _ hL _
  have hval : ∀ (j : Nat) t v, Tryd.f5.params[j]? = some t → args[j]? = some v → Value.okWide Tryd.prog W .any base t v := hval0
  have hW' := hW
  obtain ⟨p, q, hA0, hV, rfl, hfz, hnd⟩ := hW
  have hA : DataW.TrodAll enc Tryd.prog W 0 (fun _ => true) true Tryd.f5.params.toList args.toList ds p := hA0
  have hAk := hA
  rw [Tryd.params5] at hA hval
  obtain ⟨v0, vs0, d0, ds0, p0, q0, hargs, rfl, rfl, h0, hA⟩ := trodAll_cons hA
  obtain ⟨v1, vs1, d1, ds1, p1, q1, rfl, rfl, rfl, h1, hA⟩ := trodAll_cons hA
  obtain ⟨v2, vs2, d2, ds2, p2, q2, rfl, rfl, rfl, h2, hA⟩ := trodAll_cons hA
  obtain ⟨v3, vs3, d3, ds3, p3, q3, rfl, rfl, rfl, h3, hA⟩ := trodAll_cons hA
  obtain ⟨v4, vs4, d4, ds4, p4, q4, rfl, rfl, rfl, h4, hA⟩ := trodAll_cons hA
  obtain ⟨rfl, rfl, rfl⟩ := trodAll_nil hA
  obtain rfl : args = #[v0, v1, v2, v3, v4] := Array.ext' hargs
  obtain ⟨rfl, rfl⟩ := trodVars_none hV
  have o0 := hval 0 30 v0 rfl rfl
  have o1 := hval 1 40 v1 rfl rfl
  have o2 := hval 2 40 v2 rfl rfl
  have o3 := hval 3 40 v3 rfl rfl
  have o4 := hval 4 4 v4 rfl rfl
  obtain ⟨y0, rfl, _, _, wa0⟩ := Go.ChangeShapes.open_int Tryd.underlying30 o0 h0
  simp [Lit.wf, IntKind.min, IntKind.max, IntKind.signed, IntKind.bits] at wa0
  obtain ⟨z0, rfl⟩ : ∃ n : Nat, y0 = n := ⟨y0.toNat, by omega⟩
  obtain ⟨b4, rfl⟩ := okWide_bool Tryd.underlying4 o4
  obtain ⟨L1, ok1, hL1⟩ := open_list (fun a : Ac => a.Ok) acv (k := 49) (by decide) Tryd.underlying40 (by kernel_rfl) o1 h1 fun cs fuel x hl ht => trod_ac ht
  obtain ⟨L2, ok2, hL2⟩ := open_list (fun a : Ac => a.Ok) acv (k := 49) (by decide) Tryd.underlying40 (by kernel_rfl) o2 h2 fun cs fuel x hl ht => trod_ac ht
  obtain ⟨L3, ok3, hL3⟩ := open_list (fun a : Ac => a.Ok) acv (k := 49) (by decide) Tryd.underlying40 (by kernel_rfl) o3 h3 fun cs fuel x hl ht => trod_ac ht
  refine (whole_any z0 (by omega) v1 v2 v3 L1 L2 L3 b4 W (lw_of_laid hL) hL1 hL2 hL3 ok1 ok2 ok3).calls.mono fun e W' ⟨v, he, hv, hc⟩ => ?_
  subst he; subst hv
  exact ⟨_, rfl, post_law laidOut hW' hAk rfl (by kernel_rfl) (by kernel_rfl) Tryd.underlying4 rfl rfl hc.below⟩
theorem overlayWhole_row : Rows.OverlayWholeSaid :=
  OpenClaim.holds_of_wide 5 Tryd.f5 rfl rfl rfl rfl rfl rfl rfl ⟨rfl, rfl, rfl, rfl, rfl⟩ rfl rfl rfl rfl rfl (by kernel_rfl) Tryd.func5 (by kernel_rfl)
    (of_decide_eq_true (by kernel_rfl)) (by unfold Func.isWrapper; first | (rw [if_pos (by decide +kernel)]; kernel_rfl) | (rw [if_neg (by decide +kernel)]; exact ⟨rfl, rfl⟩))
    (fun os started H enc _ => overlayWhole_lifted os started H enc)
theorem overlayWhole_holds : Rows.OverlayWholeCardSaid :=
  Claim7.holds_tied_plain_at .later [] [.data] true (true, "979eb0d8ec760616091989d544cfca71e3e4cc8d4b8dddce661705d0de2f5231") false
    overlayWhole_row (fun _ h => by cases h) (by kernel_rfl) (fun _ h => by cases h) overlayWhole_row_tie rfl ⟨rfl, rfl⟩ (by kernel_rfl) rfl
    (fun f fn hf hfn => by
      obtain rfl : f = 5 := Option.some.inj ((show Tryd.prog.funcNamed "kintsugi/kintsugilaw15.OverlayWhole" = some 5 by kernel_rfl).symm.trans hf) |>.symm
      obtain rfl : fn = Tryd.f5 := (Option.some.inj (Tryd.func5.symm.trans hfn)).symm
      exact ⟨by kernel_rfl, fun j t ht => no_stand (by kernel_rfl) j t ht⟩)
    (by kernel_rfl)
#print axioms overlayWhole_holds
end Go.Proofs.YtmhnlgndgdmebaaDoor
