/- PtrTakes answers true for every input. Condition: the listed package variables hold what the text lays. -/
import Derived.Test.YtfcoiboeohgimaaDoorPtP
import Derived.Test.YtfcoiboeohgimaaDoorPtN
namespace Go.Proofs.YtfcoiboeohgimaaDoor
open Go.ChangeShapes Go.WideShapes Go.ChangeAt Go.RowKit Go.Kin

set_option maxRecDepth 100000 in
theorem ptrTakes_lifted (os : Os) (started : os.Started) (H : Type) (enc : TypeId × Value → H) :
    ReturnsInHanded {} Tryd.checked os 11 .any (fun w args => (Rows.ptrTakesSpec.pre enc Tryd.prog Tryd.f11 [] false w args ∧ laidMetH Tryd.prog Rows.ptrTakesRow.laid w) ∧ sizedMet enc Tryd.prog Tryd.f11 (OpenSpec.ofChange Rows.ptrTakesSpec) false w args)
      (Rows.ptrTakesSpec.post enc Tryd.prog Tryd.f11 false true false false) := by
  refine returnsInHanded_of_change_and (C := Tryd.checked) (X := fun w _ => laidMetH Tryd.prog Rows.ptrTakesRow.laid w) (fun _ _ _ hh h => h.of_heap hh) own started (by kernel_rfl) Tryd.func11
    (ChangeSpec.witness_at (enc := enc) (C := Tryd.checked) (os := os) (X := fun w _ => laidMetH Tryd.prog Rows.ptrTakesRow.laid w) false (laidWorld3 os) #[.slice none 0 0] 8 rfl (by kernel_rfl) (by kernel_rfl) (by kernel_rfl) (by kernel_rfl) (by kernel_rfl) (laidWorld3_met os _)) ?_
  intro W base args ds gs before hval0 hW _ _ hL _
  have hval : ∀ (j : Nat) t v, Tryd.f11.params[j]? = some t → args[j]? = some v → Value.okWide Tryd.prog W .any base t v := hval0
  have hW' := hW
  obtain ⟨p, q, hA0, hV, rfl, hfz, hnd⟩ := hW
  have hA : DataW.TrodAll enc Tryd.prog W 0 (fun _ => true) true Tryd.f11.params.toList args.toList ds p := hA0
  have hAk := hA
  rw [Tryd.params11] at hA hval
  obtain ⟨v0, d0, rfl, rfl, h0⟩ := trodAll_one hA
  obtain ⟨rfl, rfl⟩ := trodVars_none hV
  have o0 := hval 0 30 v0 rfl rfl
  obtain ⟨l0, hs0⟩ := open_bytes Tryd.underlying30 Tryd.underlying5 (by kernel_rfl) o0 h0
  have hov0 := own_lt Tryd.underlying30 o0
  refine (ptakes_any v0 l0 W hs0 hov0 (lw_of_laid3 hL) (lk_of_laid3 hL)).calls.mono fun e W' ⟨v, he, hv, hc⟩ => ?_
  subst he; subst hv
  exact ⟨_, rfl, post_law laidOut hW' hAk rfl (by kernel_rfl) (by kernel_rfl) Tryd.underlying4 rfl rfl hc.below⟩
theorem ptrTakes_row : Rows.PtrTakesSaid :=
  OpenClaim.holds_of_wide 11 Tryd.f11 rfl rfl rfl rfl rfl rfl rfl ⟨rfl, rfl, rfl, rfl, rfl⟩ rfl rfl rfl rfl rfl (by kernel_rfl) Tryd.func11 (by kernel_rfl)
    (of_decide_eq_true (by kernel_rfl)) (by unfold Func.isWrapper; first | (rw [if_pos (by decide +kernel)]; kernel_rfl) | (rw [if_neg (by decide +kernel)]; exact ⟨rfl, rfl⟩))
    (fun os started H enc _ => ptrTakes_lifted os started H enc)
theorem ptrTakes_holds : Rows.PtrTakesCardSaid :=
  Claim7.holds_tied_plain_at .later [] [.data, .data] true (true, "9c85245e3df9f98406eccbdb67a2a076a9e57b8e46b7237a3a2c02c7b55f7e29") false
    ptrTakes_row (fun _ h => by cases h) (by kernel_rfl) (fun _ h => by cases h) ptrTakes_row_tie rfl ⟨rfl, rfl⟩ (by kernel_rfl) rfl
    (fun f fn hf hfn => by
      obtain rfl : f = 11 := Option.some.inj ((show Tryd.prog.funcNamed "kintsugi/kintsugilaw06.PtrTakes" = some 11 by kernel_rfl).symm.trans hf) |>.symm
      obtain rfl : fn = Tryd.f11 := (Option.some.inj (Tryd.func11.symm.trans hfn)).symm
      exact ⟨by kernel_rfl, fun j t ht => no_stand (by kernel_rfl) j t ht⟩)
    (by kernel_rfl)
#print axioms ptrTakes_holds
end Go.Proofs.YtfcoiboeohgimaaDoor
