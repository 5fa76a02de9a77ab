/- InodeBack answers true for every input. Condition: the listed package variables hold what the text lays. -/
import Derived.Test.YtfcoiboeohgimaaDoorInO
import Derived.Test.YtfcoiboeohgimaaDoorInJ
namespace Go.Proofs.YtfcoiboeohgimaaDoor
open Go.ChangeShapes Go.WideShapes Go.ChangeAt Go.RowKit Go.Kin

set_option maxRecDepth 100000 in
theorem inodeBack_lifted (os : Os) (started : os.Started) (H : Type) (enc : TypeId × Value → H) :
    ReturnsInHanded {} Tryd.checked os 9 .any (fun w args => (Rows.inodeBackSpec.pre enc Tryd.prog Tryd.f9 [] false w args ∧ laidMetH Tryd.prog Rows.inodeBackRow.laid w) ∧ sizedMet enc Tryd.prog Tryd.f9 (OpenSpec.ofChange Rows.inodeBackSpec) false w args)
      (Rows.inodeBackSpec.post enc Tryd.prog Tryd.f9 false true false false) := by
  refine returnsInHanded_of_change_and (C := Tryd.checked) (X := fun w _ => laidMetH Tryd.prog Rows.inodeBackRow.laid w) (fun _ _ _ hh h => h.of_heap hh) own started (by kernel_rfl) Tryd.func9
    (ChangeSpec.witness_at (enc := enc) (C := Tryd.checked) (os := os) (X := fun w _ => laidMetH Tryd.prog Rows.inodeBackRow.laid w) false (laidWorld2 os) #[.agg (ib ibz), .slice none 0 0] 8 rfl (by kernel_rfl) (by kernel_rfl) (by kernel_rfl) (by kernel_rfl) (by kernel_rfl) (laidWorld2_met os _)) ?_
  intro W base args ds gs before hval0 hW _ _ hL _
  have hval : ∀ (j : Nat) t v, Tryd.f9.params[j]? = some t → args[j]? = some v → Value.okWide Tryd.prog W .any base t v := hval0
  have hW' := hW
  obtain ⟨p, q, hA0, hV, rfl, hfz, hnd⟩ := hW
  have hA : DataW.TrodAll enc Tryd.prog W 0 (fun _ => true) true Tryd.f9.params.toList args.toList ds p := hA0
  have hAk := hA
  rw [Tryd.params9] at hA hval
  obtain ⟨v0, vs0, d0, ds0, p0, q0, hargs, rfl, rfl, h0, hA⟩ := trodAll_cons hA
  obtain ⟨v1, vs1, d1, ds1, p1, q1, rfl, rfl, rfl, h1, hA⟩ := trodAll_cons hA
  obtain ⟨rfl, rfl, rfl⟩ := trodAll_nil hA
  obtain rfl : args = #[v0, v1] := Array.ext' hargs
  obtain ⟨rfl, rfl⟩ := trodVars_none hV
  have o0 := hval 0 52 v0 rfl rfl
  have o1 := hval 1 30 v1 rfl rfl
  obtain ⟨fuel, cs, rfl, hf⟩ := open_agg o0 (.inr ⟨_, _, Tryd.underlying52⟩) h0
  obtain ⟨xs, ok, rfl⟩ := trod_ib hf
  obtain ⟨l, hs⟩ := open_bytes Tryd.underlying30 Tryd.underlying5 (by kernel_rfl) o1 h1
  refine (inodeBack_any xs v1 l W ok hs (lw_of_laid2 hL) (ll_of_laid2 hL)).calls.mono fun e W' ⟨v, he, hv, hc⟩ => ?_
  subst he; subst hv
  exact ⟨_, rfl, post_law laidOut hW' hAk rfl (by kernel_rfl) (by kernel_rfl) Tryd.underlying4 rfl rfl hc.below⟩
theorem inodeBack_row : Rows.InodeBackSaid :=
  OpenClaim.holds_of_wide 9 Tryd.f9 rfl rfl rfl rfl rfl rfl rfl ⟨rfl, rfl, rfl, rfl, rfl⟩ rfl rfl rfl rfl rfl (by kernel_rfl) Tryd.func9 (by kernel_rfl)
    (of_decide_eq_true (by kernel_rfl)) (by unfold Func.isWrapper; first | (rw [if_pos (by decide +kernel)]; kernel_rfl) | (rw [if_neg (by decide +kernel)]; exact ⟨rfl, rfl⟩))
    (fun os started H enc _ => inodeBack_lifted os started H enc)
theorem inodeBack_holds : Rows.InodeBackCardSaid :=
  Claim7.holds_tied_plain_at .later [] [.data, .data] true (true, "9c85245e3df9f98406eccbdb67a2a076a9e57b8e46b7237a3a2c02c7b55f7e29") false
    inodeBack_row (fun _ h => by cases h) (by kernel_rfl) (fun _ h => by cases h) inodeBack_row_tie rfl ⟨rfl, rfl⟩ (by kernel_rfl) rfl
    (fun f fn hf hfn => by
      obtain rfl : f = 9 := Option.some.inj ((show Tryd.prog.funcNamed "kintsugi/kintsugilaw11.InodeBack" = some 9 by kernel_rfl).symm.trans hf) |>.symm
      obtain rfl : fn = Tryd.f9 := (Option.some.inj (Tryd.func9.symm.trans hfn)).symm
      exact ⟨by kernel_rfl, fun j t ht => no_stand (by kernel_rfl) j t ht⟩)
    (by kernel_rfl)
#print axioms inodeBack_holds
end Go.Proofs.YtfcoiboeohgimaaDoor
