/- PtrOne answers true for every input. Condition: the listed package variables hold what the text lays. -/
import Derived.Test.YtfcoiboeohgimaaDoorPtP
import Derived.Test.YtfcoiboeohgimaaDoorPtT
namespace Go.Proofs.YtfcoiboeohgimaaDoor
open Go.ChangeShapes Go.WideShapes Go.ChangeAt Go.RowKit Go.Kin

set_option maxRecDepth 100000 in
theorem ptrOne_lifted (os : Os) (started : os.Started) (H : Type) (enc : TypeId × Value → H) :
    ReturnsInHanded {} Tryd.checked os 12 .any (fun w args => (Rows.ptrOneSpec.pre enc Tryd.prog Tryd.f12 [] false w args ∧ laidMetH Tryd.prog Rows.ptrOneRow.laid w) ∧ sizedMet enc Tryd.prog Tryd.f12 (OpenSpec.ofChange Rows.ptrOneSpec) false w args)
      (Rows.ptrOneSpec.post enc Tryd.prog Tryd.f12 false true false false) := by
  refine returnsInHanded_of_change_and (C := Tryd.checked) (X := fun w _ => laidMetH Tryd.prog Rows.ptrOneRow.laid w) (fun _ _ _ hh h => h.of_heap hh) own started (by kernel_rfl) Tryd.func12
    (ChangeSpec.witness_at (enc := enc) (C := Tryd.checked) (os := os) (X := fun w _ => laidMetH Tryd.prog Rows.ptrOneRow.laid w) false (laidWorld3 os) #[.agg (pt ptz), .agg (pt ptz), .slice none 0 0, .slice none 0 0] 8 rfl (by kernel_rfl) (by kernel_rfl) (by kernel_rfl) (by kernel_rfl) (by kernel_rfl) (laidWorld3_met os _)) ?_
  intro W base args ds gs before hval0 hW _ _ hL _
  have hval : ∀ (j : Nat) t v, Tryd.f12.params[j]? = some t → args[j]? = some v → Value.okWide Tryd.prog W .any base t v := hval0
  have hW' := hW
  obtain ⟨p, q, hA0, hV, rfl, hfz, hnd⟩ := hW
  have hA : DataW.TrodAll enc Tryd.prog W 0 (fun _ => true) true Tryd.f12.params.toList args.toList ds p := hA0
  have hAk := hA
  rw [Tryd.params12] at hA hval
  obtain ⟨v0, vs0, d0, ds0, p0, q0, hargs, rfl, rfl, h0, hA⟩ := trodAll_cons hA
  obtain ⟨v1, vs1, d1, ds1, p1, q1, rfl, rfl, rfl, h1, hA⟩ := trodAll_cons hA
  obtain ⟨v2, vs2, d2, ds2, p2, q2, rfl, rfl, rfl, h2, hA⟩ := trodAll_cons hA
  obtain ⟨v3, vs3, d3, ds3, p3, q3, rfl, rfl, rfl, h3, hA⟩ := trodAll_cons hA
  obtain ⟨rfl, rfl, rfl⟩ := trodAll_nil hA
  obtain rfl : args = #[v0, v1, v2, v3] := Array.ext' hargs
  obtain ⟨rfl, rfl⟩ := trodVars_none hV
  have o0 := hval 0 28 v0 rfl rfl
  have o1 := hval 1 28 v1 rfl rfl
  have o2 := hval 2 30 v2 rfl rfl
  have o3 := hval 3 30 v3 rfl rfl
  obtain ⟨fuel0, cs0, rfl, hf0⟩ := open_agg o0 (.inl ⟨_, Tryd.underlying28⟩) h0
  obtain ⟨p0', ok0, rfl⟩ := trod_pt hf0
  obtain ⟨fuel1, cs1, rfl, hf1⟩ := open_agg o1 (.inl ⟨_, Tryd.underlying28⟩) h1
  obtain ⟨p1', ok1, rfl⟩ := trod_pt hf1
  obtain ⟨l2, hs2⟩ := open_bytes Tryd.underlying30 Tryd.underlying5 (by kernel_rfl) o2 h2
  have hov2 := own_lt Tryd.underlying30 o2
  obtain ⟨l3, hs3⟩ := open_bytes Tryd.underlying30 Tryd.underlying5 (by kernel_rfl) o3 h3
  have hov3 := own_lt Tryd.underlying30 o3
  refine (pone_any p0' p1' v2 v3 l2 l3 W ok0 ok1 hs2 hs3 hov2 hov3 (lw_of_laid3 hL) (lk_of_laid3 hL)).calls.mono fun e W' ⟨v, he, hv, hc⟩ => ?_
  subst he; subst hv
  exact ⟨_, rfl, post_law laidOut hW' hAk rfl (by kernel_rfl) (by kernel_rfl) Tryd.underlying4 rfl rfl hc.below⟩
theorem ptrOne_row : Rows.PtrOneSaid :=
  OpenClaim.holds_of_wide 12 Tryd.f12 rfl rfl rfl rfl rfl rfl rfl ⟨rfl, rfl, rfl, rfl, rfl⟩ rfl rfl rfl rfl rfl (by kernel_rfl) Tryd.func12 (by kernel_rfl)
    (of_decide_eq_true (by kernel_rfl)) (by unfold Func.isWrapper; first | (rw [if_pos (by decide +kernel)]; kernel_rfl) | (rw [if_neg (by decide +kernel)]; exact ⟨rfl, rfl⟩))
    (fun os started H enc _ => ptrOne_lifted os started H enc)
theorem ptrOne_holds : Rows.PtrOneCardSaid :=
  Claim7.holds_tied_plain_at .later [] [.data, .data] true (true, "9c85245e3df9f98406eccbdb67a2a076a9e57b8e46b7237a3a2c02c7b55f7e29") false
    ptrOne_row (fun _ h => by cases h) (by kernel_rfl) (fun _ h => by cases h) ptrOne_row_tie rfl ⟨rfl, rfl⟩ (by kernel_rfl) rfl
    (fun f fn hf hfn => by
      obtain rfl : f = 12 := Option.some.inj ((show Tryd.prog.funcNamed "kintsugi/kintsugilaw06.PtrOne" = some 12 by kernel_rfl).symm.trans hf) |>.symm
      obtain rfl : fn = Tryd.f12 := (Option.some.inj (Tryd.func12.symm.trans hfn)).symm
      exact ⟨by kernel_rfl, fun j t ht => no_stand (by kernel_rfl) j t ht⟩)
    (by kernel_rfl)
#print axioms ptrOne_holds
end Go.Proofs.YtfcoiboeohgimaaDoor
