/- FdtabPlays and FdtabNil answer true for every input. No condition. -/
import Derived.Test.YtfcoiboeohgimaaRows
import Derived.Test.YtfcoiboeohgimaaFtE
import Derived.Test.YtfcoiboeohgimaaRow
import Derived.Test.YtfcoiboeohgimaaOpn
import Derived.ProofKit
namespace Go.Proofs.Ytfcoiboeohgimaa
open Go.ChangeShapes Go.WideShapes Go.ChangeAt Go.RowKit Go.Kin

theorem own : ownKnob Try.prog.godebug = none := by kernel_rfl
theorem laidOut : laidOutB Try.prog = true := by kernel_rfl
section
variable {H : Type} {enc : TypeId × Value → H} {W : World} {spare : Nat → Bool} {held : Bool} {fuel : Nat} {cs : List Value} {x : DataW H × List MemPlace}
set_option maxRecDepth 100000 in
theorem trod_ac (hl : cs.length = 4) (h : DataW.trod enc Try.prog W 0 spare held fuel 29 cs = some x) : ∃ a : Ac, True ∧ cs = acv a := by
  obtain ⟨xs, m, _, _, _, hxl, hf⟩ := DataW.trod_struct Try.underlying29 h
  match cs, hl, xs, hxl with
  | [c0, c1, c2, c3], _, [y0, y1, y2, y3], _ =>
    have f0 := hf 0 _ rfl
    obtain ⟨d, e0, _⟩ := trod_u8 Try.underlying5 f0
    have e0 : [c0] = _ := e0
    injection e0 with e0 _
    subst e0
    have f1 := hf 1 _ rfl
    obtain ⟨n, e1, _⟩ := trod_u16 Try.underlying27 f1
    have e1 : [c1] = _ := e1
    injection e1 with e1 _
    subst e1
    have f2 := hf 2 _ rfl
    obtain ⟨b, e2⟩ := trod_b Try.underlying4 f2
    have e2 : [c2] = _ := e2
    injection e2 with e2 _
    subst e2
    have f3 := hf 3 _ rfl
    obtain ⟨z, e3, _⟩ := trod_i64 Try.underlying3 f3
    have e3 : [c3] = _ := e3
    injection e3 with e3 _
    subst e3
    exact ⟨⟨d, n, b, z⟩, trivial, rfl⟩
end
set_option maxRecDepth 100000 in
theorem fdtabPlays_lifted (os : Os) (started : os.Started) (H : Type) (enc : TypeId × Value → H) :
    ReturnsInHanded {} Try.checked os 3 .any (Rows.fdtabPlaysSpec.pre6 enc Try.prog Try.f3 Rows.fdtabPlaysRow.domain false) (Rows.fdtabPlaysSpec.post enc Try.prog Try.f3 false true false false) := by
  refine returnsInHanded_of_change (C := Try.checked) own started (by kernel_rfl) Try.func3
    (ChangeSpec.witness6 (enc := enc) (C := Try.checked) false ⟨#[], #[.slice none 0 0], []⟩ 8 (by kernel_rfl) (by kernel_rfl) (by kernel_rfl) (by kernel_rfl)) ?_
  intro W base args ds gs before hval0 hW hcnd _
  have hval : ∀ (j : Nat) t v, Try.f3.params[j]? = some t → args[j]? = some v → Value.okWide Try.prog W .any base t v := hval0
  have hW' := hW
  obtain ⟨p, q, hA0, hV, rfl, hfz, hnd⟩ := hW
  have hA : DataW.TrodAll enc Try.prog W 0 (fun _ => true) true Try.f3.params.toList args.toList ds p := hA0
  have hAk := hA
  rw [Try.params3] at hA hval
  obtain ⟨v0, d0, rfl, rfl, h0⟩ := trodAll_one hA
  obtain ⟨rfl, rfl⟩ := trodVars_none hV
  have o0 := hval 0 22 v0 rfl rfl
  obtain ⟨L, _, hL⟩ := open_list (fun _ : Ac => True) acv (by decide) Try.underlying22 (by kernel_rfl) o0 h0 fun cs fuel x hl ht => trod_ac hl ht
  have fin : Ret Try.prog 3 #[v0] W fun v' w' => v' = .bool true ∧ Ch Nw W w' := by
    exact plays_any v0 L W hL
  refine fin.calls.mono fun e W' ⟨v, he, hv, hc⟩ => ?_
  subst he; subst hv
  exact ⟨_, rfl, post_law laidOut hW' hAk rfl (by kernel_rfl) (by kernel_rfl) Try.underlying4 rfl rfl hc.below⟩

theorem fdtabPlays_holds : Rows.FdtabPlaysSaid :=
  OpenClaim.holds_of_wide 3 Try.f3 rfl rfl rfl rfl rfl rfl rfl ⟨rfl, rfl, rfl, rfl, rfl⟩ rfl rfl rfl rfl rfl (by kernel_rfl) Try.func3 (by kernel_rfl)
    (of_decide_eq_true (by kernel_rfl)) (by unfold Func.isWrapper; first | (rw [if_pos (by decide +kernel)]; kernel_rfl) | (rw [if_neg (by decide +kernel)]; exact ⟨rfl, rfl⟩))
    (fun os started H enc _ => fdtabPlays_lifted os started H enc)
#print axioms fdtabPlays_holds
set_option maxRecDepth 100000 in
theorem fdtabNil_lifted (os : Os) (started : os.Started) (H : Type) (enc : TypeId × Value → H) :
    ReturnsInHanded {} Try.checked os 4 .any (Rows.fdtabNilSpec.pre6 enc Try.prog Try.f4 Rows.fdtabNilRow.domain false) (Rows.fdtabNilSpec.post enc Try.prog Try.f4 false true false false) := by
  refine returnsInHanded_of_change (C := Try.checked) own started (by kernel_rfl) Try.func4
    (ChangeSpec.witness6 (enc := enc) (C := Try.checked) false ⟨#[], #[.int .i64 0, .int .u16 0], []⟩ 8 (by kernel_rfl) (by kernel_rfl) (by kernel_rfl) (by kernel_rfl)) ?_
  intro W base args ds gs before hval0 hW hcnd _
  have hval : ∀ (j : Nat) t v, Try.f4.params[j]? = some t → args[j]? = some v → Value.okWide Try.prog W .any base t v := hval0
  have hW' := hW
  obtain ⟨p, q, hA0, hV, rfl, hfz, hnd⟩ := hW
  have hA : DataW.TrodAll enc Try.prog W 0 (fun _ => true) true Try.f4.params.toList args.toList ds p := hA0
  have hAk := hA
  rw [Try.params4] at hA hval
  obtain ⟨v0, v1, d0, d1, p0, p1, rfl, rfl, rfl, h0, h1⟩ := trodAll_two hA
  obtain ⟨rfl, rfl⟩ := trodVars_none hV
  have o0 := hval 0 3 v0 rfl rfl
  obtain ⟨z0, rfl, _, _, wa0⟩ := Go.ChangeShapes.open_int Try.underlying3 o0 h0
  simp [Lit.wf, IntKind.min, IntKind.max, IntKind.signed, IntKind.bits] at wa0
  have o1 := hval 1 27 v1 rfl rfl
  obtain ⟨y1, rfl, _, _, wa1⟩ := Go.ChangeShapes.open_int Try.underlying27 o1 h1
  simp [Lit.wf, IntKind.min, IntKind.max, IntKind.signed, IntKind.bits] at wa1
  obtain ⟨z1, rfl⟩ : ∃ n : Nat, y1 = n := ⟨y1.toNat, by omega⟩
  have fin : Ret Try.prog 4 #[.int .i64 z0, .int .u16 z1] W fun v' w' => v' = .bool true ∧ Ch Nw W w' := by
    exact nil_any z0 z1 W
  refine fin.calls.mono fun e W' ⟨v, he, hv, hc⟩ => ?_
  subst he; subst hv
  exact ⟨_, rfl, post_law laidOut hW' hAk rfl (by kernel_rfl) (by kernel_rfl) Try.underlying4 rfl rfl hc.below⟩

theorem fdtabNil_holds : Rows.FdtabNilSaid :=
  OpenClaim.holds_of_wide 4 Try.f4 rfl rfl rfl rfl rfl rfl rfl ⟨rfl, rfl, rfl, rfl, rfl⟩ rfl rfl rfl rfl rfl (by kernel_rfl) Try.func4 (by kernel_rfl)
    (of_decide_eq_true (by kernel_rfl)) (by unfold Func.isWrapper; first | (rw [if_pos (by decide +kernel)]; kernel_rfl) | (rw [if_neg (by decide +kernel)]; exact ⟨rfl, rfl⟩))
    (fun os started H enc _ => fdtabNil_lifted os started H enc)
#print axioms fdtabNil_holds
end Go.Proofs.Ytfcoiboeohgimaa
