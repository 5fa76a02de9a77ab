/- WireWrites answers true for every input: numbers as bytes, behind what there was, and noughts, are what the document says. No condition. -/
import Derived.Test.YtbodlpncejhliaaRows
import Derived.Test.YtbodlpncejhliaaWritesW
import Derived.Test.YtbodlpncejhliaaRow
import Derived.ProofKit
namespace Go.Proofs.Ytbodlpncejhliaa
open Go.ChangeShapes Go.WideShapes Go.ChangeAt Go.RowKit Go.Kin

theorem own : ownKnob Try.prog.godebug = none := by kernel_rfl
theorem laidOut : laidOutB Try.prog = true := by kernel_rfl

set_option maxRecDepth 100000 in
theorem writes_lifted (os : Os) (started : os.Started) (H : Type) (enc : TypeId × Value → H) :
    ReturnsInHanded {} Try.checked os 3 .any (Rows.wireWritesSpec.pre6 enc Try.prog Try.f3 Rows.wireWritesRow.domain false) (Rows.wireWritesSpec.post enc Try.prog Try.f3 false true false false) := by
  refine returnsInHanded_of_change (C := Try.checked) own started (by kernel_rfl) Try.func3
    (ChangeSpec.witness6 (enc := enc) (C := Try.checked) false ⟨#[], #[.slice none 0 0, .int .u64 0, .int .i64 0], []⟩ 8 (by kernel_rfl) (by kernel_rfl) (by kernel_rfl) (by kernel_rfl)) ?_
  intro W base args ds gs before hval0 hW hcnd _
  have hval : ∀ (j : Nat) t v, Try.f3.params[j]? = some t → args[j]? = some v → Value.okWide Try.prog W .any base t v := hval0
  have hW' := hW
  obtain ⟨p, q, hA0, hV, rfl, hfz, hnd⟩ := hW
  have hA : DataW.TrodAll enc Try.prog W 0 (fun _ => true) true Try.f3.params.toList args.toList ds p := hA0
  have hAk := hA
  rw [Try.params3] at hA hval
  obtain ⟨v0, v1, v2, d0, d1, d2, p0, p1, p2, rfl, rfl, rfl, h0, h1, h2⟩ := trodAll_three hA
  obtain ⟨rfl, rfl⟩ := trodVars_none hV
  obtain ⟨l, hl⟩ := open_bytes Try.underlying22 Try.underlying5 (by kernel_rfl) (hval 0 22 v0 rfl rfl) h0
  obtain ⟨x, rfl, hx⟩ := open_u64 Try.underlying23 (hval 1 23 v1 rfl rfl) h1
  obtain ⟨m, rfl, -, -, wm⟩ := open_int Try.underlying3 (hval 2 3 v2 rfl rfl) h2
  have fin : Ret Try.prog 3 #[v0, .int .u64 x, .int .i64 m] W fun v' w' => v' = .bool true ∧ Ch Nw W w' := by
    by_cases hb : 1000 < l.length ∨ 2000 < m
    · exact writes_out v0 l x m W hl hb
    · exact writes_any v0 l x m W hx (by omega) (by omega) hl
  refine fin.calls.mono fun e W' ⟨v, he, hv, hc⟩ => ?_
  subst he; subst hv
  exact ⟨_, rfl, post_law laidOut hW' hAk rfl (by kernel_rfl) (by kernel_rfl) Try.underlying4 rfl rfl hc.below⟩

theorem wireWrites_holds : Rows.WireWritesSaid :=
  OpenClaim.holds_of_wide 3 Try.f3 rfl rfl rfl rfl rfl rfl rfl ⟨rfl, rfl, rfl, rfl, rfl⟩ rfl rfl rfl rfl rfl (by kernel_rfl) Try.func3 (by kernel_rfl)
    (of_decide_eq_true (by kernel_rfl)) (by unfold Func.isWrapper; first | (rw [if_pos (by decide +kernel)]; kernel_rfl) | (rw [if_neg (by decide +kernel)]; exact ⟨rfl, rfl⟩))
    (fun os started H enc _ => writes_lifted os started H enc)
#print axioms wireWrites_holds
end Go.Proofs.Ytbodlpncejhliaa
