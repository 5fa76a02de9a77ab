/- AnchorNil and AnchorBytes answer true for every input: no cell, no power; an anchor's bytes, and the anchor of any 64 bytes, are what the document says. No condition. -/
import Derived.Test.YtmhnlgndgdmebaaRows
import Derived.Test.YtmhnlgndgdmebaaAncG
import Derived.Test.YtmhnlgndgdmebaaFlat
import Derived.ProofKit
namespace Go.Proofs.Ytmhnlgndgdmebaa
open Go.ChangeShapes Go.WideShapes Go.ChangeAt Go.RowKit Go.Kin

theorem own : ownKnob Try.prog.godebug = none := by kernel_rfl
theorem laidOut : laidOutB Try.prog = true := by kernel_rfl

section
variable {H : Type} {enc : TypeId × Value → H} {W : World} {base : Nat} {spare : Nat → Bool} {held : Bool} {fuel : Nat} {cs : List Value} {x : DataW H × List MemPlace}
/-- an anchor's cells, read -/
theorem trod_anc (h : DataW.trod enc Try.prog W base spare held fuel 27 cs = some x) : ∃ n h a, AncOk n h a ∧ cs.toArray = anc n h a := by
  obtain ⟨xs, m, _, _, hl, hxl, hf⟩ := DataW.trod_struct Try.underlying27 h
  have hc : Try.prog.cellsOf 27 = 37 := by kernel_rfl
  rw [hc] at hl
  match xs, hxl with
  | [y0, y1, y2], _ =>
    have f0 := hf 0 _ rfl
    have f1 := hf 1 _ rfl
    have f2 := hf 2 _ rfl
    obtain ⟨n, hn, hn64, _⟩ := trod_nat Try.underlying22 (.inl rfl) f0
    obtain ⟨l, hll, hlc⟩ := trod_bytesA Try.underlying23 Try.underlying5 (by kernel_rfl) (by kernel_rfl) f1
    obtain ⟨a, hal, hac, halt⟩ := trod_u16A Try.underlying25 Try.underlying24 (by kernel_rfl) (by kernel_rfl) f2
    have c0 : Try.prog.cellsOf 22 = 1 := by kernel_rfl
    have c1 : Try.prog.cellsOf 23 = 32 := by kernel_rfl
    have c2 : Try.prog.cellsOf 25 = 4 := by kernel_rfl
    have hn : (cs.drop 0).take (Try.prog.cellsOf 22) = [.int .u64 n] := hn
    have hlc : (cs.drop 1).take (Try.prog.cellsOf 23) = bvs l := hlc
    have hac : (cs.drop 33).take (Try.prog.cellsOf 25) = u16s a := hac
    rw [c0] at hn
    rw [c1] at hlc
    rw [c2] at hac
    refine ⟨n, l, a, ⟨hn64 rfl, hll, hal, halt⟩, ?_⟩
    have e1 : cs = (cs.drop 0).take 1 ++ ((cs.drop 1).take 32 ++ (cs.drop 33).take 4) := by
      rw [List.take_of_length_le (i := 4) (by simp; omega), show cs.drop 33 = (cs.drop 1).drop 32 by rw [List.drop_drop], List.take_append_drop, List.drop_zero, List.take_append_drop]
    rw [e1, hn, hlc, hac]
    simp [anc]
end

set_option maxRecDepth 100000 in
theorem anil_lifted (os : Os) (started : os.Started) (H : Type) (enc : TypeId × Value → H) :
    ReturnsInHanded {} Try.checked os 4 .any (Rows.anchorNilSpec.pre6 enc Try.prog Try.f4 Rows.anchorNilRow.domain false) (Rows.anchorNilSpec.post enc Try.prog Try.f4 false true false false) := by
  refine returnsInHanded_of_change (C := Try.checked) own started (by kernel_rfl) Try.func4
    (ChangeSpec.witness6 (enc := enc) (C := Try.checked) false ⟨#[], #[.agg (anc 0 (zb 32) (zn 4))], []⟩ 8 (by kernel_rfl) (by kernel_rfl) (by kernel_rfl) (by kernel_rfl)) ?_
  intro W base args ds gs before hval0 hW hcnd _
  have hval : ∀ (j : Nat) t v, Try.f4.params[j]? = some t → args[j]? = some v → Value.okWide Try.prog W .any base t v := hval0
  have hW' := hW
  obtain ⟨p, q, hA0, hV, rfl, hfz, hnd⟩ := hW
  have hA : DataW.TrodAll enc Try.prog W 0 (fun _ => true) true Try.f4.params.toList args.toList ds p := hA0
  have hAk := hA
  rw [Try.params4] at hA hval
  obtain ⟨v0, d0, rfl, rfl, h0⟩ := trodAll_one hA
  obtain ⟨rfl, rfl⟩ := trodVars_none hV
  have o0 := hval 0 27 v0 rfl rfl
  obtain ⟨fuel, cs, rfl, hf⟩ := open_agg o0 (.inl ⟨_, Try.underlying27⟩) h0
  obtain ⟨n, h, a, ok, hcs⟩ := trod_anc hf
  have fin : Ret Try.prog 4 #[.agg cs.toArray] W fun v' w' => v' = .bool true ∧ Ch Nw W w' := by
    rw [hcs]
    exact anil_any n h a W ok
  refine fin.calls.mono fun e W' ⟨v, he, hv, hc⟩ => ?_
  subst he; subst hv
  exact ⟨_, rfl, post_law laidOut hW' hAk rfl (by kernel_rfl) (by kernel_rfl) Try.underlying4 rfl rfl hc.below⟩

theorem anchorNil_holds : Rows.AnchorNilSaid :=
  OpenClaim.holds_of_wide 4 Try.f4 rfl rfl rfl rfl rfl rfl rfl ⟨rfl, rfl, rfl, rfl, rfl⟩ rfl rfl rfl rfl rfl (by kernel_rfl) Try.func4 (by kernel_rfl)
    (of_decide_eq_true (by kernel_rfl)) (by unfold Func.isWrapper; first | (rw [if_pos (by decide +kernel)]; kernel_rfl) | (rw [if_neg (by decide +kernel)]; exact ⟨rfl, rfl⟩))
    (fun os started H enc _ => anil_lifted os started H enc)
#print axioms anchorNil_holds

set_option maxRecDepth 100000 in
theorem abytes_lifted (os : Os) (started : os.Started) (H : Type) (enc : TypeId × Value → H) :
    ReturnsInHanded {} Try.checked os 3 .any (Rows.anchorBytesSpec.pre6 enc Try.prog Try.f3 Rows.anchorBytesRow.domain false) (Rows.anchorBytesSpec.post enc Try.prog Try.f3 false true false false) := by
  refine returnsInHanded_of_change (C := Try.checked) own started (by kernel_rfl) Try.func3
    (ChangeSpec.witness6 (enc := enc) (C := Try.checked) false ⟨#[], #[.agg (anc 0 (zb 32) (zn 4)), .agg (bvs (zb 64)).toArray], []⟩ 8 (by kernel_rfl) (by kernel_rfl) (by kernel_rfl) (by kernel_rfl)) ?_
  intro W base args ds gs before hval0 hW hcnd _
  have hval : ∀ (j : Nat) t v, Try.f3.params[j]? = some t → args[j]? = some v → Value.okWide Try.prog W .any base t v := hval0
  have hW' := hW
  obtain ⟨p, q, hA0, hV, rfl, hfz, hnd⟩ := hW
  have hA : DataW.TrodAll enc Try.prog W 0 (fun _ => true) true Try.f3.params.toList args.toList ds p := hA0
  have hAk := hA
  rw [Try.params3] at hA hval
  obtain ⟨v0, v1, d0, d1, p0, p1, rfl, rfl, rfl, h0, h1⟩ := trodAll_two hA
  obtain ⟨rfl, rfl⟩ := trodVars_none hV
  have o0 := hval 0 27 v0 rfl rfl
  have o1 := hval 1 28 v1 rfl rfl
  obtain ⟨fuel, cs, rfl, hf⟩ := open_agg o0 (.inl ⟨_, Try.underlying27⟩) h0
  obtain ⟨n, h, a, ok, hcs⟩ := trod_anc hf
  obtain ⟨fuel1, cs1, rfl, hf1⟩ := open_agg o1 (.inr ⟨_, _, Try.underlying28⟩) h1
  obtain ⟨b, hbl, rfl⟩ := trod_bytesA Try.underlying28 Try.underlying5 (by kernel_rfl) (by kernel_rfl) hf1
  have fin : Ret Try.prog 3 #[.agg cs.toArray, .agg (bvs b).toArray] W fun v' w' => v' = .bool true ∧ Ch Nw W w' := by
    rw [hcs]
    exact abytes_law n h a b W ok hbl
  refine fin.calls.mono fun e W' ⟨v, he, hv, hc⟩ => ?_
  subst he; subst hv
  exact ⟨_, rfl, post_law laidOut hW' hAk rfl (by kernel_rfl) (by kernel_rfl) Try.underlying4 rfl rfl hc.below⟩

theorem anchorBytes_holds : Rows.AnchorBytesSaid :=
  OpenClaim.holds_of_wide 3 Try.f3 rfl rfl rfl rfl rfl rfl rfl ⟨rfl, rfl, rfl, rfl, rfl⟩ rfl rfl rfl rfl rfl (by kernel_rfl) Try.func3 (by kernel_rfl)
    (of_decide_eq_true (by kernel_rfl)) (by unfold Func.isWrapper; first | (rw [if_pos (by decide +kernel)]; kernel_rfl) | (rw [if_neg (by decide +kernel)]; exact ⟨rfl, rfl⟩))
    (fun os started H enc _ => abytes_lifted os started H enc)
#print axioms anchorBytes_holds
end Go.Proofs.Ytmhnlgndgdmebaa
