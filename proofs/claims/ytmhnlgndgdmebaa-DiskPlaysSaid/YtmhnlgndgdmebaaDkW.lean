/- DiskTears answers true for every input. No condition. -/
import Derived.Test.YtmhnlgndgdmebaaRows
import Derived.Test.YtmhnlgndgdmebaaDkV
import Derived.Test.YtmhnlgndgdmebaaRow
import Derived.Test.YtmhnlgndgdmebaaOpn
import Derived.ProofKit
namespace Go.Proofs.Ytmhnlgndgdmebaa
open Go.ChangeShapes Go.WideShapes Go.ChangeAt Go.RowKit Go.Kin

theorem own : ownKnob Try.prog.godebug = none := by kernel_rfl
theorem laidOut : laidOutB Try.prog = true := by kernel_rfl
section
variable {H : Type} {enc : TypeId × Value → H} {W : World} {spare : Nat → Bool} {held : Bool} {fuel : Nat} {cs : List Value} {x : DataW H × List MemPlace}
set_option maxRecDepth 100000 in
theorem trod_ac (hl : cs.length = 7) (h : DataW.trod enc Try.prog W 0 spare held fuel 62 cs = some x) : ∃ a : Ac, a.In W ∧ cs = acv a := by
  obtain ⟨xs, m, _, _, _, hxl, hf⟩ := DataW.trod_struct Try.underlying62 h
  match cs, hl, xs, hxl with
  | [c0, c1, c2, c3, c4, c5, c6], _, [y0, y1, y2, y3, y4, y5, y6], _ =>
    have f0 := hf 0 _ rfl
    obtain ⟨d, e0, hd⟩ := trod_u8 Try.underlying5 f0
    have e0 : [c0] = _ := e0
    injection e0 with e0 _
    subst e0
    have f1 := hf 1 _ rfl
    obtain ⟨k, e1, hk⟩ := trod_u8 Try.underlying5 f1
    have e1 : [c1] = _ := e1
    injection e1 with e1 _
    subst e1
    have f2 := hf 2 _ rfl
    obtain ⟨a, e2, ha⟩ := trod_u16 Try.underlying24 f2
    have e2 : [c2] = _ := e2
    injection e2 with e2 _
    subst e2
    have f3 := hf 3 _ rfl
    obtain ⟨v, l, e3, sl, lt⟩ := trod_bytesF Try.underlying60 Try.underlying5 (by kernel_rfl) f3
    have e3 : [c3] = _ := e3
    injection e3 with e3 _
    subst e3
    have f4 := hf 4 _ rfl
    obtain ⟨b, e4⟩ := trod_b Try.underlying4 f4
    have e4 : [c4] = _ := e4
    injection e4 with e4 _
    subst e4
    have f5 := hf 5 _ rfl
    obtain ⟨z, e5, hz1, hz2⟩ := trod_i64 Try.underlying3 f5
    have e5 : [c5] = _ := e5
    injection e5 with e5 _
    subst e5
    have f6 := hf 6 _ rfl
    obtain ⟨pv, pl, e6, psl, pwf, plt⟩ := trod_nums Try.underlying54 Try.underlying3 (by kernel_rfl) f6
    have e6 : [c6] = _ := e6
    injection e6 with e6 _
    subst e6
    exact ⟨⟨d, k, a, c3, l, b, z, c6, pl⟩, ⟨ha, hd, hk, ⟨hz1, hz2⟩, sl, fun j h0 hj => by
      obtain ⟨b, h1, h2⟩ := lt h0
      rw [h1] at hj; cases hj; exact h2, psl, fun j h0 hj => by
      obtain ⟨b, h1, h2⟩ := plt h0
      rw [h1] at hj; cases hj; exact h2, fun x hx => by
      have := pwf x hx
      simp [Lit.wf, IntKind.min, IntKind.max, IntKind.signed, IntKind.bits] at this
      omega⟩, rfl⟩
end
section
variable {H : Type} {enc : TypeId × Value → H} {P : Program} {W : World} {base : Nat} {spare : Nat → Bool} {held : Bool} {t e : Nat}
theorem open_nums {k : IntKind} {r : Reach} {b0 : Nat} {v : Value} {d : DataW H} {p : List MemPlace} (ht : P.underlying t = some (.slice e)) (he : P.underlying e = some (.int k)) (hc : P.cellsOf e = 1) (hv : Value.okWide P W r b0 t v) (h : DataW.Trod enc P W base spare held t v d p) :
    ∃ l : List Int, Sl W v l.length (l.map (Value.int k)) ∧ (∀ z ∈ l, (Lit.int k z).wf = true) ∧ (∀ j, v.ownBlock = some j → j < W.heap.size) := by
  have hlt := own_lt ht hv
  obtain ⟨fuel, hf⟩ := h
  obtain ⟨a0, l0, c0, rfl⟩ := okWide_slice ht hv
  obtain ⟨v', l, h1, h2, h3, _⟩ := trod_nums ht he hc hf
  simp [Value.cells] at h1
  subst h1
  exact ⟨l, h2, h3, hlt⟩
end
set_option maxRecDepth 100000 in
theorem diskTears_lifted (os : Os) (started : os.Started) (H : Type) (enc : TypeId × Value → H) :
    ReturnsInHanded {} Try.checked os 6 .any (Rows.diskTearsSpec.pre6 enc Try.prog Try.f6 Rows.diskTearsRow.domain false) (Rows.diskTearsSpec.post enc Try.prog Try.f6 false true false false) := by
  refine returnsInHanded_of_change (C := Try.checked) own started (by kernel_rfl) Try.func6
    (ChangeSpec.witness6 (enc := enc) (C := Try.checked) false ⟨#[], #[.int .u8 0, .slice none 0 0, .slice none 0 0, .slice none 0 0], []⟩ 8 (by kernel_rfl) (by kernel_rfl) (by kernel_rfl) (by kernel_rfl)) ?_
  intro W base args ds gs before hval0 hW hcnd _
  have hval : ∀ (j : Nat) t v, Try.f6.params[j]? = some t → args[j]? = some v → Value.okWide Try.prog W .any base t v := hval0
  have hW' := hW
  obtain ⟨p, q, hA0, hV, rfl, hfz, hnd⟩ := hW
  have hA : DataW.TrodAll enc Try.prog W 0 (fun _ => true) true Try.f6.params.toList args.toList ds p := hA0
  have hAk := hA
  rw [Try.params6] at hA hval
  obtain ⟨v0, v1, v2, v3, d0, d1, d2, d3, p0, p1, p2, p3, rfl, rfl, rfl, h0, h1, h2, h3⟩ := trodAll_four hA
  obtain ⟨rfl, rfl⟩ := trodVars_none hV
  have o0 := hval 0 5 v0 rfl rfl
  obtain ⟨y0, rfl, _, _, wa0⟩ := Go.ChangeShapes.open_int Try.underlying5 o0 h0
  simp [Lit.wf, IntKind.min, IntKind.max, IntKind.signed, IntKind.bits] at wa0
  obtain ⟨z0, rfl⟩ : ∃ n : Nat, y0 = n := ⟨y0.toNat, by omega⟩
  have o1 := hval 1 53 v1 rfl rfl
  obtain ⟨L1, hin1, hL1⟩ := open_list (fun a : Ac => a.In W) acv (by decide) Try.underlying53 (by kernel_rfl) o1 h1 fun cs fuel x hl ht => trod_ac hl ht
  have o2 := hval 2 53 v2 rfl rfl
  obtain ⟨L2, hin2, hL2⟩ := open_list (fun a : Ac => a.In W) acv (by decide) Try.underlying53 (by kernel_rfl) o2 h2 fun cs fuel x hl ht => trod_ac hl ht
  have o3 := hval 3 54 v3 rfl rfl
  obtain ⟨l3, hl3, wf3, lt3⟩ := open_nums Try.underlying54 Try.underlying3 (by kernel_rfl) o3 h3
  have fin : Ret Try.prog 6 #[.int .u8 z0, v1, v2, v3] W fun v' w' => v' = .bool true ∧ Ch Nw W w' := by
    exact tears_any z0 (by omega) v1 v2 v3 L1 L2 l3 W hL1 hL2 hin1 hin2 hl3 (fun _ => lt3) fun x hx => by
      have := wf3 x hx
      simp [Lit.wf, IntKind.min, IntKind.max, IntKind.signed, IntKind.bits] at this
      omega
  refine fin.calls.mono fun e W' ⟨v, he, hv, hc⟩ => ?_
  subst he; subst hv
  exact ⟨_, rfl, post_law laidOut hW' hAk rfl (by kernel_rfl) (by kernel_rfl) Try.underlying4 rfl rfl hc.below⟩

theorem diskTears_holds : Rows.DiskTearsSaid :=
  OpenClaim.holds_of_wide 6 Try.f6 rfl rfl rfl rfl rfl rfl rfl ⟨rfl, rfl, rfl, rfl, rfl⟩ rfl rfl rfl rfl rfl (by kernel_rfl) Try.func6 (by kernel_rfl)
    (of_decide_eq_true (by kernel_rfl)) (by unfold Func.isWrapper; first | (rw [if_pos (by decide +kernel)]; kernel_rfl) | (rw [if_neg (by decide +kernel)]; exact ⟨rfl, rfl⟩))
    (fun os started H enc _ => diskTears_lifted os started H enc)
#print axioms diskTears_holds
end Go.Proofs.Ytmhnlgndgdmebaa
