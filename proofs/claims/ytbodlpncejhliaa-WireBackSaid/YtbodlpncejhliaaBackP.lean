/- WireBack answers true for every input: what was put behind one another is read so. No condition. -/
import Derived.Test.YtbodlpncejhliaaRows
import Derived.Test.YtbodlpncejhliaaBackA
import Derived.Test.YtbodlpncejhliaaRow
import Derived.ProofKit
namespace Go.Proofs.Ytbodlpncejhliaa
open Go.ChangeShapes Go.WideShapes Go.ChangeAt Go.RowKit Go.Kin

theorem own : ownKnob Try.prog.godebug = none := by kernel_rfl
theorem laidOut : laidOutB Try.prog = true := by kernel_rfl

theorem back_out (u : Value) (n : Nat) (D N : Nat → Nat) (w : World) (ha : Parts w u n D N) (h : n = 0 ∨ 100 < n) :
    Ret Try.prog 4 #[u] w fun v' w' => v' = .bool true ∧ Ch Nw w w' := by
  have hlen2 := parts_len ha
  have fin : ∀ w, Ret Try.prog 7 #[] w fun v' w' => v' = .bool true ∧ Ch Nw w w' := wakes_any
  refine v_enter Try.func4 Try.ntmps4 rfl (by simp) fun R' hR => ?_
  by_cases h1 : n = 0
  · have h2 : ((n : Int) == 0) = true := by simp [h1]
    simp [go_sem, hlen2, h2]
    refine (fin w).mono ?_
    rintro _ wd ⟨rfl, hd⟩
    simp [go_sem]
    exact hR _ _ ⟨rfl, hd⟩
  · have h2 : ((n : Int) == 0) = false := by simpa using h1
    have h3 : (100 : Int) < (n : Int) := by omega
    simp [go_sem, hlen2, h2, h3]
    refine (fin w).mono ?_
    rintro _ wd ⟨rfl, hd⟩
    simp [go_sem]
    exact hR _ _ ⟨rfl, hd⟩

set_option maxRecDepth 100000 in
theorem back_lifted (os : Os) (started : os.Started) (H : Type) (enc : TypeId × Value → H) :
    ReturnsInHanded {} Try.checked os 4 .any (Rows.wireBackSpec.pre6 enc Try.prog Try.f4 Rows.wireBackRow.domain false) (Rows.wireBackSpec.post enc Try.prog Try.f4 false true false false) := by
  refine returnsInHanded_of_change (C := Try.checked) own started (by kernel_rfl) Try.func4
    (ChangeSpec.witness6 (enc := enc) (C := Try.checked) false ⟨#[], #[.slice none 0 0], []⟩ 8 (by kernel_rfl) (by kernel_rfl) (by kernel_rfl) (by kernel_rfl)) ?_
  intro W base args ds gs before hval0 hW hcnd _
  have hval : ∀ (j : Nat) t v, Try.f4.params[j]? = some t → args[j]? = some v → Value.okWide Try.prog W .any base t v := hval0
  have hW' := hW
  obtain ⟨p, q, hA0, hV, rfl, hfz, hnd⟩ := hW
  have hA : DataW.TrodAll enc Try.prog W 0 (fun _ => true) true Try.f4.params.toList args.toList ds p := hA0
  have hAk := hA
  rw [Try.params4] at hA hval
  obtain ⟨v0, d0, rfl, rfl, h0⟩ := trodAll_one hA
  obtain ⟨rfl, rfl⟩ := trodVars_none hV
  have o0 := hval 0 33 v0 rfl rfl
  obtain ⟨A, n, c, D, N, rfl, hc, hm, hd⟩ := open_pairs Try.underlying33 Try.underlying35 (by kernel_rfl) (by kernel_rfl) Try.underlying5 Try.underlying23 o0 h0
  have ha : Parts W (.slice A n c) n (fun j => (D j).toNat) (fun j => (N j).toNat) := ⟨A, c, rfl, hc, hm, fun h => by
    obtain ⟨ad, e1, e2, e3⟩ := hd h
    refine ⟨ad, e1, fun j hj => ?_⟩
    obtain ⟨g1, g2, g3, g4⟩ := e3 j hj
    simp [Lit.wf, IntKind.min, IntKind.max, IntKind.signed, IntKind.bits] at g3 g4
    show W.cell? (ad.add (j * 2)) = some (.int .u8 ((D j).toNat : Int)) ∧ W.cell? (ad.add (j * 2 + 1)) = some (.int .u64 ((N j).toNat : Int)) ∧ (D j).toNat < 256 ∧ (N j).toNat < 18446744073709551616
    refine ⟨?_, ?_, by omega, by omega⟩
    · rw [g1]; congr 2; omega
    · rw [g2]; congr 2; omega⟩
  have fin : Ret Try.prog 4 #[.slice A n c] W fun v' w' => v' = .bool true ∧ Ch Nw W w' := by
    by_cases hb : n = 0 ∨ 100 < n
    · exact back_out _ n _ _ W ha hb
    · exact back_any _ n _ _ W (by omega) (by omega) ha
  refine fin.calls.mono fun e W' ⟨v, he, hv, hc⟩ => ?_
  subst he; subst hv
  exact ⟨_, rfl, post_law laidOut hW' hAk rfl (by kernel_rfl) (by kernel_rfl) Try.underlying4 rfl rfl hc.below⟩

theorem wireBack_holds : Rows.WireBackSaid :=
  OpenClaim.holds_of_wide 4 Try.f4 rfl rfl rfl rfl rfl rfl rfl ⟨rfl, rfl, rfl, rfl, rfl⟩ rfl rfl rfl rfl rfl (by kernel_rfl) Try.func4 (by kernel_rfl)
    (of_decide_eq_true (by kernel_rfl)) (by unfold Func.isWrapper; first | (rw [if_pos (by decide +kernel)]; kernel_rfl) | (rw [if_neg (by decide +kernel)]; exact ⟨rfl, rfl⟩))
    (fun os started H enc _ => back_lifted os started H enc)
#print axioms wireBack_holds
end Go.Proofs.Ytbodlpncejhliaa
