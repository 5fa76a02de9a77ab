/- WireReads answers true for every input: whatever bytes, and whatever is asked of them, each answer is what the document says. No condition. -/
import Derived.Test.YtbodlpncejhliaaRows
import Derived.Test.YtbodlpncejhliaaReadsB
import Derived.Test.YtbodlpncejhliaaRow
import Derived.ProofKit
namespace Go.Proofs.Ytbodlpncejhliaa
open Go.ChangeShapes Go.WideShapes Go.ChangeAt Go.RowKit Go.Kin

theorem own : ownKnob Try.prog.godebug = none := by kernel_rfl
theorem laidOut : laidOutB Try.prog = true := by kernel_rfl

theorem reads_out (v u : Value) (l : List UInt8) (n : Nat) (D N : Nat → Int) (w : World) (hs : Sl w v l.length (bvs l)) (ha : Asks w u n D N) (h : 1000 < l.length ∨ 100 < n) :
    Ret Try.prog 5 #[v, u] w fun v' w' => v' = .bool true ∧ Ch Nw w w' := by
  have hlen := hs.len Try.underlying22 3
  have hlen2 := asks_len ha
  have fin : ∀ w, Ret Try.prog 7 #[] w fun v' w' => v' = .bool true ∧ Ch Nw w w' := wakes_any
  refine v_enter Try.func5 Try.ntmps5 rfl (by simp) fun R' hR => ?_
  by_cases h1 : (1000 : Int) < (l.length : Int)
  · simp [go_sem, hlen, hlen2, h1]
    refine (fin w).mono ?_
    rintro _ wd ⟨rfl, hd⟩
    simp [go_sem]
    exact hR _ _ ⟨rfl, hd⟩
  · have h2 : (100 : Int) < (n : Int) := by omega
    simp [go_sem, hlen, hlen2, h1, h2]
    refine (fin w).mono ?_
    rintro _ wd ⟨rfl, hd⟩
    simp [go_sem]
    exact hR _ _ ⟨rfl, hd⟩

set_option maxRecDepth 100000 in
theorem reads_lifted (os : Os) (started : os.Started) (H : Type) (enc : TypeId × Value → H) :
    ReturnsInHanded {} Try.checked os 5 .any (Rows.wireReadsSpec.pre6 enc Try.prog Try.f5 Rows.wireReadsRow.domain false) (Rows.wireReadsSpec.post enc Try.prog Try.f5 false true false false) := by
  refine returnsInHanded_of_change (C := Try.checked) own started (by kernel_rfl) Try.func5
    (ChangeSpec.witness6 (enc := enc) (C := Try.checked) false ⟨#[], #[.slice none 0 0, .slice none 0 0], []⟩ 8 (by kernel_rfl) (by kernel_rfl) (by kernel_rfl) (by kernel_rfl)) ?_
  intro W base args ds gs before hval0 hW hcnd _
  have hval : ∀ (j : Nat) t v, Try.f5.params[j]? = some t → args[j]? = some v → Value.okWide Try.prog W .any base t v := hval0
  have hW' := hW
  obtain ⟨p, q, hA0, hV, rfl, hfz, hnd⟩ := hW
  have hA : DataW.TrodAll enc Try.prog W 0 (fun _ => true) true Try.f5.params.toList args.toList ds p := hA0
  have hAk := hA
  rw [Try.params5] at hA hval
  obtain ⟨v0, v1, d0, d1, p0, p1, rfl, rfl, rfl, h0, h1⟩ := trodAll_two hA
  obtain ⟨rfl, rfl⟩ := trodVars_none hV
  have o0 := hval 0 22 v0 rfl rfl
  have o1 := hval 1 46 v1 rfl rfl
  obtain ⟨l, hl⟩ := open_bytes Try.underlying22 Try.underlying5 (by kernel_rfl) o0 h0
  obtain ⟨A, n, c, D, N, rfl, hc, hm, hd⟩ := open_pairs Try.underlying46 Try.underlying52 (by kernel_rfl) (by kernel_rfl) Try.underlying5 Try.underlying3 o1 h1
  have ha : Asks W (.slice A n c) n D N := ⟨A, c, rfl, hc, hm, fun h => by
    obtain ⟨ad, e1, e2, e3⟩ := hd h
    refine ⟨ad, e1, e2, fun j hj => ?_⟩
    obtain ⟨g1, g2, g3, g4⟩ := e3 j hj
    refine ⟨g1, g2, ?_⟩
    simp [Lit.wf, IntKind.min, IntKind.max, IntKind.signed, IntKind.bits] at g4
    omega⟩
  have fin : Ret Try.prog 5 #[v0, .slice A n c] W fun v' w' => v' = .bool true ∧ Ch Nw W w' := by
    by_cases hb : 1000 < l.length ∨ 100 < n
    · exact reads_out v0 _ l n D N W hl ha hb
    · exact reads_any v0 _ l n D N W (by omega) (by omega) hl ha (own_lt Try.underlying22 o0)
  refine fin.calls.mono fun e W' ⟨v, he, hv, hc⟩ => ?_
  subst he; subst hv
  exact ⟨_, rfl, post_law laidOut hW' hAk rfl (by kernel_rfl) (by kernel_rfl) Try.underlying4 rfl rfl hc.below⟩

theorem wireReads_holds : Rows.WireReadsSaid :=
  OpenClaim.holds_of_wide 5 Try.f5 rfl rfl rfl rfl rfl rfl rfl ⟨rfl, rfl, rfl, rfl, rfl⟩ rfl rfl rfl rfl rfl (by kernel_rfl) Try.func5 (by kernel_rfl)
    (of_decide_eq_true (by kernel_rfl)) (by unfold Func.isWrapper; first | (rw [if_pos (by decide +kernel)]; kernel_rfl) | (rw [if_neg (by decide +kernel)]; exact ⟨rfl, rfl⟩))
    (fun os started H enc _ => reads_lifted os started H enc)
#print axioms wireReads_holds
end Go.Proofs.Ytbodlpncejhliaa
