/- What the document's answers for wire compute (Num, Fill, the Reader by value), as contracts on calls. No condition but on sizes. -/
import Derived.Test.YtmhnlgndgdmebaaWireC
namespace Go.Proofs.Ytmhnlgndgdmebaa
open Go.RowKit Go.Kin

theorem refNum (n wide : Nat) (w : World) (hn : n < 18446744073709551616) (hw : wide ≤ 8) :
    Ret Try.prog 55 #[.int .u64 n, .int .i64 wide] w fun v' w' => w'.ownsRow 0 5 1 v' wide (bvs (le n wide)) ∧ Ch Nw w w' ∧ Fresh w.heap.size v' := by
  refine v_enter Try.func55 Try.ntmps55 rfl (by simp) fun R' hR => ?_
  simp [go_sem]
  refine v_loop (fun r f wr => ∃ k y : Nat, k ≤ wide ∧ r = wide - k ∧ y = n / 256 ^ k ∧ f 1 = .int .i64 wide ∧ f 6 = .int .i64 k ∧ f 0 = .int .u64 y ∧ Onto w (.slice none 0 0) 0 [] k (le n k) (f 5) wr) wide
    ⟨0, n, Nat.zero_le _, rfl, by simp, by simp, by simp, by simp, Onto.refl (World.ownsRow_nil _ _ _ _)⟩ ?_
  rintro J hJ _ f wr ⟨k, y, hk, rfl, hy, h1, h6, h0, ho⟩
  have hy2 : y < 18446744073709551616 := by rw [hy]; exact Nat.lt_of_le_of_lt (Nat.div_le_self _ _) hn
  have hy3 : y / 256 = n / 256 ^ (k + 1) := by rw [hy, Nat.div_div_eq_div_mul, Nat.pow_succ]
  have hle := le_succ n k
  rw [← hy] at hle
  simp [go_sem, h1, h6]
  refine VIf_dec (fun hlt => ?_) (fun hge => ?_)
  · simp [go_sem, h0]
    refine VB_app1 tyB ho.1 rfl (by unfold maxLen; omega) (by omega) fun v' w' k1 k2 k3 => ?_
    simp [go_sem, h6, h0]
    refine Rnd.intro (wide - (k + 1)) (by omega) (hJ _ _ _ ⟨k + 1, y / 256, by omega, rfl, hy3, by simpa using h1, by simp [IntKind.wrap_i64]; omega, ?_, ?_⟩)
    · simp [IntKind.wrap_u64]; omega
    · rw [hle]
      exact ho.one (by rw [bv_ofNat]; simp [IntKind.wrap_u8, Int.tmod_eq_emod_of_nonneg]) k1 k2 k3
  · simp [go_sem]
    obtain rfl : k = wide := by omega
    obtain ⟨o1, o2, o3⟩ := ho
    refine hR _ _ ⟨by simpa using o1, o2.mono fun j _ e => by simp [Value.ownBlock] at e, ?_⟩
    rcases o3 with o3 | o3
    · intro j hj; rw [o3] at hj; simp [Value.ownBlock] at hj
    · exact o3

end Go.Proofs.Ytmhnlgndgdmebaa
