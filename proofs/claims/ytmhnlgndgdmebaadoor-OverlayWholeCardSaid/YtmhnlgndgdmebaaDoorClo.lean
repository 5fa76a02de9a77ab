/- slices.Clone at bytes. No condition but on sizes. -/
import Derived.Test.YtmhnlgndgdmebaaDoorChecked
import Derived.Test.YtmhnlgndgdmebaaDoorVee
namespace Go.Proofs.YtmhnlgndgdmebaaDoor
open Go.RowKit Go.Kin

theorem tyB : Ty1 Tryd.prog 73 5 (.int .u8 0) 1 := ⟨Tryd.underlying73, by kernel_rfl, rfl⟩

/-- slices.Clone at bytes: a row of the call's own. -/
theorem clone_any (v : Value) (n : Nat) (xs : List UInt8) (w : World) (hn : n ≤ 1000000000) (hx : xs.length = n) (hs : Sl w v n (bvs xs)) :
    Ret Tryd.prog 41 #[v] w fun v' w' => w'.ownsRow 0 5 1 v' n (bvs xs) ∧ Ch Nw w w' ∧ Fresh w.heap.size v' := by
  refine v_enter Tryd.func41 Tryd.ntmps41 rfl (by simp) fun R' hR => ?_
  obtain ⟨A, c, rfl, h1, h2, h3⟩ := id hs
  cases A with
  | none =>
    have hne : n = 0 := by
      rcases Nat.eq_zero_or_pos n with h | h
      · exact h
      · obtain ⟨ad, h', _⟩ := h3 (by rw [bvs_length]; omega)
        cases h'
    subst hne
    obtain rfl : xs = [] := List.eq_nil_of_length_eq_zero hx
    have hb := fun w => Lib.run_eql_slice_nil (P := Tryd.prog) w 73 5 none 0 c 0 0 Tryd.underlying73
    simp [go_sem, hb]
    exact hR _ _ ⟨World.ownsRow_nil _ _ _ _, Ch.refl _ _, fun k hk => by simp [Value.ownBlock] at hk⟩
  | some ad =>
    have hb := fun w => Lib.run_eql_slice_nil (P := Tryd.prog) w 73 5 (some ad) n c 0 0 Tryd.underlying73
    simp [go_sem, hb]
    refine VB_appn tyB (World.ownsRow_made w #[] 0 (Nat.zero_le _) (Nat.zero_le _) rfl) (hs.alloc _) (by rw [bvs_length]; exact hx) (bvs_one _) (by unfold maxLen; omega) (by omega) fun v' w' k1 k2 k3 => ?_
    simp [go_sem]
    refine hR _ _ ⟨by simpa using k1, ((Ch.refl Nw w).alloc _).trans' k2 fun j hj e => ?_, ?_⟩
    · simp [Value.ownBlock] at e; omega
    · rcases k3 with k3 | k3
      · intro k hk
        rw [k3] at hk
        simp [Value.ownBlock] at hk
        omega
      · exact k3.mono (by simp)
end Go.Proofs.YtmhnlgndgdmebaaDoor
