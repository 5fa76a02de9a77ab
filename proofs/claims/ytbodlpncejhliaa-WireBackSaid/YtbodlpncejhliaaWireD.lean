/- The bytes that are known (wakes), and no reader (WireNil), walked. No condition. -/
import Derived.Test.YtbodlpncejhliaaWireC
namespace Go.Proofs.Ytbodlpncejhliaa
open Go.RowKit Go.Kin
theorem wakes_any (w : World) : Ret Try.prog 7 #[] w fun v' w' => v' = .bool true ∧ Ch Nw w w' := by
  refine v_enter Try.func7 Try.ntmps7 rfl (by simp) fun R' hR => ?_
  simp [go_sem]
  have h0 := Sl.lit w 5 [1, 2, 3] 3 rfl (by decide)
  rw [show (bvs [1, 2, 3]).toArray = #[.int .u8 1, .int .u8 2, .int .u8 3] by simp [bvs, bv]] at h0
  have r1 : rawS [1, 2, 3] 0 2 = ([1, 2], [3], 0) := by simp [rawS]
  have r2 : rawS [3] 0 2 = ([], [], 4) := by simp [rawS]
  have e1 : le 258 2 = [2, 1] := by decide
  have e2 : le 1 4 = [1, 0, 0, 0] := by decide
  have e3 : fromLe [1, 2] = 513 := by decide
  refine (new_any _ [1, 2, 3] _ (by decide) (Sl.of_own h0)).mono ?_
  rintro v1 w1 ⟨g, rfl, k1, k2, k3⟩
  simp [go_sem]
  refine (ru16 g _ _ w1 (by decide) k2).mono ?_
  rintro v2 w2 ⟨rfl, b1, b2⟩
  rw [r1] at b1
  simp [go_sem]
  refine (ru16 g _ _ w2 (by decide) b1).mono ?_
  rintro v3 w3 ⟨rfl, c1, c2⟩
  simp only [r2] at c1
  simp [go_sem]
  refine (wu16 (.slice none 0 0) 0 [] 258 w3 (by decide) (by decide) (World.ownsRow_nil _ _ _ _)).mono ?_
  rintro v4 w4 ⟨d1, d2, d3⟩
  have hs := (Sl.of_own d1).str (P := Try.prog) rfl Try.underlying22 Try.underlying5 Try.underlying9
  simp [go_sem, hs, e1]
  refine (wu32 (.slice none 0 0) 0 [] 1 w4 (by decide) (by decide) (World.ownsRow_nil _ _ _ _)).mono ?_
  rintro v5 w5 ⟨f1, f2, f3⟩
  have hs2 := (Sl.of_own f1).str (P := Try.prog) rfl Try.underlying22 Try.underlying5 Try.underlying9
  simp [go_sem, hs2, e2, r1, r2, e3, fromLe]
  have n1 : ∀ {j : Nat}, ¬ (fun j => (Value.slice none 0 0).ownBlock = some j) j := fun {j} h => by simp [Value.ownBlock] at h
  have hc5 : Rdr w5 g [] 4 := by
    obtain ⟨v, x1, x2, x3⟩ := c1
    exact ⟨v, f2.obj (d2.obj x1 n1) n1, (x2.ch d2 fun _ _ => n1).ch f2 fun _ _ => n1, x3⟩
  refine (err_any g [] 4 w5 hc5).mono ?_
  rintro v6 w6 ⟨rfl, rfl⟩
  simp [go_sem]
  refine hR _ _ ⟨rfl, ?_⟩
  have hk : w.heap.size ≤ g := by simp at k1; omega
  refine ((((((Ch.refl Nw w).alloc _).trans k3).trans' b2 ?_).trans' c2 ?_).trans' d2 ?_).trans' f2 ?_
  · intro j hj e; simp only [only] at e; omega
  · intro j hj e; simp only [only] at e; omega
  · intro j hj e; exact (n1 e).elim
  · intro j hj e; exact (n1 e).elim

theorem nil_any (n : Int) (w : World) : Ret Try.prog 6 #[.int .i64 n] w fun v' w' => v' = .bool true ∧ Ch Nw w w' := by
  refine v_enter Try.func6 Try.ntmps6 rfl (by simp) fun R' hR => ?_
  simp [go_sem]
  refine (noughts_nil n w).mono ?_
  rintro _ _ ⟨rfl, rfl⟩
  simp [go_sem]
  refine (bad_nil _).mono ?_
  rintro _ _ ⟨rfl, rfl⟩
  simp [go_sem]
  refine (ru8_nil _).mono ?_
  rintro _ _ ⟨rfl, rfl⟩
  simp [go_sem]
  refine (ru16_nil _).mono ?_
  rintro _ _ ⟨rfl, rfl⟩
  simp [go_sem]
  refine (ru32_nil _).mono ?_
  rintro _ _ ⟨rfl, rfl⟩
  simp [go_sem]
  refine (ru64_nil _).mono ?_
  rintro _ _ ⟨rfl, rfl⟩
  simp [go_sem]
  refine (raw_nil n _).mono ?_
  rintro _ _ ⟨rfl, rfl⟩
  simp [go_sem]
  refine (left_nil _).mono ?_
  rintro _ _ ⟨rfl, rfl⟩
  simp [go_sem]
  refine (err_nil _).mono ?_
  rintro _ _ ⟨rfl, rfl⟩
  simp [go_sem]
  refine (end_nil _).mono ?_
  rintro _ _ ⟨rfl, rfl⟩
  simp [go_sem]
  refine (wakes_any _).mono ?_
  rintro v' w' ⟨rfl, hc⟩
  simp [go_sem]
  exact hR _ _ ⟨rfl, hc⟩
end Go.Proofs.Ytbodlpncejhliaa
