/- InodeLeaves, walked. Conditions: the variables ptr.wide and inode.leaves hold what the text lays. -/
import Derived.Test.YtfcoiboeohgimaaDoorInW
namespace Go.Proofs.YtfcoiboeohgimaaDoor
open Go.RowKit Go.Kin

theorem inodeLeaves_any (k s : Nat) (w : World) (hk : k < 256) (hs : s < 4294967296) (hw : Lw w) (hl : Ll w) : Ret Tryd.prog 8 #[.int .u8 k, .int .u32 s] w fun v' w' => v' = .bool true ∧ Ch Nw w w' := by
  refine v_enter Tryd.func8 Tryd.ntmps8 rfl (by simp) fun R' hR => ?_
  have hbeq : ∀ a b : Nat, ((a : Int) == (b : Int)) = eqb a b := fun a b => by
    by_cases h : a = b
    · simp [h, eqb]
    · rw [beq_false_of_ne (by omega), eqb_f h]
  have hb1 : ∀ a : Nat, ((a : Int) == 1) = eqb a 1 := fun a => hbeq a 1
  have hb2 : ∀ a : Nat, ((a : Int) == 2) = eqb a 2 := fun a => hbeq a 2
  have hb3 : ∀ a : Nat, ((a : Int) == 3) = eqb a 3 := fun a => hbeq a 3
  have u1 : IntKind.i64.wrap (s : Int) = s := by rw [IntKind.wrap_i64]; omega
  have u2 : IntKind.i64.wrap (512 * (((s + 511) / 512 : Nat) : Int)) = 512 * (((s + 511) / 512 : Nat) : Int) := by rw [IntKind.wrap_i64]; omega
  have u3 : IntKind.i64.wrap ((s : Int) + 512) = s + 512 := by rw [IntKind.wrap_i64]; omega
  have g1 : (s : Int) ≤ 512 * (((s + 511) / 512 : Nat) : Int) := by omega
  have g2 : 512 * (((s + 511) / 512 : Nat) : Int) < (s : Int) + 512 := by omega
  have tail : ∀ (x : Value) (hx : x = .int .u8 (leafN k)), True := fun _ _ => trivial
  generalize hC : ((s + 511) / 512 : Nat) = C at u2 g1 g2
  by_cases k1 : k = 1
  · have q1 := eqb_t k1
    have q2 := eqb_f (a := k) (b := 2) (by omega)
    have q3 := eqb_f (a := k) (b := 3) (by omega)
    simp [go_sem, hb1, hb2, hb3, q1, q2, q3]
    refine (count_any s w hs).mono ?_
    rintro _ _ ⟨rfl, rfl⟩
    rw [hC]
    simp [go_sem]
    refine (leaf_any k _ hk hl).mono ?_
    rintro _ _ ⟨rfl, rfl⟩
    simp [go_sem, leafN, k1, u1, u2, u3, g1, g2]
    refine (iwakes_any _ hw hl).mono ?_
    rintro _ w2 ⟨rfl, c2⟩
    simp [go_sem]
    exact hR _ _ ⟨rfl, c2⟩
  · have q1 := eqb_f k1
    by_cases k2 : k = 2
    · have q2 := eqb_t k2
      simp [go_sem, hb1, hb2, q1, q2]
      refine (count_any s w hs).mono ?_
      rintro _ _ ⟨rfl, rfl⟩
      rw [hC]
      simp [go_sem]
      refine (leaf_any k _ hk hl).mono ?_
      rintro _ _ ⟨rfl, rfl⟩
      simp [go_sem, leafN, k2, u1, u2, u3, g1, g2]
      refine (iwakes_any _ hw hl).mono ?_
      rintro _ w2 ⟨rfl, c2⟩
      simp [go_sem]
      exact hR _ _ ⟨rfl, c2⟩
    · have q2 := eqb_f k2
      by_cases k3 : k = 3
      · have q3 := eqb_t k3
        simp [go_sem, hb1, hb2, hb3, q1, q2, q3]
        refine (count_any s w hs).mono ?_
        rintro _ _ ⟨rfl, rfl⟩
        rw [hC]
        simp [go_sem]
        refine (leaf_any k _ hk hl).mono ?_
        rintro _ _ ⟨rfl, rfl⟩
        simp [go_sem, leafN, k3, u1, u2, u3, g1, g2]
        refine (iwakes_any _ hw hl).mono ?_
        rintro _ w2 ⟨rfl, c2⟩
        simp [go_sem]
        exact hR _ _ ⟨rfl, c2⟩
      · have q3 := eqb_f k3
        simp [go_sem, hb1, hb2, hb3, q1, q2, q3]
        refine (count_any s w hs).mono ?_
        rintro _ _ ⟨rfl, rfl⟩
        rw [hC]
        simp [go_sem]
        refine (leaf_any k _ hk hl).mono ?_
        rintro _ _ ⟨rfl, rfl⟩
        simp [go_sem, leafN, k1, k2, k3, u1, u2, u3, g1, g2]
        refine (iwakes_any _ hw hl).mono ?_
        rintro _ w2 ⟨rfl, c2⟩
        simp [go_sem]
        exact hR _ _ ⟨rfl, c2⟩
end Go.Proofs.YtfcoiboeohgimaaDoor
