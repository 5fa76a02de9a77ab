/- Which inodes may be, by the document; an inode's bytes, the program's and the document's. Condition: the variable ptr.wide holds what the text lays. -/
import Derived.Test.YtnefdmbdkljifaaDoorInB
set_option linter.unusedSimpArgs false
set_option linter.unusedVariables false

namespace Go.Proofs.YtnefdmbdkljifaaDoor
open Go.RowKit Go.Kin

theorem rimay_any (x : In) (w : World) (ok : InOk x) : Ret Tryd.prog 22 #[.agg (ino x)] w fun v' w' => v' = .bool (mayI x) ∧ Ch Nw w w' := by
  refine v_enter Tryd.func22 Tryd.ntmps22 rfl (by simp) fun R' hR => ?_
  have hs := ino_size ok
  have ha := ino_all ok
  have hr := ino_r ok
  have heq := fun w => eq_rino w ok inz_ok
  have heqp := fun w => eq_pt w ok.r ptz_ok
  have c1 := (Ch.refl Nw w).alloc (.cells (ino x) 41)
  have hbeq : ∀ a b : Nat, ((a : Int) == (b : Int)) = eqb a b := fun a b => by
    by_cases h : a = b
    · simp [h, eqb]
    · rw [beq_false_of_ne (by omega), eqb_f h]
  have hb2 : ∀ a : Nat, ((a : Int) == 2) = eqb a 2 := fun a => hbeq a 2
  have hb3 : ∀ a : Nat, ((a : Int) == 3) = eqb a 3 := fun a => hbeq a 3
  by_cases hz : x = inz
  · subst hz
    simp [go_sem, hs, ha, bld_rino0, heq]
    exact hR _ _ ⟨by rw [show mayI inz = true by decide], c1⟩
  by_cases k1 : x.k < 1
  · have k1' : (x.k : Int) < 1 := by omega
    simp [go_sem, hs, ha, bld_rino0, heq, hz, ino_k, k1']
    exact hR _ _ ⟨by simp [mayI, show x.k = 0 by omega, hz], c1⟩
  have k1' : ¬ (x.k : Int) < 1 := by omega
  by_cases k3 : 3 < x.k
  · have k3' : (3 : Int) < x.k := by omega
    simp [go_sem, hs, ha, bld_rino0, heq, hz, ino_k, k1', k3']
    exact hR _ _ ⟨by simp [mayI, show ¬ x.k = 0 by omega, show ¬ x.k = 3 by omega, show ¬ x.k = 1 by omega, show ¬ x.k = 2 by omega], c1⟩
  have k3' : ¬ (3 : Int) < x.k := by omega
  by_cases s3 : 32768 < x.s
  · have s3' : (32768 : Int) < x.s := by omega
    simp [go_sem, hs, ha, bld_rino0, heq, hz, ino_k, ino_s, k1', k3', s3']
    exact hR _ _ ⟨by simp [mayI, show ¬ x.k = 0 by omega, show ¬ x.s ≤ 128 by omega, show ¬ x.s ≤ 32768 by omega], c1⟩
  have s3' : ¬ (32768 : Int) < x.s := by omega
  by_cases k : x.k = 3
  · have q3 := eqb_t k
    by_cases s1 : x.s < 1
    · have s1' : (x.s : Int) < 1 := by omega
      simp [go_sem, hs, ha, bld_rino0, heq, hz, ino_k, ino_s, k1', k3', s3', hb3, q3, s1']
      exact hR _ _ ⟨by simp [mayI, k, show x.s = 0 by omega], c1⟩
    have s1' : ¬ (x.s : Int) < 1 := by omega
    by_cases s2 : 128 < x.s
    · have s2' : (128 : Int) < x.s := by omega
      simp [go_sem, hs, ha, bld_rino0, heq, hz, ino_k, ino_s, k1', k3', s3', hb3, q3, s1', s2']
      exact hR _ _ ⟨by simp [mayI, k, show ¬ x.s ≤ 128 by omega], c1⟩
    have s2' : ¬ (128 : Int) < x.s := by omega
    have hm : mayI x = rootB x.r := by simp [mayI, k, show x.s ≠ 0 by omega, show x.s ≤ 128 by omega]
    by_cases hrz : x.r = ptz
    · rw [hrz] at hr heqp
      simp [go_sem, hs, ha, bld_rino0, heq, hz, ino_k, ino_s, k1', k3', s3', hb3, q3, s1', s2', hr, bld_pt0, heqp, hrz]
      exact hR _ _ ⟨by rw [hm]; simp [rootB, hrz], c1⟩
    · by_cases h3 : x.r.k = 3
      · have g3 := eqb_t h3
        by_cases h2 : x.r.l = 2
        · have g2 := eqb_t h2
          simp [go_sem, hs, ha, bld_rino0, heq, hz, ino_k, ino_s, k1', k3', s3', hb3, q3, s1', s2', hr, bld_pt0, heqp, hrz, ino_rk, ino_rl, hb2, hb3, g3, g2]
          refine (rmay_any x.r _ ok.r).mono ?_
          rintro _ w3 ⟨rfl, c3⟩
          rw [mayR_eq _ ok.r]
          simp [go_sem]
          exact hR _ _ ⟨by rw [hm]; simp [rootB, hrz, h3, h2], c1.trans c3⟩
        · have g2 := eqb_f h2
          simp [go_sem, hs, ha, bld_rino0, heq, hz, ino_k, ino_s, k1', k3', s3', hb3, q3, s1', s2', hr, bld_pt0, heqp, hrz, ino_rk, ino_rl, hb2, hb3, g3, g2]
          exact hR _ _ ⟨by rw [hm]; simp [rootB, hrz, h2], c1⟩
      · have g3 := eqb_f h3
        simp [go_sem, hs, ha, bld_rino0, heq, hz, ino_k, ino_s, k1', k3', s3', hb3, q3, s1', s2', hr, bld_pt0, heqp, hrz, ino_rk, hb3, g3]
        exact hR _ _ ⟨by rw [hm]; simp [rootB, hrz, h3], c1⟩
  have q3 := eqb_f k
  have hm : mayI x = rootB x.r := by simp [mayI, k, show x.k ≠ 0 by omega, show x.k = 1 ∨ x.k = 2 by omega, show x.s ≤ 32768 by omega]
  by_cases hrz : x.r = ptz
  · rw [hrz] at hr heqp
    simp [go_sem, hs, ha, bld_rino0, heq, hz, ino_k, ino_s, k1', k3', s3', hb3, q3, hr, bld_pt0, heqp, hrz]
    exact hR _ _ ⟨by rw [hm]; simp [rootB, hrz], c1⟩
  · by_cases h3 : x.r.k = 3
    · have g3 := eqb_t h3
      by_cases h2 : x.r.l = 2
      · have g2 := eqb_t h2
        simp [go_sem, hs, ha, bld_rino0, heq, hz, ino_k, ino_s, k1', k3', s3', hb3, q3, hr, bld_pt0, heqp, hrz, ino_rk, ino_rl, hb2, hb3, g3, g2]
        refine (rmay_any x.r _ ok.r).mono ?_
        rintro _ w3 ⟨rfl, c3⟩
        rw [mayR_eq _ ok.r]
        simp [go_sem]
        exact hR _ _ ⟨by rw [hm]; simp [rootB, hrz, h3, h2], c1.trans c3⟩
      · have g2 := eqb_f h2
        simp [go_sem, hs, ha, bld_rino0, heq, hz, ino_k, ino_s, k1', k3', s3', hb3, q3, hr, bld_pt0, heqp, hrz, ino_rk, ino_rl, hb2, hb3, g3, g2]
        exact hR _ _ ⟨by rw [hm]; simp [rootB, hrz, h2], c1⟩
    · have g3 := eqb_f h3
      simp [go_sem, hs, ha, bld_rino0, heq, hz, ino_k, ino_s, k1', k3', s3', hb3, q3, hr, bld_pt0, heqp, hrz, ino_rk, hb3, g3]
      exact hR _ _ ⟨by rw [hm]; simp [rootB, hrz, h3], c1⟩

/-- an inode's bytes -/
def putI (x : In) : List UInt8 := [UInt8.ofNat x.k, 0] ++ (le x.n 2 ++ (le x.s 4 ++ (putP x.r ++ zb 56)))
theorem putI_eq (x : In) : putI x = le x.k 1 ++ (zb 1 ++ (le x.n 2 ++ (le x.s 4 ++ (putP x.r ++ zb 56)))) := rfl
theorem putI_length {x : In} (ok : InOk x) : (putI x).length = 128 := by
  rw [putI_eq]
  simp [le_length, putP_length ok.r, zb_length]
end Go.Proofs.YtnefdmbdkljifaaDoor
