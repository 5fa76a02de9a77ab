/- Which inodes may be: the program's answer, and the document's. Condition: the variable ptr.wide holds what the text lays. -/
import Derived.Test.YtnefdmbdkljifaaDoorInA
set_option linter.unusedSimpArgs false
set_option linter.unusedVariables false

namespace Go.Proofs.YtnefdmbdkljifaaDoor
open Go.RowKit Go.Kin

theorem imay_any (x : In) (w : World) (ok : InOk x) (hw : Lw w) : Ret Tryd.prog 20 #[.agg (ino x)] w fun v' w' => v' = .bool (mayI x) ∧ Ch Nw w w' := by
  refine v_enter Tryd.func20 Tryd.ntmps20 rfl (by simp) fun R' hR => ?_
  have hs := ino_size ok
  have ha := ino_all ok
  have hr := ino_r ok
  have hsp := pt_size ok.r
  have hap := pt_all ok.r
  have heq := fun w => eq_ino w ok inz_ok
  have heqp := fun w => eq_pt w ok.r ptz_ok
  have heqz := fun w => eq_pt w ptz_ok ptz_ok
  have c1 := (Ch.refl Nw w).alloc (.cells (ino x) 49)
  have hbeq : ∀ a b : Nat, ((a : Int) == (b : Int)) = eqb a b := fun a b => by
    by_cases h : a = b
    · simp [h, eqb]
    · rw [beq_false_of_ne (by omega), eqb_f h]
  have hb0 : ∀ a : Nat, ((a : Int) == 0) = eqb a 0 := fun a => hbeq a 0
  have hb1 : ∀ a : Nat, ((a : Int) == 1) = eqb a 1 := fun a => hbeq a 1
  have hb2 : ∀ a : Nat, ((a : Int) == 2) = eqb a 2 := fun a => hbeq a 2
  have hb3 : ∀ a : Nat, ((a : Int) == 3) = eqb a 3 := fun a => hbeq a 3
  simp [go_sem, ino_k]
  have b0 := hp_alloc w (.cells (ino x) 49)
  revert b0 c1
  generalize w.alloc (.cells (ino x) 49) = w1
  generalize w.heap.size = g
  intro c1 b0
  have e2 := (cell_blk b0 2).trans ino_s
  have hw1 := hw.ch c1 id
  by_cases k0 : x.k = 0
  · have q0 := eqb_t k0
    simp [go_sem, hb0, q0, b0, hs, ha, bld_ino0, heq]
    exact hR _ _ ⟨by simp [mayI, k0], c1⟩
  have q0 := eqb_f k0
  by_cases k3 : x.k = 3
  · have q3 := eqb_t k3
    by_cases s0 : x.s = 0
    · have qs := eqb_t s0
      simp [go_sem, hb0, hb3, q0, q3, qs, e2]
      exact hR _ _ ⟨by simp [mayI, k3, s0], c1⟩
    have qs := eqb_f s0
    have hm : mayI x = (decide (x.s ≤ 128) && rootB x.r) := by simp [mayI, k3, s0]
    have c2 := c1.alloc (.cells (pt x.r) 39)
    have e2c := fun o => ((Ch.refl Nw w1).alloc o).cell e2 id
    have b2 := hp_alloc w1 (.cells (pt x.r) 39)
    by_cases hle : x.s ≤ 128
    · have hle' : (x.s : Int) ≤ 128 := by omega
      by_cases hz : x.r = ptz
      · simp [go_sem, hb0, hb3, q0, q3, qs, e2, e2c, b0, hs, hr, hz_pt, zc_pt, pt_size ptz_ok, hsp, blit_whole, hle', hap, pt_all ptz_ok, bld_pt0, heqp, heqz, hz]
        try rw [hz] at c2
        exact hR _ _ ⟨by rw [hm]; simp [hle, rootB, hz], c2⟩
      · simp [go_sem, hb0, hb3, q0, q3, qs, e2, e2c, b0, hs, hr, hz_pt, zc_pt, pt_size ptz_ok, hsp, blit_whole, hle', hap, pt_all ptz_ok, bld_pt0, heqp, heqz, hz]
        refine (may_any x.r _ ok.r (hw.ch c2 id)).mono ?_
        rintro _ w3 ⟨rfl, c3⟩
        have b3 := c3.hp b2 id
        have d0 := (cell_blk b3 0).trans pt_k
        have d1 := (cell_blk b3 1).trans pt_l
        cases hmy : mayP x.r
        · simp [go_sem]
          exact hR _ _ ⟨by rw [hm]; simp [rootB, hz, hmy], c2.trans c3⟩
        · by_cases h3 : x.r.k = 3
          · have g3 := eqb_t h3
            by_cases h2 : x.r.l = 2
            · have g2 := eqb_t h2
              simp [go_sem, d0, d1, hb3, hb2, g3, g2]
              exact hR _ _ ⟨by rw [hm]; simp [hle, rootB, hmy, h3, h2], c2.trans c3⟩
            · have g2 := eqb_f h2
              simp [go_sem, d0, d1, hb3, hb2, g3, g2]
              exact hR _ _ ⟨by rw [hm]; simp [rootB, hz, h2], c2.trans c3⟩
          · have g3 := eqb_f h3
            simp [go_sem, d0, hb3, g3]
            exact hR _ _ ⟨by rw [hm]; simp [rootB, hz, h3], c2.trans c3⟩
    · have hle' : ¬ (x.s : Int) ≤ 128 := by omega
      simp [go_sem, hb0, hb3, q0, q3, qs, e2, e2c, b0, hs, hr, hz_pt, zc_pt, pt_size ptz_ok, hsp, blit_whole, hle']
      exact hR _ _ ⟨by rw [hm]; simp [hle], c2⟩
  have q3 := eqb_f k3
  by_cases k1 : x.k = 1
  · have q1 := eqb_t k1
    have hm : mayI x = (decide (x.s ≤ 32768) && rootB x.r) := by simp [mayI, k1]
    have c2 := c1.alloc (.cells (pt x.r) 39)
    have e2c := fun o => ((Ch.refl Nw w1).alloc o).cell e2 id
    have b2 := hp_alloc w1 (.cells (pt x.r) 39)
    by_cases hle : x.s ≤ 32768
    · have hle' : (x.s : Int) ≤ 32768 := by omega
      by_cases hz : x.r = ptz
      · simp [go_sem, hb0, hb1, hb3, q0, q1, q3, e2, e2c, b0, hs, hr, hz_pt, zc_pt, pt_size ptz_ok, hsp, blit_whole, hle', hap, pt_all ptz_ok, bld_pt0, heqp, heqz, hz]
        try rw [hz] at c2
        exact hR _ _ ⟨by rw [hm]; simp [hle, rootB, hz], c2⟩
      · simp [go_sem, hb0, hb1, hb3, q0, q1, q3, e2, e2c, b0, hs, hr, hz_pt, zc_pt, pt_size ptz_ok, hsp, blit_whole, hle', hap, pt_all ptz_ok, bld_pt0, heqp, heqz, hz]
        refine (may_any x.r _ ok.r (hw.ch c2 id)).mono ?_
        rintro _ w3 ⟨rfl, c3⟩
        have b3 := c3.hp b2 id
        have d0 := (cell_blk b3 0).trans pt_k
        have d1 := (cell_blk b3 1).trans pt_l
        cases hmy : mayP x.r
        · simp [go_sem]
          exact hR _ _ ⟨by rw [hm]; simp [rootB, hz, hmy], c2.trans c3⟩
        · by_cases h3 : x.r.k = 3
          · have g3 := eqb_t h3
            by_cases h2 : x.r.l = 2
            · have g2 := eqb_t h2
              simp [go_sem, d0, d1, hb3, hb2, g3, g2]
              exact hR _ _ ⟨by rw [hm]; simp [hle, rootB, hmy, h3, h2], c2.trans c3⟩
            · have g2 := eqb_f h2
              simp [go_sem, d0, d1, hb3, hb2, g3, g2]
              exact hR _ _ ⟨by rw [hm]; simp [rootB, hz, h2], c2.trans c3⟩
          · have g3 := eqb_f h3
            simp [go_sem, d0, hb3, g3]
            exact hR _ _ ⟨by rw [hm]; simp [rootB, hz, h3], c2.trans c3⟩
    · have hle' : ¬ (x.s : Int) ≤ 32768 := by omega
      simp [go_sem, hb0, hb1, hb3, q0, q1, q3, e2, e2c, b0, hs, hr, hz_pt, zc_pt, pt_size ptz_ok, hsp, blit_whole, hle']
      exact hR _ _ ⟨by rw [hm]; simp [hle], c2⟩
  have q1 := eqb_f k1
  by_cases k2 : x.k = 2
  · have q2 := eqb_t k2
    have hm : mayI x = (decide (x.s ≤ 32768) && rootB x.r) := by simp [mayI, k2]
    have c2 := c1.alloc (.cells (pt x.r) 39)
    have e2c := fun o => ((Ch.refl Nw w1).alloc o).cell e2 id
    have b2 := hp_alloc w1 (.cells (pt x.r) 39)
    by_cases hle : x.s ≤ 32768
    · have hle' : (x.s : Int) ≤ 32768 := by omega
      by_cases hz : x.r = ptz
      · simp [go_sem, hb0, hb1, hb2, hb3, q0, q1, q2, q3, e2, e2c, b0, hs, hr, hz_pt, zc_pt, pt_size ptz_ok, hsp, blit_whole, hle', hap, pt_all ptz_ok, bld_pt0, heqp, heqz, hz]
        try rw [hz] at c2
        exact hR _ _ ⟨by rw [hm]; simp [hle, rootB, hz], c2⟩
      · simp [go_sem, hb0, hb1, hb2, hb3, q0, q1, q2, q3, e2, e2c, b0, hs, hr, hz_pt, zc_pt, pt_size ptz_ok, hsp, blit_whole, hle', hap, pt_all ptz_ok, bld_pt0, heqp, heqz, hz]
        refine (may_any x.r _ ok.r (hw.ch c2 id)).mono ?_
        rintro _ w3 ⟨rfl, c3⟩
        have b3 := c3.hp b2 id
        have d0 := (cell_blk b3 0).trans pt_k
        have d1 := (cell_blk b3 1).trans pt_l
        cases hmy : mayP x.r
        · simp [go_sem]
          exact hR _ _ ⟨by rw [hm]; simp [rootB, hz, hmy], c2.trans c3⟩
        · by_cases h3 : x.r.k = 3
          · have g3 := eqb_t h3
            by_cases h2 : x.r.l = 2
            · have g2 := eqb_t h2
              simp [go_sem, d0, d1, hb3, hb2, g3, g2]
              exact hR _ _ ⟨by rw [hm]; simp [hle, rootB, hmy, h3, h2], c2.trans c3⟩
            · have g2 := eqb_f h2
              simp [go_sem, d0, d1, hb3, hb2, g3, g2]
              exact hR _ _ ⟨by rw [hm]; simp [rootB, hz, h2], c2.trans c3⟩
          · have g3 := eqb_f h3
            simp [go_sem, d0, hb3, g3]
            exact hR _ _ ⟨by rw [hm]; simp [rootB, hz, h3], c2.trans c3⟩
    · have hle' : ¬ (x.s : Int) ≤ 32768 := by omega
      simp [go_sem, hb0, hb1, hb2, hb3, q0, q1, q2, q3, e2, e2c, b0, hs, hr, hz_pt, zc_pt, pt_size ptz_ok, hsp, blit_whole, hle']
      exact hR _ _ ⟨by rw [hm]; simp [hle], c2⟩
  have q2 := eqb_f k2
  simp [go_sem, hb0, hb1, hb2, hb3, q0, q1, q2, q3]
  exact hR _ _ ⟨by simp [mayI, k0, k1, k2, k3], c1⟩
end Go.Proofs.YtnefdmbdkljifaaDoor
