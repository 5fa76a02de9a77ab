/- Whether a pointer may be, by the document, as a contract on the call. No condition but that the values are of their types. -/
import Derived.Test.YtfcoiboeohgimaaDoorPtD
namespace Go.Proofs.YtfcoiboeohgimaaDoor
open Go.RowKit Go.Kin

def eqb (a b : Nat) : Bool := decide (a = b)
theorem eqb_t {a b : Nat} (h : a = b) : eqb a b = true := decide_eq_true h
theorem eqb_f {a b : Nat} (h : a ≠ b) : eqb a b = false := decide_eq_false h
set_option maxHeartbeats 2000000 in
theorem rmay_any (p : Pt) (w : World) (ok : PtOk p) : Ret Tryd.prog 35 #[.agg (pt p)] w fun v' w' => v' = .bool (mayR p) ∧ Ch Nw w w' := by
  obtain ⟨a0, a1, a2, a3, ha, _⟩ := a4 ok
  refine v_enter Tryd.func35 Tryd.ntmps35 rfl (by simp) fun R' hR => ?_
  have c0 := pt_a ok (i := 0) (x := a0) (by rw [ha]; rfl)
  have c1 := pt_a ok (i := 1) (x := a1) (by rw [ha]; rfl)
  have c2 := pt_a ok (i := 2) (x := a2) (by rw [ha]; rfl)
  have c3 := pt_a ok (i := 3) (x := a3) (by rw [ha]; rfl)
  simp only [Nat.reduceAdd] at c0 c1 c2 c3
  have hc := (Ch.refl Nw w).alloc (.cells (pt p) 28)
  have hz : ∀ w, (Op.equalIn 10000 26 (.agg #[.int .u16 a0, .int .u16 a1, .int .u16 a2, .int .u16 a3]) (.agg #[.int .u16 0, .int .u16 0, .int .u16 0, .int .u16 0])).run Tryd.prog w = .ok (decide (p.a = [0, 0, 0, 0])) w := fun w => by
    rw [ha]
    exact run_equalIn_u16s w 9998 _ _ 4 Tryd.underlying26 Tryd.underlying22 Tryd.sizeOf22 Tryd.isAgg22 [a0, a1, a2, a3] [0, 0, 0, 0] rfl rfl
  by_cases h1 : p.k < 1
  · have h1' : (p.k : Int) < 1 := by omega
    simp [go_sem, pt_k, h1, h1']
    exact hR _ _ ⟨by simp [mayR, h1], hc⟩
  have h1' : ¬ (p.k : Int) < 1 := by omega
  by_cases h5 : 5 < p.k
  · have h5' : (5 : Int) < p.k := by omega
    simp [go_sem, pt_k, h1, h1', h5']
    exact hR _ _ ⟨by simp [mayR, h5], hc⟩
  have h5' : ¬ (5 : Int) < p.k := by omega
  have hbeq : ∀ a b : Nat, ((a : Int) == (b : Int)) = decide (a = b) := fun a b => by
    by_cases h : a = b
    · simp [h]
    · rw [beq_false_of_ne (by omega), decide_eq_false h]
  have hb0 : ∀ a : Nat, ((a : Int) == 0) = decide (a = 0) := fun a => hbeq a 0
  have hb1 : ∀ a : Nat, ((a : Int) == 1) = decide (a = 1) := fun a => hbeq a 1
  have hb3 : ∀ a : Nat, ((a : Int) == 3) = decide (a = 3) := fun a => hbeq a 3
  by_cases hlev : (p.k = 3 ∧ (p.l < 1 ∨ 2 < p.l)) ∨ (p.k ≠ 3 ∧ p.l ≠ 0)
  · have hm : mayR p = false := by unfold mayR; rw [if_neg (by omega), if_pos hlev]
    rw [hm] at hR
    rcases hlev with ⟨h3, hl | hl⟩ | ⟨h3, hl⟩
    · have hl' : (p.l : Int) < 1 := by omega
      simp [go_sem, pt_k, pt_l, h1, h1', h5', hb3, h3, hl', bne]
      exact hR _ _ ⟨rfl, hc⟩
    · have hl' : (2 : Int) < p.l := by omega
      have hl'' : ¬ (p.l : Int) < 1 := by omega
      simp [go_sem, pt_k, pt_l, h1, h1', h5', hb3, h3, hl', hl'', bne]
      exact hR _ _ ⟨rfl, hc⟩
    · simp [go_sem, pt_k, pt_l, h1, h1', h5', hb3, hb0, h3, hl, bne]
      exact hR _ _ ⟨rfl, hc⟩
  have path : (p.k = 3 ∧ ¬ (p.l : Int) < 1 ∧ ¬ (2 : Int) < p.l) ∨ (p.k ≠ 3 ∧ p.l = 0) := by omega
  by_cases hzz : p.a = [0, 0, 0, 0]
  · have hm : mayR p = false := by unfold mayR; rw [if_neg (by omega), if_neg hlev, if_pos hzz]
    rw [hm] at hR
    rcases path with ⟨h3, hl1, hl2⟩ | ⟨h3, hl⟩
    · simp [go_sem, pt_k, pt_l, h1, h1', h5', hb3, h3, hl1, hl2, bne, c0, c1, c2, c3, hz, hzz]
      exact hR _ _ ⟨rfl, hc⟩
    · simp [go_sem, pt_k, pt_l, h1, h1', h5', hb3, hb0, h3, hl, bne, c0, c1, c2, c3, hz, hzz]
      exact hR _ _ ⟨rfl, hc⟩
  have hm : mayR p = if (a0 ≠ 0 ∧ a0 = a1) ∨ (a2 ≠ 0 ∧ a2 = a3) then false else decide (p.k ≠ 1 ∨ (a1 = 0 ∧ a3 = 0)) := by
    unfold mayR
    rw [if_neg (by omega), if_neg hlev, if_neg hzz, ha]
    rfl
  rw [hm] at hR
  have gb : ∀ a b : Nat, ((a : Int) == (b : Int)) = eqb a b := hbeq
  have gb0 : ∀ a : Nat, ((a : Int) == 0) = eqb a 0 := hb0
  have gb1 : ∀ a : Nat, ((a : Int) == 1) = eqb a 1 := hb1
  have gb3 : ∀ a : Nat, ((a : Int) == 3) = eqb a 3 := hb3
  have hA : ∀ a b : Nat, eqb a b = true ∨ eqb a b = false := fun a b => by cases eqb a b <;> simp
  have hres : (if (a0 ≠ 0 ∧ a0 = a1) ∨ (a2 ≠ 0 ∧ a2 = a3) then false else decide (p.k ≠ 1 ∨ (a1 = 0 ∧ a3 = 0))) = (!((!(eqb a0 0) && eqb a0 a1) || (!(eqb a2 0) && eqb a2 a3)) && (!(eqb p.k 1) || (eqb a1 0 && eqb a3 0))) := by
    unfold eqb
    grind
  rw [hres] at hR
  rcases path with ⟨h3, hl1, hl2⟩ | ⟨h3, hl⟩
  · have k3 := eqb_t h3
    have k1 := eqb_f (a := p.k) (b := 1) (by omega)
    have l0 : True := trivial
    rcases hA a0 0 with g0 | g0 <;> rcases hA a0 a1 with g1 | g1 <;> rcases hA a2 0 with g2 | g2 <;> rcases hA a2 a3 with g3 | g3
    all_goals
      simp [go_sem, pt_k, pt_l, h1, h1', h5', gb3, gb, gb0, gb1, k3, k1, hl1, hl2, bne, c0, c1, c2, c3, hz, hzz, g0, g1, g2, g3]
      exact hR _ _ ⟨by simp [g0, g1, g2, g3, k1], hc⟩
  · have k3 := eqb_f h3
    have l0 := eqb_t hl
    have hK : eqb p.k 1 = true ∨ eqb p.k 1 = false := by cases eqb p.k 1 <;> simp
    rcases hA a0 0 with g0 | g0 <;> rcases hA a0 a1 with g1 | g1 <;> rcases hA a2 0 with g2 | g2 <;> rcases hA a2 a3 with g3 | g3 <;> rcases hK with k1 | k1
    all_goals first
      | (simp [go_sem, pt_k, pt_l, h1, h1', h5', gb3, gb, gb0, gb1, k3, k1, l0, bne, c0, c1, c2, c3, hz, hzz, g0, g1, g2, g3]
         exact hR _ _ ⟨by simp [g0, g1, g2, g3, k1], hc⟩)
      | (rcases hA a1 0 with g4 | g4 <;> rcases hA a3 0 with g5 | g5
         all_goals
           simp [go_sem, pt_k, pt_l, h1, h1', h5', gb3, gb, gb0, gb1, k3, k1, l0, bne, c0, c1, c2, c3, hz, hzz, g0, g1, g2, g3, g4, g5]
           exact hR _ _ ⟨by simp [g0, g1, g2, g3, g4, g5, k1], hc⟩)
end Go.Proofs.YtfcoiboeohgimaaDoor
