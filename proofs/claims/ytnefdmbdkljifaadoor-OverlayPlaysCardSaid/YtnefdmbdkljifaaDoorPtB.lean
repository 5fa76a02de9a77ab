/- How many copies a kind has; whether a pointer may be: ptr's own answer, and the document's. Condition: the variable ptr.wide holds what the text lays. -/
import Derived.Test.YtnefdmbdkljifaaDoorPtA
set_option linter.unusedSimpArgs false
set_option linter.unusedVariables false

namespace Go.Proofs.YtnefdmbdkljifaaDoor
open Go.RowKit Go.Kin

/-- the variable ptr.wide as the text lays it -/
def Lw (w : World) : Prop := ∀ i z, ([0, 1, 2, 2, 2, 2] : List Int)[i]? = some z → w.cell? ⟨0, i, none⟩ = some (.int .i64 z)
theorem Lw.ch {S : Nat → Prop} {w w' : World} (h : Lw w) (hc : Ch S w w') (hn : ¬ S 0) : Lw w' := fun i z hz => hc.cell (h i z hz) hn
theorem Lw.lt {w : World} (h : Lw w) : 0 < w.heap.size := World.block_lt_of_cell? w _ (h 0 _ rfl)
def wideN (k : Nat) : Nat := if k = 0 ∨ 6 ≤ k then 0 else if k = 1 then 1 else 2
theorem wide_any (k : Nat) (w : World) (hk : k < 256) (hl : Lw w) : Ret Tryd.prog 51 #[.int .u8 k] w fun v' w' => v' = .int .i64 (wideN k) ∧ w' = w := by
  refine v_enter Tryd.func51 Tryd.ntmps51 rfl (by simp) fun R' hR => ?_
  have hw : IntKind.i64.wrap (k : Int) = k := by simp [IntKind.wrap_i64]; omega
  by_cases h6 : 6 ≤ k
  · have h6' : (6 : Int) ≤ k := by omega
    simp [go_sem, hw, h6']
    exact hR _ _ ⟨by simp [wideN, h6], rfl⟩
  · have h6' : ¬ (6 : Int) ≤ k := by omega
    have l0 := hl 0 _ rfl
    have l1 := hl 1 _ rfl
    have l2 := hl 2 _ rfl
    have l3 := hl 3 _ rfl
    have l4 := hl 4 _ rfl
    have l5 := hl 5 _ rfl
    have hki : (k : Int) < 6 := by omega
    have hcl : w.cell? ⟨0, k, none⟩ = some (.int .i64 (wideN k)) := by
      obtain rfl | rfl | rfl | rfl | rfl | rfl : k = 0 ∨ k = 1 ∨ k = 2 ∨ k = 3 ∨ k = 4 ∨ k = 5 := by omega
      · exact l0
      · exact l1
      · exact l2
      · exact l3
      · exact l4
      · exact l5
    simp [go_sem, hw, h6', hki, hcl]
    exact hR _ _ ⟨rfl, rfl⟩
def badP (n x y : Nat) : Bool := (x == y && x != 0) || (n == 1 && y != 0)
def levB (p : Pt) : Bool := if p.k = 3 then (p.l == 1 || p.l == 2) else p.l == 0
def mayP (p : Pt) : Bool := !(badP (wideN p.k) (p.a.getD 0 0) (p.a.getD 1 0)) && !(badP (wideN p.k) (p.a.getD 2 0) (p.a.getD 3 0)) && (0 < wideN p.k && levB p && p.a.any (· != 0))
theorem mayP_eq {p : Pt} {a0 a1 a2 a3 n : Nat} (ha : p.a = [a0, a1, a2, a3]) (hn : wideN p.k = n) : mayP p = (!(badP n a0 a1) && !(badP n a2 a3) && (decide (0 < n) && levB p && p.a.any (· != 0))) := by
  subst hn
  unfold mayP
  rw [ha]
  rfl
theorem may_any (p : Pt) (w : World) (ok : PtOk p) (hl : Lw w) : Ret Tryd.prog 42 #[.agg (pt p)] w fun v' w' => v' = .bool (mayP p) ∧ Ch Nw w w' := by
  obtain ⟨a0, a1, a2, a3, ha, _⟩ := a4 ok
  refine v_enter Tryd.func42 Tryd.ntmps42 rfl (by simp) fun R' hR => ?_
  simp [go_sem, pt_l, pt_k]
  have hb := hp_alloc w (.cells (pt p) 39)
  have hc := (Ch.refl Nw w).alloc (.cells (pt p) 39)
  have hl1 := hl.ch hc id
  revert hb hc hl1
  generalize w.alloc (.cells (pt p) 39) = w1
  generalize w.heap.size = g
  intro hb hc hl1
  have ck := (cell_blk hb 0).trans pt_k
  have cl := (cell_blk hb 1).trans pt_l
  have c0 := (cell_blk hb 37).trans (pt_a ok (i := 0) (x := a0) (by rw [ha]; rfl))
  have c1 := (cell_blk hb 38).trans (pt_a ok (i := 1) (x := a1) (by rw [ha]; rfl))
  have c2 := (cell_blk hb 39).trans (pt_a ok (i := 2) (x := a2) (by rw [ha]; rfl))
  have c3 := (cell_blk hb 40).trans (pt_a ok (i := 3) (x := a3) (by rw [ha]; rfl))
  refine v_meet (fun f u => f 1 = .pointer (some ⟨g, 0, none⟩) ∧ f 3 = .bool (levB p) ∧ u = w1) ?_ ?_
  · by_cases h3 : p.k = 3
    · have h3' : ((p.k : Int) == 3) = true := by simp; omega
      by_cases h1 : p.l = 1
      · have h1' : ((p.l : Int) == 1) = true := by simp; omega
        simp [go_sem, h3', cl, h1', levB, h3, h1]
      · have h1' : ((p.l : Int) == 1) = false := by simp; omega
        have h2' : ((p.l : Int) == 2) = (p.l == 2) := by
          by_cases h2 : p.l = 2
          · simp [h2]
          · rw [beq_false_of_ne h2, beq_false_of_ne (by omega)]
        simp [go_sem, h3', cl, h1', h2', levB, h3, h1]
    · have h3' : ((p.k : Int) == 3) = false := by simp; omega
      have h0' : ((p.l : Int) == 0) = (p.l == 0) := by
        by_cases h2 : p.l = 0
        · simp [h2]
        · rw [beq_false_of_ne h2, beq_false_of_ne (by omega)]
      simp [go_sem, h3', h0', levB, h3]
  rintro f _ ⟨e1, e3, rfl⟩
  simp [go_sem, e1, ck]
  refine (wide_any p.k _ ok.k hl1).mono ?_
  rintro _ w1 ⟨rfl, rfl⟩
  simp [go_sem, e1, c0, c1, c2, c3]
  generalize hn : wideN p.k = n
  refine v_loop (fun r f wr => ∃ k, k ≤ 2 ∧ r = 2 - k ∧ f 1 = .pointer (some ⟨g, 0, none⟩) ∧ f 3 = .bool (levB p) ∧ f 4 = .int .i64 n ∧ f 38 = .agg #[.int .u16 a0, .int .u16 a1, .int .u16 a2, .int .u16 a3] ∧ f 39 = .int .i64 k ∧
      (0 < k → badP n a0 a1 = false) ∧ (1 < k → badP n a2 a3 = false) ∧ Ch Nw w wr ∧ wr.heap[g]? = some (.cells (pt p) 39 (0, 0))) 2
    ⟨0, by omega, rfl, by simp [e1], by simp [e3], by simp, by simp, by simp, by simp, by simp, hc, hb⟩ ?_
  have hbad : ∀ x y : Nat, badP n x y = ((((x : Int) == (y : Int)) && !((x : Int) == 0)) || (((n : Int) == 1) && !((y : Int) == 0))) := fun x y => by
    have q : ∀ a b : Nat, ((a : Int) == (b : Int)) = (a == b) := fun a b => by
      by_cases h : a = b
      · simp [h]
      · rw [beq_false_of_ne h, beq_false_of_ne (by omega)]
    have q0 : ∀ a : Nat, ((a : Int) == 0) = (a == 0) := fun a => q a 0
    have q1 : ∀ a : Nat, ((a : Int) == 1) = (a == 1) := fun a => q a 1
    rw [q, q0, q0, q1]
    rfl
  have hix0 : ∀ w, (Instr.index 114 (.agg #[.int .u16 a0, .int .u16 a1, .int .u16 a2, .int .u16 a3]) (.int .i64 0)).run Tryd.prog w = .ok (.agg #[.int .u16 a0, .int .u16 a1]) w := fun w => by
    simp [Instr.index, asIntOf, run_underlying Tryd.underlying114, part, Tryd.sizeOf113, Tryd.isAgg113]
  have hix1 : ∀ w, (Instr.index 114 (.agg #[.int .u16 a0, .int .u16 a1, .int .u16 a2, .int .u16 a3]) (.int .i64 1)).run Tryd.prog w = .ok (.agg #[.int .u16 a2, .int .u16 a3]) w := fun w => by
    simp [Instr.index, asIntOf, run_underlying Tryd.underlying114, part, Tryd.sizeOf113, Tryd.isAgg113]
  rintro I hI _ f wr ⟨k, hk, rfl, d1, d3, d4, d38, d39, hp0, hp1, hcc, hbb⟩
  obtain rfl | rfl | rfl : k = 0 ∨ k = 1 ∨ k = 2 := by omega
  · simp [go_sem, d38, d39, hix0]
    have hcA := hcc.alloc (.cells #[.int .u16 a0, .int .u16 a1] 113)
    have hbA := ((Ch.refl Nw wr).alloc (.cells #[.int .u16 a0, .int .u16 a1] 113)).obj hbb id
    have hbd := hbad a0 a1
    cases hb1 : ((a0 : Int) == (a1 : Int)) <;> cases hb2 : ((a0 : Int) == 0) <;> cases hb3 : ((n : Int) == 1) <;> cases hb4 : ((a1 : Int) == 0) <;> rw [hb1, hb2, hb3, hb4] at hbd <;> simp at hbd <;> simp [go_sem, bne, hb1, hb2, hb3, hb4, d4, d39]
    all_goals first
      | exact hR _ _ ⟨by rw [mayP_eq ha hn, hbd]; simp, hcA⟩
      | exact Rnd.intro 1 (by omega) (hI _ _ _ ⟨1, by omega, rfl, by simp [d1], by simp [d3], by simp [d4], by simp [d38], by simp [IntKind.wrap_i64], fun _ => hbd, fun h => absurd h (by omega), hcA, hbA⟩)
  · simp [go_sem, d38, d39, hix1]
    have hcA := hcc.alloc (.cells #[.int .u16 a2, .int .u16 a3] 113)
    have hbA := ((Ch.refl Nw wr).alloc (.cells #[.int .u16 a2, .int .u16 a3] 113)).obj hbb id
    have hbd := hbad a2 a3
    cases hb1 : ((a2 : Int) == (a3 : Int)) <;> cases hb2 : ((a2 : Int) == 0) <;> cases hb3 : ((n : Int) == 1) <;> cases hb4 : ((a3 : Int) == 0) <;> rw [hb1, hb2, hb3, hb4] at hbd <;> simp at hbd <;> simp [go_sem, bne, hb1, hb2, hb3, hb4, d4, d39]
    all_goals first
      | exact hR _ _ ⟨by rw [mayP_eq ha hn, hbd]; simp, hcA⟩
      | exact Rnd.intro 0 (by omega) (hI _ _ _ ⟨2, by omega, rfl, by simp [d1], by simp [d3], by simp [d4], by simp [d38], by simp [IntKind.wrap_i64], fun _ => hp0 (by omega), fun _ => hbd, hcA, hbA⟩)
  · have hf0 := hp0 (by omega)
    have hf1 := hp1 (by omega)
    have hm : mayP p = (decide (0 < n) && levB p && p.a.any (· != 0)) := by rw [mayP_eq ha hn, hf0, hf1]; rfl
    by_cases hn0 : 0 < n
    · have hn0' : (0 : Int) < n := by omega
      cases hlv : levB p
      · simp [go_sem, d39, d3, d4, hn0, hn0', hlv]
        exact hR _ _ ⟨by rw [hm, hlv]; simp, hcc⟩
      · simp [go_sem, d1, d39, d3, d4, hn0, hn0', hlv, hbb, pt_size ok, pt_all ok]
        refine (some_any p wr ok).mono ?_
        rintro _ w3 ⟨rfl, c3⟩
        simp [go_sem]
        exact hR _ _ ⟨by rw [hm, hlv, decide_eq_true hn0]; simp, hcc.trans c3⟩
    · have hn0' : ¬ (0 : Int) < n := by omega
      simp [go_sem, d39, d3, d4, hn0, hn0']
      exact hR _ _ ⟨by rw [hm, decide_eq_false hn0]; simp, hcc⟩
/-- the document's answer -/
def mayR (p : Pt) : Bool :=
  if p.k < 1 ∨ 5 < p.k then false
  else if (p.k = 3 ∧ (p.l < 1 ∨ 2 < p.l)) ∨ (p.k ≠ 3 ∧ p.l ≠ 0) then false
  else if p.a = [0, 0, 0, 0] then false
  else if (p.a.getD 0 0 ≠ 0 ∧ p.a.getD 0 0 = p.a.getD 1 0) ∨ (p.a.getD 2 0 ≠ 0 ∧ p.a.getD 2 0 = p.a.getD 3 0) then false
  else decide (p.k ≠ 1 ∨ (p.a.getD 1 0 = 0 ∧ p.a.getD 3 0 = 0))
theorem mayR_eq (p : Pt) (ok : PtOk p) : mayR p = mayP p := by
  obtain ⟨a0, a1, a2, a3, ha, _⟩ := a4 ok
  rw [mayP_eq ha rfl]
  unfold mayR levB badP wideN
  rw [ha]
  simp only [List.getD_cons_zero, List.getD_cons_succ]
  by_cases h1 : p.k < 1 ∨ 5 < p.k
  · rw [if_pos h1]
    have : p.k = 0 ∨ 6 ≤ p.k := by omega
    simp [this]
  · rw [if_neg h1, if_neg (show ¬ (p.k = 0 ∨ 6 ≤ p.k) by omega), Bool.eq_iff_iff]
    by_cases h2 : p.k = 1
    · simp [h2]
      grind
    · by_cases h3 : p.k = 3
      · simp [h2, h3]
        grind
      · simp [h2, h3]
        grind
end Go.Proofs.YtnefdmbdkljifaaDoor
