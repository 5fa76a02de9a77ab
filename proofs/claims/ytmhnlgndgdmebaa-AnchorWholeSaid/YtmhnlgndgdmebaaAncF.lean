/- A cell that is known (wakes), walked. No condition. -/
import Derived.Test.YtmhnlgndgdmebaaAncE
namespace Go.Proofs.Ytmhnlgndgdmebaa
open Go.RowKit Go.Kin

theorem eq_anc (w : World) (n : Nat) (h : List UInt8) (a : List Nat) (n' : Nat) (h' : List UInt8) (a' : List Nat) (hh : h.length = 32) (ha : a.length = 4) (hh' : h'.length = 32) (ha' : a'.length = 4) :
    (Op.equalIn 10000 29 (.agg (anc n h a)) (.agg (anc n' h' a'))).run Try.prog w = .ok (decide (n = n' ∧ h = h' ∧ a = a')) w := by
  have e1 : ∀ w, (Op.equalIn 9999 23 (.agg (bvs h).toArray) (.agg (bvs h').toArray)).run Try.prog w = .ok (decide (h = h')) w := fun w => run_equalIn_bvs w 9997 _ _ 32 Try.underlying23 Try.underlying5 Try.sizeOf5 Try.isAgg5 h h' hh hh'
  have e2 : ∀ w, (Op.equalIn 9999 25 (.agg (u16s a).toArray) (.agg (u16s a').toArray)).run Try.prog w = .ok (decide (a = a')) w := fun w => run_equalIn_u16s w 9997 _ _ 4 Try.underlying25 Try.underlying24 Try.sizeOf24 Try.isAgg24 a a' ha ha'
  have g0 := anc_0 n h a
  have g0' := anc_0 n' h' a'
  simp [go_sem, g0, g0', anc_h hh, anc_h hh', anc_a hh ha, anc_a hh' ha', e1, e2]
  by_cases h1 : n = n'
  · subst h1
    by_cases h2 : h = h' <;> by_cases h3 : a = a' <;> simp [h2, h3]
  · have : ¬ (n : Int) = (n' : Int) := by omega
    simp [h1, this]

theorem wk_ok : AncOk 1 (zb 32) [2, 3, 4, 5] := ⟨by decide, rfl, rfl, fun i x hx => by
  match i, hx with
  | 0, hx => cases hx; decide
  | 1, hx => cases hx; decide
  | 2, hx => cases hx; decide
  | 3, hx => cases hx; decide⟩
theorem wk_bld (w : World) (K : Value → World → Prop) : VBld Try.prog 29 [(0, .int .u64 1), (2, .agg #[.int .u16 2, .int .u16 3, .int .u16 4, .int .u16 5])] w K = K (.agg (anc 1 (zb 32) [2, 3, 4, 5])) w := bld_anc2 1 [2, 3, 4, 5] rfl
theorem awakes_any (w : World) : Ret Try.prog 15 #[] w fun v' w' => v' = .bool true ∧ Ch Nw w w' := by
  refine v_enter Try.func15 Try.ntmps15 rfl (by simp) fun R' hR => ?_
  simp [go_sem]
  refine (on_any w).mono ?_
  rintro _ w1 ⟨rfl, p1, c1, z1⟩
  simp [go_sem]
  refine (anew_any w.heap.size w1).mono ?_
  rintro _ w2 ⟨rfl, d1, c2, z2⟩
  generalize hgp : w.heap.size = gp at *
  generalize hgc : w1.heap.size = gc at *
  simp [go_sem]
  have d1 : Cel w2 gc gp (putB 0 (zb 32) (zn 4)) := by rw [put_zero]; exact d1
  refine (load_any gc gp _ _ _ w2 ok_zero d1).mono ?_
  rintro _ w3 ⟨rfl, c3⟩
  have heq := fun w n h a n' h' a' hh ha hh' ha' => eq_anc w n h a n' h' a' hh ha hh' ha'
  have heq0 := fun w => eq_anc w 0 (zb 32) (zn 4) 0 (zb 32) (zn 4) (zb_length 32) (zn_length 4) (zb_length 32) (zn_length 4)
  simp only [and_self, decide_true] at heq0
  have d3 := d1.ch c3 id
  have p3 := (p1.ch c2 id).ch c3 id
  have hc3 : Ch Nw w w3 := c1.trans (c2.trans c3)
  have hsz := anc_size (n := 1) (h := zb 32) (a := [2, 3, 4, 5]) rfl rfl
  have hall := anc_all (n := 1) (h := zb 32) (a := [2, 3, 4, 5]) rfl rfl
  have hz3 := c3.size
  simp [go_sem, heq0, bld_anc0, wk_bld, hz_anc, zc_anc, hsz, anc_size (zb_length 32) (zn_length 4), blit_whole]
  have hc4 := hc3.alloc (.cells (anc 1 (zb 32) [2, 3, 4, 5]) 29)
  have hq4 := (Ch.refl Nw w3).alloc (.cells (anc 1 (zb 32) [2, 3, 4, 5]) 29)
  have d4 := d3.ch hq4 id
  have p4 := p3.ch hq4 id
  have hb4 := hp_alloc w3 (.cells (anc 1 (zb 32) [2, 3, 4, 5]) 29)
  revert hc4 hq4 d4 p4 hb4
  generalize w3.alloc (.cells (anc 1 (zb 32) [2, 3, 4, 5]) 29) = w4
  generalize hga : w3.heap.size = ga at *
  intro hc4 hq4 d4 p4 hb4
  refine v_draw' [(0, none), (1, none), (3, none), (4, none), (2, some [3, 4]), (5, some []), (6, none), (7, none)] (by kernel_rfl) (by kernel_rfl) ?_
  simp [go_sem, hb4, hsz, hall]
  have hgcp : gc ≠ gp := by omega
  refine (store_any gc gp false (-1) _ _ _ 1 (zb 32) [2, 3, 4, 5] w4.drew ok_zero wk_ok d4 p4 hgcp (by decide)).mono ?_
  have s1 : storeS 0 1 false (-1) = 0 := by decide
  have s2 : stepS false (-1) = (true, false, -1) := by decide
  simp only [s1, s2, if_true, show ¬ (1 : Nat) ≤ 0 by decide, if_false]
  rintro _ w5 ⟨rfl, c5, d5, p5⟩
  have c5 := c5.of_drew
  have hb5 := c5.hp hb4 (by simp only [two]; omega)
  simp [go_sem, hb5, hsz, hall]
  refine (store_any gc gp false (-1) _ _ _ 1 (zb 32) [2, 3, 4, 5] w5 wk_ok wk_ok d5 p5 hgcp (by decide)).mono ?_
  have s3 : storeS 1 1 false (-1) = 1 := by decide
  simp only [s3, show (1 : Nat) ≤ 1 by decide, if_true, show ¬ (1 : Int) = 0 by decide, if_false]
  rintro _ w6 ⟨rfl, c6, d6, p6⟩
  have hb6 := c6.hp hb5 (by simp only [two]; omega)
  simp [go_sem]
  have hc6 : Ch Nw w w6 := (hc4.trans' c5 (fun j hj e => by simp only [two] at e; omega)).trans' c6 (fun j hj e => by simp only [two] at e; omega)
  refine v_draw' [(0, none), (1, none), (2, none), (3, none), (4, none), (5, none), (6, none), (7, none), (9, none), (8, some [9]), (10, none), (11, none), (12, none), (13, none), (15, none), (14, some [15]), (16, some []), (17, none), (18, none), (19, none)] (by kernel_rfl) (by kernel_rfl) ?_
  simp [go_sem, hb6, hsz, hall]
  refine (load_any gc gp _ _ _ w6.drew wk_ok d6).mono ?_
  rintro _ w7 ⟨rfl, c7⟩
  have c7 := c7.of_drew
  have hb7 := c7.hp hb6 id
  have heq1 := fun w => eq_anc w 1 (zb 32) [2, 3, 4, 5] 1 (zb 32) [2, 3, 4, 5] rfl rfl rfl rfl
  simp only [and_self, decide_true] at heq1
  simp [go_sem, hb7, hsz, hall, heq1]
  have hL := putB_length (n := 1) (h := zb 32) (a := [2, 3, 4, 5]) rfl rfl
  refine (abytes_any gc gp _ w7 hL (d6.ch c7 id)).mono ?_
  rintro _ w8 ⟨rfl, c8⟩
  have hb8 := c8.hp hb7 id
  simp [go_sem, hb8, hsz, hall]
  refine (put_any _ _ _ w8 wk_ok).mono ?_
  rintro _ w9 ⟨rfl, c9⟩
  have heq2 := fun w => eq_b64 w _ _ hL hL
  simp only [decide_true] at heq2
  simp [go_sem, heq2]
  exact hR _ _ ⟨rfl, hc6.trans (c7.trans (c8.trans c9))⟩
end Go.Proofs.Ytmhnlgndgdmebaa
