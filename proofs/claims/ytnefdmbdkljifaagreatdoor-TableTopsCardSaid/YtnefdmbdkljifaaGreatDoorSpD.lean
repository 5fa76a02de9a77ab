/- Whole numbers sorted: a few steps of insertion. No condition. -/
import Derived.Test.YtnefdmbdkljifaaGreatDoorSpB
set_option linter.unusedSimpArgs false
set_option linter.unusedVariables false

namespace Go.Proofs.YtnefdmbdkljifaaGreatDoor.S32
open Go.RowKit Go.Kin Go.Maps Go.Sort

section
variable {w u : World} {blk N i j : Nat} {d dk : Array Off} {x y : Off}
set_option maxRecDepth 100000 in
set_option maxHeartbeats 4000000 in
theorem pins_any (h : Rw kO w blk d) (a b cap : Nat) (hab : a < b) (hb : b ≤ d.size) (hsz : d.size ≤ 255) :
    Ret Tryz.prog 95 #[sl blk d.size cap, .int .i64 a, .int .i64 b] w fun v' w' => v' = .bool (partialInsertionSort lt d a b).2 ∧ Rw kO w' blk (partialInsertionSort lt d a b).1 ∧ Ch (one blk) w w' := by
  refine v_enter Tryz.func95 Tryz.ntmps95 rfl (by simp) fun R' hR => ?_
  obtain ⟨N, hN⟩ : ∃ N, d.size = N := ⟨_, rfl⟩
  rw [hN] at hb hsz ⊢
  have hwa := wi ((a : Int) + 1) (a + 1) (by omega) (by omega)
  unfold partialInsertionSort at hR
  simp [go_sem, hwa]
  refine v_loop (fun r f u => ∃ j i dk, r = 5 - j ∧ j ≤ 5 ∧ a < i ∧ i ≤ b ∧ f 0 = sl blk N cap ∧ f 1 = .int .i64 a ∧ f 2 = .int .i64 b ∧ f 7 = .int .i64 i ∧ f 8 = .int .i64 j ∧ dk.size = N ∧ Rw kO u blk dk ∧ partialIns lt a b (5 - j) i dk = partialIns lt a b 5 (a + 1) d ∧ Ch (one blk) w u) 5
    ⟨0, a + 1, d, rfl, by omega, by omega, by omega, by simp, by simp, by simp, by simp, by simp, hN, h, rfl, Ch.refl _ _⟩ ?_
  rintro J hJ _ f u ⟨j, i, dk, rfl, hj5, hai, hib, f0, f1, f2, f7, f8, hk, hu, hS, cu⟩
  have hj5c : j = 5 ∨ j < 5 := by omega
  rcases hj5c with rfl | hjlt
  · have hS : (dk, false) = partialIns lt a b 5 (a + 1) d := hS
    rw [← hS] at hR
    simp [go_sem, f8]
    exact hR _ _ ⟨rfl, hu, cu⟩
  have hjlt' : (j : Int) < 5 := by omega
  obtain ⟨s, hs⟩ : ∃ s, 5 - j = s + 1 := ⟨4 - j, by omega⟩
  rw [hs, partialIns_go] at hS
  simp [go_sem, f8, hjlt, hjlt']
  obtain ⟨I, hI⟩ : ∃ I : (Nat → Value) → World → Prop, I = fun f u => ∃ i2, scanSorted lt dk b i = i2 ∧ i ≤ i2 ∧ i2 ≤ b ∧ f 0 = sl blk N cap ∧ f 1 = .int .i64 a ∧ f 2 = .int .i64 b ∧ f 7 = .int .i64 i2 ∧ f 8 = .int .i64 j ∧ Rw kO u blk dk ∧ Ch (one blk) w u := ⟨_, rfl⟩
  refine v_meetL I ?_ ?_
  · refine v_loop (fun r f u => ∃ i2, r = b - i2 ∧ scanSorted lt dk b i2 = scanSorted lt dk b i ∧ i ≤ i2 ∧ i2 ≤ b ∧ f 0 = sl blk N cap ∧ f 1 = .int .i64 a ∧ f 2 = .int .i64 b ∧ f 7 = .int .i64 i2 ∧ f 8 = .int .i64 j ∧ Rw kO u blk dk ∧ Ch (one blk) w u) (b - i)
      ⟨i, rfl, rfl, Nat.le_refl _, hib, by simp [f0], by simp [f1], by simp [f2], by simp [f7], by simp [f8], hu, cu⟩ ?_
    clear f0 f1 f2 f7 f8 hu cu f u
    rintro J2 hJ2 _ f u ⟨i2, rfl, hS2, hii, hi2b, f0, f1, f2, f7, f8, hu, cu⟩
    have hwi := wi ((i2 : Int) + 1) (i2 + 1) (by omega) (by omega)
    by_cases hle : i2 < b
    · have hle' : (i2 : Int) < b := by omega
      obtain ⟨q, hq⟩ : ∃ q, i2 = q + 1 := ⟨i2 - 1, by omega⟩
      have hq1 : i2 - 1 = q := by omega
      have hwq := wi ((i2 : Int) - 1) q (by omega) (by omega)
      have li : i2 < N := by omega
      have lq : q < N := by omega
      obtain ⟨x, hx, cx, li', fx⟩ := rd hu hk li
      obtain ⟨y, hy, cy, lq', fy⟩ := rd hu hk lq
      simp [go_sem]
      refine v_draw' [(0, none), (1, none), (2, none), (3, none), (4, none), (5, none), (6, none), (7, none), (8, none), (9, none), (10, none), (11, none), (12, none), (13, some []), (14, none), (15, none)] (by kernel_rfl) (by kernel_rfl) ?_
      simp [go_sem, f0, f1, f2, f7, hle, hle', hwq, li, li', lq, lq', cx, cy]
      refine (less_any x y _).mono ?_
      rintro _ w2 ⟨rfl, hw2⟩
      subst w2
      cases hl : lt x y with
      | false =>
        simp [go_sem, f7, hwi]
        exact Rnd.intro (b - (i2 + 1)) (by omega) (hJ2 _ _ _ ⟨i2 + 1, rfl, by rw [← hS2]; conv => { rhs; rw [scanSorted] }; simp [hle, hx, hq1, hy, hl], by omega, by omega, by simp [f0], by simp [f1], by simp [f2], by simp, by simp [f8], hu, cu.drew⟩)
      | true =>
        simp [go_sem]
        rw [hI]
        exact ⟨i2, by rw [← hS2, scanSorted]; simp [hx, hq1, hy, hl], hii, hi2b, by simp [f0], by simp [f1], by simp [f2], by simp [f7], by simp [f8], hu, cu.drew⟩
    · have hle' : ¬ (i2 : Int) < b := by omega
      simp [go_sem]
      refine v_draw' [(0, none), (1, none), (2, none), (3, none), (4, none), (5, none), (6, none), (7, none), (8, none), (9, none), (10, none), (11, none), (12, none), (13, some []), (14, none), (15, none)] (by kernel_rfl) (by kernel_rfl) ?_
      simp [go_sem, f0, f1, f2, f7, hle, hle']
      rw [hI]
      exact ⟨i2, by rw [← hS2, scanSorted]; simp [hle], hii, hi2b, by simp [f0], by simp [f1], by simp [f2], by simp [f7], by simp [f8], hu, cu.drew⟩
  rw [hI]
  clear hI I f0 f1 f2 f7 f8 hu cu f u
  rintro f u ⟨i2, hi2, hii, hi2b, f0, f1, f2, f7, f8, hu, cu⟩
  rw [hi2] at hS
  by_cases hbb : i2 = b
  · rw [if_pos hbb] at hS
    rw [← hS] at hR
    simp [go_sem, f7, f2, hbb]
    exact hR _ _ ⟨rfl, hu, cu⟩
  rw [if_neg hbb] at hS
  have hbb' : ¬ (i2 : Int) = b := by omega
  have hbb'' : ((i2 : Int) == (b : Int)) = false := beq_false_of_ne hbb'
  obtain ⟨l, hl⟩ : ∃ l, b - a = l := ⟨_, rfl⟩
  have hwl := wi ((b : Int) - a) l (by omega) (by omega)
  rw [hl] at hS
  by_cases h50 : l < 50
  · have h50' : (l : Int) < 50 := by omega
    rw [if_pos h50] at hS
    rw [← hS] at hR
    simp [go_sem, f7, f1, f2, hbb, hbb', hbb'', hwl, h50, h50']
    exact hR _ _ ⟨rfl, hu, cu⟩
  rw [if_neg h50] at hS
  have h50' : ¬ (l : Int) < 50 := by omega
  obtain ⟨q, hq⟩ : ∃ q, i2 = q + 1 := ⟨i2 - 1, by omega⟩
  have hq1 : i2 - 1 = q := by omega
  have hwq := wi ((i2 : Int) - 1) q (by omega) (by omega)
  have hwi := wi ((i2 : Int) + 1) (i2 + 1) (by omega) (by omega)
  have li : i2 < N := by omega
  have lq : q < N := by omega
  obtain ⟨x, hx, cx, li', fx⟩ := rd hu hk li
  obtain ⟨y, hy, cy, lq', fy⟩ := rd hu hk lq
  obtain ⟨hw', hk', cw'⟩ := sw hu hk li lq hx hy
  obtain ⟨e, he⟩ : ∃ e, i2 - a = e := ⟨_, rfl⟩
  have hwe := wi ((i2 : Int) - a) e (by omega) (by omega)
  obtain ⟨e2, he2⟩ : ∃ e2, b - i2 = e2 := ⟨_, rfl⟩
  have hwe2 := wi ((b : Int) - i2) e2 (by omega) (by omega)
  rw [hq1, he, he2] at hS
  simp [go_sem, f7, f1, f2, hbb, hbb', hbb'', hwl, h50, h50']
  refine v_draw' [(0, none), (1, none), (2, none), (3, none), (4, none), (5, none), (6, none), (7, none), (8, none), (9, none), (10, none), (11, none), (12, none), (13, none), (14, none), (15, some [2, 3, 4]), (16, none), (17, some [])] (by kernel_rfl) (by kernel_rfl) ?_
  simp [go_sem, f0, f1, f7, hwq, li, li', lq, lq', cx, cy, fx, fy, hwe]
  generalize swp dk i2 q = D1 at *
  have cu2 := (cu.trans cw').drew
  clear cu cw' cx cy fx fy hx hy hu
  obtain ⟨D2, hD2⟩ : ∃ D2, (if e ≥ 2 then shiftDown lt q D1 else D1) = D2 := ⟨_, rfl⟩
  have hk2 : D2.size = N := by
    rw [← hD2]
    split
    · rw [shiftDown_size, hk']
    · exact hk'
  rw [hD2] at hS
  obtain ⟨I, hI⟩ : ∃ I : (Nat → Value) → World → Prop, I = fun f u => f 0 = sl blk N cap ∧ f 1 = .int .i64 a ∧ f 2 = .int .i64 b ∧ f 7 = .int .i64 i2 ∧ f 8 = .int .i64 j ∧ Rw kO u blk D2 ∧ Ch (one blk) w u := ⟨_, rfl⟩
  refine v_meet I ?_ ?_
  · by_cases h2 : 2 ≤ e
    · have h2' : (2 : Int) ≤ e := by omega
      rw [if_pos h2] at hD2
      simp [go_sem, h2, h2', f7, hwq]
      refine v_loop (fun r f u => ∃ k dk, r = k + 1 ∧ k ≤ q ∧ f 0 = sl blk N cap ∧ f 1 = .int .i64 a ∧ f 2 = .int .i64 b ∧ f 7 = .int .i64 i2 ∧ f 8 = .int .i64 j ∧ f 9 = .int .i64 k ∧ dk.size = N ∧ shiftDown lt k dk = D2 ∧ Rw kO u blk dk ∧ Ch (one blk) w u) (q + 1)
        ⟨q, D1, rfl, Nat.le_refl _, by simp [f0], by simp [f1], by simp [f2], by simp [f7], by simp [f8], by simp, hk', hD2, hw', cu2⟩ ?_
      clear f0 f1 f2 f7 f8 f hD2
      rintro J2 hJ2 _ f u ⟨k, dk, rfl, hkq, f0, f1, f2, f7, f8, f9, hkk, hD2, hu, cu⟩
      cases k with
      | zero =>
        have hD2 : dk = D2 := hD2
        simp [go_sem, f9]
        rw [hI]
        exact ⟨by simp [f0], by simp [f1], by simp [f2], by simp [f7], by simp [f8], by rw [← hD2]; exact hu, cu⟩
      | succ p =>
        obtain ⟨k, hk⟩ : ∃ k, p + 1 = k := ⟨_, rfl⟩
        rw [hk] at f9
        have h1k : 1 ≤ k := by omega
        have h1k' : (1 : Int) ≤ k := by omega
        have hwk := wi ((k : Int) - 1) p (by omega) (by omega)
        have lk : k < N := by omega
        have lp : p < N := by omega
        obtain ⟨x, hx, cx, lk', fx⟩ := rd hu hkk lk
        obtain ⟨y, hy, cy, lp', fy⟩ := rd hu hkk lp
        rw [shiftDown, hk, hx, hy] at hD2
        simp [go_sem, f9, h1k, h1k']
        refine v_draw' [(0, none), (1, none), (2, none), (3, none), (4, none), (5, none), (6, none), (7, none), (8, none), (9, some []), (10, none)] (by kernel_rfl) (by kernel_rfl) ?_
        simp [go_sem, f0, f9, hwk, lk, lk', lp, lp', cx, cy]
        refine (less_any x y _).mono ?_
        rintro _ w2 ⟨rfl, hw2⟩
        subst w2
        cases hl : lt x y with
        | false =>
          rw [hl] at hD2
          simp [go_sem]
          rw [hI]
          exact ⟨by simp [f0], by simp [f1], by simp [f2], by simp [f7], by simp [f8], by rw [← hD2]; exact hu, cu.drew⟩
        | true =>
          rw [hl] at hD2
          obtain ⟨hw', hk', cw'⟩ := sw hu hkk lk lp hx hy
          simp [go_sem]
          refine v_draw' [(0, none), (1, none), (2, none), (3, none), (4, none), (5, none), (6, none), (7, none), (8, none), (9, none), (10, none), (11, none), (12, none), (13, none), (14, none), (15, some [2, 3, 4]), (16, none), (17, some [])] (by kernel_rfl) (by kernel_rfl) ?_
          simp [go_sem, f0, f9, hwk, lk, lk', lp, lp', cx, cy, fx, fy]
          exact Rnd.intro (p + 1) (by omega) (hJ2 _ _ _ ⟨p, _, rfl, by omega, by simp [f0], by simp [f1], by simp [f2], by simp [f7], by simp [f8], by simp, hk', hD2, hw', by (repeat apply Ch.drew); exact cu.trans cw'⟩)
    · have h2' : ¬ (2 : Int) ≤ e := by omega
      rw [if_neg h2] at hD2
      simp [go_sem, h2, h2']
      rw [hI]
      exact ⟨by simp [f0], by simp [f1], by simp [f2], by simp [f7], by simp [f8], by rw [← hD2]; exact hw', cu2⟩
  rw [hI]
  clear hI I f0 f1 f2 f7 f8 hw' cu2 f
  rintro f u ⟨f0, f1, f2, f7, f8, hu, cu⟩
  obtain ⟨D3, hD3⟩ : ∃ D3, (if e2 ≥ 2 then shiftUp lt b (i2 + 1) D2 else D2) = D3 := ⟨_, rfl⟩
  have hk3 : D3.size = N := by
    rw [← hD3]
    split
    · rw [shiftUp_size _ _ _ _ (Nat.le_refl _), hk2]
    · exact hk2
  rw [hD3] at hS
  simp [go_sem, f7, f2, hwe2]
  obtain ⟨I, hI⟩ : ∃ I : (Nat → Value) → World → Prop, I = fun f u => f 0 = sl blk N cap ∧ f 1 = .int .i64 a ∧ f 2 = .int .i64 b ∧ f 7 = .int .i64 i2 ∧ f 8 = .int .i64 j ∧ Rw kO u blk D3 ∧ Ch (one blk) w u := ⟨_, rfl⟩
  refine v_meetB I ?_ ?_
  · by_cases h2 : 2 ≤ e2
    · have h2' : (2 : Int) ≤ e2 := by omega
      rw [if_pos h2] at hD3
      simp [go_sem, h2, h2', f7, hwi]
      refine v_loop (fun r f u => ∃ k dk, r = b - k ∧ i2 < k ∧ k ≤ b ∧ f 0 = sl blk N cap ∧ f 1 = .int .i64 a ∧ f 2 = .int .i64 b ∧ f 7 = .int .i64 i2 ∧ f 8 = .int .i64 j ∧ f 10 = .int .i64 k ∧ dk.size = N ∧ shiftUp lt b k dk = D3 ∧ Rw kO u blk dk ∧ Ch (one blk) w u) (b - (i2 + 1))
        ⟨i2 + 1, D2, rfl, by omega, by omega, by simp [f0], by simp [f1], by simp [f2], by simp [f7], by simp [f8], by simp, hk2, hD3, hu, cu⟩ ?_
      clear f0 f1 f2 f7 f8 f hD3
      rintro J2 hJ2 _ f u ⟨k, dk, rfl, hkq, hkb, f0, f1, f2, f7, f8, f10, hkk, hD3, hu, cu⟩
      rw [shiftUp] at hD3
      by_cases hlt : k < b
      · rw [if_pos hlt] at hD3
        have hlt' : (k : Int) < b := by omega
        obtain ⟨p, hp⟩ : ∃ p, k = p + 1 := ⟨k - 1, by omega⟩
        have hp1 : k - 1 = p := by omega
        have hwk := wi ((k : Int) - 1) p (by omega) (by omega)
        have hwk2 := wi ((k : Int) + 1) (k + 1) (by omega) (by omega)
        have lk : k < N := by omega
        have lp : p < N := by omega
        obtain ⟨x, hx, cx, lk', fx⟩ := rd hu hkk lk
        obtain ⟨y, hy, cy, lp', fy⟩ := rd hu hkk lp
        rw [hp1, hx, hy] at hD3
        simp [go_sem, f10, f2, hlt, hlt']
        refine v_draw' [(0, none), (1, none), (2, none), (3, none), (4, none), (5, none), (6, none), (7, none), (8, none), (9, some []), (10, none)] (by kernel_rfl) (by kernel_rfl) ?_
        simp [go_sem, f0, f10, hwk, lk, lk', lp, lp', cx, cy]
        refine (less_any x y _).mono ?_
        rintro _ w2 ⟨rfl, hw2⟩
        subst w2
        cases hl : lt x y with
        | false =>
          rw [hl] at hD3
          simp [go_sem]
          rw [hI]
          exact ⟨by simp [f0], by simp [f1], by simp [f2], by simp [f7], by simp [f8], by rw [← hD3]; exact hu, cu.drew⟩
        | true =>
          rw [hl] at hD3
          obtain ⟨hw', hk', cw'⟩ := sw hu hkk lk lp hx hy
          simp [go_sem]
          refine v_draw' [(0, none), (1, none), (2, none), (3, none), (4, none), (5, none), (6, none), (7, none), (8, none), (9, none), (10, none), (11, none), (12, none), (13, none), (14, none), (15, some [2, 3, 4]), (16, none), (17, some [])] (by kernel_rfl) (by kernel_rfl) ?_
          simp [go_sem, f0, f10, hwk, hwk2, lk, lk', lp, lp', cx, cy, fx, fy]
          exact Rnd.intro (b - (k + 1)) (by omega) (hJ2 _ _ _ ⟨k + 1, _, rfl, by omega, by omega, by simp [f0], by simp [f1], by simp [f2], by simp [f7], by simp [f8], by simp, hk', hD3, hw', by (repeat apply Ch.drew); exact cu.trans cw'⟩)
      · rw [if_neg hlt] at hD3
        have hlt' : ¬ (k : Int) < b := by omega
        simp [go_sem, f10, f2, hlt, hlt']
        rw [hI]
        exact ⟨by simp [f0], by simp [f1], by simp [f2], by simp [f7], by simp [f8], by rw [← hD3]; exact hu, cu⟩
    · have h2' : ¬ (2 : Int) ≤ e2 := by omega
      rw [if_neg h2] at hD3
      simp [go_sem, h2, h2']
      rw [hI]
      exact ⟨by simp [f0], by simp [f1], by simp [f2], by simp [f7], by simp [f8], by rw [← hD3]; exact hu, cu⟩
  rw [hI]
  clear hI I f0 f1 f2 f7 f8 hu cu f u
  rintro f u ⟨f0, f1, f2, f7, f8, hu, cu⟩
  have hwj := wi ((j : Int) + 1) (j + 1) (by omega) (by omega)
  simp [go_sem, f8, hwj]
  exact Rnd.intro (5 - (j + 1)) (by omega) (hJ _ _ _ ⟨j + 1, i2, D3, rfl, by omega, by omega, by omega, by simp [f0], by simp [f1], by simp [f2], by simp [f7], by simp, hk3, hu, by rw [show 5 - (j + 1) = s by omega]; exact hS, cu⟩)
end
end Go.Proofs.YtnefdmbdkljifaaGreatDoor.S32
