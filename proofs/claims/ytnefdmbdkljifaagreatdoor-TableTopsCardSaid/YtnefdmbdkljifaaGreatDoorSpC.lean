/- Whole numbers sorted: the partitions. No condition. -/
import Derived.Test.YtnefdmbdkljifaaGreatDoorSpB
set_option linter.unusedSimpArgs false
set_option linter.unusedVariables false

namespace Go.Proofs.YtnefdmbdkljifaaGreatDoor.S32
open Go.RowKit Go.Kin Go.Maps Go.Sort

section
variable {w u : World} {blk N i j : Nat} {d dk : Array Off} {x y : Off}
set_option maxRecDepth 100000 in
set_option maxHeartbeats 4000000 in
theorem part_any (h : Rw kO w blk d) (a b pivot cap : Nat) (hap : a ≤ pivot) (hpb : pivot < b) (hb : b ≤ d.size) (hsz : d.size ≤ 255) :
    Ret Tryz.prog 98 #[sl blk d.size cap, .int .i64 a, .int .i64 b, .int .i64 pivot] w fun v' w' => v' = .tuple #[.int .i64 (Sort.partition lt d a b pivot).1, .bool (Sort.partition lt d a b pivot).2.1] ∧ Rw kO w' blk (Sort.partition lt d a b pivot).2.2 ∧ Ch (one blk) w w' := by
  refine v_enter Tryz.func98 Tryz.ntmps98 rfl (by simp) fun R' hR => ?_
  obtain ⟨N, hN⟩ : ∃ N, d.size = N := ⟨_, rfl⟩
  rw [hN] at hb hsz ⊢
  have la : a < N := by omega
  have lp : pivot < N := by omega
  obtain ⟨x, hx, cx, la', fx⟩ := rd h hN la
  obtain ⟨y, hy, cy, lp', fy⟩ := rd h hN lp
  obtain ⟨hu, hk, cu0⟩ := sw h hN la lp hx hy
  obtain ⟨z2, hz2⟩ := rd2 h hN lp a y
  obtain ⟨b1, hb1⟩ : ∃ b1, b - 1 = b1 := ⟨_, rfl⟩
  have hwa := wi ((a : Int) + 1) (a + 1) (by omega) (by omega)
  have hwb := wi ((b : Int) - 1) b1 (by omega) (by omega)
  simp [go_sem]
  refine v_draw' [(0, none), (1, none), (2, none), (3, none), (4, none), (5, none), (6, none), (7, none), (8, none), (9, none), (10, none), (11, none), (12, none), (13, some [2, 3]), (14, none), (15, some [])] (by kernel_rfl) (by kernel_rfl) ?_
  simp [go_sem, la, la', lp, lp', cx, cy, fx, fy, hz2, hwa, hwb]
  obtain ⟨D, hD⟩ : ∃ D, swp d a pivot = D := ⟨_, rfl⟩
  rw [hD] at hu hk
  have hge := partLoop_eq lt
  have hP : Sort.partition lt d a b pivot = if scanUp (fun x => lt x D[a]!) D b1 (a + 1) > scanDown (fun x => !lt x D[a]!) D (scanUp (fun x => lt x D[a]!) D b1 (a + 1)) b1 then (scanDown (fun x => !lt x D[a]!) D (scanUp (fun x => lt x D[a]!) D b1 (a + 1)) b1, true, swp D (scanDown (fun x => !lt x D[a]!) D (scanUp (fun x => lt x D[a]!) D b1 (a + 1)) b1) a) else
      ((partLoop lt a (scanUp (fun x => lt x D[a]!) D b1 (a + 1) + 1) (scanDown (fun x => !lt x D[a]!) D (scanUp (fun x => lt x D[a]!) D b1 (a + 1)) b1 - 1) (swp D (scanUp (fun x => lt x D[a]!) D b1 (a + 1)) (scanDown (fun x => !lt x D[a]!) D (scanUp (fun x => lt x D[a]!) D b1 (a + 1)) b1))).1, false, swp (partLoop lt a (scanUp (fun x => lt x D[a]!) D b1 (a + 1) + 1) (scanDown (fun x => !lt x D[a]!) D (scanUp (fun x => lt x D[a]!) D b1 (a + 1)) b1 - 1) (swp D (scanUp (fun x => lt x D[a]!) D b1 (a + 1)) (scanDown (fun x => !lt x D[a]!) D (scanUp (fun x => lt x D[a]!) D b1 (a + 1)) b1))).2 (partLoop lt a (scanUp (fun x => lt x D[a]!) D b1 (a + 1) + 1) (scanDown (fun x => !lt x D[a]!) D (scanUp (fun x => lt x D[a]!) D b1 (a + 1)) b1 - 1) (swp D (scanUp (fun x => lt x D[a]!) D b1 (a + 1)) (scanDown (fun x => !lt x D[a]!) D (scanUp (fun x => lt x D[a]!) D b1 (a + 1)) b1))).1 a) := by
    rw [← hD, ← hb1]
    rfl
  clear cx cy fx fy hz2 hD hx hy
  revert hu cu0
  generalize (w.setCell ⟨blk, a, none⟩ _).setCell ⟨blk, pivot, none⟩ _ = u
  intro cu hu
  replace hu := hu.drew
  replace cu := cu.drew
  obtain ⟨I, hI⟩ : ∃ I : (Nat → Value) → World → Prop, I = fun f u => ∃ i2, scanUp (fun x => lt x D[a]!) D b1 (a + 1) = i2 ∧ (a + 1) ≤ i2 ∧ (i2 ≤ (a + 1) ∨ i2 ≤ b1 + 1) ∧ f 0 = sl blk N cap ∧ f 1 = .int .i64 a ∧ f 10 = .int .i64 i2 ∧ f 11 = .int .i64 b1 ∧ Rw kO u blk D ∧ Ch (one blk) w u := ⟨_, rfl⟩
  refine v_meetL I ?_ ?_
  · refine v_loop (fun r f u => ∃ i, r = b1 + 1 - i ∧ (a + 1) ≤ i ∧ (i ≤ (a + 1) ∨ i ≤ b1 + 1) ∧ f 0 = sl blk N cap ∧ f 1 = .int .i64 a ∧ f 10 = .int .i64 i ∧ f 11 = .int .i64 b1 ∧ Rw kO u blk D ∧ scanUp (fun x => lt x D[a]!) D b1 i = scanUp (fun x => lt x D[a]!) D b1 (a + 1) ∧ Ch (one blk) w u) (b1 + 1 - (a + 1))
      ⟨(a + 1), rfl, Nat.le_refl _, .inl (Nat.le_refl _), by simp [hN], by simp [hN], by simp [hN], by simp [hN], hu, rfl, cu⟩ ?_
    rintro J1 hJ1 _ f u ⟨i, rfl, hi0, hij, f0, f1, fi, fj, hu, hS, cu⟩
    have hwi := wi ((i : Int) + 1) (i + 1) (by omega) (by omega)
    by_cases hle : i ≤ b1
    · have hle' : (i : Int) ≤ b1 := by omega
      have li : i < N := by omega
      have la : a < N := by omega
      obtain ⟨x, hx, cx, li', fx⟩ := rd hu hk li
      obtain ⟨z, hz, cz, la', fz⟩ := rd hu hk la
      simp [go_sem]
      refine v_draw' [(0, none), (1, none), (2, none), (3, none), (4, none), (5, none), (6, none), (7, none), (8, none), (9, none), (10, none), (11, none), (12, some []), (13, none)] (by kernel_rfl) (by kernel_rfl) ?_
      simp [go_sem, f0, f1, fi, fj, hle, hle', li, li', la, la', cx, cz]
      refine (less_any x z _).mono ?_
      rintro _ w2 ⟨rfl, hw2⟩
      subst w2
      cases hl : lt x z with
      | true =>
        simp [go_sem, fi, hwi]
        exact Rnd.intro (b1 + 1 - (i + 1)) (by omega) (hJ1 _ _ _ ⟨i + 1, rfl, by omega, by omega, by simp [f0], by simp [f1], by simp, by simp [fj], hu, by rw [← hS]; conv => { rhs; rw [scanUp] }; simp [hle, hx, hz, hl], by (repeat apply Ch.drew); exact cu⟩)
      | false =>
        simp [go_sem]
        rw [hI]
        exact ⟨i, by rw [← hS, scanUp]; simp [hx, hz, hl], hi0, hij, by simp [f0], by simp [f1], by simp [fi], by simp [fj], hu, by (repeat apply Ch.drew); exact cu⟩
    · have hle' : ¬ (i : Int) ≤ b1 := by omega
      simp [go_sem]
      refine v_draw' [(0, none), (1, none), (2, none), (3, none), (4, none), (5, none), (6, none), (7, none), (8, none), (9, none), (10, none), (11, none), (12, some []), (13, none)] (by kernel_rfl) (by kernel_rfl) ?_
      simp [go_sem, f0, f1, fi, fj, hle, hle']
      rw [hI]
      exact ⟨i, by rw [← hS, scanUp]; simp [hle], hi0, hij, by simp [f0], by simp [f1], by simp [fi], by simp [fj], hu, by (repeat apply Ch.drew); exact cu⟩
  rw [hI]
  clear hI I hu cu u
  rintro f u ⟨i2, hi2, hi0, hi1, f0, f1, fi, fj, hu, cu⟩
  obtain ⟨I, hI⟩ : ∃ I : (Nat → Value) → World → Prop, I = fun f u => ∃ j2, scanDown (fun x => !lt x D[a]!) D i2 b1 = j2 ∧ j2 ≤ b1 ∧ a ≤ j2 ∧ f 0 = sl blk N cap ∧ f 1 = .int .i64 a ∧ f 10 = .int .i64 i2 ∧ f 11 = .int .i64 j2 ∧ Rw kO u blk D ∧ Ch (one blk) w u := ⟨_, rfl⟩
  simp [go_sem]
  refine v_meetL I ?_ ?_
  · refine v_loop (fun r f u => ∃ j, r = j + 1 ∧ j ≤ b1 ∧ a ≤ j ∧ f 0 = sl blk N cap ∧ f 1 = .int .i64 a ∧ f 10 = .int .i64 i2 ∧ f 11 = .int .i64 j ∧ Rw kO u blk D ∧ scanDown (fun x => !lt x D[a]!) D i2 j = scanDown (fun x => !lt x D[a]!) D i2 b1 ∧ Ch (one blk) w u) (b1 + 1)
      ⟨b1, rfl, Nat.le_refl _, by omega, f0, f1, fi, fj, hu, rfl, cu⟩ ?_
    clear f0 f1 fi fj hu cu f u
    rintro J1 hJ1 _ f u ⟨j, rfl, hj0, haj, f0, f1, fi, fj, hu, hS, cu⟩
    by_cases hle : i2 ≤ j
    · have hle' : (i2 : Int) ≤ j := by omega
      obtain ⟨q, hq⟩ : ∃ q, j = q + 1 := ⟨j - 1, by omega⟩
      have hwj := wi ((j : Int) - 1) q (by omega) (by omega)
      have lj : j < N := by omega
      have la : a < N := by omega
      obtain ⟨x, hx, cx, lj', fx⟩ := rd hu hk lj
      obtain ⟨z, hz, cz, la', fz⟩ := rd hu hk la
      have hx1 : D[q + 1]! = x := by rw [← hq]; exact hx
      have hle1 : i2 ≤ q + 1 := by omega
      simp [go_sem]
      refine v_draw' [(0, none), (1, none), (2, none), (3, none), (4, none), (5, none), (6, none), (7, none), (8, none), (9, none), (10, none), (11, none), (12, some []), (13, none), (14, none)] (by kernel_rfl) (by kernel_rfl) ?_
      simp [go_sem, f0, f1, fi, fj, hle, hle', lj, lj', la, la', cx, cz]
      refine (less_any x z _).mono ?_
      rintro _ w2 ⟨rfl, hw2⟩
      subst w2
      cases hl : lt x z with
      | false =>
        simp [go_sem, fj, hwj]
        exact Rnd.intro (q + 1) (by omega) (hJ1 _ _ _ ⟨q, rfl, by omega, by omega, by simp [f0], by simp [f1], by simp [fi], by simp, hu, by rw [← hS, hq]; conv => { rhs; rw [scanDown] }; simp [hle1, hx1, hz, hl], by (repeat apply Ch.drew); exact cu⟩)
      | true =>
        simp [go_sem]
        rw [hI]
        exact ⟨j, by rw [← hS, hq, scanDown]; simp [hx1, hz, hl], hj0, haj, by simp [f0], by simp [f1], by simp [fi], by simp [fj], hu, by (repeat apply Ch.drew); exact cu⟩
    · have hle' : ¬ (i2 : Int) ≤ j := by omega
      simp [go_sem]
      refine v_draw' [(0, none), (1, none), (2, none), (3, none), (4, none), (5, none), (6, none), (7, none), (8, none), (9, none), (10, none), (11, none), (12, some []), (13, none), (14, none)] (by kernel_rfl) (by kernel_rfl) ?_
      simp [go_sem, f0, f1, fi, fj, hle, hle']
      rw [hI]
      refine ⟨j, ?_, hj0, haj, by simp [f0], by simp [f1], by simp [fi], by simp [fj], hu, by (repeat apply Ch.drew); exact cu⟩
      rw [← hS]
      cases j with
      | zero => rfl
      | succ q =>
        rw [scanDown]
        simp [hle]
  rw [hI]
  clear hI I f0 f1 fi fj hu cu f u
  rintro f u ⟨j2, hj2, hj0, haj, f0, f1, fi, fj, hu, cu⟩
  rw [hi2, hj2] at hP
  have la : a < N := by omega
  have la' : (a : Int) < N := by omega
  have lj : j2 < N := by omega
  have lj' : (j2 : Int) < N := by omega
  by_cases hgt : i2 > j2
  · have hgt' : (j2 : Int) < i2 := by omega
    rw [if_pos hgt] at hP
    rw [hP] at hR
    obtain ⟨x, hx, cx, _, fx⟩ := rd hu hk lj
    obtain ⟨y, hy, cy, _, fy⟩ := rd hu hk la
    obtain ⟨hw', hk', cw'⟩ := sw hu hk lj la hx hy
    obtain ⟨z2, hz2⟩ := rd2 hu hk la j2 y
    simp [go_sem, fi, fj, hgt, hgt']
    refine v_draw' [(0, none), (1, none), (2, none), (3, none), (4, none), (5, none), (6, none), (7, none), (8, none), (9, none), (10, none), (11, none), (12, none), (13, some [2, 3]), (14, none), (15, some [])] (by kernel_rfl) (by kernel_rfl) ?_
    simp [go_sem, f0, f1, fj, la, la', lj, lj', cx, cy, fx, fy, hz2]
    exact hR _ _ ⟨rfl, hw', by (repeat apply Ch.drew); exact cu.trans cw'⟩
  have hgt' : ¬ (j2 : Int) < i2 := by omega
  have hgt'' : ¬ j2 < i2 := by omega
  rw [if_neg hgt] at hP
  have li : i2 < N := by omega
  have li' : (i2 : Int) < N := by omega
  obtain ⟨x, hx, cx, _, fx⟩ := rd hu hk li
  obtain ⟨y, hy, cy, _, fy⟩ := rd hu hk lj
  obtain ⟨hw', hk', cw'⟩ := sw hu hk li lj hx hy
  obtain ⟨z2, hz2⟩ := rd2 hu hk lj i2 y
  obtain ⟨q, hq⟩ : ∃ q, j2 = q + 1 := ⟨j2 - 1, by omega⟩
  have hwi := wi ((i2 : Int) + 1) (i2 + 1) (by omega) (by omega)
  have hwj := wi ((j2 : Int) - 1) q (by omega) (by omega)
  simp [go_sem, fi, fj, hgt', hgt'']
  refine v_draw' [(0, none), (1, none), (2, none), (3, none), (4, none), (5, none), (6, none), (7, none), (8, none), (9, none), (10, none), (11, none), (12, none), (13, some [2, 3]), (14, none), (15, some [])] (by kernel_rfl) (by kernel_rfl) ?_
  simp [go_sem, f0, f1, fi, fj, li, li', lj, lj', cx, cy, fx, fy, hz2, hwi, hwj]
  rw [show j2 - 1 = q by omega] at hP
  generalize swp D i2 j2 = D1 at *
  have cu2 := (cu.trans cw').drew
  clear cu cw' hwi hwj
  obtain ⟨I, hI⟩ : ∃ I : (Nat → Value) → World → Prop, I = fun f u => ∃ j2 D2, partLoop lt a (i2 + 1) q D1 = (j2, D2) ∧ D2.size = N ∧ j2 < N ∧ f 0 = sl blk N cap ∧ f 1 = .int .i64 a ∧ f 11 = .int .i64 j2 ∧ Rw kO u blk D2 ∧ Ch (one blk) w u := ⟨_, rfl⟩
  refine v_meetL I ?_ ?_
  · refine v_loop (fun r f u => ∃ i j dk, r = j + 1 - i ∧ a < i ∧ a ≤ j ∧ j < N ∧ i ≤ 600 ∧ f 0 = sl blk N cap ∧ f 1 = .int .i64 a ∧ f 10 = .int .i64 i ∧ f 11 = .int .i64 j ∧ dk.size = N ∧ Rw kO u blk dk ∧ partLoop lt a i j dk = partLoop lt a (i2 + 1) q D1 ∧ Ch (one blk) w u) (q + 1 - (i2 + 1))
      ⟨i2 + 1, q, D1, rfl, by omega, by omega, by omega, by omega, by simp [f0], by simp [f1], by simp, by simp, hk', hw', rfl, cu2⟩ ?_
    rintro J hJ _ f u ⟨i0, j0, dk, rfl, ha0, haj0, hjN0, hi600, f0, f1, fi, fj, hk, hu, hS, cu⟩
    have hE := partLoop_eq lt a i0 j0 dk
    simp [go_sem]
    obtain ⟨I, hI⟩ : ∃ I : (Nat → Value) → World → Prop, I = fun f u => ∃ i2, scanUp (fun x => lt x dk[a]!) dk j0 i0 = i2 ∧ i0 ≤ i2 ∧ (i2 ≤ i0 ∨ i2 ≤ j0 + 1) ∧ f 0 = sl blk N cap ∧ f 1 = .int .i64 a ∧ f 10 = .int .i64 i2 ∧ f 11 = .int .i64 j0 ∧ Rw kO u blk dk ∧ Ch (one blk) w u := ⟨_, rfl⟩
    refine v_meetL I ?_ ?_
    · refine v_loop (fun r f u => ∃ i, r = j0 + 1 - i ∧ i0 ≤ i ∧ (i ≤ i0 ∨ i ≤ j0 + 1) ∧ f 0 = sl blk N cap ∧ f 1 = .int .i64 a ∧ f 10 = .int .i64 i ∧ f 11 = .int .i64 j0 ∧ Rw kO u blk dk ∧ scanUp (fun x => lt x dk[a]!) dk j0 i = scanUp (fun x => lt x dk[a]!) dk j0 i0 ∧ Ch (one blk) w u) (j0 + 1 - i0)
        ⟨i0, rfl, Nat.le_refl _, .inl (Nat.le_refl _), by simp [f0, f1, fi, fj], by simp [f0, f1, fi, fj], by simp [f0, f1, fi, fj], by simp [f0, f1, fi, fj], hu, rfl, cu⟩ ?_
      rintro J1 hJ1 _ f u ⟨i, rfl, hi0, hij, f0, f1, fi, fj, hu, hS, cu⟩
      have hwi := wi ((i : Int) + 1) (i + 1) (by omega) (by omega)
      by_cases hle : i ≤ j0
      · have hle' : (i : Int) ≤ j0 := by omega
        have li : i < N := by omega
        have la : a < N := by omega
        obtain ⟨x, hx, cx, li', fx⟩ := rd hu hk li
        obtain ⟨z, hz, cz, la', fz⟩ := rd hu hk la
        simp [go_sem]
        refine v_draw' [(0, none), (1, none), (2, none), (3, none), (4, none), (5, none), (6, none), (7, none), (8, none), (9, none), (10, none), (11, none), (12, some []), (13, none)] (by kernel_rfl) (by kernel_rfl) ?_
        simp [go_sem, f0, f1, fi, fj, hle, hle', li, li', la, la', cx, cz]
        refine (less_any x z _).mono ?_
        rintro _ w2 ⟨rfl, hw2⟩
        subst w2
        cases hl : lt x z with
        | true =>
          simp [go_sem, fi, hwi]
          exact Rnd.intro (j0 + 1 - (i + 1)) (by omega) (hJ1 _ _ _ ⟨i + 1, rfl, by omega, by omega, by simp [f0], by simp [f1], by simp, by simp [fj], hu, by rw [← hS]; conv => { rhs; rw [scanUp] }; simp [hle, hx, hz, hl], by (repeat apply Ch.drew); exact cu⟩)
        | false =>
          simp [go_sem]
          rw [hI]
          exact ⟨i, by rw [← hS, scanUp]; simp [hx, hz, hl], hi0, hij, by simp [f0], by simp [f1], by simp [fi], by simp [fj], hu, by (repeat apply Ch.drew); exact cu⟩
      · have hle' : ¬ (i : Int) ≤ j0 := by omega
        simp [go_sem]
        refine v_draw' [(0, none), (1, none), (2, none), (3, none), (4, none), (5, none), (6, none), (7, none), (8, none), (9, none), (10, none), (11, none), (12, some []), (13, none)] (by kernel_rfl) (by kernel_rfl) ?_
        simp [go_sem, f0, f1, fi, fj, hle, hle']
        rw [hI]
        exact ⟨i, by rw [← hS, scanUp]; simp [hle], hi0, hij, by simp [f0], by simp [f1], by simp [fi], by simp [fj], hu, by (repeat apply Ch.drew); exact cu⟩
    rw [hI]
    clear hI I f0 f1 fi fj hu cu f u
    rintro f u ⟨i2, hi2, hi0, hi1, f0, f1, fi, fj, hu, cu⟩
    obtain ⟨I, hI⟩ : ∃ I : (Nat → Value) → World → Prop, I = fun f u => ∃ j2, scanDown (fun x => !lt x dk[a]!) dk i2 j0 = j2 ∧ j2 ≤ j0 ∧ a ≤ j2 ∧ f 0 = sl blk N cap ∧ f 1 = .int .i64 a ∧ f 10 = .int .i64 i2 ∧ f 11 = .int .i64 j2 ∧ Rw kO u blk dk ∧ Ch (one blk) w u := ⟨_, rfl⟩
    simp [go_sem]
    refine v_meetL I ?_ ?_
    · refine v_loop (fun r f u => ∃ j, r = j + 1 ∧ j ≤ j0 ∧ a ≤ j ∧ f 0 = sl blk N cap ∧ f 1 = .int .i64 a ∧ f 10 = .int .i64 i2 ∧ f 11 = .int .i64 j ∧ Rw kO u blk dk ∧ scanDown (fun x => !lt x dk[a]!) dk i2 j = scanDown (fun x => !lt x dk[a]!) dk i2 j0 ∧ Ch (one blk) w u) (j0 + 1)
        ⟨j0, rfl, Nat.le_refl _, by omega, f0, f1, fi, fj, hu, rfl, cu⟩ ?_
      clear f0 f1 fi fj hu cu f u
      rintro J1 hJ1 _ f u ⟨j, rfl, hj0, haj, f0, f1, fi, fj, hu, hS, cu⟩
      by_cases hle : i2 ≤ j
      · have hle' : (i2 : Int) ≤ j := by omega
        obtain ⟨q, hq⟩ : ∃ q, j = q + 1 := ⟨j - 1, by omega⟩
        have hwj := wi ((j : Int) - 1) q (by omega) (by omega)
        have lj : j < N := by omega
        have la : a < N := by omega
        obtain ⟨x, hx, cx, lj', fx⟩ := rd hu hk lj
        obtain ⟨z, hz, cz, la', fz⟩ := rd hu hk la
        have hx1 : dk[q + 1]! = x := by rw [← hq]; exact hx
        have hle1 : i2 ≤ q + 1 := by omega
        simp [go_sem]
        refine v_draw' [(0, none), (1, none), (2, none), (3, none), (4, none), (5, none), (6, none), (7, none), (8, none), (9, none), (10, none), (11, none), (12, some []), (13, none), (14, none)] (by kernel_rfl) (by kernel_rfl) ?_
        simp [go_sem, f0, f1, fi, fj, hle, hle', lj, lj', la, la', cx, cz]
        refine (less_any x z _).mono ?_
        rintro _ w2 ⟨rfl, hw2⟩
        subst w2
        cases hl : lt x z with
        | false =>
          simp [go_sem, fj, hwj]
          exact Rnd.intro (q + 1) (by omega) (hJ1 _ _ _ ⟨q, rfl, by omega, by omega, by simp [f0], by simp [f1], by simp [fi], by simp, hu, by rw [← hS, hq]; conv => { rhs; rw [scanDown] }; simp [hle1, hx1, hz, hl], by (repeat apply Ch.drew); exact cu⟩)
        | true =>
          simp [go_sem]
          rw [hI]
          exact ⟨j, by rw [← hS, hq, scanDown]; simp [hx1, hz, hl], hj0, haj, by simp [f0], by simp [f1], by simp [fi], by simp [fj], hu, by (repeat apply Ch.drew); exact cu⟩
      · have hle' : ¬ (i2 : Int) ≤ j := by omega
        simp [go_sem]
        refine v_draw' [(0, none), (1, none), (2, none), (3, none), (4, none), (5, none), (6, none), (7, none), (8, none), (9, none), (10, none), (11, none), (12, some []), (13, none), (14, none)] (by kernel_rfl) (by kernel_rfl) ?_
        simp [go_sem, f0, f1, fi, fj, hle, hle']
        rw [hI]
        refine ⟨j, ?_, hj0, haj, by simp [f0], by simp [f1], by simp [fi], by simp [fj], hu, by (repeat apply Ch.drew); exact cu⟩
        rw [← hS]
        cases j with
        | zero => rfl
        | succ q =>
          rw [scanDown]
          simp [hle]
    rw [hI]
    clear hI I f0 f1 fi fj hu cu f u
    rintro f u ⟨j2, hj2, hj0, haj, f0, f1, fi, fj, hu, cu⟩
    rw [hi2, hj2] at hE
    have la : a < N := by omega
    have lj : j2 < N := by omega
    have lj' : (j2 : Int) < N := by omega
    by_cases hgt : i2 > j2
    · have hgt' : (j2 : Int) < i2 := by omega
      rw [if_pos hgt] at hE
      simp [go_sem, fi, fj, hgt, hgt']
      rw [hI]
      exact ⟨j2, dk, by rw [← hS, hE], hk, lj, by simp [f0], by simp [f1], by simp [fj], hu, cu⟩
    have hgt' : ¬ (j2 : Int) < i2 := by omega
    have hgt'' : ¬ j2 < i2 := by omega
    rw [if_neg hgt] at hE
    have li : i2 < N := by omega
    have li' : (i2 : Int) < N := by omega
    obtain ⟨x, hx, cx, _, fx⟩ := rd hu hk li
    obtain ⟨y, hy, cy, _, fy⟩ := rd hu hk lj
    obtain ⟨hw', hk', cw'⟩ := sw hu hk li lj hx hy
    obtain ⟨z2, hz2⟩ := rd2 hu hk lj i2 y
    obtain ⟨q, hq⟩ : ∃ q, j2 = q + 1 := ⟨j2 - 1, by omega⟩
    have hwi := wi ((i2 : Int) + 1) (i2 + 1) (by omega) (by omega)
    have hwj := wi ((j2 : Int) - 1) q (by omega) (by omega)
    rw [show j2 - 1 = q by omega] at hE
    simp [go_sem, fi, fj, hgt', hgt'']
    refine v_draw' [(0, none), (1, none), (2, none), (3, none), (4, none), (5, none), (6, none), (7, none), (8, none), (9, none), (10, none), (11, none), (12, none), (13, some [2, 3]), (14, none), (15, some [])] (by kernel_rfl) (by kernel_rfl) ?_
    simp [go_sem, f0, f1, fi, fj, li, li', lj, lj', cx, cy, fx, fy, hz2, hwi, hwj]
    exact Rnd.intro (q + 1 - (i2 + 1)) (by omega) (hJ _ _ _ ⟨i2 + 1, q, _, rfl, by omega, by omega, by omega, by omega, by simp [f0], by simp [f1], by simp, by simp, hk', hw', by rw [← hS, hE], by (repeat apply Ch.drew); exact cu.trans cw'⟩)
  · rw [hI]
    clear hI I
    rintro f u ⟨j2, D2, hL, hk, lj, f0, f1, fj, hu, cu⟩
    rw [hL] at hP
    rw [hP] at hR
    have lj' : (j2 : Int) < N := by omega
    obtain ⟨x, hx, cx, _, fx⟩ := rd hu hk lj
    obtain ⟨y, hy, cy, _, fy⟩ := rd hu hk la
    obtain ⟨hw', hk', cw'⟩ := sw hu hk lj la hx hy
    obtain ⟨z2, hz2⟩ := rd2 hu hk la j2 y
    simp [go_sem]
    refine v_draw' [(0, none), (1, none), (2, none), (3, none), (4, none), (5, none), (6, none), (7, none), (8, none), (9, none), (10, none), (11, none), (12, none), (13, some [2, 3]), (14, none), (15, some [])] (by kernel_rfl) (by kernel_rfl) ?_
    simp [go_sem, f0, f1, fj, la, la', lj, lj', cx, cy, fx, fy, hz2]
    exact hR _ _ ⟨rfl, hw', by (repeat apply Ch.drew); exact cu.trans cw'⟩
set_option maxRecDepth 100000 in
set_option maxHeartbeats 4000000 in
theorem partEq_any (h : Rw kO w blk d) (a b pivot cap : Nat) (hap : a ≤ pivot) (hpb : pivot < b) (hb : b ≤ d.size) (hsz : d.size ≤ 255) :
    Ret Tryz.prog 97 #[sl blk d.size cap, .int .i64 a, .int .i64 b, .int .i64 pivot] w fun v' w' => v' = .int .i64 (partitionEqual lt d a b pivot).1 ∧ Rw kO w' blk (partitionEqual lt d a b pivot).2 ∧ Ch (one blk) w w' := by
  refine v_enter Tryz.func97 Tryz.ntmps97 rfl (by simp) fun R' hR => ?_
  obtain ⟨N, hN⟩ : ∃ N, d.size = N := ⟨_, rfl⟩
  rw [hN] at hb hsz ⊢
  have la : a < N := by omega
  have lp : pivot < N := by omega
  obtain ⟨x, hx, cx, la', fx⟩ := rd h hN la
  obtain ⟨y, hy, cy, lp', fy⟩ := rd h hN lp
  obtain ⟨hu, hk, cu0⟩ := sw h hN la lp hx hy
  obtain ⟨z2, hz2⟩ := rd2 h hN lp a y
  obtain ⟨b1, hb1⟩ : ∃ b1, b - 1 = b1 := ⟨_, rfl⟩
  have hwa := wi ((a : Int) + 1) (a + 1) (by omega) (by omega)
  have hwb := wi ((b : Int) - 1) b1 (by omega) (by omega)
  simp [go_sem]
  refine v_draw' [(0, none), (1, none), (2, none), (3, none), (4, none), (5, none), (6, none), (7, none), (8, none), (9, none), (10, none), (11, none), (12, none), (13, some [2, 3]), (14, none), (15, some [])] (by kernel_rfl) (by kernel_rfl) ?_
  simp [go_sem, la, la', lp, lp', cx, cy, fx, fy, hz2, hwa, hwb]
  obtain ⟨D, hD⟩ : ∃ D, swp d a pivot = D := ⟨_, rfl⟩
  rw [hD] at hu hk
  have hP : partitionEqual lt d a b pivot = partEqLoop lt a (a + 1) b1 D := by
    rw [← hD, ← hb1]
    rfl
  have cu2 := cu0.drew
  clear cu0
  obtain ⟨I, hI⟩ : ∃ I : (Nat → Value) → World → Prop, I = fun f u => ∃ i2 D2, partEqLoop lt a (a + 1) b1 D = (i2, D2) ∧ f 9 = .int .i64 (i2 : Nat) ∧ Rw kO u blk D2 ∧ Ch (one blk) w u := ⟨_, rfl⟩
  refine v_meetL I ?_ ?_
  · refine v_loop (fun r f u => ∃ i j dk, r = j + 1 - i ∧ a < i ∧ a ≤ j ∧ j < N ∧ i ≤ 600 ∧ f 0 = sl blk N cap ∧ f 1 = .int .i64 a ∧ f 9 = .int .i64 i ∧ f 10 = .int .i64 j ∧ dk.size = N ∧ Rw kO u blk dk ∧ partEqLoop lt a i j dk = partEqLoop lt a (a + 1) b1 D ∧ Ch (one blk) w u) (b1 + 1 - (a + 1))
      ⟨a + 1, b1, D, rfl, by omega, by omega, by omega, by omega, by simp, by simp, by simp, by simp, hk, hu, rfl, cu2⟩ ?_
    clear cu2 hu cx cy fx fy hz2 hk
    rintro J hJ _ f u ⟨i0, j0, dk, rfl, ha0, haj0, hjN0, hi600, f0, f1, fi, fj, hk, hu, hS, cu⟩
    have hE := partEqLoop_eq lt a i0 j0 dk
    simp [go_sem]
    obtain ⟨I, hI⟩ : ∃ I : (Nat → Value) → World → Prop, I = fun f u => ∃ i2, scanUp (fun x => !lt dk[a]! x) dk j0 i0 = i2 ∧ i0 ≤ i2 ∧ (i2 ≤ i0 ∨ i2 ≤ j0 + 1) ∧ f 0 = sl blk N cap ∧ f 1 = .int .i64 a ∧ f 9 = .int .i64 i2 ∧ f 10 = .int .i64 j0 ∧ Rw kO u blk dk ∧ Ch (one blk) w u := ⟨_, rfl⟩
    refine v_meetL I ?_ ?_
    · refine v_loop (fun r f u => ∃ i, r = j0 + 1 - i ∧ i0 ≤ i ∧ (i ≤ i0 ∨ i ≤ j0 + 1) ∧ f 0 = sl blk N cap ∧ f 1 = .int .i64 a ∧ f 9 = .int .i64 i ∧ f 10 = .int .i64 j0 ∧ Rw kO u blk dk ∧ scanUp (fun x => !lt dk[a]! x) dk j0 i = scanUp (fun x => !lt dk[a]! x) dk j0 i0 ∧ Ch (one blk) w u) (j0 + 1 - i0)
        ⟨i0, rfl, Nat.le_refl _, .inl (Nat.le_refl _), by simp [f0, f1, fi, fj], by simp [f0, f1, fi, fj], by simp [f0, f1, fi, fj], by simp [f0, f1, fi, fj], hu, rfl, cu⟩ ?_
      rintro J1 hJ1 _ f u ⟨i, rfl, hi0, hij, f0, f1, fi, fj, hu, hS, cu⟩
      have hwi := wi ((i : Int) + 1) (i + 1) (by omega) (by omega)
      by_cases hle : i ≤ j0
      · have hle' : (i : Int) ≤ j0 := by omega
        have li : i < N := by omega
        have la : a < N := by omega
        obtain ⟨x, hx, cx, li', fx⟩ := rd hu hk li
        obtain ⟨z, hz, cz, la', fz⟩ := rd hu hk la
        simp [go_sem]
        refine v_draw' [(0, none), (1, none), (2, none), (3, none), (4, none), (5, none), (6, none), (7, none), (8, none), (9, none), (10, none), (11, none), (12, some []), (13, none), (14, none)] (by kernel_rfl) (by kernel_rfl) ?_
        simp [go_sem, f0, f1, fi, fj, hle, hle', li, li', la, la', cx, cz]
        refine (less_any z x _).mono ?_
        rintro _ w2 ⟨rfl, hw2⟩
        subst w2
        cases hl : lt z x with
        | false =>
          simp [go_sem, fi, hwi]
          exact Rnd.intro (j0 + 1 - (i + 1)) (by omega) (hJ1 _ _ _ ⟨i + 1, rfl, by omega, by omega, by simp [f0], by simp [f1], by simp, by simp [fj], hu, by rw [← hS]; conv => { rhs; rw [scanUp] }; simp [hle, hx, hz, hl], by (repeat apply Ch.drew); exact cu⟩)
        | true =>
          simp [go_sem]
          rw [hI]
          exact ⟨i, by rw [← hS, scanUp]; simp [hx, hz, hl], hi0, hij, by simp [f0], by simp [f1], by simp [fi], by simp [fj], hu, by (repeat apply Ch.drew); exact cu⟩
      · have hle' : ¬ (i : Int) ≤ j0 := by omega
        simp [go_sem]
        refine v_draw' [(0, none), (1, none), (2, none), (3, none), (4, none), (5, none), (6, none), (7, none), (8, none), (9, none), (10, none), (11, none), (12, some []), (13, none), (14, none)] (by kernel_rfl) (by kernel_rfl) ?_
        simp [go_sem, f0, f1, fi, fj, hle, hle']
        rw [hI]
        exact ⟨i, by rw [← hS, scanUp]; simp [hle], hi0, hij, by simp [f0], by simp [f1], by simp [fi], by simp [fj], hu, by (repeat apply Ch.drew); exact cu⟩
    rw [hI]
    clear hI I f0 f1 fi fj hu cu f u
    rintro f u ⟨i2, hi2, hi0, hi1, f0, f1, fi, fj, hu, cu⟩
    obtain ⟨I, hI⟩ : ∃ I : (Nat → Value) → World → Prop, I = fun f u => ∃ j2, scanDown (fun x => lt dk[a]! x) dk i2 j0 = j2 ∧ j2 ≤ j0 ∧ a ≤ j2 ∧ f 0 = sl blk N cap ∧ f 1 = .int .i64 a ∧ f 9 = .int .i64 i2 ∧ f 10 = .int .i64 j2 ∧ Rw kO u blk dk ∧ Ch (one blk) w u := ⟨_, rfl⟩
    simp [go_sem]
    refine v_meetL I ?_ ?_
    · refine v_loop (fun r f u => ∃ j, r = j + 1 ∧ j ≤ j0 ∧ a ≤ j ∧ f 0 = sl blk N cap ∧ f 1 = .int .i64 a ∧ f 9 = .int .i64 i2 ∧ f 10 = .int .i64 j ∧ Rw kO u blk dk ∧ scanDown (fun x => lt dk[a]! x) dk i2 j = scanDown (fun x => lt dk[a]! x) dk i2 j0 ∧ Ch (one blk) w u) (j0 + 1)
        ⟨j0, rfl, Nat.le_refl _, by omega, f0, f1, fi, fj, hu, rfl, cu⟩ ?_
      clear f0 f1 fi fj hu cu f u
      rintro J1 hJ1 _ f u ⟨j, rfl, hj0, haj, f0, f1, fi, fj, hu, hS, cu⟩
      by_cases hle : i2 ≤ j
      · have hle' : (i2 : Int) ≤ j := by omega
        obtain ⟨q, hq⟩ : ∃ q, j = q + 1 := ⟨j - 1, by omega⟩
        have hwj := wi ((j : Int) - 1) q (by omega) (by omega)
        have lj : j < N := by omega
        have la : a < N := by omega
        obtain ⟨x, hx, cx, lj', fx⟩ := rd hu hk lj
        obtain ⟨z, hz, cz, la', fz⟩ := rd hu hk la
        have hx1 : dk[q + 1]! = x := by rw [← hq]; exact hx
        have hle1 : i2 ≤ q + 1 := by omega
        simp [go_sem]
        refine v_draw' [(0, none), (1, none), (2, none), (3, none), (4, none), (5, none), (6, none), (7, none), (8, none), (9, none), (10, none), (11, none), (12, some []), (13, none)] (by kernel_rfl) (by kernel_rfl) ?_
        simp [go_sem, f0, f1, fi, fj, hle, hle', lj, lj', la, la', cx, cz]
        refine (less_any z x _).mono ?_
        rintro _ w2 ⟨rfl, hw2⟩
        subst w2
        cases hl : lt z x with
        | true =>
          simp [go_sem, fj, hwj]
          exact Rnd.intro (q + 1) (by omega) (hJ1 _ _ _ ⟨q, rfl, by omega, by omega, by simp [f0], by simp [f1], by simp [fi], by simp, hu, by rw [← hS, hq]; conv => { rhs; rw [scanDown] }; simp [hle1, hx1, hz, hl], by (repeat apply Ch.drew); exact cu⟩)
        | false =>
          simp [go_sem]
          rw [hI]
          exact ⟨j, by rw [← hS, hq, scanDown]; simp [hx1, hz, hl], hj0, haj, by simp [f0], by simp [f1], by simp [fi], by simp [fj], hu, by (repeat apply Ch.drew); exact cu⟩
      · have hle' : ¬ (i2 : Int) ≤ j := by omega
        simp [go_sem]
        refine v_draw' [(0, none), (1, none), (2, none), (3, none), (4, none), (5, none), (6, none), (7, none), (8, none), (9, none), (10, none), (11, none), (12, some []), (13, none)] (by kernel_rfl) (by kernel_rfl) ?_
        simp [go_sem, f0, f1, fi, fj, hle, hle']
        rw [hI]
        refine ⟨j, ?_, hj0, haj, by simp [f0], by simp [f1], by simp [fi], by simp [fj], hu, by (repeat apply Ch.drew); exact cu⟩
        rw [← hS]
        cases j with
        | zero => rfl
        | succ q =>
          rw [scanDown]
          simp [hle]
    rw [hI]
    clear hI I f0 f1 fi fj hu cu f u
    rintro f u ⟨j2, hj2, hj0, haj, f0, f1, fi, fj, hu, cu⟩
    rw [hi2, hj2] at hE
    have lj : j2 < N := by omega
    have lj' : (j2 : Int) < N := by omega
    by_cases hgt : i2 > j2
    · have hgt' : (j2 : Int) < i2 := by omega
      rw [if_pos hgt] at hE
      simp [go_sem, fi, fj, hgt, hgt']
      rw [hI]
      exact ⟨i2, dk, by rw [← hS, hE], by simp [fi], hu, cu⟩
    have hgt' : ¬ (j2 : Int) < i2 := by omega
    have hgt'' : ¬ j2 < i2 := by omega
    rw [if_neg hgt] at hE
    have li : i2 < N := by omega
    have li' : (i2 : Int) < N := by omega
    obtain ⟨x, hx, cx, _, fx⟩ := rd hu hk li
    obtain ⟨y, hy, cy, _, fy⟩ := rd hu hk lj
    obtain ⟨hw', hk', cw'⟩ := sw hu hk li lj hx hy
    obtain ⟨z2, hz2⟩ := rd2 hu hk lj i2 y
    obtain ⟨q, hq⟩ : ∃ q, j2 = q + 1 := ⟨j2 - 1, by omega⟩
    have hwi := wi ((i2 : Int) + 1) (i2 + 1) (by omega) (by omega)
    have hwj := wi ((j2 : Int) - 1) q (by omega) (by omega)
    rw [show j2 - 1 = q by omega] at hE
    simp [go_sem, fi, fj, hgt', hgt'']
    refine v_draw' [(0, none), (1, none), (2, none), (3, none), (4, none), (5, none), (6, none), (7, none), (8, none), (9, none), (10, none), (11, none), (12, none), (13, some [2, 3]), (14, none), (15, some [])] (by kernel_rfl) (by kernel_rfl) ?_
    simp [go_sem, f0, f1, fi, fj, li, li', lj, lj', cx, cy, fx, fy, hz2, hwi, hwj]
    exact Rnd.intro (q + 1 - (i2 + 1)) (by omega) (hJ _ _ _ ⟨i2 + 1, q, _, rfl, by omega, by omega, by omega, by omega, by simp [f0], by simp [f1], by simp, by simp, hk', hw', by rw [← hS, hE], by (repeat apply Ch.drew); exact cu.trans cw'⟩)
  · rw [hI]
    rintro f u ⟨i2, D2, hL, fi, hu, cu⟩
    rw [hP, hL] at hR
    simp [go_sem, fi]
    exact hR _ _ ⟨rfl, hu, cu⟩
end
end Go.Proofs.YtnefdmbdkljifaaGreatDoor.S32
