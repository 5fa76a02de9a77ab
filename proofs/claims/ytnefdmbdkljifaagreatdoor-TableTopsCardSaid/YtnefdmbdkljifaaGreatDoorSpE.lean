/- Offbers of bits; a pseudo-random step; rows reversed, and stirred. No condition. -/
import Derived.Test.YtnefdmbdkljifaaGreatDoorSpB
set_option linter.unusedSimpArgs false
set_option linter.unusedVariables false

namespace Go.Proofs.YtnefdmbdkljifaaGreatDoor.S32
open Go.RowKit Go.Kin Go.Maps Go.Sort

def len8 : ByteArray := ⟨#[0, 1, 2, 2, 3, 3, 3, 3, 4, 4, 4, 4, 4, 4, 4, 4, 5, 5, 5, 5, 5, 5, 5, 5, 5, 5, 5, 5, 5, 5, 5, 5, 6, 6, 6, 6, 6, 6, 6, 6, 6, 6, 6, 6, 6, 6, 6, 6, 6, 6, 6, 6, 6, 6, 6, 6, 6, 6, 6, 6, 6, 6, 6, 6, 7, 7, 7, 7, 7, 7, 7, 7, 7, 7, 7, 7, 7, 7, 7, 7, 7, 7, 7, 7, 7, 7, 7, 7, 7, 7, 7, 7, 7, 7, 7, 7, 7, 7, 7, 7, 7, 7, 7, 7, 7, 7, 7, 7, 7, 7, 7, 7, 7, 7, 7, 7, 7, 7, 7, 7, 7, 7, 7, 7, 7, 7, 7, 7, 8, 8, 8, 8, 8, 8, 8, 8, 8, 8, 8, 8, 8, 8, 8, 8, 8, 8, 8, 8, 8, 8, 8, 8, 8, 8, 8, 8, 8, 8, 8, 8, 8, 8, 8, 8, 8, 8, 8, 8, 8, 8, 8, 8, 8, 8, 8, 8, 8, 8, 8, 8, 8, 8, 8, 8, 8, 8, 8, 8, 8, 8, 8, 8, 8, 8, 8, 8, 8, 8, 8, 8, 8, 8, 8, 8, 8, 8, 8, 8, 8, 8, 8, 8, 8, 8, 8, 8, 8, 8, 8, 8, 8, 8, 8, 8, 8, 8, 8, 8, 8, 8, 8, 8, 8, 8, 8, 8, 8, 8, 8, 8, 8, 8, 8, 8, 8, 8, 8, 8, 8, 8, 8, 8, 8, 8, 8, 8]⟩
set_option maxRecDepth 100000 in
theorem len8_size : len8.size = 256 := by rfl
set_option maxRecDepth 1000000 in
theorem len8_eq : ∀ i : Fin 256, (len8[i.val]'(by rw [len8_size]; exact i.isLt)).toNat = bitsLen i.val := by decide +kernel
theorem bitsLen_le (n : Nat) (hn : n ≤ 255) : bitsLen n ≤ 8 := (bitsLen_le_iff n 8).2 (by omega)
set_option maxRecDepth 1000000 in
theorem len64_any (n : Nat) (hn : n ≤ 255) (w : World) : Ret Tryz.prog 100 #[.int .u64 n] w fun v' w' => v' = .int .i64 (bitsLen n) ∧ w' = w := by
  refine v_enter Tryz.func100 Tryz.ntmps100 rfl (by simp) fun R' hR => ?_
  have h1 : ¬ (4294967296 : Int) ≤ n := by omega
  have h2 : ¬ (65536 : Int) ≤ n := by omega
  have h3 : ¬ (256 : Int) ≤ n := by omega
  have h4 : IntKind.u8.wrap (n : Int) = n := by simp [IntKind.wrap, IntKind.bits, IntKind.signed]; omega
  have h5 : (n : Int) < 256 := by omega
  have h6 : n < 256 := by omega
  have hb := bitsLen_le n hn
  have key := len8_eq ⟨n, h6⟩
  have h7 : IntKind.i64.wrap (bitsLen n : Int) = (bitsLen n : Int) := by rw [IntKind.wrap_i64]; omega
  simp only [len8] at key
  simp [go_sem, h1, h2, h3, h4, h5, h6, key, h7]
  exact hR _ _ ⟨rfl, rfl⟩
theorem len_any (n : Nat) (hn : n ≤ 255) (w : World) : Ret Tryz.prog 78 #[.int .u64 n] w fun v' w' => v' = .int .i64 (bitsLen n) ∧ w' = w := by
  refine v_enter Tryz.func78 Tryz.ntmps78 rfl (by simp) fun R' hR => ?_
  simp [go_sem]
  refine (len64_any n hn w).mono ?_
  rintro _ w1 ⟨rfl, hw⟩
  subst w1
  simp [go_sem]
  exact hR _ _ ⟨rfl, rfl⟩
theorem pow2_any (n : Nat) (hn : n ≤ 255) (w : World) : Ret Tryz.prog 105 #[.int .i64 n] w fun v' w' => v' = .int .u64 (2 ^ bitsLen n : Nat) ∧ w' = w := by
  refine v_enter Tryz.func105 Tryz.ntmps105 rfl (by simp) fun R' hR => ?_
  have h1 : IntKind.u64.wrap (n : Int) = n := by rw [IntKind.wrap_u64]; omega
  simp [go_sem, h1]
  refine (len_any n hn w).mono ?_
  rintro _ w1 ⟨rfl, hw⟩
  subst w1
  have hb := bitsLen_le n hn
  obtain ⟨k, hk⟩ : ∃ k, bitsLen n = k := ⟨_, rfl⟩
  rw [hk] at hb hR ⊢
  have hp : 2 ^ k ≤ 2 ^ 8 := Nat.pow_le_pow_right (by decide) hb
  have h2 : ((k : Int) ≤ 64) := by omega
  have h3 : IntKind.u64.wrap ((2 : Int) ^ k) = ((2 ^ k : Nat) : Int) := by
    rw [show (2 : Int) ^ k = ((2 ^ k : Nat) : Int) by simp, IntKind.wrap_u64]
    generalize 2 ^ k = y at hp
    omega
  simp [go_sem, h2, h3]
  exact hR _ _ ⟨by simp, rfl⟩
theorem and_mask (v k : Nat) (hv : v < 18446744073709551616) (hk : k ≤ 32) : bits .and .u64 (v : Int) ((2 ^ k - 1 : Nat) : Int) = ((v % 2 ^ k : Nat) : Int) := by
  have hp : 2 ^ k ≤ 2 ^ 32 := Nat.pow_le_pow_right (by decide) hk
  have of : ∀ a : Nat, a < 2 ^ 64 → (BitVec.ofInt 64 (a : Int)).toNat = a := fun a h => by
    rw [BitVec.ofInt_natCast, BitVec.toNat_ofNat]
    exact Nat.mod_eq_of_lt h
  have hq : v % 2 ^ k < 2 ^ k := Nat.mod_lt _ (Nat.two_pow_pos k)
  show IntKind.u64.wrap ((BitVec.ofInt 64 (v : Int) &&& BitVec.ofInt 64 ((2 ^ k - 1 : Nat) : Int)).toNat : Int) = _
  rw [BitVec.toNat_and, of v (by omega), of _ (by omega), Nat.and_two_pow_sub_one_eq_mod, IntKind.wrap_u64]
  omega
theorem xor_nat (x y : Int) : ∃ z : Nat, z < 18446744073709551616 ∧ bits .xor .u64 x y = z := by
  have h : ∃ a : Int, bits .xor .u64 x y = IntKind.u64.wrap a := ⟨_, rfl⟩
  obtain ⟨a, ha⟩ := h
  rw [IntKind.wrap_u64] at ha
  exact ⟨(bits .xor .u64 x y).toNat, by omega, by omega⟩
theorem next_any {T : TypeId} (r x : Nat) (w : World) (h : w.heap[r]? = some (.cells #[.int .u64 x] T (0, 0))) : Ret Tryz.prog 106 #[.pointer (some ⟨r, 0, none⟩)] w fun v' w' => ∃ y : Nat, y < 18446744073709551616 ∧ v' = .int .u64 y ∧ w'.heap[r]? = some (.cells #[.int .u64 y] T (0, 0)) ∧ Ch (one r) w w' := by
  refine v_enter Tryz.func106 Tryz.ntmps106 rfl (by simp) fun R' hR => ?_
  have st : ∀ {u : World} {x y : Nat}, u.heap[r]? = some (.cells #[.int .u64 x] T (0, 0)) → (u.setCell ⟨r, 0, none⟩ (.int .u64 y)).heap[r]? = some (.cells #[.int .u64 y] T (0, 0)) ∧ Ch (one r) u (u.setCell ⟨r, 0, none⟩ (.int .u64 y)) := fun {u x y} hu => by
    refine ⟨?_, (Ch.refl (one r) u).setCell (p := ⟨r, 0, none⟩) (.inl rfl) _⟩
    rw [hp_setCell, hu, setOf_cells]
    rfl
  have c0 := cell_blk h 0
  have f0 := frz_blk h 0
  obtain ⟨y1, hy1, e1⟩ := xor_nat x (IntKind.u64.wrap ((x : Int) * 8192))
  simp [go_sem]
  refine v_draw' [(0, none), (1, none), (2, none), (3, none), (4, none), (5, none), (6, none), (7, none), (8, none), (9, some [])] (by kernel_rfl) (by kernel_rfl) ?_
  simp [go_sem, c0, f0, e1]
  obtain ⟨h1, k1⟩ := st (y := y1) h
  revert h1 k1
  generalize w.setCell ⟨r, 0, none⟩ (.int .u64 y1) = w1
  intro h1 k1
  have c1 := cell_blk h1 0
  have f1 := frz_blk h1 0
  obtain ⟨y2, hy2, e2⟩ := xor_nat y1 ((y1 : Int) / 128)
  refine v_draw' [(0, none), (1, none), (2, none), (3, none), (4, none), (5, none), (6, none), (7, none), (8, none), (9, some [])] (by kernel_rfl) (by kernel_rfl) ?_
  simp [go_sem, c1, f1, e2]
  obtain ⟨h2, k2⟩ := st (y := y2) h1
  revert h2 k2
  generalize w1.setCell ⟨r, 0, none⟩ (.int .u64 y2) = w2
  intro h2 k2
  have c2 := cell_blk h2 0
  have f2 := frz_blk h2 0
  obtain ⟨y3, hy3, e3⟩ := xor_nat y2 (IntKind.u64.wrap ((y2 : Int) * 131072))
  refine v_draw' [(0, none), (1, none), (2, none), (3, none), (4, none), (5, none), (6, none), (7, none), (8, none), (9, some [])] (by kernel_rfl) (by kernel_rfl) ?_
  simp [go_sem, c2, f2, e3]
  obtain ⟨h3, k3⟩ := st (y := y3) h2
  revert h3 k3
  generalize w2.setCell ⟨r, 0, none⟩ (.int .u64 y3) = w3
  intro h3 k3
  exact hR _ _ ⟨y3, hy3, rfl, h3, by (repeat apply Ch.drew); exact (k1.trans k2).trans k3⟩
section
variable {w u : World} {blk N i j : Nat} {d dk : Array Off} {x y : Off}
set_option maxRecDepth 100000 in
theorem rev_any (h : Rw kO w blk d) (a b cap : Nat) (hab : a < b) (hb : b ≤ d.size) (hsz : d.size ≤ 255) :
    Ret Tryz.prog 94 #[sl blk d.size cap, .int .i64 a, .int .i64 b] w fun _ w' => ∃ d', Rw kO w' blk d' ∧ PermIn a b d d' ∧ Ch (one blk) w w' := by
  refine v_enter Tryz.func94 Tryz.ntmps94 rfl (by simp) fun R' hR => ?_
  obtain ⟨N, hN⟩ : ∃ N, d.size = N := ⟨_, rfl⟩
  rw [hN] at hb hsz ⊢
  obtain ⟨b1, hb1⟩ : ∃ b1, b - 1 = b1 := ⟨_, rfl⟩
  have hwb := wi ((b : Int) - 1) b1 (by omega) (by omega)
  simp [go_sem, hwb]
  refine v_loop (fun r f u => ∃ i j dk, r = j + 1 - i ∧ a ≤ i ∧ i ≤ b ∧ j < b ∧ f 0 = sl blk N cap ∧ f 6 = .int .i64 i ∧ f 7 = .int .i64 j ∧ dk.size = N ∧ Rw kO u blk dk ∧ PermIn a b d dk ∧ Ch (one blk) w u) (b1 + 1 - a)
    ⟨a, b1, d, rfl, by omega, by omega, by omega, by simp, by simp, by simp, hN, h, permIn_refl _ _ _, Ch.refl _ _⟩ ?_
  rintro J hJ _ f u ⟨i, j, dk, rfl, hai, hib, hjb, f0, f6, f7, hk, hu, hP, cu⟩
  by_cases hlt : i < j
  · have hlt' : (i : Int) < j := by omega
    obtain ⟨q, hq⟩ : ∃ q, j = q + 1 := ⟨j - 1, by omega⟩
    have hwj := wi ((j : Int) - 1) q (by omega) (by omega)
    have hwi := wi ((i : Int) + 1) (i + 1) (by omega) (by omega)
    have li : i < N := by omega
    have lj : j < N := by omega
    obtain ⟨x, hx, cx, li', fx⟩ := rd hu hk li
    obtain ⟨y, hy, cy, lj', fy⟩ := rd hu hk lj
    obtain ⟨hw', hk', cw'⟩ := sw hu hk li lj hx hy
    obtain ⟨z2, hz2⟩ := rd2 hu hk lj i y
    simp [go_sem, f6, f7, hlt, hlt']
    refine v_draw' [(0, none), (1, none), (2, none), (3, none), (4, none), (5, none), (6, none), (7, none), (8, none), (9, none), (10, none), (11, none), (12, none), (13, some [2, 3]), (14, none), (15, some [])] (by kernel_rfl) (by kernel_rfl) ?_
    simp [go_sem, f0, f6, f7, li, li', lj, lj', cx, cy, fx, fy, hz2, hwi, hwj]
    exact Rnd.intro (q + 1 - (i + 1)) (by omega) (hJ _ _ _ ⟨i + 1, q, _, rfl, by omega, by omega, by omega, by simp [f0], by simp, by simp, hk', hw', permIn_trans _ _ _ _ _ hP (swp_permIn dk a b i j hai (by omega) (by omega) hjb (by omega)), by (repeat apply Ch.drew); exact cu.trans cw'⟩)
  · have hlt' : ¬ (i : Int) < j := by omega
    simp [go_sem, f6, f7, hlt, hlt']
    exact hR _ _ ⟨dk, hu, hP, cu⟩
set_option maxRecDepth 100000 in
theorem brk_any (h : Rw kO w blk d) (a b cap : Nat) (hab : a + 8 ≤ b) (hb : b ≤ d.size) (hsz : d.size ≤ 255) :
    Ret Tryz.prog 92 #[sl blk d.size cap, .int .i64 a, .int .i64 b] w fun _ w' => ∃ d', Rw kO w' blk d' ∧ PermIn a b d d' ∧ Ch (one blk) w w' := by
  refine v_enter Tryz.func92 Tryz.ntmps92 rfl (by simp) fun R' hR => ?_
  obtain ⟨N, hN⟩ : ∃ N, d.size = N := ⟨_, rfl⟩
  rw [hN] at hb hsz ⊢
  obtain ⟨l, hl⟩ : ∃ l, b - a = l := ⟨_, rfl⟩
  have hwl := wi ((b : Int) - a) l (by omega) (by omega)
  have h8 : (8 : Int) ≤ l := by omega
  have h8' : 8 ≤ l := by omega
  have hwu : IntKind.u64.wrap (l : Int) = l := by rw [IntKind.wrap_u64]; omega
  have ca := (Ch.refl Nw w).alloc (.cells #[.int .u64 l] 188)
  have ba := hp_alloc w (.cells #[.int .u64 l] 188)
  have ha := h.ch ca id
  have hrb : w.heap.size ≠ blk := fun e => by have := h.lt; omega
  simp [go_sem, hwl, h8, h8', hwu]
  obtain ⟨r, hr⟩ : ∃ r, w.heap.size = r := ⟨_, rfl⟩
  rw [hr] at ba hrb ⊢
  generalize w.alloc (.cells #[.int .u64 l] 188) = w1 at *
  have ca' : Ch (one blk) w w1 := ca.mono fun _ _ e => e.elim
  obtain ⟨k, hk⟩ : ∃ k, bitsLen l = k := ⟨_, rfl⟩
  have hkl : k ≤ 8 := by rw [← hk]; exact bitsLen_le l (by omega)
  have hp2 : 2 ^ k ≤ 2 * l := by rw [← hk]; exact two_pow_bitsLen_le (by omega)
  have hp0 : 0 < 2 ^ k := Nat.two_pow_pos k
  refine (pow2_any l (by omega) w1).mono ?_
  rintro _ w2 ⟨rfl, hw2⟩
  subst w2
  rw [hk]
  obtain ⟨M, hM⟩ : ∃ M, 2 ^ k = M := ⟨_, rfl⟩
  have hmask : ∀ y : Nat, y < 18446744073709551616 → bits .and .u64 (y : Int) ((M - 1 : Nat) : Int) = ((y % M : Nat) : Int) := fun y hy => by
    rw [← hM]
    exact and_mask y k hy (by omega)
  rw [hM] at hp2 hp0 ⊢
  obtain ⟨q4, hq4⟩ : ∃ q4, l / 4 = q4 := ⟨_, rfl⟩
  have hdiv : ((l : Int).tdiv 4) = q4 := by rw [Int.tdiv_eq_ediv_of_nonneg (by omega)]; omega
  have hw4 : IntKind.i64.wrap (q4 : Int) = q4 := wi _ q4 rfl (by omega)
  obtain ⟨p, hp⟩ : ∃ p, q4 * 2 = p := ⟨_, rfl⟩
  have hwp := wi ((q4 : Int) * 2) p (by omega) (by omega)
  obtain ⟨s, hs⟩ : ∃ s, a + p = s := ⟨_, rfl⟩
  have hws := wi ((a : Int) + p) s (by omega) (by omega)
  obtain ⟨s1, hs1⟩ : ∃ s1, s - 1 = s1 := ⟨_, rfl⟩
  have hws1 := wi ((s : Int) - 1) s1 (by omega) (by omega)
  obtain ⟨s2, hs2⟩ : ∃ s2, s + 1 = s2 := ⟨_, rfl⟩
  have hws2 := wi ((s : Int) + 1) s2 (by omega) (by omega)
  obtain ⟨M1, hM1⟩ : ∃ M1, M - 1 = M1 := ⟨_, rfl⟩
  have hwM : IntKind.u64.wrap ((M : Int) - 1) = M1 := by rw [IntKind.wrap_u64]; omega
  rw [hM1] at hmask
  simp [go_sem, hdiv, hw4, hwp, hws, hws1]
  refine v_loop (fun rr f u => ∃ i y dk, rr = s2 + 1 - i ∧ s1 ≤ i ∧ i ≤ s2 + 1 ∧ f 0 = sl blk N cap ∧ f 1 = .int .i64 a ∧ f 6 = .int .i64 l ∧ f 7 = .pointer (some ⟨r, 0, none⟩) ∧ f 8 = .int .u64 M ∧ f 9 = .int .i64 i ∧ u.heap[r]? = some (.cells #[.int .u64 (y : Nat)] 188 (0, 0)) ∧ dk.size = N ∧ Rw kO u blk dk ∧ PermIn a b d dk ∧ Ch (one blk) w u) (s2 + 1 - s1)
    ⟨s1, l, d, rfl, by omega, by omega, by simp, by simp, by simp, by simp, by simp, by simp, ba, hN, ha, permIn_refl _ _ _, ca'⟩ ?_
  clear ba ha ca ca' h
  rintro J hJ _ f u ⟨i, y, dk, rfl, hsi, his, f0, f1, f6, f7, f8, f9, hbr, hk', hu, hP, cu⟩
  by_cases hle : i ≤ s2
  · have hle' : (i : Int) ≤ s2 := by omega
    simp [go_sem, f9, f1, f6, hdiv, hw4, hwp, hws, hws2, hle, hle', f7]
    refine (next_any r y u hbr).mono ?_
    rintro _ w3 ⟨y3, hy3, rfl, hbr, c3⟩
    replace hu := hu.ch c3 hrb.symm
    have cu3 : Ch (one blk) w w3 := cu.trans' c3 fun j hj e => by simp only [one] at e; omega
    obtain ⟨o, ho⟩ : ∃ o, y3 % M = o := ⟨_, rfl⟩
    have hoM : o < M := by rw [← ho]; exact Nat.mod_lt _ hp0
    have hm := hmask y3 hy3
    rw [ho] at hm
    have hwo := wi (o : Int) o rfl (by omega)
    obtain ⟨o2, ho2⟩ : ∃ o2, (if l ≤ o then o - l else o) = o2 := ⟨_, rfl⟩
    have ho2l : o2 < l := by
      rw [← ho2]
      split <;> omega
    obtain ⟨e, he⟩ : ∃ e, a + o2 = e := ⟨_, rfl⟩
    have hwe := wi ((a : Int) + o2) e (by omega) (by omega)
    have li : i < N := by omega
    have le : e < N := by omega
    obtain ⟨x, hx, cx, li', fx⟩ := rd hu hk' li
    obtain ⟨z, hz, cz, le', fz⟩ := rd hu hk' le
    obtain ⟨hw', hk2, cw'⟩ := sw hu hk' li le hx hz
    obtain ⟨z2, hz2⟩ := rd2 hu hk' le i z
    have hwi := wi ((i : Int) + 1) (i + 1) (by omega) (by omega)
    have hP2 := permIn_trans _ _ _ _ _ hP (swp_permIn dk a b i e (by omega) (by omega) (by omega) (by omega) (by omega))
    have hbr2 : ∀ v1 v2 : Value, (((w3.setCell ⟨blk, i, none⟩ v1).setCell ⟨blk, e, none⟩ v2)).heap[r]? = some (.cells #[.int .u64 (y3 : Nat)] 188 (0, 0)) := fun v1 v2 => by
      rw [hp_setCell_ne _ _ _ _ hrb, hp_setCell_ne _ _ _ _ hrb]
      exact hbr
    simp [go_sem, f8, hwM, hm, hwo, f6]
    by_cases hlo : l ≤ o
    · have hlo' : (l : Int) ≤ o := by omega
      rw [if_pos hlo] at ho2
      have hwo2 := wi ((o : Int) - l) o2 (by omega) (by omega)
      simp [go_sem, hlo, hlo', f6, hwo2]
      refine v_draw' [(0, none), (1, none), (2, none), (3, none), (4, none), (5, none), (6, none), (7, none), (8, none), (9, none), (10, none), (11, none), (12, none), (13, none), (14, none), (15, none), (16, none), (17, some [2, 3, 4, 5]), (18, none), (19, some [])] (by kernel_rfl) (by kernel_rfl) ?_
      simp [go_sem, f0, f1, f9, hwe, li, li', le, le', cx, cz, fx, fz, hz2, hwi]
      exact Rnd.intro (s2 + 1 - (i + 1)) (by omega) (hJ _ _ _ ⟨i + 1, y3, _, rfl, by omega, by omega, by simp [f0], by simp [f1], by simp [f6], by simp [f7], by simp [f8], by simp, hbr2 _ _, hk2, hw', hP2, by (repeat apply Ch.drew); exact cu3.trans cw'⟩)
    · have hlo' : ¬ (l : Int) ≤ o := by omega
      rw [if_neg hlo] at ho2
      subst o2
      simp [go_sem, hlo, hlo']
      refine v_draw' [(0, none), (1, none), (2, none), (3, none), (4, none), (5, none), (6, none), (7, none), (8, none), (9, none), (10, none), (11, none), (12, none), (13, none), (14, none), (15, none), (16, none), (17, some [2, 3, 4, 5]), (18, none), (19, some [])] (by kernel_rfl) (by kernel_rfl) ?_
      simp [go_sem, f0, f1, f9, hwe, li, li', le, le', cx, cz, fx, fz, hz2, hwi]
      exact Rnd.intro (s2 + 1 - (i + 1)) (by omega) (hJ _ _ _ ⟨i + 1, y3, _, rfl, by omega, by omega, by simp [f0], by simp [f1], by simp [f6], by simp [f7], by simp [f8], by simp, hbr2 _ _, hk2, hw', hP2, by (repeat apply Ch.drew); exact cu3.trans cw'⟩)
  · have hle' : ¬ (i : Int) ≤ s2 := by omega
    simp [go_sem, f9, f1, f6, hdiv, hw4, hwp, hws, hws2, hle, hle']
    exact hR _ _ ⟨dk, hu, hP, cu⟩
end
end Go.Proofs.YtnefdmbdkljifaaGreatDoor.S32
