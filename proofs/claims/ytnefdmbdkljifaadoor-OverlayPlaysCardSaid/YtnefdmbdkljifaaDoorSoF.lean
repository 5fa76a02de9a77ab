/- Whole numbers sorted: a pivot. No condition. -/
import Derived.Test.YtnefdmbdkljifaaDoorSoB
set_option linter.unusedSimpArgs false
set_option linter.unusedVariables false

namespace Go.Proofs.YtnefdmbdkljifaaDoor.S16
open Go.RowKit Go.Kin Go.Maps Go.Sort

section
variable {w u : World} {blk N s : Nat} {d : Array Num} {T : TypeId}
/-- a count -/
def Cnt (w : World) (s : Nat) (T : TypeId) : Prop := ∃ v : Int, w.heap[s]? = some (.cells #[.int .i64 v] T (0, 0))
theorem Cnt.set (h : Cnt w s T) (v : Int) : Cnt (w.setCell ⟨s, 0, none⟩ (.int .i64 v)) s T := by
  obtain ⟨x, h⟩ := h
  refine ⟨v, ?_⟩
  rw [hp_setCell, h, setOf_cells]
  rfl
theorem ord2_any (h : Rw kU w blk d) (hk : d.size = N) (hs : Cnt w s T) (hsb : s ≠ blk) (a b cap : Nat) (ha : a < N) (hb : b < N) :
    Ret Tryd.prog 93 #[sl blk N cap, .int .i64 a, .int .i64 b, .pointer (some ⟨s, 0, none⟩)] w fun v' w' => ∃ x y : Nat, v' = .tuple #[.int .i64 x, .int .i64 y] ∧ ((x = a ∧ y = b) ∨ (x = b ∧ y = a)) ∧ Cnt w' s T ∧ Ch (Kin.one s) w w' := by
  refine v_enter Tryd.func93 Tryd.ntmps93 rfl (by simp) fun R' hR => ?_
  obtain ⟨x, hx, cx, ha', _⟩ := rd h hk ha
  obtain ⟨y, hy, cy, hb', _⟩ := rd h hk hb
  obtain ⟨v, hv⟩ := id hs
  have c0 := cell_blk hv 0
  have f0 := frz_blk hv 0
  simp [go_sem]
  refine v_draw' [(0, none), (1, none), (2, none), (3, none), (4, none), (5, none), (6, none), (7, none), (8, some [])] (by kernel_rfl) (by kernel_rfl) ?_
  simp [go_sem, ha, ha', hb, hb', cx, cy]
  refine (less_any y x _).mono ?_
  rintro _ w2 ⟨rfl, hw2⟩
  subst w2
  cases lt y x with
  | true =>
    simp [go_sem, c0, f0]
    refine hR _ _ ⟨b, a, rfl, .inr ⟨rfl, rfl⟩, hs.set _, ?_⟩
    (repeat apply Ch.drew)
    exact (Ch.refl (Kin.one s) w).setCell (p := ⟨s, 0, none⟩) (.inl rfl) _
  | false =>
    simp [go_sem]
    exact hR _ _ ⟨a, b, rfl, .inl ⟨rfl, rfl⟩, hs, (Ch.refl _ _).drew⟩
theorem med_any (h : Rw kU w blk d) (hk : d.size = N) (hs : Cnt w s T) (hsb : s ≠ blk) (a b c cap : Nat) (ha : a < N) (hb : b < N) (hc : c < N) :
    Ret Tryd.prog 90 #[sl blk N cap, .int .i64 a, .int .i64 b, .int .i64 c, .pointer (some ⟨s, 0, none⟩)] w fun v' w' => ∃ x : Nat, v' = .int .i64 x ∧ (x = a ∨ x = b ∨ x = c) ∧ Cnt w' s T ∧ Ch (Kin.one s) w w' := by
  refine v_enter Tryd.func90 Tryd.ntmps90 rfl (by simp) fun R' hR => ?_
  have hn : ¬ Kin.one s blk := fun e => hsb e.symm
  simp [go_sem]
  refine (ord2_any h hk hs hsb a b cap ha hb).mono ?_
  rintro _ w1 ⟨a1, b1, rfl, h1, hs1, c1⟩
  simp [go_sem]
  refine (ord2_any (h.ch c1 hn) hk hs1 hsb b1 c cap (by omega) hc).mono ?_
  rintro _ w2 ⟨b2, c2, rfl, h2, hs2, k2⟩
  simp [go_sem]
  refine (ord2_any ((h.ch c1 hn).ch k2 hn) hk hs2 hsb a1 b2 cap (by omega) (by omega)).mono ?_
  rintro _ w3 ⟨a3, b3, rfl, h3, hs3, k3⟩
  simp [go_sem]
  exact hR _ _ ⟨b3, rfl, by omega, hs3, (c1.trans k2).trans k3⟩
theorem medA_any (h : Rw kU w blk d) (hk : d.size = N) (hN : N ≤ 255) (hs : Cnt w s T) (hsb : s ≠ blk) (a cap : Nat) (ha : 1 ≤ a) (hb : a + 1 < N) :
    Ret Tryd.prog 89 #[sl blk N cap, .int .i64 a, .pointer (some ⟨s, 0, none⟩)] w fun v' w' => ∃ x : Nat, v' = .int .i64 x ∧ a ≤ x + 1 ∧ x ≤ a + 1 ∧ Cnt w' s T ∧ Ch (Kin.one s) w w' := by
  refine v_enter Tryd.func89 Tryd.ntmps89 rfl (by simp) fun R' hR => ?_
  obtain ⟨q, hq⟩ : ∃ q, a - 1 = q := ⟨_, rfl⟩
  obtain ⟨p, hp⟩ : ∃ p, a + 1 = p := ⟨_, rfl⟩
  have hwq := wi ((a : Int) - 1) q (by omega) (by omega)
  have hwp := wi ((a : Int) + 1) p (by omega) (by omega)
  simp [go_sem, hwq, hwp]
  refine (med_any h hk hs hsb q a p cap (by omega) (by omega) (by omega)).mono ?_
  rintro _ w1 ⟨x, rfl, hx, hs1, c1⟩
  simp [go_sem]
  exact hR _ _ ⟨x, rfl, by omega, by omega, hs1, c1⟩
set_option maxRecDepth 100000 in
theorem piv_any (h : Rw kU w blk d) (a b cap : Nat) (hab : a + 8 ≤ b) (hb : b ≤ d.size) (hsz : d.size ≤ 255) :
    Ret Tryd.prog 77 #[sl blk d.size cap, .int .i64 a, .int .i64 b] w fun v' w' => ∃ (p : Nat) (t : Nat), v' = .tuple #[.int .i64 p, .int .i64 t] ∧ a ≤ p ∧ p < b ∧ t < 3 ∧ Ch Nw w w' := by
  refine v_enter Tryd.func77 Tryd.ntmps77 rfl (by simp) fun R' hR => ?_
  obtain ⟨N, hN⟩ : ∃ N, d.size = N := ⟨_, rfl⟩
  rw [hN] at hb hsz ⊢
  obtain ⟨l, hl⟩ : ∃ l, b - a = l := ⟨_, rfl⟩
  have hwl := wi ((b : Int) - a) l (by omega) (by omega)
  obtain ⟨q4, hq4⟩ : ∃ q4, l / 4 = q4 := ⟨_, rfl⟩
  have hdiv : ((l : Int).tdiv 4) = q4 := by rw [Int.tdiv_eq_ediv_of_nonneg (by omega)]; omega
  have hw4 : IntKind.i64.wrap (q4 : Int) = q4 := wi _ q4 rfl (by omega)
  obtain ⟨p2, hp2⟩ : ∃ p, q4 * 2 = p := ⟨_, rfl⟩
  have hwp2 := wi ((q4 : Int) * 2) p2 (by omega) (by omega)
  obtain ⟨p3, hp3⟩ : ∃ p, q4 * 3 = p := ⟨_, rfl⟩
  have hwp3 := wi ((q4 : Int) * 3) p3 (by omega) (by omega)
  obtain ⟨i, hi⟩ : ∃ i, a + q4 = i := ⟨_, rfl⟩
  have hwi := wi ((a : Int) + q4) i (by omega) (by omega)
  obtain ⟨j, hj⟩ : ∃ i, a + p2 = i := ⟨_, rfl⟩
  have hwj := wi ((a : Int) + p2) j (by omega) (by omega)
  obtain ⟨k, hk⟩ : ∃ i, a + p3 = i := ⟨_, rfl⟩
  have hwk := wi ((a : Int) + p3) k (by omega) (by omega)
  have h8 : (8 : Int) ≤ l := by omega
  have h8' : 8 ≤ l := by omega
  have ca := (Ch.refl Nw w).alloc (.cells #[.int .i64 0] 3)
  have ba := hp_alloc w (.cells #[.int .i64 0] 3)
  have ha := h.ch ca id
  have hrb : w.heap.size ≠ blk := fun e => by have := h.lt; omega
  simp [go_sem, hwl, hdiv, hw4, hwp2, hwp3, hwi, hwj, hwk, h8, h8']
  obtain ⟨s, hs⟩ : ∃ r, w.heap.size = r := ⟨_, rfl⟩
  rw [hs] at ba hrb ⊢
  generalize w.alloc (.cells #[.int .i64 0] 3) = w1 at *
  have hc : Cnt w1 s 3 := ⟨0, ba⟩
  have hn : ¬ Kin.one s blk := fun e => hrb e.symm
  have old : ∀ {u : World}, Ch (Kin.one s) w1 u → Ch Nw w u := fun {u} c => ca.trans' c fun x hx e => by simp only [Kin.one] at e; omega
  obtain ⟨I, hI⟩ : ∃ I : (Nat → Value) → World → Prop, I = fun f u => ∃ p : Nat, a ≤ p ∧ p < b ∧ f 11 = .int .i64 p ∧ f 9 = .pointer (some ⟨s, 0, none⟩) ∧ Cnt u s 3 ∧ Ch Nw w u := ⟨_, rfl⟩
  by_cases h50 : 50 ≤ l
  · have h50' : (50 : Int) ≤ l := by omega
    simp [go_sem, h50, h50']
    refine (medA_any ha hN hsz hc hrb i cap (by omega) (by omega)).mono ?_
    rintro _ w2 ⟨i', rfl, hi1, hi2, hc2, c2⟩
    simp [go_sem]
    refine (medA_any (ha.ch c2 hn) hN hsz hc2 hrb j cap (by omega) (by omega)).mono ?_
    rintro _ w3 ⟨j', rfl, hj1, hj2, hc3, c3⟩
    simp [go_sem]
    refine (medA_any ((ha.ch c2 hn).ch c3 hn) hN hsz hc3 hrb k cap (by omega) (by omega)).mono ?_
    rintro _ w4 ⟨k', rfl, hk1, hk2, hc4, c4⟩
    simp [go_sem]
    refine (med_any (((ha.ch c2 hn).ch c3 hn).ch c4 hn) hN hc4 hrb i' j' k' cap (by omega) (by omega) (by omega)).mono ?_
    rintro _ w5 ⟨p, rfl, hp, ⟨v, hv⟩, c5⟩
    have cc := old (((c2.trans c3).trans c4).trans c5)
    have c0 := cell_blk hv 0
    by_cases h0 : v = 0
    · simp [go_sem, c0, h0]
      exact hR _ _ ⟨p, 1, rfl, by omega, by omega, by omega, cc⟩
    have h0' : (v == 0) = false := beq_false_of_ne h0
    by_cases h12 : v = 12
    · simp [go_sem, c0, h0, h0', h12]
      exact hR _ _ ⟨p, 2, rfl, by omega, by omega, by omega, cc⟩
    have h12' : (v == 12) = false := beq_false_of_ne h12
    simp [go_sem, c0, h0, h0', h12, h12']
    exact hR _ _ ⟨p, 0, rfl, by omega, by omega, by omega, cc⟩
  · have h50' : ¬ (50 : Int) ≤ l := by omega
    simp [go_sem, h50, h50']
    refine (med_any ha hN hc hrb i j k cap (by omega) (by omega) (by omega)).mono ?_
    rintro _ w5 ⟨p, rfl, hp, ⟨v, hv⟩, c5⟩
    have cc := old c5
    have c0 := cell_blk hv 0
    by_cases h0 : v = 0
    · simp [go_sem, c0, h0]
      exact hR _ _ ⟨p, 1, rfl, by omega, by omega, by omega, cc⟩
    have h0' : (v == 0) = false := beq_false_of_ne h0
    by_cases h12 : v = 12
    · simp [go_sem, c0, h0, h0', h12]
      exact hR _ _ ⟨p, 2, rfl, by omega, by omega, by omega, cc⟩
    have h12' : (v == 12) = false := beq_false_of_ne h12
    simp [go_sem, c0, h0, h0', h12, h12']
    exact hR _ _ ⟨p, 0, rfl, by omega, by omega, by omega, cc⟩
end
end Go.Proofs.YtnefdmbdkljifaaDoor.S16
