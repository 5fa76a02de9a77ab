/- Whole numbers sorted. No condition but on their number. -/
import Derived.Test.YtnefdmbdkljifaaGreatDoorSpB
import Derived.Test.YtnefdmbdkljifaaGreatDoorSpC
import Derived.Test.YtnefdmbdkljifaaGreatDoorSpD
import Derived.Test.YtnefdmbdkljifaaGreatDoorSpE
set_option linter.unusedSimpArgs false
set_option linter.unusedVariables false

/- Whole numbers sorted: a pivot. No condition. -/
namespace Go.Proofs.YtnefdmbdkljifaaGreatDoor.S32
open Go.RowKit Go.Kin Go.Maps Go.Sort

section
variable {w u : World} {blk N s : Nat} {d : Array Off} {T : TypeId}
/-- a count -/
def Cnt (w : World) (s : Nat) (T : TypeId) : Prop := ∃ v : Int, w.heap[s]? = some (.cells #[.int .i64 v] T (0, 0))
theorem Cnt.set (h : Cnt w s T) (v : Int) : Cnt (w.setCell ⟨s, 0, none⟩ (.int .i64 v)) s T := by
  obtain ⟨x, h⟩ := h
  refine ⟨v, ?_⟩
  rw [hp_setCell, h, setOf_cells]
  rfl
theorem ord2_any (h : Rw kO w blk d) (hk : d.size = N) (hs : Cnt w s T) (hsb : s ≠ blk) (a b cap : Nat) (ha : a < N) (hb : b < N) :
    Ret Tryz.prog 110 #[sl blk N cap, .int .i64 a, .int .i64 b, .pointer (some ⟨s, 0, none⟩)] w fun v' w' => ∃ x y : Nat, v' = .tuple #[.int .i64 x, .int .i64 y] ∧ ((x = a ∧ y = b) ∨ (x = b ∧ y = a)) ∧ Cnt w' s T ∧ Ch (one s) w w' := by
  refine v_enter Tryz.func110 Tryz.ntmps110 rfl (by simp) fun R' hR => ?_
  obtain ⟨x, hx, cx, ha', _⟩ := rd h hk ha
  obtain ⟨y, hy, cy, hb', _⟩ := rd h hk hb
  obtain ⟨v, hv⟩ := id hs
  have c0 := cell_blk hv 0
  have f0 := frz_blk hv 0
  simp [go_sem]
  refine v_draw' [(0, none), (1, none), (2, none), (3, none), (4, none), (5, none), (6, none), (7, none), (8, some [])] (by kernel_rfl) (by kernel_rfl) ?_
  simp [go_sem, ha, ha', hb, hb', cx, cy]
  refine (less_any y x _).mono ?_
  rintro _ w2 ⟨rfl, hw2⟩
  subst w2
  cases lt y x with
  | true =>
    simp [go_sem, c0, f0]
    refine hR _ _ ⟨b, a, rfl, .inr ⟨rfl, rfl⟩, hs.set _, ?_⟩
    (repeat apply Ch.drew)
    exact (Ch.refl (one s) w).setCell (p := ⟨s, 0, none⟩) (.inl rfl) _
  | false =>
    simp [go_sem]
    exact hR _ _ ⟨a, b, rfl, .inl ⟨rfl, rfl⟩, hs, (Ch.refl _ _).drew⟩
theorem med_any (h : Rw kO w blk d) (hk : d.size = N) (hs : Cnt w s T) (hsb : s ≠ blk) (a b c cap : Nat) (ha : a < N) (hb : b < N) (hc : c < N) :
    Ret Tryz.prog 108 #[sl blk N cap, .int .i64 a, .int .i64 b, .int .i64 c, .pointer (some ⟨s, 0, none⟩)] w fun v' w' => ∃ x : Nat, v' = .int .i64 x ∧ (x = a ∨ x = b ∨ x = c) ∧ Cnt w' s T ∧ Ch (one s) w w' := by
  refine v_enter Tryz.func108 Tryz.ntmps108 rfl (by simp) fun R' hR => ?_
  have hn : ¬ one s blk := fun e => hsb e.symm
  simp [go_sem]
  refine (ord2_any h hk hs hsb a b cap ha hb).mono ?_
  rintro _ w1 ⟨a1, b1, rfl, h1, hs1, c1⟩
  simp [go_sem]
  refine (ord2_any (h.ch c1 hn) hk hs1 hsb b1 c cap (by omega) hc).mono ?_
  rintro _ w2 ⟨b2, c2, rfl, h2, hs2, k2⟩
  simp [go_sem]
  refine (ord2_any ((h.ch c1 hn).ch k2 hn) hk hs2 hsb a1 b2 cap (by omega) (by omega)).mono ?_
  rintro _ w3 ⟨a3, b3, rfl, h3, hs3, k3⟩
  simp [go_sem]
  exact hR _ _ ⟨b3, rfl, by omega, hs3, (c1.trans k2).trans k3⟩
theorem medA_any (h : Rw kO w blk d) (hk : d.size = N) (hN : N ≤ 255) (hs : Cnt w s T) (hsb : s ≠ blk) (a cap : Nat) (ha : 1 ≤ a) (hb : a + 1 < N) :
    Ret Tryz.prog 107 #[sl blk N cap, .int .i64 a, .pointer (some ⟨s, 0, none⟩)] w fun v' w' => ∃ x : Nat, v' = .int .i64 x ∧ a ≤ x + 1 ∧ x ≤ a + 1 ∧ Cnt w' s T ∧ Ch (one s) w w' := by
  refine v_enter Tryz.func107 Tryz.ntmps107 rfl (by simp) fun R' hR => ?_
  obtain ⟨q, hq⟩ : ∃ q, a - 1 = q := ⟨_, rfl⟩
  obtain ⟨p, hp⟩ : ∃ p, a + 1 = p := ⟨_, rfl⟩
  have hwq := wi ((a : Int) - 1) q (by omega) (by omega)
  have hwp := wi ((a : Int) + 1) p (by omega) (by omega)
  simp [go_sem, hwq, hwp]
  refine (med_any h hk hs hsb q a p cap (by omega) (by omega) (by omega)).mono ?_
  rintro _ w1 ⟨x, rfl, hx, hs1, c1⟩
  simp [go_sem]
  exact hR _ _ ⟨x, rfl, by omega, by omega, hs1, c1⟩
set_option maxRecDepth 100000 in
theorem piv_any (h : Rw kO w blk d) (a b cap : Nat) (hab : a + 8 ≤ b) (hb : b ≤ d.size) (hsz : d.size ≤ 255) :
    Ret Tryz.prog 93 #[sl blk d.size cap, .int .i64 a, .int .i64 b] w fun v' w' => ∃ (p : Nat) (t : Nat), v' = .tuple #[.int .i64 p, .int .i64 t] ∧ a ≤ p ∧ p < b ∧ t < 3 ∧ Ch Nw w w' := by
  refine v_enter Tryz.func93 Tryz.ntmps93 rfl (by simp) fun R' hR => ?_
  obtain ⟨N, hN⟩ : ∃ N, d.size = N := ⟨_, rfl⟩
  rw [hN] at hb hsz ⊢
  obtain ⟨l, hl⟩ : ∃ l, b - a = l := ⟨_, rfl⟩
  have hwl := wi ((b : Int) - a) l (by omega) (by omega)
  obtain ⟨q4, hq4⟩ : ∃ q4, l / 4 = q4 := ⟨_, rfl⟩
  have hdiv : ((l : Int).tdiv 4) = q4 := by rw [Int.tdiv_eq_ediv_of_nonneg (by omega)]; omega
  have hw4 : IntKind.i64.wrap (q4 : Int) = q4 := wi _ q4 rfl (by omega)
  obtain ⟨p2, hp2⟩ : ∃ p, q4 * 2 = p := ⟨_, rfl⟩
  have hwp2 := wi ((q4 : Int) * 2) p2 (by omega) (by omega)
  obtain ⟨p3, hp3⟩ : ∃ p, q4 * 3 = p := ⟨_, rfl⟩
  have hwp3 := wi ((q4 : Int) * 3) p3 (by omega) (by omega)
  obtain ⟨i, hi⟩ : ∃ i, a + q4 = i := ⟨_, rfl⟩
  have hwi := wi ((a : Int) + q4) i (by omega) (by omega)
  obtain ⟨j, hj⟩ : ∃ i, a + p2 = i := ⟨_, rfl⟩
  have hwj := wi ((a : Int) + p2) j (by omega) (by omega)
  obtain ⟨k, hk⟩ : ∃ i, a + p3 = i := ⟨_, rfl⟩
  have hwk := wi ((a : Int) + p3) k (by omega) (by omega)
  have h8 : (8 : Int) ≤ l := by omega
  have h8' : 8 ≤ l := by omega
  have ca := (Ch.refl Nw w).alloc (.cells #[.int .i64 0] 3)
  have ba := hp_alloc w (.cells #[.int .i64 0] 3)
  have ha := h.ch ca id
  have hrb : w.heap.size ≠ blk := fun e => by have := h.lt; omega
  simp [go_sem, hwl, hdiv, hw4, hwp2, hwp3, hwi, hwj, hwk, h8, h8']
  obtain ⟨s, hs⟩ : ∃ r, w.heap.size = r := ⟨_, rfl⟩
  rw [hs] at ba hrb ⊢
  generalize w.alloc (.cells #[.int .i64 0] 3) = w1 at *
  have hc : Cnt w1 s 3 := ⟨0, ba⟩
  have hn : ¬ one s blk := fun e => hrb e.symm
  have old : ∀ {u : World}, Ch (one s) w1 u → Ch Nw w u := fun {u} c => ca.trans' c fun x hx e => by simp only [one] at e; omega
  obtain ⟨I, hI⟩ : ∃ I : (Nat → Value) → World → Prop, I = fun f u => ∃ p : Nat, a ≤ p ∧ p < b ∧ f 11 = .int .i64 p ∧ f 9 = .pointer (some ⟨s, 0, none⟩) ∧ Cnt u s 3 ∧ Ch Nw w u := ⟨_, rfl⟩
  by_cases h50 : 50 ≤ l
  · have h50' : (50 : Int) ≤ l := by omega
    simp [go_sem, h50, h50']
    refine (medA_any ha hN hsz hc hrb i cap (by omega) (by omega)).mono ?_
    rintro _ w2 ⟨i', rfl, hi1, hi2, hc2, c2⟩
    simp [go_sem]
    refine (medA_any (ha.ch c2 hn) hN hsz hc2 hrb j cap (by omega) (by omega)).mono ?_
    rintro _ w3 ⟨j', rfl, hj1, hj2, hc3, c3⟩
    simp [go_sem]
    refine (medA_any ((ha.ch c2 hn).ch c3 hn) hN hsz hc3 hrb k cap (by omega) (by omega)).mono ?_
    rintro _ w4 ⟨k', rfl, hk1, hk2, hc4, c4⟩
    simp [go_sem]
    refine (med_any (((ha.ch c2 hn).ch c3 hn).ch c4 hn) hN hc4 hrb i' j' k' cap (by omega) (by omega) (by omega)).mono ?_
    rintro _ w5 ⟨p, rfl, hp, ⟨v, hv⟩, c5⟩
    have cc := old (((c2.trans c3).trans c4).trans c5)
    have c0 := cell_blk hv 0
    by_cases h0 : v = 0
    · simp [go_sem, c0, h0]
      exact hR _ _ ⟨p, 1, rfl, by omega, by omega, by omega, cc⟩
    have h0' : (v == 0) = false := beq_false_of_ne h0
    by_cases h12 : v = 12
    · simp [go_sem, c0, h0, h0', h12]
      exact hR _ _ ⟨p, 2, rfl, by omega, by omega, by omega, cc⟩
    have h12' : (v == 12) = false := beq_false_of_ne h12
    simp [go_sem, c0, h0, h0', h12, h12']
    exact hR _ _ ⟨p, 0, rfl, by omega, by omega, by omega, cc⟩
  · have h50' : ¬ (50 : Int) ≤ l := by omega
    simp [go_sem, h50, h50']
    refine (med_any ha hN hc hrb i j k cap (by omega) (by omega) (by omega)).mono ?_
    rintro _ w5 ⟨p, rfl, hp, ⟨v, hv⟩, c5⟩
    have cc := old c5
    have c0 := cell_blk hv 0
    by_cases h0 : v = 0
    · simp [go_sem, c0, h0]
      exact hR _ _ ⟨p, 1, rfl, by omega, by omega, by omega, cc⟩
    have h0' : (v == 0) = false := beq_false_of_ne h0
    by_cases h12 : v = 12
    · simp [go_sem, c0, h0, h0', h12]
      exact hR _ _ ⟨p, 2, rfl, by omega, by omega, by omega, cc⟩
    have h12' : (v == 12) = false := beq_false_of_ne h12
    simp [go_sem, c0, h0, h0', h12, h12']
    exact hR _ _ ⟨p, 0, rfl, by omega, by omega, by omega, cc⟩
end
end Go.Proofs.YtnefdmbdkljifaaGreatDoor.S32

namespace Go.Proofs.YtnefdmbdkljifaaGreatDoor.S32
open Go.RowKit Go.Kin Go.Maps Go.Sort

section
variable {w u : World} {blk N : Nat} {d : Array Off}
set_option maxRecDepth 100000 in
set_option maxHeartbeats 4000000 in
theorem pdq_any (cap : Nat) : ∀ (n : Nat) (w : World) (d : Array Off) (a b limit : Nat), b - a ≤ n → Rw kO w blk d → a ≤ b → b ≤ d.size → d.size ≤ 255 → limit ≤ 255 → Go.Sort.Below lt a b d →
    Ret Tryz.prog 77 #[sl blk d.size cap, .int .i64 a, .int .i64 b, .int .i64 limit] w fun _ w' => ∃ d', Rw kO w' blk d' ∧ PermIn a b d d' ∧ SortedIn lt a b d' ∧ Ch (one blk) w w' := by
  intro n
  induction n using Nat.strongRecOn with
  | _ n ih =>
  intro w d a0 b0 limit0 hn h hab hb hsz hlim hB
  refine v_enter Tryz.func77 Tryz.ntmps77 rfl (by simp) fun R' hR => ?_
  obtain ⟨N, hN⟩ : ∃ N, d.size = N := ⟨_, rfl⟩
  rw [hN] at hb hsz ⊢
  have rcl : ∀ {u : World} {dk : Array Off} {a b limit : Nat}, dk.size = N → b - a < n → Rw kO u blk dk → a ≤ b → b ≤ N → limit ≤ 255 → Go.Sort.Below lt a b dk → Ret Tryz.prog 77 #[sl blk N cap, .int .i64 a, .int .i64 b, .int .i64 limit] u fun _ w' => ∃ d', Rw kO w' blk d' ∧ PermIn a b dk d' ∧ SortedIn lt a b d' ∧ Ch (one blk) u w' := fun {u dk a b limit} h1 h2 h3 h4 h5 h6 h7 => by
    have := ih (b - a) h2 u dk a b limit (Nat.le_refl _) h3 h4 (by omega) (by omega) h6 h7
    rw [h1] at this
    exact this
  simp [go_sem]
  refine v_loop (fun r f u => ∃ a b limit wb wp dk, r = b - a ∧ a0 ≤ a ∧ a ≤ b ∧ b ≤ b0 ∧ limit ≤ 255 ∧ f 0 = sl blk N cap ∧ f 1 = .int .i64 a ∧ f 2 = .int .i64 b ∧ f 3 = .int .i64 (limit : Nat) ∧ f 8 = .bool wb ∧ f 9 = .bool wp ∧ dk.size = N ∧ Rw kO u blk dk ∧ Go.Sort.Below lt a b dk ∧ (∀ d', PermIn a b dk d' → SortedIn lt a b d' → PermIn a0 b0 d d' ∧ SortedIn lt a0 b0 d') ∧ Ch (one blk) w u) (b0 - a0)
    ⟨a0, b0, limit0, true, true, d, rfl, Nat.le_refl _, hab, Nat.le_refl _, hlim, by simp, by simp, by simp, by simp, by simp, by simp, hN, h, hB, fun d' h1 h2 => ⟨h1, h2⟩, Ch.refl _ _⟩ ?_
  clear h hB hlim
  rintro J hJ _ f u ⟨a, b, limit, wb, wp, dk, rfl, haa, hab', hbb, hlim, f0, f1, f2, f3, f8, f9, hk, hu, hB, hG, cu⟩
  obtain ⟨l, hl⟩ : ∃ l, b - a = l := ⟨_, rfl⟩
  have hwl := wi ((b : Int) - a) l (by omega) (by omega)
  by_cases h12 : l ≤ 12
  · have h12' : (l : Int) ≤ 12 := by omega
    have hi := ins_any hu a b cap hab' (by omega) (by omega)
    rw [hk] at hi
    simp [go_sem, f0, f1, f2, hwl, h12, h12']
    refine hi.mono ?_
    rintro _ w2 ⟨h2, c2⟩
    obtain ⟨p1, p2⟩ := insertionSort_holds swo dk a b hab' (by omega)
    obtain ⟨g1, g2⟩ := hG _ p1 p2
    simp [go_sem]
    exact hR _ _ ⟨_, h2, g1, g2, cu.trans c2⟩
  have h12' : ¬ (l : Int) ≤ 12 := by omega
  by_cases hl0 : limit = 0
  · have hl0' : (limit : Int) = 0 := by omega
    have hi := heap_any hu a b cap (by omega) (by omega) (by omega)
    rw [hk] at hi
    simp [go_sem, f0, f1, f2, f3, hwl, h12, h12', hl0, hl0']
    refine hi.mono ?_
    rintro _ w2 ⟨h2, c2⟩
    obtain ⟨p1, p2⟩ := heapSort_holds swo dk a b hab' (by omega)
    obtain ⟨g1, g2⟩ := hG _ p1 p2
    simp [go_sem]
    exact hR _ _ ⟨_, h2, g1, g2, cu.trans c2⟩
  have hl0' : ¬ (limit : Int) = 0 := by omega
  have hl0'' : ((limit : Int) == 0) = false := beq_false_of_ne hl0'
  have hQ : ∀ {x : Array Off} {c d : Nat}, PermIn c d dk x → x.size = N := fun h => by rw [h.1, hk]
  obtain ⟨I, hI⟩ : ∃ I : (Nat → Value) → World → Prop, I = fun f u => ∃ limit d1, limit ≤ 255 ∧ f 0 = sl blk N cap ∧ f 1 = .int .i64 a ∧ f 2 = .int .i64 b ∧ f 3 = .int .i64 (limit : Nat) ∧ f 8 = .bool wb ∧ f 9 = .bool wp ∧ f 10 = .int .i64 l ∧ Rw kO u blk d1 ∧ PermIn a b dk d1 ∧ Ch (one blk) w u := ⟨_, rfl⟩
  simp [go_sem, f0, f1, f2, f3, f8, hwl, h12, h12', hl0, hl0', hl0'']
  refine v_meet I ?_ ?_
  · cases wb with
    | true =>
      simp [go_sem]
      rw [hI]
      exact ⟨limit, dk, hlim, by simp [f0], by simp [f1], by simp [f2], by simp [f3], by simp [f8], by simp [f9], by simp, hu, permIn_refl _ _ _, cu⟩
    | false =>
      have hi := brk_any hu a b cap (by omega) (by omega) (by omega)
      rw [hk] at hi
      obtain ⟨lm, hlm⟩ : ∃ lm, limit = lm + 1 := ⟨limit - 1, by omega⟩
      have hwm := wi ((limit : Int) - 1) lm (by omega) (by omega)
      simp [go_sem, f0, f1, f2]
      refine hi.mono ?_
      rintro _ w2 ⟨d1, h2, hP, c2⟩
      simp [go_sem, f3, hwm]
      rw [hI]
      exact ⟨lm, d1, by omega, by simp [f0], by simp [f1], by simp [f2], by simp, by simp [f8], by simp [f9], by simp, h2, hP, cu.trans c2⟩
  rw [hI]
  clear hI I f0 f1 f2 f3 f8 f9 hu cu hlim hl0 hl0' hl0''
  clear limit f u
  rintro f u ⟨limit, d1, hlim, f0, f1, f2, f3, f8, f9, f10, hu, hP1, cu⟩
  have hp := piv_any hu a b cap (by omega) (by rw [hQ hP1]; omega) (by rw [hQ hP1]; omega)
  rw [hQ hP1] at hp
  simp [go_sem, f0, f1, f2]
  refine hp.mono ?_
  rintro _ w2 ⟨pv, t, rfl, hp1, hp2, ht3, c2⟩
  have cu2 : Ch (one blk) w w2 := cu.trans (c2.mono fun _ _ e => e.elim)
  replace hu := hu.ch c2 id
  clear cu c2 hp
  simp [go_sem]
  obtain ⟨I, hI⟩ : ∃ I : (Nat → Value) → World → Prop, I = fun f u => ∃ pv t d1, a ≤ pv ∧ pv < b ∧ f 0 = sl blk N cap ∧ f 1 = .int .i64 a ∧ f 2 = .int .i64 b ∧ f 3 = .int .i64 (limit : Nat) ∧ f 8 = .bool wb ∧ f 9 = .bool wp ∧ f 10 = .int .i64 l ∧ f 11 = .int .i64 (pv : Nat) ∧ f 12 = .int .i64 (t : Nat) ∧ Rw kO u blk d1 ∧ PermIn a b dk d1 ∧ Ch (one blk) w u := ⟨_, rfl⟩
  refine v_meet I ?_ ?_
  · by_cases h2 : t = 2
    · subst t
      have hi := rev_any hu a b cap (by omega) (by rw [hQ hP1]; omega) (by rw [hQ hP1]; omega)
      rw [hQ hP1] at hi
      obtain ⟨b1, hb1⟩ : ∃ b1, b - 1 = b1 := ⟨_, rfl⟩
      have hwb1 := wi ((b : Int) - 1) b1 (by omega) (by omega)
      obtain ⟨p1, hpp1⟩ : ∃ p1, pv - a = p1 := ⟨_, rfl⟩
      have hwp1 := wi ((pv : Int) - a) p1 (by omega) (by omega)
      obtain ⟨p2, hpp2⟩ : ∃ p2, b1 - p1 = p2 := ⟨_, rfl⟩
      have hwp2 := wi ((b1 : Int) - p1) p2 (by omega) (by omega)
      simp [go_sem, f0, f1, f2]
      refine hi.mono ?_
      rintro _ w3 ⟨d2, h3, hP2, c3⟩
      simp [go_sem, f1, f2, hwb1, hwp1, hwp2]
      rw [hI]
      exact ⟨p2, 1, d2, by omega, by omega, by simp [f0], by simp [f1], by simp [f2], by simp [f3], by simp [f8], by simp [f9], by simp [f10], by simp, by simp, h3, permIn_trans _ _ _ _ _ hP1 hP2, cu2.trans c3⟩
    · have h2' : ¬ (t : Int) = 2 := by omega
      have h2'' : ((t : Int) == 2) = false := beq_false_of_ne h2'
      simp [go_sem, h2, h2', h2'']
      rw [hI]
      exact ⟨pv, t, d1, hp1, hp2, by simp [f0], by simp [f1], by simp [f2], by simp [f3], by simp [f8], by simp [f9], by simp [f10], by simp, by simp, hu, hP1, cu2⟩
  rw [hI]
  clear hI I f0 f1 f2 f3 f8 f9 f10 hu cu2 hP1 hp1 hp2 ht3
  clear t pv d1 f u
  rintro f u ⟨pv, t, d1, hp1, hp2, f0, f1, f2, f3, f8, f9, f10, f11, f12, hu, hP1, cu⟩
  obtain ⟨I, hI⟩ : ∃ I : (Nat → Value) → World → Prop, I = fun f u => ∃ d1, f 0 = sl blk N cap ∧ f 1 = .int .i64 a ∧ f 2 = .int .i64 b ∧ f 3 = .int .i64 (limit : Nat) ∧ f 8 = .bool wb ∧ f 9 = .bool wp ∧ f 10 = .int .i64 l ∧ f 11 = .int .i64 (pv : Nat) ∧ Rw kO u blk d1 ∧ PermIn a b dk d1 ∧ Ch (one blk) w u := ⟨_, rfl⟩
  have stay : I f u := by
    rw [hI]
    exact ⟨d1, f0, f1, f2, f3, f8, f9, f10, f11, hu, hP1, cu⟩
  have hstay : ∀ f', (∀ i, i < 19 → f' i = f i) → I f' u := fun f' he => by
    rw [hI]
    exact ⟨d1, by rw [he 0 (by omega)]; exact f0, by rw [he 1 (by omega)]; exact f1, by rw [he 2 (by omega)]; exact f2, by rw [he 3 (by omega)]; exact f3, by rw [he 8 (by omega)]; exact f8, by rw [he 9 (by omega)]; exact f9, by rw [he 10 (by omega)]; exact f10, by rw [he 11 (by omega)]; exact f11, hu, hP1, cu⟩
  have hpin : Ret Tryz.prog 95 #[sl blk N cap, .int .i64 a, .int .i64 b] u fun v' w' => v' = .bool (partialInsertionSort lt d1 a b).2 ∧ Rw kO w' blk (partialInsertionSort lt d1 a b).1 ∧ Ch (one blk) u w' := by
    have := pins_any hu a b cap (by omega) (by rw [hQ hP1]; omega) (by rw [hQ hP1]; omega)
    rw [hQ hP1] at this
    exact this
  obtain ⟨q1, q2⟩ := partialInsertionSort_holds swo d1 a b (by omega) (by rw [hQ hP1]; omega) (hB.perm (by omega) hP1)
  rw [VC_seq]
  refine v_meetC I ?_ ?_
  · cases wb with
    | false =>
      simp [go_sem, f8]
      exact hstay _ fun i hi => by simp only [upd_some]; repeat rw [if_neg (by omega)]
    | true =>
      cases wp with
      | false =>
        simp [go_sem, f8, f9]
        exact hstay _ fun i hi => by simp only [upd_some]; repeat rw [if_neg (by omega)]
      | true =>
        by_cases h1 : t = 1
        · have h1' : (t : Int) = 1 := by omega
          simp [go_sem, f8, f9, f12, h1, f0, f1, f2]
          refine hpin.mono ?_
          rintro _ w3 ⟨rfl, h3, c3⟩
          cases hz : (partialInsertionSort lt d1 a b).2 with
          | true =>
            obtain ⟨g1, g2⟩ := hG _ (permIn_trans _ _ _ _ _ hP1 q1) (q2 hz)
            simp [go_sem]
            exact hR _ _ ⟨_, h3, g1, g2, cu.trans c3⟩
          | false =>
            simp [go_sem]
            rw [hI]
            exact ⟨_, by simp [f0], by simp [f1], by simp [f2], by simp [f3], by simp [f8], by simp [f9], by simp [f10], by simp [f11], h3, permIn_trans _ _ _ _ _ hP1 q1, cu.trans c3⟩
        · have h1' : ¬ (t : Int) = 1 := by omega
          have h1'' : ((t : Int) == 1) = false := beq_false_of_ne h1'
          simp [go_sem, f8, f9, f12, h1, h1', h1'']
          exact hstay _ fun i hi => by simp only [upd_some]; repeat rw [if_neg (by omega)]
  rw [hI]
  clear hI I f0 f1 f2 f3 f8 f9 f10 f11 f12 hu hP1 cu stay hstay q1 q2 hpin
  clear t d1 f u
  rintro f u ⟨d3, f0, f1, f2, f3, f8, f9, f10, f11, hu, hP, cu⟩
  have hk3 := hQ hP
  have hB3 := hB.perm (show b ≤ dk.size by omega) hP
  have lp : pv < N := by omega
  obtain ⟨y, hy, cy, lp', _⟩ := rd hu hk3 lp
  have hpart := part_any hu a b pv cap hp1 hp2 (by omega) (by omega)
  have hpeq := partEq_any hu a b pv cap hp1 hp2 (by omega) (by omega)
  rw [hk3] at hpart hpeq
  obtain ⟨I, hI⟩ : ∃ I : (Nat → Value) → World → Prop, I = fun f u => ∃ v : Bool, (v = true → 0 < a ∧ lt d3[a - 1]! d3[pv]! = false) ∧ f 0 = sl blk N cap ∧ f 1 = .int .i64 a ∧ f 2 = .int .i64 b ∧ f 3 = .int .i64 (limit : Nat) ∧ f 8 = .bool wb ∧ f 9 = .bool wp ∧ f 10 = .int .i64 l ∧ f 11 = .int .i64 (pv : Nat) ∧ f 87 = .bool v ∧ Rw kO u blk d3 ∧ Ch (one blk) w u ∧ Ret Tryz.prog 98 #[sl blk N cap, .int .i64 a, .int .i64 b, .int .i64 pv] u (fun v' w' => v' = .tuple #[.int .i64 (Sort.partition lt d3 a b pv).1, .bool (Sort.partition lt d3 a b pv).2.1] ∧ Rw kO w' blk (Sort.partition lt d3 a b pv).2.2 ∧ Ch (one blk) u w') ∧
    Ret Tryz.prog 97 #[sl blk N cap, .int .i64 a, .int .i64 b, .int .i64 pv] u (fun v' w' => v' = .int .i64 (partitionEqual lt d3 a b pv).1 ∧ Rw kO w' blk (partitionEqual lt d3 a b pv).2 ∧ Ch (one blk) u w') := ⟨_, rfl⟩
  have hdr : ∀ f' (v : Bool), (v = true → 0 < a ∧ lt d3[a - 1]! d3[pv]! = false) → (∀ i, i < 19 → f' i = f i) → f' 87 = .bool v → I f' u.drew := fun f' v hv he h87 => by
    have h1 := part_any (w := u.drew) (d := d3) (blk := blk) hu.drew a b pv cap hp1 hp2 (by omega) (by omega)
    have h2 := partEq_any (w := u.drew) (d := d3) (blk := blk) hu.drew a b pv cap hp1 hp2 (by omega) (by omega)
    rw [hk3] at h1 h2
    rw [hI]
    exact ⟨v, hv, by rw [he 0 (by omega)]; exact f0, by rw [he 1 (by omega)]; exact f1, by rw [he 2 (by omega)]; exact f2, by rw [he 3 (by omega)]; exact f3, by rw [he 8 (by omega)]; exact f8, by rw [he 9 (by omega)]; exact f9, by rw [he 10 (by omega)]; exact f10, by rw [he 11 (by omega)]; exact f11, h87, hu.drew, cu.drew, h1, h2⟩
  rw [VC_seq, VC_seq]
  refine v_meetC I ?_ ?_
  · by_cases ha0 : 0 < a
    · have ha0' : (0 : Int) < a := by omega
      obtain ⟨q, hq⟩ : ∃ q, a - 1 = q := ⟨_, rfl⟩
      have hwq := wi ((a : Int) - 1) q (by omega) (by omega)
      have lq : q < N := by omega
      obtain ⟨x, hx, cx, lq', _⟩ := rd hu hk3 lq
      simp [go_sem]
      refine v_draw' [(0, none), (1, none), (2, none), (3, none), (4, none), (5, none), (6, none), (7, none), (8, none), (9, none), (10, none), (11, none), (12, some []), (13, none), (14, none)] (by kernel_rfl) (by kernel_rfl) ?_
      simp [go_sem, f0, f1, f11, ha0, ha0', hwq, lq, lq', lp, lp', cx, cy]
      refine (less_any x y _).mono ?_
      rintro _ w2 ⟨rfl, hw2⟩
      subst w2
      simp [go_sem]
      refine hdr _ (!lt x y) (fun e => ⟨ha0, ?_⟩) (fun i hi => by simp only [upd_some]; repeat rw [if_neg (by omega)]) (by simp)
      rw [hq, hx, hy]
      simpa using e
    · have ha0' : ¬ (0 : Int) < a := by omega
      simp [go_sem]
      refine v_draw' [(0, none), (1, none), (2, none), (3, none), (4, none), (5, none), (6, none), (7, none), (8, none), (9, none), (10, none), (11, none), (12, some []), (13, none), (14, none)] (by kernel_rfl) (by kernel_rfl) ?_
      simp [go_sem, f0, f1, ha0, ha0']
      exact hdr _ false (fun e => by cases e) (fun i hi => by simp only [upd_some]; repeat rw [if_neg (by omega)]) (by simp)
  rw [hI]
  clear hI I f0 f1 f2 f3 f8 f9 f10 f11 hu cu hdr cy hpart hpeq
  rintro f u ⟨v, hv, f0, f1, f2, f3, f8, f9, f10, f11, f87, hu, cu, hpart, hpeq⟩
  cases v with
  | true =>
    obtain ⟨ha0, hnl⟩ := hv rfl
    simp [go_sem, f87, f0, f1, f2, f11]
    refine hpeq.mono ?_
    rintro _ w3 ⟨rfl, h3, c3⟩
    obtain ⟨mid, d4, hx⟩ : ∃ mid d4, partitionEqual lt d3 a b pv = (mid, d4) := ⟨_, _, rfl⟩
    obtain ⟨g1, g2, g3, g4, g5⟩ := round_eq swo (partitionEqual_holds lt) ha0 hp1 hp2 (by omega) hB3 hnl hx
    rw [hx] at h3 ⊢
    simp [go_sem]
    refine Rnd.intro (b - mid) (by omega) (hJ _ _ _ ⟨mid, b, limit, wb, wp, d4, rfl, by omega, by omega, by omega, hlim, by simp [f0], by simp, by simp [f2], by simp [f3], by simp [f8], by simp [f9], by omega, h3, g4, fun d' k1 k2 => ?_, cu.trans c3⟩)
    obtain ⟨k3, k4⟩ := g5 d' k1 k2
    exact hG _ (permIn_trans _ _ _ _ _ hP k3) k4
  | false =>
    obtain ⟨mid, ap, d4, hx⟩ : ∃ mid ap d4, Sort.partition lt d3 a b pv = (mid, ap, d4) := ⟨_, _, _, rfl⟩
    obtain ⟨g1, g2, g3, g4, g5, g6, g7⟩ := round_part swo (partition_holds lt) hp1 hp2 (by omega) hB3 hx
    rw [hx] at hpart
    have hk4 : d4.size = N := by omega
    simp [go_sem, f87, f0, f1, f2, f11]
    refine hpart.mono ?_
    rintro _ w3 ⟨rfl, h3, c3⟩
    obtain ⟨ll, hll⟩ : ∃ ll, mid - a = ll := ⟨_, rfl⟩
    obtain ⟨rl, hrl⟩ : ∃ rl, b - mid = rl := ⟨_, rfl⟩
    have hwll := wi ((mid : Int) - a) ll (by omega) (by omega)
    have hwrl := wi ((b : Int) - mid) rl (by omega) (by omega)
    have hwm := wi ((mid : Int) + 1) (mid + 1) (by omega) (by omega)
    obtain ⟨l8, hl8⟩ : ∃ l8, l / 8 = l8 := ⟨_, rfl⟩
    have hdiv : ((l : Int).tdiv 8) = l8 := by rw [Int.tdiv_eq_ediv_of_nonneg (by omega)]; omega
    have hw8 : IntKind.i64.wrap (l8 : Int) = l8 := wi _ l8 rfl (by omega)
    have cu3 := cu.trans c3
    by_cases hlr : ll < rl
    · have hlr' : (ll : Int) < rl := by omega
      simp [go_sem, f0, f1, f2, f3, f10, hwll, hwrl, hdiv, hw8, hlr, hlr']
      refine (rcl (a := a) (b := mid) (limit := limit) hk4 (by omega) h3 g1 (by omega) hlim g4).mono ?_
      rintro _ w4 ⟨d5, h5, k1, k2, c4⟩
      obtain ⟨k3, k4⟩ := g6 d5 k1 k2
      simp [go_sem, hwm]
      refine Rnd.intro (b - (mid + 1)) (by omega) (hJ _ _ _ ⟨mid + 1, b, limit, decide ((l8 : Int) ≤ ll), ap, d5, rfl, by omega, by omega, by omega, hlim, by simp [f0], by simp, by simp [f2], by simp [f3], by simp, by simp, by rw [k1.1, hk4], h5, k3, fun d' k5 k6 => ?_, cu3.trans c4⟩)
      obtain ⟨k7, k8⟩ := k4 d' k5 k6
      exact hG _ (permIn_trans _ _ _ _ _ hP k7) k8
    · have hlr' : ¬ (ll : Int) < rl := by omega
      simp [go_sem, f0, f1, f2, f3, f10, hwll, hwrl, hdiv, hw8, hlr, hlr', hwm]
      have hr := rcl (a := mid + 1) (b := b) (limit := limit) hk4 (by omega) h3 (by omega) (by omega) hlim g5
      refine Ret.mono (show Ret _ _ _ _ _ from by simpa using hr) ?_
      rintro _ w4 ⟨d5, h5, k1, k2, c4⟩
      obtain ⟨k3, k4⟩ := g7 d5 k1 k2
      simp [go_sem]
      refine Rnd.intro (mid - a) (by omega) (hJ _ _ _ ⟨a, mid, limit, decide ((l8 : Int) ≤ rl), ap, d5, rfl, by omega, by omega, by omega, hlim, by simp [f0], by simp [f1], by simp, by simp [f3], by simp, by simp, by rw [k1.1, hk4], h5, k3, fun d' k5 k6 => ?_, cu3.trans c4⟩)
      obtain ⟨k7, k8⟩ := k4 d' k5 k6
      exact hG _ (permIn_trans _ _ _ _ _ hP k7) k8
theorem sort_any (h : Rw kO w blk d) (cap : Nat) (hsz : d.size ≤ 255) :
    Ret Tryz.prog 48 #[sl blk d.size cap] w fun _ w' => ∃ d', Rw kO w' blk d' ∧ PermIn 0 d.size d d' ∧ SortedIn lt 0 d.size d' ∧ Ch (one blk) w w' := by
  refine v_enter Tryz.func48 Tryz.ntmps48 rfl (by simp) fun R' hR => ?_
  have hwu : IntKind.u64.wrap (d.size : Int) = d.size := by rw [IntKind.wrap_u64]; omega
  have hb := bitsLen_le d.size hsz
  have hp := pdq_any (blk := blk) cap d.size w d 0 d.size (bitsLen d.size) (by omega) h (by omega) (by omega) hsz (by omega) (.inl rfl)
  simp [go_sem, hwu]
  refine (len_any d.size hsz w).mono ?_
  rintro _ w1 ⟨rfl, hw⟩
  subst w1
  simp [go_sem]
  refine hp.mono ?_
  rintro _ w2 ⟨d', h1, h2, h3, h4⟩
  simp [go_sem]
  exact hR _ _ ⟨d', h1, h2, h3, h4⟩
theorem ins_nil (w : World) (A : Option Addr) (cap : Nat) : Ret Tryz.prog 90 #[.slice A 0 cap, .int .i64 0, .int .i64 0] w fun _ w' => Ch Nw w w' := by
  refine v_enter Tryz.func90 Tryz.ntmps90 rfl (by simp) fun R' hR => ?_
  have hw1 : IntKind.i64.wrap 1 = 1 := rfl
  simp [go_sem, hw1]
  refine v_loop (fun r f u => r = 0 ∧ f 6 = .int .i64 1 ∧ f 2 = .int .i64 0 ∧ u = w) 0 ⟨rfl, by simp, by simp, rfl⟩ ?_
  rintro J hJ r f u ⟨rfl, f6, f2, rfl⟩
  simp [go_sem, f6, f2]
  exact hR _ _ (Ch.refl _ _)
theorem sort_nil (w : World) (A : Option Addr) (cap : Nat) : Ret Tryz.prog 48 #[.slice A 0 cap] w fun _ w' => Ch Nw w w' := by
  refine v_enter Tryz.func48 Tryz.ntmps48 rfl (by simp) fun R' hR => ?_
  have hl : Ret Tryz.prog 78 #[.int .u64 0] w fun v' w' => v' = .int .i64 0 ∧ w' = w := len_any 0 (by omega) w
  simp [go_sem]
  refine hl.mono ?_
  rintro _ w1 ⟨rfl, hw⟩
  subst w1
  simp [go_sem]
  have hp : Ret Tryz.prog 77 #[.slice A 0 cap, .int .i64 0, .int .i64 0, .int .i64 0] w fun _ w' => Ch Nw w w' := by
    refine v_enter Tryz.func77 Tryz.ntmps77 rfl (by simp) fun R' hR => ?_
    simp [go_sem]
    refine v_loop (fun r f u => r = 0 ∧ f 0 = .slice A 0 cap ∧ f 1 = .int .i64 0 ∧ f 2 = .int .i64 0 ∧ u = w) 0 ⟨rfl, by simp, by simp, by simp, rfl⟩ ?_
    rintro J hJ r f u ⟨rfl, f0, f1, f2, rfl⟩
    have hw0 : IntKind.i64.wrap 0 = 0 := rfl
    simp [go_sem, f0, f1, f2, hw0]
    refine (ins_nil u A cap).mono ?_
    intro _ w2 c2
    simp [go_sem]
    exact hR _ _ c2
  refine hp.mono ?_
  intro _ w2 c2
  simp [go_sem]
  exact hR _ _ c2
end
end Go.Proofs.YtnefdmbdkljifaaGreatDoor.S32
