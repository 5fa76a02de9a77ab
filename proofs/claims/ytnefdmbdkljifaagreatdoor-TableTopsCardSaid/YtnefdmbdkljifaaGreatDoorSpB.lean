/- Whole numbers sorted: less; insertion sort; the heap. No condition. -/
import Derived.Test.YtnefdmbdkljifaaGreatDoorAgg
import Derived.Sort.LotA
import Derived.Sort.LotB
import Derived.Sort.LotC
import Derived.Sort.LotD3
import Derived.Test.YtnefdmbdkljifaaGreatDoorSoN
set_option linter.unusedSimpArgs false
set_option linter.unusedVariables false

/- Rows of cells that are sorted in place. They speak of no program. No condition. -/
namespace Go.Kin
open Go Go.RowKit Go.Sort

theorem v_meetL {P : Program} {n id : Nat} {Q : Post} {K : Nxt} {c : Code} {ms : List Nat} {f : Nat → Value} {w : World} (I : (Nat → Value) → World → Prop) (h : VLoop P n (InB id (Then (At ms I) Q)) c ms f w) (hI : ∀ f w, I f w → K ms f w) : VLoop P n (InB id (Then K Q)) c ms f w := by
  rw [← VC_loop] at h ⊢
  exact VC.mono _ (InB_mono (Then_mono (At.go hI) fun _ _ _ _ h => h)) ms f w h
section
variable {α : Type} [Inhabited α] (enc : α → Value)
/-- block b begins with the cells of d -/
def Rw (w : World) (b : Nat) (d : Array α) : Prop := ∃ cur T, w.heap[b]? = some (.cells cur T (0, 0)) ∧ ∀ i, i < d.size → cur[i]? = some (enc d[i]!)
variable {enc} {w w' : World} {b : Nat} {d : Array α} {S : Nat → Prop}
theorem Rw.lt (h : Rw enc w b d) : b < w.heap.size := by
  obtain ⟨cur, T, h, _⟩ := h
  exact lt_of_block h
theorem Rw.cell (h : Rw enc w b d) {i : Nat} (hi : i < d.size) : w.cell? ⟨b, i, none⟩ = some (enc d[i]!) := by
  obtain ⟨cur, T, h, h2⟩ := h
  rw [cell_blk h]
  exact h2 i hi
theorem Rw.frz (h : Rw enc w b d) (i : Nat) : w.frozen? ⟨b, i, none⟩ = false := by
  obtain ⟨cur, T, h, h2⟩ := h
  exact frz_blk h i
theorem Rw.ch (h : Rw enc w b d) (hc : Ch S w w') (hn : ¬ S b) : Rw enc w' b d := by
  obtain ⟨cur, T, h, h2⟩ := h
  exact ⟨cur, T, hc.obj h hn, h2⟩
theorem Rw.drew (h : Rw enc w b d) : Rw enc w.drew b d := h
theorem Rw.swp (h : Rw enc w b d) {i j : Nat} (hi : i < d.size) (hj : j < d.size) : Rw enc ((w.setCell ⟨b, i, none⟩ (enc d[j]!)).setCell ⟨b, j, none⟩ (enc d[i]!)) b (swp d i j) := by
  obtain ⟨cur, T, h, h2⟩ := h
  refine ⟨(cur.setIfInBounds i (enc d[j]!)).setIfInBounds j (enc d[i]!), T, by rw [hp_setCell, hp_setCell, h, setOf_cells, setOf_cells], fun k hk => ?_⟩
  rw [size_swp] at hk
  have hci := h2 i hi
  have hcj := h2 j hj
  have hck := h2 k hk
  have li := (Array.getElem?_eq_some_iff.1 hci).1
  have lj := (Array.getElem?_eq_some_iff.1 hcj).1
  by_cases e1 : j = k
  · subst e1
    rw [Array.getElem?_setIfInBounds_self_of_lt (by simpa using lj), swp_right d i j hj]
  · rw [Array.getElem?_setIfInBounds_ne e1]
    by_cases e2 : i = k
    · subst e2
      rw [Array.getElem?_setIfInBounds_self_of_lt li, swp_left d i j hi (Ne.symm e1)]
    · rw [Array.getElem?_setIfInBounds_ne e2, hck, swp_other d i j k (Ne.symm e2) (Ne.symm e1)]
theorem Ch.swp (i j : Nat) (x y : Value) : Ch (Kin.one b) w ((w.setCell ⟨b, i, none⟩ x).setCell ⟨b, j, none⟩ y) :=
  ((Ch.refl (Kin.one b) w).setCell (p := ⟨b, i, none⟩) (.inl rfl) _).setCell (p := ⟨b, j, none⟩) (.inl rfl) _
/-- a row of the call's own -/
theorem Rw.of_own {e n : Nat} {g cap : Nat} {xs : List Value} (h : w.ownsRow 0 e 1 (.slice (some ⟨g, 0, none⟩) n cap) n xs) (hx : xs = d.toList.map enc) (hn : n = d.size) : Rw enc w g d := by
  rcases h.2 with ⟨hv, _⟩ | ⟨g', cap', cur, hv, _, hb, h1, h2, h3, h4⟩
  · cases hv
  · cases hv
    refine ⟨cur, e, hb, fun i hi => ?_⟩
    have h5 : xs[i]? = some (enc d[i]!) := by
      rw [hx, List.getElem?_map, Array.getElem?_toList, Array.getElem?_eq_getElem hi]
      simp [hi]
    rw [← h4, List.getElem?_take] at h5
    split at h5
    · rw [Array.getElem?_toList] at h5; exact h5
    · cases h5
end
section
variable {α : Type} [Inhabited α] {lt : α → α → Bool}
theorem insInner_go (a j : Nat) (d : Array α) (hj : a < j) (hl : lt d[j]! d[j - 1]! = true) : insInner lt a j d = insInner lt a (j - 1) (swp d j (j - 1)) := by
  obtain ⟨q, rfl⟩ : ∃ q, j = q + 1 := ⟨j - 1, by omega⟩
  have h1 : q + 1 > a := hj
  have h2 : lt d[q + 1]! d[q]! = true := hl
  rw [insInner]
  simp [h1, h2]
theorem insInner_stop (a j : Nat) (d : Array α) (h : j ≤ a ∨ lt d[j]! d[j - 1]! = false) : insInner lt a j d = d := by
  cases j with
  | zero => rfl
  | succ q =>
    rw [insInner]
    rcases h with h | h
    · rw [if_neg]
      simp
      omega
    · have h : lt d[q + 1]! d[q]! = false := h
      simp [h]
theorem insOuter_go (a b i : Nat) (d : Array α) (h : i < b) : insOuter lt a b i d = insOuter lt a b (i + 1) (insInner lt a i d) := by rw [insOuter, if_pos h]
theorem insOuter_stop (a b i : Nat) (d : Array α) (h : ¬ i < b) : insOuter lt a b i d = d := by rw [insOuter, if_neg h]
theorem siftDown_eq (hi first root : Nat) (d : Array α) : siftDown lt hi first root d = if 2 * root + 1 ≥ hi then d else
    if (decide (2 * root + 2 < hi) && lt d[first + (2 * root + 1)]! d[first + (2 * root + 2)]!) = true then (if (!lt d[first + root]! d[first + (2 * root + 2)]!) = true then d else siftDown lt hi first (2 * root + 2) (swp d (first + root) (first + (2 * root + 2))))
    else (if (!lt d[first + root]! d[first + (2 * root + 1)]!) = true then d else siftDown lt hi first (2 * root + 1) (swp d (first + root) (first + (2 * root + 1)))) := by
  conv => lhs; rw [siftDown]
  by_cases h : 2 * root + 1 ≥ hi
  · rw [dif_pos h, if_pos h]
  · rw [dif_neg h, if_neg h]
    have e : first + (2 * root + 1) + 1 = first + (2 * root + 2) := by omega
    rw [e]
    by_cases h2 : 2 * root + 2 < hi
    · simp [h2]
    · simp [h2]
theorem sift_size (hi first : Nat) : ∀ (n root : Nat) (d : Array α), hi - root ≤ n → (siftDown lt hi first root d).size = d.size
  | 0, root, d, h => by rw [siftDown_eq, if_pos (by omega)]
  | n + 1, root, d, h => by
    rw [siftDown_eq]
    split
    · rfl
    split
    · split
      · rfl
      · rw [sift_size hi first n _ _ (by omega), size_swp]
    · split
      · rfl
      · rw [sift_size hi first n _ _ (by omega), size_swp]
theorem shiftDown_size : ∀ (j : Nat) (d : Array α), (shiftDown lt j d).size = d.size
  | 0, d => rfl
  | j + 1, d => by
    rw [shiftDown]
    split
    · rfl
    · rw [shiftDown_size j, size_swp]
theorem shiftUp_size (b : Nat) : ∀ (n j : Nat) (d : Array α), b - j ≤ n → (shiftUp lt b j d).size = d.size
  | 0, j, d, h => by rw [shiftUp, if_neg (by omega)]
  | n + 1, j, d, h => by
    rw [shiftUp]
    split
    · split
      · rfl
      · rw [shiftUp_size b n _ _ (by omega), size_swp]
    · rfl
theorem partialIns_go (a b s i : Nat) (d : Array α) : partialIns lt a b (s + 1) i d = if scanSorted lt d b i = b then (d, true) else if b - a < 50 then (d, false) else
    partialIns lt a b s (scanSorted lt d b i) (if b - scanSorted lt d b i ≥ 2 then shiftUp lt b (scanSorted lt d b i + 1) (if scanSorted lt d b i - a ≥ 2 then shiftDown lt (scanSorted lt d b i - 1) (swp d (scanSorted lt d b i) (scanSorted lt d b i - 1)) else swp d (scanSorted lt d b i) (scanSorted lt d b i - 1)) else (if scanSorted lt d b i - a ≥ 2 then shiftDown lt (scanSorted lt d b i - 1) (swp d (scanSorted lt d b i) (scanSorted lt d b i - 1)) else swp d (scanSorted lt d b i) (scanSorted lt d b i - 1))) := rfl
end
end Go.Kin

namespace Go.Proofs.YtnefdmbdkljifaaGreatDoor.S32
open Go.RowKit Go.Kin Go.Maps Go.Sort

def lt (x y : Off) : Bool := decide (x < y)
theorem swo : SWO lt where
  irrefl x := by simp [lt]
  trans x y z h1 h2 := by
    simp only [lt, decide_eq_true_eq, Fin.lt_def] at *
    omega
  ntrans x y z h1 h2 := by
    simp only [lt, decide_eq_false_iff_not, Fin.lt_def] at *
    omega
abbrev sl (blk n cap : Nat) : Value := .slice (some ⟨blk, 0, none⟩) n cap
theorem wi (x : Int) (m : Nat) (h : x = m) (h2 : m ≤ 1000000) : IntKind.i64.wrap x = m := by rw [IntKind.wrap_i64]; omega
theorem nan_any (x : Off) (w : World) : Ret Tryz.prog 109 #[.int .u32 x.val] w fun v' w' => v' = .bool false ∧ w' = w := by
  refine v_enter Tryz.func109 Tryz.ntmps109 rfl (by simp) fun R' hR => ?_
  simp [go_sem]
  exact hR _ _ ⟨rfl, rfl⟩
theorem less_any (x y : Off) (w : World) : Ret Tryz.prog 96 #[.int .u32 x.val, .int .u32 y.val] w fun v' w' => v' = .bool (lt x y) ∧ w' = w := by
  refine v_enter Tryz.func96 Tryz.ntmps96 rfl (by simp) fun R' hR => ?_
  simp [go_sem]
  refine (nan_any x w).mono ?_
  rintro _ w1 ⟨rfl, hw⟩
  subst w1
  simp [go_sem]
  refine hR _ _ ⟨?_, rfl⟩
  congr 1
section
variable {w u : World} {blk N i j : Nat} {d dk : Array Off} {x y : Off}
theorem rd (h : Rw kO u blk dk) (hk : dk.size = N) (hi : i < N) : ∃ x, dk[i]! = x ∧ u.cell? ⟨blk, i, none⟩ = some (.int .u32 x.val) ∧ (i : Int) < N ∧ u.frozen? ⟨blk, i, none⟩ = false := by
  subst hk
  exact ⟨_, rfl, h.cell hi, by omega, h.frz i⟩
theorem rd2 (h : Rw kO u blk dk) (hk : dk.size = N) (hj : j < N) (i : Nat) (y : Off) : ∃ z, (u.setCell ⟨blk, i, none⟩ (.int .u32 y.val)).cell? ⟨blk, j, none⟩ = some z := by
  subst hk
  obtain ⟨cur, T, hb, h2⟩ := h
  have hs := (Array.getElem?_eq_some_iff.1 (h2 j hj)).1
  have hb2 : (u.setCell ⟨blk, i, none⟩ (.int .u32 y.val)).heap[blk]? = some (.cells (cur.setIfInBounds i (.int .u32 y.val)) T (0, 0)) := by rw [hp_setCell, hb, setOf_cells]
  exact ⟨_, (cell_blk hb2 j).trans (Array.getElem?_eq_getElem (by simpa using hs))⟩
theorem sw (h : Rw kO u blk dk) (hk : dk.size = N) (hi : i < N) (hj : j < N) (hx : dk[i]! = x) (hy : dk[j]! = y) :
    Rw kO ((u.setCell ⟨blk, i, none⟩ (.int .u32 y.val)).setCell ⟨blk, j, none⟩ (.int .u32 x.val)) blk (swp dk i j) ∧ (swp dk i j).size = N ∧ Ch (one blk) u ((u.setCell ⟨blk, i, none⟩ (.int .u32 y.val)).setCell ⟨blk, j, none⟩ (.int .u32 x.val)) := by
  subst hk hx hy
  exact ⟨h.swp hi hj, size_swp _ _ _, Ch.swp _ _ _ _⟩
set_option maxRecDepth 100000 in
theorem ins_any (h : Rw kO w blk d) (a b cap : Nat) (hab : a ≤ b) (hb : b ≤ d.size) (hsz : d.size ≤ 255) :
    Ret Tryz.prog 90 #[sl blk d.size cap, .int .i64 a, .int .i64 b] w fun _ w' => Rw kO w' blk (insertionSort lt d a b) ∧ Ch (one blk) w w' := by
  refine v_enter Tryz.func90 Tryz.ntmps90 rfl (by simp) fun R' hR => ?_
  have hw1 := wi ((a : Int) + 1) (a + 1) (by omega) (by omega)
  obtain ⟨N, hN⟩ : ∃ N, d.size = N := ⟨_, rfl⟩
  rw [hN] at hb hsz ⊢
  simp [go_sem, hw1]
  refine v_loop (fun r f u => ∃ i dk, r = b + 1 - i ∧ a < i ∧ i ≤ b + 1 ∧ f 6 = .int .i64 i ∧ (f 0 = sl blk N cap ∧ f 1 = .int .i64 a ∧ f 2 = .int .i64 b) ∧ dk.size = N ∧ Rw kO u blk dk ∧ insOuter lt a b i dk = insOuter lt a b (a + 1) d ∧ Ch (one blk) w u) (b + 1 - (a + 1))
    ⟨a + 1, d, rfl, by omega, by omega, by simp, by simp, hN, h, rfl, Ch.refl _ _⟩ ?_
  rintro J hJ _ f u ⟨i, dk, rfl, hai, hib, f6, ⟨f0, f1, f2⟩, hk, hu, hO, cu⟩
  by_cases hlt : i < b
  · have hii : (i : Int) < b := by omega
    simp [go_sem, f6, f2, hii, hlt]
    refine v_loop (fun r f u => ∃ j dj, r = j + 1 ∧ a ≤ j ∧ j ≤ i ∧ f 7 = .int .i64 j ∧ f 6 = .int .i64 i ∧ (f 0 = sl blk N cap ∧ f 1 = .int .i64 a ∧ f 2 = .int .i64 b) ∧ dj.size = N ∧ Rw kO u blk dj ∧ insInner lt a j dj = insInner lt a i dk ∧ Ch (one blk) w u) (i + 1)
      ⟨i, dk, rfl, by omega, by omega, by simp, by simp [f6], by simp [f0, f1, f2], hk, hu, rfl, cu⟩ ?_
    clear f0 f1 f2 f6 f
    rintro J2 hJ2 _ f u ⟨j, dj, rfl, haj, hji, f7, f6, ⟨f0, f1, f2⟩, hkj, huj, hI, cuj⟩
    have hud := huj.drew
    have hwI := wi ((i : Int) + 1) (i + 1) (by omega) (by omega)
    have out : (j ≤ a ∨ lt dj[j]! dj[j - 1]! = false) → insOuter lt a b (i + 1) dj = insOuter lt a b (a + 1) d := fun hs => by
      rw [← hO, insOuter_go _ _ _ _ hlt, ← hI, insInner_stop _ _ _ hs]
    by_cases hj : a < j
    · have hj' : (a : Int) < j := by omega
      obtain ⟨q, hq⟩ : ∃ q, j = q + 1 := ⟨j - 1, by omega⟩
      have hq1 : j - 1 = q := by omega
      have hwj := wi ((j : Int) - 1) q (by omega) (by omega)
      have lj : j < N := by omega
      have lq : q < N := by omega
      obtain ⟨x, hx, cx, lj', fx⟩ := rd huj hkj lj
      obtain ⟨y, hy, cy, lq', fy⟩ := rd huj hkj lq
      simp [go_sem]
      refine v_draw' [(0, none), (1, none), (2, none), (3, none), (4, none), (5, none), (6, none), (7, none), (8, none), (9, none), (10, none), (11, none), (12, none), (13, some []), (14, none)] (by kernel_rfl) (by kernel_rfl) ?_
      simp [go_sem, f0, f1, f2, f7, hj', hj, hwj, lj, lq, lj', lq', cx, cy]
      refine (less_any x y _).mono ?_
      rintro _ w2 ⟨rfl, hw2⟩
      subst w2
      cases hl : lt x y with
      | true =>
        simp [go_sem]
        obtain ⟨hw', hk', cw'⟩ := sw huj hkj lj lq hx hy
        refine v_draw' [(0, none), (1, none), (2, none), (3, none), (4, none), (5, none), (6, none), (7, none), (8, none), (9, none), (10, none), (11, none), (12, none), (13, none), (14, none), (15, some [2, 3, 4]), (16, none), (17, some [])] (by kernel_rfl) (by kernel_rfl) ?_
        simp [go_sem, f0, f1, f2, f7, hwj, lj, lq, lj', lq', cx, cy, fx, fy]
        exact Rnd.intro (q + 1) (by omega) (hJ2 _ _ _ ⟨q, _, rfl, by omega, by omega, by simp, by simp [f6], by simp [f0, f1, f2], hk', hw', by rw [← hI, insInner_go a j dj hj (by rw [hx, hq1, hy]; exact hl), hq1], (cuj.trans cw').drew.drew⟩)
      | false =>
        simp [go_sem, f6, hwI]
        exact Rnd.intro (b + 1 - (i + 1)) (by omega) (hJ _ _ _ ⟨i + 1, dj, rfl, by omega, by omega, by simp, by simp [f0, f1, f2], hkj, hud, out (.inr (by rw [hx, hq1, hy]; exact hl)), cuj.drew⟩)
    · have hj' : ¬ (a : Int) < j := by omega
      simp [go_sem]
      refine v_draw' [(0, none), (1, none), (2, none), (3, none), (4, none), (5, none), (6, none), (7, none), (8, none), (9, none), (10, none), (11, none), (12, none), (13, some []), (14, none)] (by kernel_rfl) (by kernel_rfl) ?_
      simp [go_sem, f0, f1, f2, f6, f7, hj', hj, hwI]
      exact Rnd.intro (b + 1 - (i + 1)) (by omega) (hJ _ _ _ ⟨i + 1, dj, rfl, by omega, by omega, by simp, by simp [f0, f1, f2], hkj, hud, out (.inl (by omega)), cuj.drew⟩)
  · have hii : ¬ (i : Int) < b := by omega
    simp [go_sem, f6, f2, hii, hlt]
    refine hR _ _ ⟨?_, cu⟩
    rw [insertionSort, ← hO, insOuter_stop _ _ _ _ hlt]
    exact hu
set_option maxRecDepth 100000 in
set_option maxHeartbeats 2000000 in
theorem sift_any (h : Rw kO w blk d) (lo hi first cap : Nat) (hb : first + hi ≤ d.size) (hsz : d.size ≤ 255) (hlo : lo ≤ 255) :
    Ret Tryz.prog 104 #[sl blk d.size cap, .int .i64 lo, .int .i64 hi, .int .i64 first] w fun _ w' => Rw kO w' blk (siftDown lt hi first lo d) ∧ Ch (one blk) w w' := by
  refine v_enter Tryz.func104 Tryz.ntmps104 rfl (by simp) fun R' hR => ?_
  obtain ⟨N, hN⟩ : ∃ N, d.size = N := ⟨_, rfl⟩
  rw [hN] at hb hsz ⊢
  simp [go_sem]
  refine v_loop (fun r f u => ∃ root dk, r = hi - root ∧ f 8 = .int .i64 root ∧ (f 0 = sl blk N cap ∧ f 2 = .int .i64 hi ∧ f 3 = .int .i64 first ∧ root ≤ 255) ∧ dk.size = N ∧ Rw kO u blk dk ∧ siftDown lt hi first root dk = siftDown lt hi first lo d ∧ Ch (one blk) w u) (hi - lo)
    ⟨lo, d, rfl, by simp, by simp [hlo], hN, h, rfl, Ch.refl _ _⟩ ?_
  rintro J hJ _ f u ⟨root, dk, rfl, f8, ⟨f0, f2, f3, hroot⟩, hk, hu, hS, cu⟩
  obtain ⟨m, hm⟩ : ∃ m, 2 * root = m := ⟨_, rfl⟩
  obtain ⟨c, hc⟩ : ∃ c, m + 1 = c := ⟨_, rfl⟩
  have hwm := wi (2 * (root : Int)) m (by omega) (by omega)
  have hwc := wi ((m : Int) + 1) c (by omega) (by omega)
  have e2 : 2 * root + 1 = c := by omega
  have e3 : 2 * root + 2 = c + 1 := by omega
  have hE := siftDown_eq (lt := lt) hi first root dk
  rw [e2, e3] at hE
  by_cases hge : c ≥ hi
  · have hge' : (hi : Int) ≤ c := by omega
    simp [go_sem, f8, f2, hwm, hwc, hge, hge']
    exact hR _ _ ⟨by rw [← hS, hE, if_pos hge]; exact hu, cu⟩
  rw [if_neg hge] at hE
  have hge' : ¬ (hi : Int) ≤ c := by omega
  have hge'' : ¬ hi ≤ c := by omega
  obtain ⟨e, he⟩ : ∃ e, c + 1 = e := ⟨_, rfl⟩
  have hwe := wi ((c : Int) + 1) e (by omega) (by omega)
  obtain ⟨r0, hr⟩ : ∃ r0, first + root = r0 := ⟨_, rfl⟩
  have hr0 := wi ((first : Int) + root) r0 (by omega) (by omega)
  have lr0 : r0 < N := by omega
  obtain ⟨p, hp⟩ : ∃ p, first + c = p := ⟨_, rfl⟩
  have hp0 := wi ((first : Int) + c) p (by omega) (by omega)
  have lp : p < N := by omega
  obtain ⟨x, hx, cx, lp', fx⟩ := rd hu hk lp
  rw [he, hr, hp] at hE
  simp [go_sem, f8, f2, hwm, hwc, hge', hge'']
  by_cases hlt : e < hi
  · have hlt' : (e : Int) < hi := by omega
    obtain ⟨p1, hp1⟩ : ∃ p1, p + 1 = p1 := ⟨_, rfl⟩
    have hp10 := wi ((p : Int) + 1) p1 (by omega) (by omega)
    have hp11 := wi ((first : Int) + e) p1 (by omega) (by omega)
    have hp12 : first + e = p1 := by omega
    have lp1 : p1 < N := by omega
    obtain ⟨y, hy, cy, lp1', fy⟩ := rd hu hk lp1
    refine v_draw' [(0, none), (1, none), (2, none), (3, none), (4, none), (5, none), (6, none), (7, none), (8, none), (9, none), (10, none), (11, none), (12, none), (13, none), (14, none), (15, none), (16, none), (17, none), (18, some []), (19, none)] (by kernel_rfl) (by kernel_rfl) ?_
    simp [go_sem, f0, f2, f3, f8, hwe, hlt, hlt', hp0, hp10, lp, lp', lp1, lp1', cx, cy]
    refine (less_any x y _).mono ?_
    rintro _ w2 ⟨rfl, hw2⟩
    subst w2
    cases hl : lt x y with
    | true =>
      have hE2 := hE
      rw [hp12] at hE2
      rw [if_pos (by simp [hlt, hx, hy, hl])] at hE2
      have f9 : True := trivial
      simp [go_sem, hwe]
      obtain ⟨z, hz, cz, lr', fz⟩ := rd hu hk (show r0 < N by omega)
      refine v_draw' [(0, none), (1, none), (2, none), (3, none), (4, none), (5, none), (6, none), (7, none), (8, none), (9, none), (10, none), (11, none), (12, some []), (13, none)] (by kernel_rfl) (by kernel_rfl) ?_
      simp [go_sem, f0, f2, f3, f8, f9, hr0, hp11, lr0, lr', cz, lp1, lp1', cy, fy]
      refine (less_any z y _).mono ?_
      rintro _ w2 ⟨rfl, hw2⟩
      subst w2
      cases hl2 : lt z y with
      | false =>
        simp [go_sem]
        exact hR _ _ ⟨by rw [← hS, hE2]; simp only [hz, hl2, hy, Bool.not_false, if_true]; exact hu, by (repeat apply Ch.drew); exact cu⟩
      | true =>
        simp [go_sem]
        obtain ⟨hw', hk', cw'⟩ := sw hu hk (show r0 < N by omega) (show p1 < N by omega) hz hy
        refine v_draw' [(0, none), (1, none), (2, none), (3, none), (4, none), (5, none), (6, none), (7, none), (8, none), (9, none), (10, none), (11, none), (12, none), (13, none), (14, none), (15, none), (16, none), (17, none), (18, none), (19, none), (20, none), (21, some [4, 5, 6, 7]), (22, none), (23, some [])] (by kernel_rfl) (by kernel_rfl) ?_
        simp [go_sem, f0, f2, f3, f8, f9, hr0, hp11, lr0, lr', cz, fz, lp1, lp1', cy, fy]
        exact Rnd.intro (hi - e) (by omega) (hJ _ _ _ ⟨e, _, rfl, by simp, ⟨by simp [f0], by simp [f2], by simp [f3], by omega⟩, hk', hw', by rw [← hS, hE2]; simp only [hz, hl2, hy, Bool.not_true, Bool.false_eq_true, if_false], by (repeat apply Ch.drew); exact cu.trans cw'⟩)
    | false =>
      have hE2 := hE
      rw [hp12] at hE2
      rw [if_neg (by simp [hlt, hx, hy, hl])] at hE2
      have f9 : True := trivial
      simp [go_sem]
      obtain ⟨z, hz, cz, lr', fz⟩ := rd hu hk (show r0 < N by omega)
      refine v_draw' [(0, none), (1, none), (2, none), (3, none), (4, none), (5, none), (6, none), (7, none), (8, none), (9, none), (10, none), (11, none), (12, some []), (13, none)] (by kernel_rfl) (by kernel_rfl) ?_
      simp [go_sem, f0, f2, f3, f8, f9, hr0, hp0, lr0, lr', cz, lp, lp', cx, fx]
      refine (less_any z x _).mono ?_
      rintro _ w2 ⟨rfl, hw2⟩
      subst w2
      cases hl2 : lt z x with
      | false =>
        simp [go_sem]
        exact hR _ _ ⟨by rw [← hS, hE2]; simp only [hz, hl2, hx, Bool.not_false, if_true]; exact hu, by (repeat apply Ch.drew); exact cu⟩
      | true =>
        simp [go_sem]
        obtain ⟨hw', hk', cw'⟩ := sw hu hk (show r0 < N by omega) (show p < N by omega) hz hx
        refine v_draw' [(0, none), (1, none), (2, none), (3, none), (4, none), (5, none), (6, none), (7, none), (8, none), (9, none), (10, none), (11, none), (12, none), (13, none), (14, none), (15, none), (16, none), (17, none), (18, none), (19, none), (20, none), (21, some [4, 5, 6, 7]), (22, none), (23, some [])] (by kernel_rfl) (by kernel_rfl) ?_
        simp [go_sem, f0, f2, f3, f8, f9, hr0, hp0, lr0, lr', cz, fz, lp, lp', cx, fx]
        exact Rnd.intro (hi - c) (by omega) (hJ _ _ _ ⟨c, _, rfl, by simp, ⟨by simp [f0], by simp [f2], by simp [f3], by omega⟩, hk', hw', by rw [← hS, hE2]; simp only [hz, hl2, hx, Bool.not_true, Bool.false_eq_true, if_false], by (repeat apply Ch.drew); exact cu.trans cw'⟩)
  · have hlt' : ¬ (e : Int) < hi := by omega
    rw [if_neg (by simp [hlt])] at hE
    have f9 : True := trivial
    refine v_draw' [(0, none), (1, none), (2, none), (3, none), (4, none), (5, none), (6, none), (7, none), (8, none), (9, none), (10, none), (11, none), (12, none), (13, none), (14, none), (15, none), (16, none), (17, none), (18, some []), (19, none)] (by kernel_rfl) (by kernel_rfl) ?_
    simp [go_sem, f2, hwe, hlt, hlt']
    obtain ⟨z, hz, cz, lr', fz⟩ := rd hu hk (show r0 < N by omega)
    refine v_draw' [(0, none), (1, none), (2, none), (3, none), (4, none), (5, none), (6, none), (7, none), (8, none), (9, none), (10, none), (11, none), (12, some []), (13, none)] (by kernel_rfl) (by kernel_rfl) ?_
    simp [go_sem, f0, f2, f3, f8, f9, hr0, hp0, lr0, lr', cz, lp, lp', cx, fx]
    refine (less_any z x _).mono ?_
    rintro _ w2 ⟨rfl, hw2⟩
    subst w2
    cases hl2 : lt z x with
    | false =>
      simp [go_sem]
      exact hR _ _ ⟨by rw [← hS, hE]; simp only [hz, hl2, hx, Bool.not_false, if_true]; exact hu, by (repeat apply Ch.drew); exact cu⟩
    | true =>
      simp [go_sem]
      obtain ⟨hw', hk', cw'⟩ := sw hu hk (show r0 < N by omega) (show p < N by omega) hz hx
      refine v_draw' [(0, none), (1, none), (2, none), (3, none), (4, none), (5, none), (6, none), (7, none), (8, none), (9, none), (10, none), (11, none), (12, none), (13, none), (14, none), (15, none), (16, none), (17, none), (18, none), (19, none), (20, none), (21, some [4, 5, 6, 7]), (22, none), (23, some [])] (by kernel_rfl) (by kernel_rfl) ?_
      simp [go_sem, f0, f2, f3, f8, f9, hr0, hp0, lr0, lr', cz, fz, lp, lp', cx, fx]
      exact Rnd.intro (hi - c) (by omega) (hJ _ _ _ ⟨c, _, rfl, by simp, ⟨by simp [f0], by simp [f2], by simp [f3], by omega⟩, hk', hw', by rw [← hS, hE]; simp only [hz, hl2, hx, Bool.not_true, Bool.false_eq_true, if_false], by (repeat apply Ch.drew); exact cu.trans cw'⟩)
set_option maxRecDepth 100000 in
theorem heap_any (h : Rw kO w blk d) (a b cap : Nat) (hab : a < b) (hb : b ≤ d.size) (hsz : d.size ≤ 255) :
    Ret Tryz.prog 91 #[sl blk d.size cap, .int .i64 a, .int .i64 b] w fun _ w' => Rw kO w' blk (heapSort lt d a b) ∧ Ch (one blk) w w' := by
  refine v_enter Tryz.func91 Tryz.ntmps91 rfl (by simp) fun R' hR => ?_
  obtain ⟨N, hN⟩ : ∃ N, d.size = N := ⟨_, rfl⟩
  rw [hN] at hb hsz ⊢
  obtain ⟨n, hn⟩ : ∃ n, b - a = n := ⟨_, rfl⟩
  obtain ⟨n1, hn1⟩ : ∃ n1, n - 1 = n1 := ⟨_, rfl⟩
  obtain ⟨m, hm⟩ : ∃ m, n1 / 2 = m := ⟨_, rfl⟩
  have hw1 := wi ((b : Int) - a) n (by omega) (by omega)
  have hw2 := wi ((n : Int) - 1) n1 (by omega) (by omega)
  have hw3 : ((n1 : Int).tdiv 2) = m := by rw [Int.tdiv_eq_ediv_of_nonneg (by omega)]; omega
  have hw4 : IntKind.i64.wrap (m : Int) = m := wi _ m rfl (by omega)
  have hdiv : Int.tdiv (n1 : Int) 2 ≤ 1000 := by omega
  have hH : heapSort lt d a b = heapPop lt a n (heapBuild lt n a (m + 1) d) := by
    unfold heapSort
    rw [hn, hn1, hm]
  rw [hH] at hR
  simp [go_sem, hw1, hw2, hw3, hw4]
  refine v_loop (fun r f u => ∃ k v dk, r = k ∧ k ≤ 255 ∧ v = (k : Int) - 1 ∧ f 9 = .int .i64 v ∧ (f 0 = sl blk N cap ∧ f 6 = .int .i64 a ∧ f 7 = .int .i64 0 ∧ f 8 = .int .i64 n) ∧ dk.size = N ∧ Rw kO u blk dk ∧ heapBuild lt n a k dk = heapBuild lt n a (m + 1) d ∧ Ch (one blk) w u) (m + 1)
    ⟨m + 1, m, d, rfl, by omega, by omega, by simp, by simp, hN, h, rfl, Ch.refl _ _⟩ ?_
  rintro J hJ r f u ⟨k, v, dk, hrk, hk255, hv, f9, ⟨f0, f6, f7, f8⟩, hk, hu, hS, cu⟩
  cases k with
  | succ q =>
    have hv : v = (q : Int) := by omega
    have hwq : IntKind.i64.wrap ((q : Int) - 1) = (q : Int) - 1 := by rw [IntKind.wrap_i64]; omega
    subst v
    have hs := sift_any hu q n a cap (by omega) (by omega) (by omega)
    rw [hk] at hs
    simp [go_sem, f9, f0, f6, f8]
    refine hs.mono ?_
    rintro _ w2 ⟨h2, c2⟩
    simp [go_sem, f9, hwq]
    exact Rnd.intro q (by omega) (hJ _ _ _ ⟨q, _, _, rfl, by omega, rfl, by simp, by simp [f0, f6, f7, f8], by rw [sift_size _ _ _ _ _ (Nat.le_refl _), hk], h2, by rw [← hS]; rfl, cu.trans c2⟩)
  | zero =>
    have hv : v = -1 := by omega
    subst v
    have hS : dk = heapBuild lt n a (m + 1) d := hS
    rw [← hS] at hR
    simp [go_sem, f9, f8, hw2]
    clear hJ J f9
    refine v_loop (fun r f u => ∃ k v dl, r = k ∧ k ≤ n ∧ v = (k : Int) - 1 ∧ f 10 = .int .i64 v ∧ (f 0 = sl blk N cap ∧ f 6 = .int .i64 a ∧ f 7 = .int .i64 0) ∧ dl.size = N ∧ Rw kO u blk dl ∧ heapPop lt a k dl = heapPop lt a n dk ∧ Ch (one blk) w u) n
      ⟨n, n1, dk, rfl, by omega, by omega, by simp, by simp [f0, f6, f7], hk, hu, rfl, cu⟩ ?_
    rintro J hJ r f u ⟨k, v, dl, hrk, hkn, hv, f10, ⟨f0, f6, f7⟩, hk, hu, hS, cu⟩
    cases k with
    | succ q =>
      have hv : v = (q : Int) := by omega
      have hwq : IntKind.i64.wrap ((q : Int) - 1) = (q : Int) - 1 := by rw [IntKind.wrap_i64]; omega
      obtain ⟨p, hp⟩ : ∃ p, a + q = p := ⟨_, rfl⟩
      have hwp := wi ((a : Int) + q) p (by omega) (by omega)
      have la : a < N := by omega
      have lp : p < N := by omega
      obtain ⟨x, hx, cx, la', fx⟩ := rd hu hk la
      obtain ⟨y, hy, cy, lp', fy⟩ := rd hu hk lp
      obtain ⟨hw', hk', cw'⟩ := sw hu hk la lp hx hy
      obtain ⟨z2, hz2⟩ := rd2 hu hk lp a y
      subst v
      simp [go_sem, f10]
      refine v_draw' [(0, none), (1, none), (2, none), (3, none), (4, none), (5, none), (6, none), (7, none), (8, none), (9, none), (10, none), (11, none), (12, none), (13, none), (14, none), (15, none), (16, none), (17, some [2, 3, 4, 5]), (18, none), (19, some [])] (by kernel_rfl) (by kernel_rfl) ?_
      simp [go_sem, f0, f6, f7, f10, hwp, la, la', lp, lp', cx, cy, fx, fy, hz2]
      have hs := sift_any hw' 0 q a cap (by rw [hk']; omega) (by omega) (by omega)
      rw [hk'] at hs
      have hs' : ∀ {u2 : World}, Rw kO u2 blk (swp dl a p) → Ret Tryz.prog 104 #[sl blk N cap, .int .i64 0, .int .i64 q, .int .i64 a] u2 fun _ w' => Rw kO w' blk (siftDown lt q a 0 (swp dl a p)) ∧ Ch (one blk) u2 w' := fun {u2} h2 => by
        have := sift_any h2 0 q a cap (by rw [hk']; omega) (by omega) (by omega)
        rw [hk'] at this
        exact this
      refine (hs' hw'.drew).mono ?_
      rintro _ w2 ⟨h2, c2⟩
      simp [go_sem, f10, hwq]
      refine Rnd.intro q (by omega) (hJ _ _ _ ⟨q, _, _, rfl, by omega, rfl, by simp, by simp [f0, f6, f7], by rw [sift_size _ _ _ _ _ (Nat.le_refl _), hk'], h2, by rw [← hS, heapPop, hp], ?_⟩)
      exact (cu.trans cw').trans (Ch.of_drew c2)
    | zero =>
      have hv : v = -1 := by omega
      subst v
      have hS : dl = heapPop lt a n dk := hS
      rw [← hS] at hR
      simp [go_sem, f10]
      exact hR _ _ ⟨hu, cu⟩
end
end Go.Proofs.YtnefdmbdkljifaaGreatDoor.S32
