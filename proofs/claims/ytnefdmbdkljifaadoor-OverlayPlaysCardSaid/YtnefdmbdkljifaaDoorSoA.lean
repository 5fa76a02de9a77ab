/- Rows of cells that are sorted in place. They speak of no program. No condition. -/
import Derived.Test.YtnefdmbdkljifaaDoorAgg
import Derived.Sort.LotA
import Derived.Sort.LotB
import Derived.Sort.LotC
import Derived.Sort.LotD3
set_option linter.unusedSimpArgs false
set_option linter.unusedVariables false

namespace Go.Kin
open Go Go.RowKit Go.Sort

theorem v_meetL {P : Program} {n id : Nat} {Q : Post} {K : Nxt} {c : Code} {ms : List Nat} {f : Nat → Value} {w : World} (I : (Nat → Value) → World → Prop) (h : VLoop P n (InB id (Then (At ms I) Q)) c ms f w) (hI : ∀ f w, I f w → K ms f w) : VLoop P n (InB id (Then K Q)) c ms f w := by
  rw [← VC_loop] at h ⊢
  exact VC.mono _ (InB_mono (Then_mono (At.go hI) fun _ _ _ _ h => h)) ms f w h
section
variable {α : Type} [Inhabited α] (enc : α → Value)
/-- block b begins with the cells of d -/
def Rw (w : World) (b : Nat) (d : Array α) : Prop := ∃ cur T, w.heap[b]? = some (.cells cur T (0, 0)) ∧ ∀ i, i < d.size → cur[i]? = some (enc d[i]!)
variable {enc} {w w' : World} {b : Nat} {d : Array α} {S : Nat → Prop}
theorem Rw.lt (h : Rw enc w b d) : b < w.heap.size := by
  obtain ⟨cur, T, h, _⟩ := h
  exact lt_of_block h
theorem Rw.cell (h : Rw enc w b d) {i : Nat} (hi : i < d.size) : w.cell? ⟨b, i, none⟩ = some (enc d[i]!) := by
  obtain ⟨cur, T, h, h2⟩ := h
  rw [cell_blk h]
  exact h2 i hi
theorem Rw.frz (h : Rw enc w b d) (i : Nat) : w.frozen? ⟨b, i, none⟩ = false := by
  obtain ⟨cur, T, h, h2⟩ := h
  exact frz_blk h i
theorem Rw.ch (h : Rw enc w b d) (hc : Ch S w w') (hn : ¬ S b) : Rw enc w' b d := by
  obtain ⟨cur, T, h, h2⟩ := h
  exact ⟨cur, T, hc.obj h hn, h2⟩
theorem Rw.drew (h : Rw enc w b d) : Rw enc w.drew b d := h
theorem Rw.swp (h : Rw enc w b d) {i j : Nat} (hi : i < d.size) (hj : j < d.size) : Rw enc ((w.setCell ⟨b, i, none⟩ (enc d[j]!)).setCell ⟨b, j, none⟩ (enc d[i]!)) b (swp d i j) := by
  obtain ⟨cur, T, h, h2⟩ := h
  refine ⟨(cur.setIfInBounds i (enc d[j]!)).setIfInBounds j (enc d[i]!), T, by rw [hp_setCell, hp_setCell, h, setOf_cells, setOf_cells], fun k hk => ?_⟩
  rw [size_swp] at hk
  have hci := h2 i hi
  have hcj := h2 j hj
  have hck := h2 k hk
  have li := (Array.getElem?_eq_some_iff.1 hci).1
  have lj := (Array.getElem?_eq_some_iff.1 hcj).1
  by_cases e1 : j = k
  · subst e1
    rw [Array.getElem?_setIfInBounds_self_of_lt (by simpa using lj), swp_right d i j hj]
  · rw [Array.getElem?_setIfInBounds_ne e1]
    by_cases e2 : i = k
    · subst e2
      rw [Array.getElem?_setIfInBounds_self_of_lt li, swp_left d i j hi (Ne.symm e1)]
    · rw [Array.getElem?_setIfInBounds_ne e2, hck, swp_other d i j k (Ne.symm e2) (Ne.symm e1)]
theorem Ch.swp (i j : Nat) (x y : Value) : Ch (Kin.one b) w ((w.setCell ⟨b, i, none⟩ x).setCell ⟨b, j, none⟩ y) :=
  ((Ch.refl (Kin.one b) w).setCell (p := ⟨b, i, none⟩) (.inl rfl) _).setCell (p := ⟨b, j, none⟩) (.inl rfl) _
/-- a row of the call's own -/
theorem Rw.of_own {e n : Nat} {g cap : Nat} {xs : List Value} (h : w.ownsRow 0 e 1 (.slice (some ⟨g, 0, none⟩) n cap) n xs) (hx : xs = d.toList.map enc) (hn : n = d.size) : Rw enc w g d := by
  rcases h.2 with ⟨hv, _⟩ | ⟨g', cap', cur, hv, _, hb, h1, h2, h3, h4⟩
  · cases hv
  · cases hv
    refine ⟨cur, e, hb, fun i hi => ?_⟩
    have h5 : xs[i]? = some (enc d[i]!) := by
      rw [hx, List.getElem?_map, Array.getElem?_toList, Array.getElem?_eq_getElem hi]
      simp [hi]
    rw [← h4, List.getElem?_take] at h5
    split at h5
    · rw [Array.getElem?_toList] at h5; exact h5
    · cases h5
end
section
variable {α : Type} [Inhabited α] {lt : α → α → Bool}
theorem insInner_go (a j : Nat) (d : Array α) (hj : a < j) (hl : lt d[j]! d[j - 1]! = true) : insInner lt a j d = insInner lt a (j - 1) (swp d j (j - 1)) := by
  obtain ⟨q, rfl⟩ : ∃ q, j = q + 1 := ⟨j - 1, by omega⟩
  have h1 : q + 1 > a := hj
  have h2 : lt d[q + 1]! d[q]! = true := hl
  rw [insInner]
  simp [h1, h2]
theorem insInner_stop (a j : Nat) (d : Array α) (h : j ≤ a ∨ lt d[j]! d[j - 1]! = false) : insInner lt a j d = d := by
  cases j with
  | zero => rfl
  | succ q =>
    rw [insInner]
    rcases h with h | h
    · rw [if_neg]
      simp
      omega
    · have h : lt d[q + 1]! d[q]! = false := h
      simp [h]
theorem insOuter_go (a b i : Nat) (d : Array α) (h : i < b) : insOuter lt a b i d = insOuter lt a b (i + 1) (insInner lt a i d) := by rw [insOuter, if_pos h]
theorem insOuter_stop (a b i : Nat) (d : Array α) (h : ¬ i < b) : insOuter lt a b i d = d := by rw [insOuter, if_neg h]
theorem siftDown_eq (hi first root : Nat) (d : Array α) : siftDown lt hi first root d = if 2 * root + 1 ≥ hi then d else
    if (decide (2 * root + 2 < hi) && lt d[first + (2 * root + 1)]! d[first + (2 * root + 2)]!) = true then (if (!lt d[first + root]! d[first + (2 * root + 2)]!) = true then d else siftDown lt hi first (2 * root + 2) (swp d (first + root) (first + (2 * root + 2))))
    else (if (!lt d[first + root]! d[first + (2 * root + 1)]!) = true then d else siftDown lt hi first (2 * root + 1) (swp d (first + root) (first + (2 * root + 1)))) := by
  conv => lhs; rw [siftDown]
  by_cases h : 2 * root + 1 ≥ hi
  · rw [dif_pos h, if_pos h]
  · rw [dif_neg h, if_neg h]
    have e : first + (2 * root + 1) + 1 = first + (2 * root + 2) := by omega
    rw [e]
    by_cases h2 : 2 * root + 2 < hi
    · simp [h2]
    · simp [h2]
theorem sift_size (hi first : Nat) : ∀ (n root : Nat) (d : Array α), hi - root ≤ n → (siftDown lt hi first root d).size = d.size
  | 0, root, d, h => by rw [siftDown_eq, if_pos (by omega)]
  | n + 1, root, d, h => by
    rw [siftDown_eq]
    split
    · rfl
    split
    · split
      · rfl
      · rw [sift_size hi first n _ _ (by omega), size_swp]
    · split
      · rfl
      · rw [sift_size hi first n _ _ (by omega), size_swp]
theorem shiftDown_size : ∀ (j : Nat) (d : Array α), (shiftDown lt j d).size = d.size
  | 0, d => rfl
  | j + 1, d => by
    rw [shiftDown]
    split
    · rfl
    · rw [shiftDown_size j, size_swp]
theorem shiftUp_size (b : Nat) : ∀ (n j : Nat) (d : Array α), b - j ≤ n → (shiftUp lt b j d).size = d.size
  | 0, j, d, h => by rw [shiftUp, if_neg (by omega)]
  | n + 1, j, d, h => by
    rw [shiftUp]
    split
    · split
      · rfl
      · rw [shiftUp_size b n _ _ (by omega), size_swp]
    · rfl
theorem partialIns_go (a b s i : Nat) (d : Array α) : partialIns lt a b (s + 1) i d = if scanSorted lt d b i = b then (d, true) else if b - a < 50 then (d, false) else
    partialIns lt a b s (scanSorted lt d b i) (if b - scanSorted lt d b i ≥ 2 then shiftUp lt b (scanSorted lt d b i + 1) (if scanSorted lt d b i - a ≥ 2 then shiftDown lt (scanSorted lt d b i - 1) (swp d (scanSorted lt d b i) (scanSorted lt d b i - 1)) else swp d (scanSorted lt d b i) (scanSorted lt d b i - 1)) else (if scanSorted lt d b i - a ≥ 2 then shiftDown lt (scanSorted lt d b i - 1) (swp d (scanSorted lt d b i) (scanSorted lt d b i - 1)) else swp d (scanSorted lt d b i) (scanSorted lt d b i - 1))) := rfl
end
end Go.Kin
