/- What objects take is never more than their charge; one more never makes either less: the plain law. It speaks of no program. -/
import Derived.Test.YtmhnlgndgdmebaaDoorChE
namespace Go.Proofs.YtmhnlgndgdmebaaDoor
open Go.RowKit Go.Kin

theorem aN_split (l : List Bool) (i j : Nat) : aN l (i + j) = aN l i + ((l.drop i).take j).count true := by
  unfold aN
  rw [List.take_add, List.count_append]
theorem gN_aN (l : List Bool) (k : Nat) : gN l k ≤ aN l (8 * k) := by
  induction k with
  | zero => simp [gN]
  | succ k ih =>
    unfold gN
    rw [Nat.mul_add, Nat.mul_one, aN_split]
    split
    · rename_i h
      have : 0 < ((l.drop (8 * k)).take 8).count true := by
        rw [List.count_pos_iff]
        unfold gI at h
        rw [List.any_eq_true] at h
        obtain ⟨x, hx, hid⟩ := h
        simp at hid
        subst hid
        exact hx
      omega
    · omega
theorem count_set (l : List Bool) (i : Nat) : (l.set i true).count true ≤ l.count true + 1 := by
  induction l generalizing i with
  | nil => simp
  | cons b l ih =>
    cases i with
    | zero => cases b <;> simp
    | succ i => have := ih i; cases b <;> simp <;> omega
theorem count_take_set (l : List Bool) (i j : Nat) : (l.take j).count true ≤ ((l.set i true).take j).count true := by
  induction l generalizing i j with
  | nil => simp
  | cons b l ih =>
    cases j with
    | zero => simp
    | succ j =>
      cases i with
      | zero => cases b <;> simp
      | succ i => have := ih i j; cases b <;> simp <;> omega
theorem aN_set (l : List Bool) (i j : Nat) : aN l j ≤ aN (l.set i true) j := count_take_set l i j
theorem gI_set (l : List Bool) (i k : Nat) (h : gI l k = true) : gI (l.set i true) k = true := by
  unfold gI at *
  rw [List.any_eq_true] at *
  obtain ⟨x, hx, hid⟩ := h
  simp at hid
  subst hid
  obtain ⟨j, hj⟩ := List.mem_iff_getElem?.1 hx
  refine ⟨true, List.mem_iff_getElem?.2 ⟨j, ?_⟩, rfl⟩
  rw [List.getElem?_take, List.getElem?_drop] at hj ⊢
  split at hj
  · rename_i hj8
    rw [if_pos hj8]
    by_cases hi : i = 8 * k + j
    · subst hi
      exact List.getElem?_set_self ((List.getElem?_eq_some_iff.1 hj).1)
    · rw [List.getElem?_set_ne hi]
      exact hj
  · cases hj
theorem gN_set (l : List Bool) (i k : Nat) : gN l k ≤ gN (l.set i true) k := by
  induction k with
  | zero => exact Nat.le_refl _
  | succ k ih =>
    unfold gN
    by_cases h : gI l k = true
    · rw [if_pos h, if_pos (gI_set l i k h)]; omega
    · rw [if_neg h]; omega
theorem mkS_aN (s : List Ox) : aN (mkS s) 64 ≤ s.length := by
  have key : ∀ (s : List Ox) (l : List Bool), (s.foldl (fun s x => s.set (x.1 / 4) true) l).count true ≤ l.count true + s.length := by
    intro s
    induction s with
    | nil => exact fun l => Nat.le_refl _
    | cons x s ih =>
      intro l
      have h1 := ih (l.set (x.1 / 4) true)
      have h2 := count_set l (x.1 / 4)
      simp only [List.foldl_cons, List.length_cons]
      omega
  have h := key s (fb 64)
  have h0 : (fb 64).count true = 0 := by decide
  unfold aN
  rw [List.take_of_length_le (by rw [mkS_length]; omega)]
  unfold mkS
  omega
theorem selO_kinds (l : List Ob) : ∀ x ∈ (selO l).1, x.2.1 = 1 ∨ x.2.1 = 2 ∨ x.2.1 = 3 := by
  have key : ∀ (l : List Ob) (s : List Ox × List Bool), (∀ x ∈ s.1, x.2.1 = 1 ∨ x.2.1 = 2 ∨ x.2.1 = 3) → ∀ x ∈ (l.foldl stepO s).1, x.2.1 = 1 ∨ x.2.1 = 2 ∨ x.2.1 = 3 := by
    intro l
    induction l with
    | nil => exact fun s h => h
    | cons y l ih =>
      intro s h
      refine ih _ fun x hx => ?_
      unfold stepO at hx
      split at hx
      · exact h x hx
      · rename_i hb
        simp only [List.mem_append, List.mem_singleton] at hx
        rcases hx with hx | rfl
        · exact h x hx
        · simp [bad] at hb
          simp only
          omega
  exact key l st0 (by simp [st0])
theorem chg_lin (f m o : Int) : chg f m o = 3 * f + 4 * m + 4 * o + 20 := by
  unfold chg
  split
  · rename_i h
    obtain ⟨rfl, rfl, rfl⟩ := h
    rfl
  · rfl
theorem tkF_bound (x : Ox) (hk : x.2.1 = 1 ∨ x.2.1 = 2 ∨ x.2.1 = 3) : tkF x ≤ 3 * (if leafK x.2.1 = 1 then aN x.2.2 64 else 0) + 4 * (if leafK x.2.1 = 2 then aN x.2.2 64 else 0) + 2 := by
  have h : gN x.2.2 8 ≤ aN x.2.2 64 := gN_aN x.2.2 8
  unfold tkF
  rcases hk with hk | hk | hk <;> rw [hk] <;> simp [leafK] <;> split <;> omega
theorem tkS_bound (s : List Ox) (hk : ∀ x ∈ s, x.2.1 = 1 ∨ x.2.1 = 2 ∨ x.2.1 = 3) : tkS s ≤ 3 * fiS s + 4 * meS s + 2 * s.length := by
  induction s with
  | nil => simp [tkS]
  | cons x s ih =>
    have h1 := ih fun y hy => hk y (by simp [hy])
    have h2 := tkF_bound x (hk x (by simp))
    simp only [tkS, fiS, meS, List.length_cons]
    omega
theorem takes_le (l : List Ob) : (takesN (selO l).1 : Int) ≤ chg (fiS (selO l).1 : Nat) (meS (selO l).1 : Nat) ((selO l).1.length : Nat) := by
  rw [chg_lin]
  have h1 := tkS_bound _ (selO_kinds l)
  have h2 := mkS_aN (selO l).1
  have h3 := gN_le (mkS (selO l).1) 8
  unfold takesN
  split <;> omega
theorem takes_mono (s : List Ox) (x : Ox) : takesN s ≤ takesN (s ++ [x]) := by
  have h1 := tkS_snoc s x
  have h2 := gN_set (mkS s) (x.1 / 4) 8
  have h3 := aN_set (mkS s) (x.1 / 4) 64
  unfold takesN
  rw [mkS_snoc]
  split <;> split <;> omega
theorem selO_more (l : List Ob) (x : Ob) : (selO (l ++ [x])).1 = (selO l).1 ∨ ∃ y, (selO (l ++ [x])).1 = (selO l).1 ++ [y] := by
  have : selO (l ++ [x]) = stepO (selO l) x := by simp [selO]
  rw [this]
  unfold stepO
  split
  · exact .inl rfl
  · exact .inr ⟨_, rfl⟩
theorem takes_more (l : List Ob) (x : Ob) : takesN (selO l).1 ≤ takesN (selO (l ++ [x])).1 := by
  rcases selO_more l x with h | ⟨y, h⟩
  · rw [h]; exact Nat.le_refl _
  · rw [h]; exact takes_mono _ _
theorem charge_more (l : List Ob) (x : Ob) : chg (fiS (selO l).1 : Nat) (meS (selO l).1 : Nat) ((selO l).1.length : Nat) ≤ chg (fiS (selO (l ++ [x])).1 : Nat) (meS (selO (l ++ [x])).1 : Nat) ((selO (l ++ [x])).1.length : Nat) := by
  rw [chg_lin, chg_lin]
  rcases selO_more l x with h | ⟨y, h⟩
  · rw [h]; omega
  · have h1 := fiS_snoc (selO l).1 y
    have h2 := meS_snoc (selO l).1 y
    rw [h]
    simp only [List.length_append, List.length_singleton]
    omega
end Go.Proofs.YtmhnlgndgdmebaaDoor
