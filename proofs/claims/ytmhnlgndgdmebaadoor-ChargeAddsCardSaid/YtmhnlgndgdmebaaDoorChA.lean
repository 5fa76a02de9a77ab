/- Tallies: what package charge's With, Charge, Fits and leaf answer, and package inode's Leaf, as contracts on calls. Condition: the variable inode.leaves holds what the text lays (Lv). -/
import Derived.Test.YtmhnlgndgdmebaaDoorChecked
import Derived.Test.YtmhnlgndgdmebaaDoorAgg
namespace Go.Proofs.YtmhnlgndgdmebaaDoor
open Go.RowKit Go.Kin

/-- the variable inode.leaves -/
def Lv (w : World) : Prop := w.cell? ⟨0, 0, none⟩ = some (.int .u8 0) ∧ w.cell? ⟨0, 1, none⟩ = some (.int .u8 1) ∧ w.cell? ⟨0, 2, none⟩ = some (.int .u8 2) ∧ w.cell? ⟨0, 3, none⟩ = some (.int .u8 2)
theorem Lv.ch {S : Nat → Prop} {w w' : World} (h : Lv w) (hc : Ch S w w') (hn : ¬ S 0) : Lv w' := ⟨hc.cell h.1 hn, hc.cell h.2.1 hn, hc.cell h.2.2.1 hn, hc.cell h.2.2.2 hn⟩
theorem Lv.lt {w : World} (h : Lv w) : 0 < w.heap.size := World.block_lt_of_cell? w _ h.1
def leafK (k : Nat) : Nat := if 4 ≤ k then 0 else if k = 0 then 0 else if k = 1 then 1 else 2

theorem ileaf_any (k : Nat) (w : World) (hk : k < 256) (hl : Lv w) : Ret Tryd.prog 20 #[.int .u8 k] w fun v' w' => v' = .int .u8 (leafK k) ∧ w' = w := by
  obtain ⟨l0, l1, l2, l3⟩ := hl
  refine v_enter Tryd.func20 Tryd.ntmps20 rfl (by simp) fun R' hR => ?_
  have hw : IntKind.i64.wrap (k : Int) = k := by simp [IntKind.wrap_i64]; omega
  by_cases h4 : 4 ≤ k
  · have h4' : (4 : Int) ≤ k := by omega
    simp [go_sem, hw, h4']
    exact hR _ _ ⟨by simp [leafK, h4], rfl⟩
  · have hk4 : k = 0 ∨ k = 1 ∨ k = 2 ∨ k = 3 := by omega
    rcases hk4 with rfl | rfl | rfl | rfl <;> simp [go_sem, IntKind.wrap_i64, l0, l1, l2, l3] <;> exact hR _ _ ⟨rfl, rfl⟩
theorem cleaf_any (k : Nat) (w : World) (hk : k < 256) (hl : Lv w) : Ret Tryd.prog 24 #[.int .u8 k] w fun v' w' => v' = .int .i64 (if leafK k = 1 then 1 else 2) ∧ w' = w := by
  refine v_enter Tryd.func24 Tryd.ntmps24 rfl (by simp) fun R' hR => ?_
  simp [go_sem]
  refine (ileaf_any k w hk hl).mono ?_
  rintro _ w ⟨rfl, rfl⟩
  by_cases h : leafK k = 1
  · simp [go_sem, h]
    exact hR _ _ ⟨by simp [h], rfl⟩
  · have h' : ((leafK k : Int) == 1) = false := by simp; omega
    simp [go_sem, h']
    exact hR _ _ ⟨by simp [h], rfl⟩

/-- a tally's cells -/
def tal (f m o : Int) : Value := .agg #[.int .i64 f, .int .i64 m, .int .i64 o]
theorem with_any (f m o : Int) (k : Nat) (l n : Int) (w : World) (hk : k < 256) (hl : Lv w) : Ret Tryd.prog 6 #[tal f m o, .int .u8 k, .int .i64 l, .int .i64 n] w fun v' w' =>
    v' = tal (if leafK k = 1 then IntKind.i64.wrap (f + l) else f) (if leafK k = 2 then IntKind.i64.wrap (m + l) else m) (IntKind.i64.wrap (o + n)) ∧ Ch Nw w w' := by
  refine v_enter Tryd.func6 Tryd.ntmps6 rfl (by simp) fun R' hR => ?_
  unfold tal
  simp [go_sem]
  have hb1 := al2_0 w (.cells #[.int .i64 f, .int .i64 m, .int .i64 o] 23) (.cells #[.int .i64 0, .int .i64 0, .int .i64 0] 23)
  have hb2 := al2_1 w (.cells #[.int .i64 f, .int .i64 m, .int .i64 o] 23) (.cells #[.int .i64 0, .int .i64 0, .int .i64 0] 23)
  have hc := ((Ch.refl Nw w).alloc (.cells #[.int .i64 f, .int .i64 m, .int .i64 o] 23)).alloc (.cells #[.int .i64 0, .int .i64 0, .int .i64 0] 23)
  have hl1 := hl.ch hc id
  revert hb1 hb2 hc hl1
  generalize (w.alloc (.cells #[.int .i64 f, .int .i64 m, .int .i64 o] 23)).alloc (.cells #[.int .i64 0, .int .i64 0, .int .i64 0] 23) = w1
  generalize hg : w.heap.size = g
  intro hb1 hb2 hc hl1
  refine (ileaf_any k w1 hk hl1).mono ?_
  rintro _ w1 ⟨rfl, rfl⟩
  have hcell := fun i => cell_blk hb1 i
  have hfz := fun i => frz_blk hb1 i
  have hcell2 := fun i => cell_blk hb2 i
  have hfz2 := fun i => frz_blk hb2 i
  by_cases h1 : leafK k = 1
  · simp [go_sem, h1, hcell, hfz, hcell2, hfz2]
    exact hR _ _ ⟨by simp [tal, h1], by
      refine ((((((hc.setCell (.inr ?_) _).setCell (.inr ?_) _).setCell (.inr ?_) _).setCell (.inr ?_) _).setCell (.inr ?_) _)) <;> simp <;> omega⟩
  · have h1' : ((leafK k : Int) == 1) = false := by simp; omega
    by_cases h2 : leafK k = 2
    · simp [go_sem, h2, hcell, hfz, hcell2, hfz2]
      exact hR _ _ ⟨by simp [tal, h2], by
        refine ((((((hc.setCell (.inr ?_) _).setCell (.inr ?_) _).setCell (.inr ?_) _).setCell (.inr ?_) _).setCell (.inr ?_) _)) <;> simp <;> omega⟩
    · have h2' : ((leafK k : Int) == 2) = false := by simp; omega
      simp [go_sem, h1', h2', hcell, hfz, hcell2, hfz2]
      exact hR _ _ ⟨by simp [tal, h1, h2], by
        refine ((((((hc.setCell (.inr ?_) _).setCell (.inr ?_) _).setCell (.inr ?_) _).setCell (.inr ?_) _))) <;> simp <;> omega⟩
/-- what is charged -/
def chg (f m o : Int) : Int := if f = 0 ∧ m = 0 ∧ o = 0 then 20 else 3 * f + 4 * m + 4 * o + 20
def mid (x : Int) : Prop := -1099511627776 ≤ x ∧ x ≤ 1099511627776
theorem charge_any (f m o : Int) (w : World) (hf : mid f) (hm : mid m) (ho : mid o) : Ret Tryd.prog 7 #[tal f m o] w fun v' w' => v' = .int .i64 (chg f m o) ∧ Ch Nw w w' := by
  unfold mid at *
  refine v_enter Tryd.func7 Tryd.ntmps7 rfl (by simp) fun R' hR => ?_
  unfold tal
  have w1 : IntKind.i64.wrap (3 * f) = 3 * f := by simp [IntKind.wrap_i64]; omega
  have w2 : IntKind.i64.wrap (4 * m) = 4 * m := by simp [IntKind.wrap_i64]; omega
  have w3 : IntKind.i64.wrap (3 * f + 4 * m) = 3 * f + 4 * m := by simp [IntKind.wrap_i64]; omega
  have w4 : IntKind.i64.wrap (4 * o) = 4 * o := by simp [IntKind.wrap_i64]; omega
  have w5 : IntKind.i64.wrap (3 * f + 4 * m + 4 * o) = 3 * f + 4 * m + 4 * o := by simp [IntKind.wrap_i64]; omega
  have w6 : IntKind.i64.wrap (3 * f + 4 * m + 4 * o + 20) = 3 * f + 4 * m + 4 * o + 20 := by simp [IntKind.wrap_i64]; omega
  by_cases hz : f = 0 ∧ m = 0 ∧ o = 0
  · obtain ⟨rfl, rfl, rfl⟩ := hz
    simp [go_sem]
    exact hR _ _ ⟨rfl, (Ch.refl Nw w).alloc _⟩
  · have hv : chg f m o = 3 * f + 4 * m + 4 * o + 20 := by simp only [chg, hz, if_false]
    rw [hv] at hR
    by_cases h0 : f = 0
    · by_cases h1 : m = 0
      · have h2 : ¬ o = 0 := fun h => hz ⟨h0, h1, h⟩
        subst h0 h1
        simp only [Int.mul_zero, Int.zero_add] at w1 w2 w3 w5 w6
        simp [go_sem, h2, w1, w4, w6]
        exact hR _ _ ⟨by simp, (Ch.refl Nw w).alloc _⟩
      · subst h0
        simp only [Int.mul_zero, Int.zero_add] at w1 w3 w5 w6
        simp [go_sem, h1, w1, w2, w4, w5, w6]
        exact hR _ _ ⟨by simp, (Ch.refl Nw w).alloc _⟩
    · simp [go_sem, h0, w1, w2, w3, w4, w5, w6]
      exact hR _ _ ⟨rfl, (Ch.refl Nw w).alloc _⟩
theorem fits_any (f m o : Int) (b : Int) (w : World) (hf : mid f) (hm : mid m) (ho : mid o) (hb : mid b) : Ret Tryd.prog 8 #[tal f m o, .int .i64 b] w fun v' w' => v' = .bool (decide (chg f m o ≤ b - 1 - 320)) ∧ Ch Nw w w' := by
  have hb' := hb
  unfold mid at hb'
  have w1 : IntKind.i64.wrap (b - 1) = b - 1 := by simp [IntKind.wrap_i64]; omega
  have w2 : IntKind.i64.wrap (b - 1 - 320) = b - 1 - 320 := by simp [IntKind.wrap_i64]; omega
  refine v_enter Tryd.func8 Tryd.ntmps8 rfl (by simp) fun R' hR => ?_
  unfold tal
  simp [go_sem]
  refine (charge_any f m o _ hf hm ho).mono ?_
  rintro _ w2' ⟨rfl, hc⟩
  simp [go_sem, w1, w2]
  exact hR _ _ ⟨rfl, ((Ch.refl Nw w).alloc _).trans hc⟩
end Go.Proofs.YtmhnlgndgdmebaaDoor
