/- The law's helper great, and what is known of charge (wakes), walked. Condition: the variable inode.leaves holds what the text lays. -/
import Derived.Test.YtmhnlgndgdmebaaDoorChF
namespace Go.Proofs.YtmhnlgndgdmebaaDoor
open Go.RowKit Go.Kin

def greatB (l : List Ob) : Bool := decide (300 < l.length) || l.any fun x => decide (100 < x.2.2.length)
theorem great_any (v : Value) (l : List Ob) (w : World) (ho : Objs w v l) : Ret Tryd.prog 10 #[v] w fun v' w' => v' = .bool (greatB l) ∧ w' = w := by
  obtain ⟨A, c, rfl, hlc, hcm, hel⟩ := ho
  refine v_enter Tryd.func10 Tryd.ntmps10 rfl (by simp) fun R' hR => ?_
  by_cases h300 : 300 < l.length
  · have h' : (300 : Int) < l.length := by omega
    simp [go_sem, h']
    exact hR _ _ ⟨by simp [greatB, h300], rfl⟩
  · have h' : ¬ (300 : Int) < l.length := by omega
    simp [go_sem, h']
    refine v_loop (fun r f wr => ∃ k, k ≤ l.length ∧ r = l.length - k ∧ wr = w ∧ f 0 = .slice A l.length c ∧ f 3 = .int .i64 k ∧ (l.take k).any (fun x => decide (100 < x.2.2.length)) = false) l.length
      ⟨0, by omega, rfl, rfl, by simp, by simp, rfl⟩ ?_
    rintro J hJ _ f w1 ⟨k, hk, rfl, rfl, h0, h3, hany⟩
    by_cases hkl : k < l.length
    · obtain ⟨bb, bo, rfl, hat⟩ := hel (by omega)
      obtain ⟨x, hx⟩ : ∃ x, l[k]? = some x := ⟨_, List.getElem?_eq_getElem hkl⟩
      obtain ⟨hfit, hn, hkd, oA, oc, hof, hos⟩ := hat k x hx
      have hki : (k : Int) < l.length := by omega
      have hwk : IntKind.i64.wrap ((k : Int) + 1) = ((k + 1 : Nat) : Int) := by simp [IntKind.wrap_i64]; omega
      by_cases h100 : 100 < x.2.2.length
      · have h100' : (100 : Int) < x.2.2.length := by omega
        simp [go_sem, h0, h3, hki, hof, h100']
        refine hR _ _ ⟨?_, rfl⟩
        have : l.any (fun x => decide (100 < x.2.2.length)) = true := List.any_eq_true.2 ⟨x, List.mem_of_getElem? hx, by simpa using h100⟩
        simp [greatB, this]
      · have h100' : ¬ (100 : Int) < x.2.2.length := by omega
        have e : (l.take (k + 1)).any (fun x => decide (100 < x.2.2.length)) = false := by
          rw [List.take_add_one, hx, List.any_append, hany]
          simpa using h100
        simp [go_sem, h0, h3, hki, hof, h100', hwk]
        exact Rnd.intro (l.length - (k + 1)) (by omega) (hJ _ _ _ ⟨k + 1, by omega, rfl, rfl, by simp [h0], by simp, e⟩)
    · obtain rfl : k = l.length := by omega
      rw [List.take_length] at hany
      simp [go_sem, h0, h3]
      exact hR _ _ ⟨by simp only [greatB, hany, h300]; rfl, rfl⟩
theorem great_no {l : List Ob} (h : greatB l = false) : l.length ≤ 300 ∧ ∀ x ∈ l, x.2.2.length ≤ 100 := by
  simp only [greatB, Bool.or_eq_false_iff, decide_eq_false_iff_not, List.any_eq_false, decide_eq_true_eq] at h
  exact ⟨by omega, fun x hx => by have := h.2 x hx; omega⟩

def wkL : List Ob := [(1, 2, [0]), (2, 1, [0, 9])]
theorem wk1 : takesN (selO wkL).1 = 22 := by decide +kernel
theorem wk2 : fiS (selO wkL).1 = 2 ∧ meS (selO wkL).1 = 1 ∧ (selO wkL).1.length = 2 := by decide +kernel
theorem wk0 : takesN (selO []).1 = 2 := by decide +kernel
theorem cwakes_any (w : World) (hlv : Lv w) : Ret Tryd.prog 9 #[] w fun v' w' => v' = .bool true ∧ Ch Nw w w' := by
  refine v_enter Tryd.func9 Tryd.ntmps9 rfl (by simp) fun R' hR => ?_
  simp [go_sem]
  have hb0 := al3_0 w (.cells #[.int .u32 0] 49) (.cells #[.int .u32 0, .int .u32 9] 49) (.cells #[.int .u16 1, .int .u8 2, .slice (some ⟨w.heap.size, 0, none⟩) 1 1, .int .u16 2, .int .u8 1, .slice (some ⟨w.heap.size + 1, 0, none⟩) 2 2] 64)
  have hb1 := al3_1 w (.cells #[.int .u32 0] 49) (.cells #[.int .u32 0, .int .u32 9] 49) (.cells #[.int .u16 1, .int .u8 2, .slice (some ⟨w.heap.size, 0, none⟩) 1 1, .int .u16 2, .int .u8 1, .slice (some ⟨w.heap.size + 1, 0, none⟩) 2 2] 64)
  have hb2 := al3_2 w (.cells #[.int .u32 0] 49) (.cells #[.int .u32 0, .int .u32 9] 49) (.cells #[.int .u16 1, .int .u8 2, .slice (some ⟨w.heap.size, 0, none⟩) 1 1, .int .u16 2, .int .u8 1, .slice (some ⟨w.heap.size + 1, 0, none⟩) 2 2] 64)
  have hc := (((Ch.refl Nw w).alloc (.cells #[.int .u32 0] 49)).alloc (.cells #[.int .u32 0, .int .u32 9] 49)).alloc (.cells #[.int .u16 1, .int .u8 2, .slice (some ⟨w.heap.size, 0, none⟩) 1 1, .int .u16 2, .int .u8 1, .slice (some ⟨w.heap.size + 1, 0, none⟩) 2 2] 64)
  have hlv1 := hlv.ch hc id
  revert hb0 hb1 hb2 hc hlv1
  generalize ((w.alloc (.cells #[.int .u32 0] 49)).alloc (.cells #[.int .u32 0, .int .u32 9] 49)).alloc (.cells #[.int .u16 1, .int .u8 2, .slice (some ⟨w.heap.size, 0, none⟩) 1 1, .int .u16 2, .int .u8 1, .slice (some ⟨w.heap.size + 1, 0, none⟩) 2 2] 64) = w1
  generalize hg : w.heap.size = g
  intro hb0 hb1 hb2 hc hlv1
  have s0 : Sl w1 (.slice (some ⟨g, 0, none⟩) 1 1) 1 (u32s [0]) := Sl.of_blk hb0 (Nat.le_refl _) (by decide) rfl
  have s1 : Sl w1 (.slice (some ⟨g + 1, 0, none⟩) 2 2) 2 (u32s [0, 9]) := Sl.of_blk hb1 (Nat.le_refl _) (by decide) rfl
  have ho : Objs w1 (.slice (some ⟨g + 2, 0, none⟩) 2 2) wkL := by
    refine ⟨_, 2, rfl, Nat.le_refl _, by decide, fun _ => ⟨g + 2, 0, rfl, fun j x hx => ?_⟩⟩
    match j, hx with
    | 0, hx => cases hx; exact ⟨by decide, cell_blk hb2 0, cell_blk hb2 1, _, _, cell_blk hb2 2, s0⟩
    | 1, hx => cases hx; exact ⟨by decide, cell_blk hb2 3, cell_blk hb2 4, _, _, cell_blk hb2 5, s1⟩
    | j + 2, hx => simp [wkL] at hx
  have ho0 : ∀ w, Objs w (.slice none 0 0) [] := fun w => ⟨none, 0, rfl, Nat.le_refl _, Nat.zero_le _, fun h => absurd h (by simp)⟩
  have hll : wkL.length ≤ 1000 := by decide
  have hlo : ∀ x ∈ wkL, x.2.2.length ≤ 1000 := by decide
  obtain ⟨e1, e2, e3⟩ := wk2
  refine (takes_any _ [] w1 (by simp) (by simp) (ho0 w1) hlv1).mono ?_
  rintro _ w2 ⟨rfl, c2⟩
  rw [wk0]
  have hlv2 := hlv1.ch c2 id
  have ho2 := ho.keep c2
  simp [go_sem]
  refine (takes_any _ wkL w2 hll hlo ho2 hlv2).mono ?_
  rintro _ w3 ⟨rfl, c3⟩
  rw [wk1]
  have hlv3 := hlv2.ch c3 id
  have ho3 := ho2.keep c3
  simp [go_sem]
  refine (of_any _ wkL w3 hll hlo ho3 hlv3).mono ?_
  rintro _ w4 ⟨rfl, c4⟩
  rw [e1, e2, e3]
  have hlv4 := hlv3.ch c4 id
  have ho4 := ho3.keep c4
  simp [go_sem, tal]
  refine (of_any _ wkL w4 hll hlo ho4 hlv4).mono ?_
  rintro _ w5 ⟨rfl, c5⟩
  rw [e1, e2, e3]
  have hlv5 := hlv4.ch c5 id
  have ho5 := ho4.keep c5
  simp [go_sem]
  refine (charge_any 2 1 2 w5 ⟨by decide, by decide⟩ ⟨by decide, by decide⟩ ⟨by decide, by decide⟩).mono ?_
  rintro _ w6 ⟨rfl, c6⟩
  rw [show chg 2 1 2 = 38 by decide]
  have hlv6 := hlv5.ch c6 id
  have ho6 := ho5.keep c6
  simp [go_sem]
  refine (of_any _ wkL w6 hll hlo ho6 hlv6).mono ?_
  rintro _ w7 ⟨rfl, c7⟩
  rw [e1, e2, e3]
  have hlv7 := hlv6.ch c7 id
  have ho7 := ho6.keep c7
  simp [go_sem]
  refine (fits_any 2 1 2 359 w7 ⟨by decide, by decide⟩ ⟨by decide, by decide⟩ ⟨by decide, by decide⟩ ⟨by decide, by decide⟩).mono ?_
  rintro _ w8 ⟨rfl, c8⟩
  rw [show decide (chg 2 1 2 ≤ 359 - 1 - 320) = true by decide]
  have hlv8 := hlv7.ch c8 id
  have ho8 := ho7.keep c8
  simp [go_sem]
  refine (of_any _ wkL w8 hll hlo ho8 hlv8).mono ?_
  rintro _ w9 ⟨rfl, c9⟩
  rw [e1, e2, e3]
  simp [go_sem]
  refine (fits_any 2 1 2 358 w9 ⟨by decide, by decide⟩ ⟨by decide, by decide⟩ ⟨by decide, by decide⟩ ⟨by decide, by decide⟩).mono ?_
  rintro _ w10 ⟨rfl, c10⟩
  rw [show decide (chg 2 1 2 ≤ 358 - 1 - 320) = false by decide]
  simp [go_sem]
  exact hR _ _ ⟨rfl, hc.trans (c2.trans (c3.trans (c4.trans (c5.trans (c6.trans (c7.trans (c8.trans (c9.trans c10))))))))⟩
end Go.Proofs.YtmhnlgndgdmebaaDoor
