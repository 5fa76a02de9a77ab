/- ChargeAdds walked: a tally that has more, its charge, and whether it fits. Condition: the variable inode.leaves holds what the text lays. -/
import Derived.Test.YtmhnlgndgdmebaaDoorChG
import Derived.Test.YtmhnlgndgdmebaaDoorChL
namespace Go.Proofs.YtmhnlgndgdmebaaDoor
open Go.RowKit Go.Kin

def i32 (x : Int) : Prop := -2147483648 ≤ x ∧ x ≤ 2147483647
theorem leafK_1 (k : Nat) : leafK k = 1 ↔ k = 1 := by unfold leafK; split <;> (try split) <;> (try split) <;> omega
theorem leafK_2 (k : Nat) : leafK k = 2 ↔ (k = 2 ∨ k = 3) := by unfold leafK; split <;> (try split) <;> (try split) <;> omega

theorem cadds_any (f m o : Int) (k : Nat) (l n b : Int) (w : World) (hf : i32 f) (hm : i32 m) (ho : i32 o) (hk : k < 256) (hl : i32 l) (hn : i32 n) (hb : i32 b) (hlv : Lv w) :
    Ret Tryd.prog 3 #[.int .i32 f, .int .i32 m, .int .i32 o, .int .u8 k, .int .i32 l, .int .i32 n, .int .i32 b] w fun v' w' => v' = .bool true ∧ Ch Nw w w' := by
  unfold i32 at *
  have w1 : IntKind.i64.wrap f = f := by simp [IntKind.wrap_i64]; omega
  have w2 : IntKind.i64.wrap m = m := by simp [IntKind.wrap_i64]; omega
  have w3 : IntKind.i64.wrap o = o := by simp [IntKind.wrap_i64]; omega
  have w4 : IntKind.i64.wrap l = l := by simp [IntKind.wrap_i64]; omega
  have w5 : IntKind.i64.wrap n = n := by simp [IntKind.wrap_i64]; omega
  have w6 : IntKind.i64.wrap b = b := by simp [IntKind.wrap_i64]; omega
  have w7 : IntKind.i64.wrap (o + n) = o + n := by simp [IntKind.wrap_i64]; omega
  have w8 : IntKind.i64.wrap (f + l) = f + l := by simp [IntKind.wrap_i64]; omega
  have w9 : IntKind.i64.wrap (m + l) = m + l := by simp [IntKind.wrap_i64]; omega
  have w10 : IntKind.i64.wrap (3 * f) = 3 * f := by simp [IntKind.wrap_i64]; omega
  have w11 : IntKind.i64.wrap (4 * m) = 4 * m := by simp [IntKind.wrap_i64]; omega
  have w12 : IntKind.i64.wrap (4 * o) = 4 * o := by simp [IntKind.wrap_i64]; omega
  have w13 : IntKind.i64.wrap (3 * f + 4 * m) = 3 * f + 4 * m := by simp [IntKind.wrap_i64]; omega
  have w14 : IntKind.i64.wrap (3 * f + 4 * m + 4 * o) = 3 * f + 4 * m + 4 * o := by simp [IntKind.wrap_i64]; omega
  have w15 : IntKind.i64.wrap (3 * f + 4 * m + 4 * o + 20) = 3 * f + 4 * m + 4 * o + 20 := by simp [IntKind.wrap_i64]; omega
  have w16 : IntKind.i64.wrap (3 * f + 4 * m + 4 * o + 20 + 320) = 3 * f + 4 * m + 4 * o + 20 + 320 := by simp [IntKind.wrap_i64]; omega
  have w17 : IntKind.i64.wrap (b - 1) = b - 1 := by simp [IntKind.wrap_i64]; omega
  refine v_enter Tryd.func3 Tryd.ntmps3 rfl (by simp) fun R' hR => ?_
  simp [go_sem, w1, w2, w3, w5, w7]
  have hb0 := al2_0 w (.cells #[.int .i64 f, .int .i64 m, .int .i64 o] 23) (.cells #[.int .i64 f, .int .i64 m, .int .i64 (o + n)] 23)
  have hb1 := al2_1 w (.cells #[.int .i64 f, .int .i64 m, .int .i64 o] 23) (.cells #[.int .i64 f, .int .i64 m, .int .i64 (o + n)] 23)
  have hc := ((Ch.refl Nw w).alloc (.cells #[.int .i64 f, .int .i64 m, .int .i64 o] 23)).alloc (.cells #[.int .i64 f, .int .i64 m, .int .i64 (o + n)] 23)
  have hlv1 := hlv.ch hc id
  have hg0 := hlv.lt
  revert hb0 hb1 hc hlv1 hg0
  generalize (w.alloc (.cells #[.int .i64 f, .int .i64 m, .int .i64 o] 23)).alloc (.cells #[.int .i64 f, .int .i64 m, .int .i64 (o + n)] 23) = v1
  generalize hg : w.heap.size = g
  intro hb0 hb1 hc hlv1 hg0
  obtain ⟨I, hI⟩ : ∃ I : Int → Int → (Nat → Value) → World → Prop, I = fun ff mm fr u => fr 0 = .int .i32 f ∧ fr 1 = .int .i32 m ∧ fr 2 = .int .i32 o ∧ fr 3 = .int .u8 k ∧ fr 4 = .int .i32 l ∧ fr 5 = .int .i32 n ∧ fr 6 = .int .i32 b ∧
    fr 15 = .pointer (some ⟨g, 0, none⟩) ∧ fr 16 = .pointer (some ⟨g + 1, 0, none⟩) ∧ u.heap[g]? = some (.cells #[.int .i64 f, .int .i64 m, .int .i64 o] 23 (0, 0)) ∧
    u.heap[g + 1]? = some (.cells #[.int .i64 ff, .int .i64 mm, .int .i64 (o + n)] 23 (0, 0)) ∧ Ch Nw w u ∧ Lv u := ⟨_, rfl⟩
  have cel := fun i => cell_blk hb1 i
  have fz := fun i => frz_blk hb1 i
  refine v_meet (I (if k = 1 then f + l else f) m) ?_ ?_
  · by_cases h1 : k = 1
    · have hk1 : ((k : Int) == 1) = true := by simp; omega
      simp [go_sem, hk1, cel, fz, w4, w8]
      rw [hI]
      refine ⟨by simp, by simp, by simp, by simp, by simp, by simp, by simp, by simp, by simp, ?_, ?_, ?_, ?_⟩
      · simp [hb0]
      · simp [hb1, setOf, h1]
      · exact hc.setCell (.inr (by simp; omega)) _
      · exact hlv1.ch ((Ch.refl (one (g + 1)) v1).setCell (.inl (by simp [one])) _) (by simp [one])
    · have hk1 : ((k : Int) == 1) = false := by simp; omega
      simp [go_sem, hk1, h1]
      rw [hI]
      exact ⟨by simp, by simp, by simp, by simp, by simp, by simp, by simp, by simp, by simp, hb0, hb1, hc, hlv1⟩
  clear hb0 hb1 hc hlv1 cel fz
  generalize hff : (if k = 1 then f + l else f) = ff
  rw [hI]
  rintro fr u ⟨e0, e1, e2, e3, e4, e5, e6, e15, e16, hb0, hb1, hc, hlv1⟩
  refine v_meetS (fun fr u => I ff (if k = 2 ∨ k = 3 then m + l else m) fr u ∧ fr 17 = .int .i64 (3 * f + 4 * m + 4 * o + 20)) ?_ ?_
  · have cel := fun i => cell_blk hb1 i
    have fz := fun i => frz_blk hb1 i
    have done : ∀ fr' u', fr' 0 = .int .i32 f ∧ fr' 1 = .int .i32 m ∧ fr' 2 = .int .i32 o ∧ fr' 3 = .int .u8 k ∧ fr' 4 = .int .i32 l ∧ fr' 5 = .int .i32 n ∧ fr' 6 = .int .i32 b ∧
      fr' 15 = .pointer (some ⟨g, 0, none⟩) ∧ fr' 16 = .pointer (some ⟨g + 1, 0, none⟩) → u' = u.setCell ⟨g + 1, 1, none⟩ (.int .i64 (m + l)) → I ff (m + l) fr' u' := by
      rintro fr' u' ⟨d0, d1, d2, d3, d4, d5, d6, d15, d16⟩ rfl
      rw [hI]
      refine ⟨d0, d1, d2, d3, d4, d5, d6, d15, d16, ?_, ?_, ?_, ?_⟩
      · simp [hb0]
      · simp [hb1, setOf]
      · exact hc.setCell (.inr (by simp; omega)) _
      · exact hlv1.ch ((Ch.refl (one (g + 1)) u).setCell (.inl (by simp [one])) _) (by simp [one])
    by_cases h2 : k = 2
    · have hk2 : ((k : Int) == 2) = true := by simp; omega
      simp [go_sem, h2, cel, fz, w1, w2, w3, w10, w11, w12, w13, w14, w15, w4, w9, e0, e1, e2, e3, e4, e16]
      refine done _ _ ?_ rfl
      simp [e0, e1, e2, e3, e4, e5, e6, e15, e16, h2]
    · have hk2 : ((k : Int) == 2) = false := by simp; omega
      by_cases h3 : k = 3
      · have hk3 : ((k : Int) == 3) = true := by simp; omega
        simp [go_sem, h3, cel, fz, w1, w2, w3, w10, w11, w12, w13, w14, w15, w4, w9, e0, e1, e2, e3, e4, e16]
        refine done _ _ ?_ rfl
        simp [e0, e1, e2, e3, e4, e5, e6, e15, e16, h3]
      · have hk3 : ((k : Int) == 3) = false := by simp; omega
        simp [go_sem, hk2, hk3, h2, h3, w1, w2, w3, w10, w11, w12, w13, w14, w15, e0, e1, e2, e3]
        rw [hI]
        exact ⟨by simp [e0], by simp [e1], by simp [e2], by simp [e3], by simp [e4], by simp [e5], by simp [e6], by simp [e15], by simp [e16], hb0, hb1, hc, hlv1⟩
  clear hb0 hb1 hc hlv1 e0 e1 e2 e3 e4 e5 e6 e15 e16 fr u
  generalize hmm : (if k = 2 ∨ k = 3 then m + l else m) = mm
  rw [hI]
  rintro fr u ⟨⟨e0, e1, e2, e3, e4, e5, e6, e15, e16, hb0, hb1, hc, hlv1⟩, e17⟩
  simp [go_sem]
  refine v_draw' [(0, none), (1, none), (2, none), (3, none), (4, none), (5, none), (7, none), (6, some [7]), (8, none), (9, none), (10, none), (12, none), (11, some [12]), (13, none), (14, none), (15, none), (16, none), (17, none), (18, none), (20, none), (21, none), (22, none), (23, none), (24, none), (25, none), (19, some [20, 21, 22, 23, 24, 25]), (26, none), (27, none), (28, none), (29, some []), (30, none), (31, none)] (by kernel_rfl) (by kernel_rfl) ?_
  have cel := fun i => cell_blk hb1 i
  have cel0 := fun i => cell_blk hb0 i
  simp [go_sem, cel, cel0, e3, e4, e5, e15, e16, w4, w5]
  refine (with_any f m o k l n u.drew hk (hlv1.ch (Ch.refl Nw u).drew id)).mono ?_
  rintro _ u1 ⟨rfl, c1⟩
  rw [w7, w8, w9]
  have cu := (Ch.refl Nw u).drew.trans c1
  have hv1 := hlv1.ch cu id
  have hb0' := cu.hp hb0 id
  have hb1' := cu.hp hb1 id
  have cel := fun i => cell_blk hb1' i
  have cel0 := fun i => cell_blk hb0' i
  have hffe : (if leafK k = 1 then f + l else f) = ff := by rw [← hff]; simp [leafK_1]
  have hmme : (if leafK k = 2 then m + l else m) = mm := by rw [← hmm]; simp [leafK_2]
  rw [hffe, hmme]
  simp [go_sem, tal, cel, cel0, e15, e16, e17]
  have mf : mid f := ⟨by omega, by omega⟩
  have mm' : mid m := ⟨by omega, by omega⟩
  have mo : mid o := ⟨by omega, by omega⟩
  have mb : mid b := ⟨by omega, by omega⟩
  refine (charge_any f m o u1 mf mm' mo).mono ?_
  rintro _ u2 ⟨rfl, c2⟩
  rw [chg_lin]
  have hv2 := hv1.ch c2 id
  have hb0'' := c2.hp hb0' id
  have cel0 := fun i => cell_blk hb0'' i
  simp [go_sem, cel0, e6, e15, e17, w6, w16, w17]
  refine (fits_any f m o b u2 mf mm' mo mb).mono ?_
  rintro _ u3 ⟨rfl, c3⟩
  rw [chg_lin]
  have hv3 := hv2.ch c3 id
  have hd : decide (3 * f + 4 * m + 4 * o + 20 ≤ b - 1 - 320) = decide (3 * f + 4 * m + 4 * o + 20 + 320 ≤ b - 1) := by
    by_cases h : 3 * f + 4 * m + 4 * o + 20 + 320 ≤ b - 1
    · rw [decide_eq_true h, decide_eq_true (by omega)]
    · rw [decide_eq_false h, decide_eq_false (by omega)]
  rw [hd]
  simp [go_sem]
  refine ⟨⟨w17, w6, e6, w16, e17⟩, ?_⟩
  refine (cwakes_any u3 hv3).mono ?_
  rintro _ u4 ⟨rfl, c4⟩
  simp [go_sem]
  exact hR _ _ ⟨rfl, hc.trans (cu.trans (c2.trans (c3.trans c4)))⟩
end Go.Proofs.YtmhnlgndgdmebaaDoor
