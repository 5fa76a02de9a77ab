/- AnchorNil and AnchorBytes, walked. No condition but that the values are of their types. -/
import Derived.Test.YtmhnlgndgdmebaaAncF
namespace Go.Proofs.Ytmhnlgndgdmebaa
open Go.RowKit Go.Kin

theorem anil_any (n : Nat) (h : List UInt8) (a : List Nat) (w : World) (ok : AncOk n h a) : Ret Try.prog 4 #[.agg (anc n h a)] w fun v' w' => v' = .bool true ∧ Ch Nw w w' := by
  refine v_enter Try.func4 Try.ntmps4 rfl (by simp) fun R' hR => ?_
  simp [go_sem]
  have hc1 := (Ch.refl Nw w).alloc (.cells (anc n h a) 27)
  have hb1 := hp_alloc w (.cells (anc n h a) 27)
  revert hc1 hb1
  generalize w.alloc (.cells (anc n h a) 27) = w1
  generalize hgx : w.heap.size = gx
  intro hc1 hb1
  refine (anew_nil w1).mono ?_
  rintro _ w1 ⟨rfl, rfl⟩
  simp [go_sem]
  refine (load_nil _).mono ?_
  rintro _ w2 ⟨rfl, c2⟩
  have heq0 := fun w => eq_anc w 0 (zb 32) (zn 4) 0 (zb 32) (zn 4) (zb_length 32) (zn_length 4) (zb_length 32) (zn_length 4)
  simp only [and_self, decide_true] at heq0
  simp [go_sem, bld_anc0, heq0]
  refine (abytes_nil w2).mono ?_
  rintro _ w3 ⟨rfl, c3⟩
  have heq2 := fun w => eq_b64 w _ _ (zb_length 64) (zb_length 64)
  simp only [decide_true] at heq2
  have hcell := fun i => cell_blk ((c2.trans c3).hp hb1 id) i
  simp [go_sem, bld_b64, heq2, hcell, anc_0, bld_anc1]
  refine (store_nil _ _ _ w3).mono ?_
  rintro _ w4 ⟨rfl, c4⟩
  simp [go_sem]
  refine (awakes_any w4).mono ?_
  rintro _ w5 ⟨rfl, c5⟩
  simp [go_sem]
  exact hR _ _ ⟨rfl, hc1.trans (c2.trans (c3.trans (c4.trans c5)))⟩

theorem eq_ranc (w : World) (n : Nat) (h : List UInt8) (a : List Nat) (n' : Nat) (h' : List UInt8) (a' : List Nat) (hh : h.length = 32) (ha : a.length = 4) (hh' : h'.length = 32) (ha' : a'.length = 4) :
    (Op.equalIn 10000 27 (.agg (anc n h a)) (.agg (anc n' h' a'))).run Try.prog w = .ok (decide (n = n' ∧ h = h' ∧ a = a')) w := by
  have e1 : ∀ w, (Op.equalIn 9999 23 (.agg (bvs h).toArray) (.agg (bvs h').toArray)).run Try.prog w = .ok (decide (h = h')) w := fun w => run_equalIn_bvs w 9997 _ _ 32 Try.underlying23 Try.underlying5 Try.sizeOf5 Try.isAgg5 h h' hh hh'
  have e2 : ∀ w, (Op.equalIn 9999 25 (.agg (u16s a).toArray) (.agg (u16s a').toArray)).run Try.prog w = .ok (decide (a = a')) w := fun w => run_equalIn_u16s w 9997 _ _ 4 Try.underlying25 Try.underlying24 Try.sizeOf24 Try.isAgg24 a a' ha ha'
  have g0 := anc_0 n h a
  have g0' := anc_0 n' h' a'
  simp [go_sem, g0, g0', anc_h hh, anc_h hh', anc_a hh ha, anc_a hh' ha', e1, e2]
  by_cases h1 : n = n'
  · subst h1
    by_cases h2 : h = h' <;> by_cases h3 : a = a' <;> simp [h2, h3]
  · have : ¬ (n : Int) = (n' : Int) := by omega
    simp [h1, this]
theorem bld_anc4 (n : Nat) (h : List UInt8) (a0 a1 a2 a3 : Nat) (hh : h.length = 32) (w : World) (K : Value → World → Prop) :
    VBld Try.prog 29 [(0, .int .u64 n), (1, .agg (bvs h).toArray), (2, .agg #[.int .u16 a0, .int .u16 a1, .int .u16 a2, .int .u16 a3])] w K = K (.agg (anc n h [a0, a1, a2, a3])) w := bld_anc3 n h [a0, a1, a2, a3] hh rfl
theorem bld_ranc4 (n : Nat) (h : List UInt8) (a0 a1 a2 a3 : Nat) (hh : h.length = 32) (w : World) (K : Value → World → Prop) :
    VBld Try.prog 27 [(0, .int .u64 n), (1, .agg (bvs h).toArray), (2, .agg #[.int .u16 a0, .int .u16 a1, .int .u16 a2, .int .u16 a3])] w K = K (.agg (anc n h [a0, a1, a2, a3])) w := by
  refine VBld_struct Try.underlying27 hz_ranc (places := #[(0, 1), (1, 32), (33, 4)]) (by simp [go_sem]) ?_
  have e : (#[Value.int .u16 a0, .int .u16 a1, .int .u16 a2, .int .u16 a3] : Array Value) = (u16s [a0, a1, a2, a3]).toArray := rfl
  rw [e]
  have ha : [a0, a1, a2, a3].length = 4 := rfl
  simp [fillB, zc_ranc, Value.cells, anc_size (zb_length 32) (zn_length 4), anc_size hh (zn_length 4), blit_anc_n, blit_anc_h (zb_length 32) hh, blit_anc_a hh (zn_length 4) ha, bvs_length, u16s_length, hh]

theorem abytes_law (n : Nat) (h : List UInt8) (a : List Nat) (b : List UInt8) (w : World) (ok : AncOk n h a) (hb : b.length = 64) : Ret Try.prog 3 #[.agg (anc n h a), .agg (bvs b).toArray] w fun v' w' => v' = .bool true ∧ Ch Nw w w' := by
  refine v_enter Try.func3 Try.ntmps3 rfl (by simp) fun R' hR => ?_
  simp [go_sem, anc_0]
  have hb1 := al2_0 w (.cells (anc n h a) 27) (.cells (bvs b).toArray 28)
  have hb2 := al2_1 w (.cells (anc n h a) 27) (.cells (bvs b).toArray 28)
  have hc1 := ((Ch.refl Nw w).alloc (.cells (anc n h a) 27)).alloc (.cells (bvs b).toArray 28)
  revert hb1 hb2 hc1
  generalize (w.alloc (.cells (anc n h a) 27)).alloc (.cells (bvs b).toArray 28) = w1
  generalize hgx : w.heap.size = gx
  intro hb1 hb2 hc1
  obtain ⟨a0, a1, a2, a3, rfl⟩ : ∃ a0 a1 a2 a3, a = [a0, a1, a2, a3] := by
    match a, ok.ha with
    | [a0, a1, a2, a3], _ => exact ⟨a0, a1, a2, a3, rfl⟩
  have k0 := (cell_blk hb1 0).trans (anc_0 _ _ _)
  have q0 := (cell_blk hb1 33).trans (anc_a_at (n := n) ok.hh 0 a0 (a := [a0, a1, a2, a3]) rfl)
  have q1 := (cell_blk hb1 34).trans (anc_a_at (n := n) ok.hh 1 a1 (a := [a0, a1, a2, a3]) rfl)
  have q2 := (cell_blk hb1 35).trans (anc_a_at (n := n) ok.hh 2 a2 (a := [a0, a1, a2, a3]) rfl)
  have q3 := (cell_blk hb1 36).trans (anc_a_at (n := n) ok.hh 3 a3 (a := [a0, a1, a2, a3]) rfl)
  simp only [u16v] at q0 q1 q2 q3
  have hsz := anc_size (n := n) ok.hh ok.ha
  have hall := anc_all (n := n) ok.hh ok.ha
  simp [go_sem, hb1, hsz, anc_h ok.hh, q0, q1, q2, q3, bld_anc4 _ _ _ _ _ _ ok.hh, hz_anc, zc_anc, anc_size (zb_length 32) (zn_length 4), blit_whole]
  have hc2 := hc1.alloc (.cells (anc n h [a0, a1, a2, a3]) 29)
  have hq2 := (Ch.refl Nw w1).alloc (.cells (anc n h [a0, a1, a2, a3]) 29)
  have hb3 := hp_alloc w1 (.cells (anc n h [a0, a1, a2, a3]) 29)
  have hb1 := hq2.hp hb1 id
  have hb2 := hq2.hp hb2 id
  revert hc2 hq2 hb3 hb1 hb2
  generalize w1.alloc (.cells (anc n h [a0, a1, a2, a3]) 29) = w2
  generalize hg3 : w1.heap.size = g3
  intro hc2 hq2 hb3 hb1 hb2
  simp [go_sem, hb2, bvs_length, hb]
  refine (atake_any b w2 hb).mono ?_
  rintro _ w3 ⟨rfl, c3⟩
  have hb1 := c3.hp hb1 id
  have hb2 := c3.hp hb2 id
  have hb3 := c3.hp hb3 id
  -- what was taken
  obtain ⟨cn, ch, ca, e, hV, okc, he⟩ : ∃ cn ch ca e, takeV b = .tuple #[.agg (anc cn ch ca), .int .i64 e] ∧ AncOk cn ch ca ∧ (e = 0 → putB cn ch ca = b) := by
    by_cases hm : ancMay b = true
    · exact ⟨_, _, _, 0, by simp [takeV, hm], take_ok hb, fun _ => (put_take_iff hb).2 (by simpa [ancMay] using hm)⟩
    · exact ⟨_, _, _, 5, by simp [takeV, hm], ok_zero, fun h => by cases h⟩
  rw [hV]
  obtain ⟨c0, c1, c2, c3', rfl⟩ : ∃ a0 a1 a2 a3, ca = [a0, a1, a2, a3] := by
    match ca, okc.ha with
    | [a0, a1, a2, a3], _ => exact ⟨a0, a1, a2, a3, rfl⟩
  have hszc := anc_size (n := cn) okc.hh okc.ha
  have hallc := anc_all (n := cn) okc.hh okc.ha
  simp [go_sem, hz_anc, zc_anc, hszc, anc_size (zb_length 32) (zn_length 4), blit_whole]
  have hq4 := (Ch.refl Nw w3).alloc (.cells (anc cn ch [c0, c1, c2, c3']) 29)
  have hb4 := hp_alloc w3 (.cells (anc cn ch [c0, c1, c2, c3']) 29)
  have hb1 := hq4.hp hb1 id
  have hb2' := hq4.hp hb2 id
  have hb3 := hq4.hp hb3 id
  revert hq4 hb4 hb1 hb2' hb3
  generalize w3.alloc (.cells (anc cn ch [c0, c1, c2, c3']) 29) = w4
  generalize hg4 : w3.heap.size = g4
  intro hq4 hb4 hb1 hb2 hb3
  simp [go_sem, hb2, bvs_length, hb]
  refine (rtake_any b w4 hb).mono ?_
  rintro _ w5 ⟨rfl, c5⟩
  rw [hV]
  have hb1 := c5.hp hb1 id
  have hb2 := c5.hp hb2 id
  have hb3 := c5.hp hb3 id
  have hb4 := c5.hp hb4 id
  simp [go_sem, hz_ranc, zc_ranc, hszc, anc_size (zb_length 32) (zn_length 4), blit_whole]
  have hq6 := (Ch.refl Nw w5).alloc (.cells (anc cn ch [c0, c1, c2, c3']) 27)
  have hb5 := hp_alloc w5 (.cells (anc cn ch [c0, c1, c2, c3']) 27)
  have hb1 := hq6.hp hb1 id
  have hb2 := hq6.hp hb2 id
  have hb3 := hq6.hp hb3 id
  have hb4 := hq6.hp hb4 id
  revert hq6 hb5 hb1 hb2 hb3 hb4
  generalize w5.alloc (.cells (anc cn ch [c0, c1, c2, c3']) 27) = w6
  generalize hg5 : w5.heap.size = g5
  intro hq6 hb5 hb1 hb2 hb3 hb4
  simp [go_sem, hb3, hsz, hall]
  refine (put_any _ _ _ w6 ok).mono ?_
  rintro _ w7 ⟨rfl, c7⟩
  have hL := putB_length (n := n) ok.hh ok.ha
  simp [go_sem]
  refine (atake_any _ w7 hL).mono ?_
  rintro _ w8 ⟨rfl, c8⟩
  obtain ⟨t1, t2, t3⟩ := take_put ok
  have hm := may_put ok
  have c78 := c7.trans c8
  have hb1 := c78.hp hb1 id
  have hb2 := c78.hp hb2 id
  have hb3 := c78.hp hb3 id
  have hb4 := c78.hp hb4 id
  have hb5 := c78.hp hb5 id
  simp [go_sem, takeV, hm, t1, t2, t3, hz_anc, zc_anc, hsz, anc_size (zb_length 32) (zn_length 4), blit_whole]
  have hq9 := (Ch.refl Nw w8).alloc (.cells (anc n h [a0, a1, a2, a3]) 29)
  have hb6 := hp_alloc w8 (.cells (anc n h [a0, a1, a2, a3]) 29)
  have hb1 := hq9.hp hb1 id
  have hb2 := hq9.hp hb2 id
  have hb3 := hq9.hp hb3 id
  have hb4 := hq9.hp hb4 id
  have hb5 := hq9.hp hb5 id
  revert hq9 hb6 hb1 hb2 hb3 hb4 hb5
  generalize w8.alloc (.cells (anc n h [a0, a1, a2, a3]) 29) = w9
  generalize hg6 : w8.heap.size = g6
  intro hq9 hb6 hb1 hb2 hb3 hb4 hb5
  have hcAll : Ch Nw w w9 := hc2.trans (c3.trans (hq4.trans (c5.trans (hq6.trans (c78.trans hq9)))))
  refine v_draw' [(0, none), (2, none), (1, some [2]), (3, some []), (4, none), (5, none), (6, none), (7, none), (8, none), (9, none), (10, none), (11, none), (12, none), (13, none), (14, none), (15, none), (16, none), (17, none), (18, none), (19, none), (20, none), (21, none), (22, none), (23, none), (24, none), (25, none), (26, none), (27, none), (28, none), (29, none), (30, none), (31, none), (32, none), (33, none), (34, none), (36, none), (35, some [36]), (37, none), (38, none), (39, none), (40, none), (41, some []), (42, none), (43, none)] (by kernel_rfl) (by kernel_rfl) ?_
  simp [go_sem, hb3, hb1, hsz, hall]
  refine (put_any _ _ _ w9.drew ok).mono ?_
  rintro _ w10 ⟨rfl, c10⟩
  have c10 := c10.of_drew
  have hb1' := c10.hp hb1 id
  simp [go_sem, hb1', hsz, hall]
  refine (rput_any _ _ _ w10 ok).mono ?_
  rintro _ w11 ⟨rfl, c11⟩
  have c11 := c10.trans c11
  have hb2 := c11.hp hb2 id
  have hb3 := c11.hp hb3 id
  have hb4 := c11.hp hb4 id
  have hb5 := c11.hp hb5 id
  have hb6 := c11.hp hb6 id
  have heq1 := fun w => eq_b64 w _ _ hL hL
  simp only [decide_true] at heq1
  have heq2 := fun w => eq_ranc w cn ch [c0, c1, c2, c3'] cn ch [c0, c1, c2, c3'] okc.hh rfl okc.hh rfl
  simp only [and_self, decide_true] at heq2
  have heq3 := fun w => eq_anc w n h [a0, a1, a2, a3] n h [a0, a1, a2, a3] ok.hh rfl ok.hh rfl
  simp only [and_self, decide_true] at heq3
  have k0 := (cell_blk hb4 0).trans (anc_0 _ _ _)
  have q0 := (cell_blk hb4 33).trans (anc_a_at (n := cn) okc.hh 0 c0 (a := [c0, c1, c2, c3']) rfl)
  have q1 := (cell_blk hb4 34).trans (anc_a_at (n := cn) okc.hh 1 c1 (a := [c0, c1, c2, c3']) rfl)
  have q2 := (cell_blk hb4 35).trans (anc_a_at (n := cn) okc.hh 2 c2 (a := [c0, c1, c2, c3']) rfl)
  have q3 := (cell_blk hb4 36).trans (anc_a_at (n := cn) okc.hh 3 c3' (a := [c0, c1, c2, c3']) rfl)
  simp only [u16v] at q0 q1 q2 q3
  have hbld := bld_ranc4 cn ch c0 c1 c2 c3' okc.hh
  by_cases he0 : e = 0
  · subst he0
    have hput := he rfl
    simp [go_sem, heq1, heq2, heq3, k0, q0, q1, q2, q3, hbld, hb2, hb3, hb4, hb5, hb6, hsz, hall, hszc, hallc, anc_h okc.hh, bvs_length, hb]
    refine (put_any _ _ _ w11 okc).mono ?_
    rintro _ w12 ⟨rfl, c12⟩
    rw [hput]
    have hb2' := c12.hp hb2 id
    have heq4 := fun w => eq_b64 w _ _ hb hb
    simp only [decide_true] at heq4
    simp [go_sem, hb2', heq4, bvs_length, hb]
    refine (awakes_any w12).mono ?_
    rintro _ w13 ⟨rfl, c13⟩
    simp [go_sem]
    exact hR _ _ ⟨rfl, hcAll.trans (c11.trans (c12.trans c13))⟩
  · have hne : (e == 0) = false := by simpa using he0
    have hne' : (e != 0) = true := by simpa using he0
    simp [go_sem, heq1, heq2, heq3, k0, q0, q1, q2, q3, hbld, hb3, hb4, hb5, hb6, hsz, hall, hszc, hallc, anc_h okc.hh, hne']
    refine (awakes_any w11).mono ?_
    rintro _ w13 ⟨rfl, c13⟩
    simp [go_sem]
    exact hR _ _ ⟨rfl, hcAll.trans (c11.trans c13)⟩
end Go.Proofs.Ytmhnlgndgdmebaa
