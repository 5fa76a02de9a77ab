/- PtrTells, walked. Conditions: the variables sha.constants and ptr.wide hold what the text lays. -/
import Derived.Test.YtfcoiboeohgimaaDoorPtK
import Derived.Test.YtfcoiboeohgimaaDoorPtL
import Derived.Test.YtfcoiboeohgimaaDoorPtD
import Derived.Test.YtfcoiboeohgimaaDoorPtE
namespace Go.Proofs.YtfcoiboeohgimaaDoor
open Go.RowKit Go.Kin

theorem eq_co (a b : Int) (c d : Nat) (w : World) : (Op.equalIn 10000 77 (.agg #[.int .i64 a, .int .u16 c]) (.agg #[.int .i64 b, .int .u16 d])).run Tryd.prog w = .ok (decide (a = b) && decide (c = d)) w := by
  have hc : ((c : Int) == (d : Int)) = decide (c = d) := by
    by_cases h : c = d
    · simp [h]
    · rw [beq_false_of_ne (by omega), decide_eq_false h]
  have hd : (a == b) = decide (a = b) := by
    by_cases h : a = b
    · simp [h]
    · rw [beq_false_of_ne h, decide_eq_false h]
  rw [Op.equalIn]
  simp [go_sem, hc, hd]
  by_cases h1 : a = b <;> by_cases h2 : c = d <;> simp [h1, h2]
theorem eq_nilf (g : Fn) (ts b : Array Value) (w : World) : (binOp .eql 74 (.func g ts b) .nilFunc).run Tryd.prog w = .ok (.bool false) w := by
  simp [go_sem, binOp, Op.equal]
  rw [show Op.maxDepth = 9999 + 1 from rfl, Op.equalIn]
  simp [go_sem]
theorem ccs_get (a : List Nat) {i y : Nat} (h : (cseq a 4)[i]? = some y) : (ccs a 4)[i * 2]? = some (.int .i64 ((y : Int) / 2)) ∧ (ccs a 4)[i * 2 + 1]? = some (.int .u16 (a.getD y 0)) := by
  unfold ccs
  generalize cseq a 4 = l at h
  induction l generalizing i with
  | nil => simp at h
  | cons x l ih =>
    rw [List.flatMap_cons]
    cases i with
    | zero =>
      simp at h
      subst h
      simp [cenc]
    | succ i =>
      have := ih (i := i) (by simpa using h)
      rw [List.getElem?_append_right (by simp [cenc]; omega), List.getElem?_append_right (by simp [cenc]; omega)]
      simp only [cenc, List.length_cons, List.length_nil]
      rw [show (i + 1) * 2 - (0 + 1 + 1) = i * 2 by omega, show (i + 1) * 2 + 1 - (0 + 1 + 1) = i * 2 + 1 by omega]
      exact this
theorem co_at {w : World} {A : Option Addr} {c n : Nat} {xs : List Value} (h : w.ownsRow 0 77 2 (.slice A n c) n xs) (hk : 0 < n) :
    ∃ gs, A = some ⟨gs, 0, none⟩ ∧ (∀ j u, xs[j]? = some u → w.cell? ⟨gs, j, none⟩ = some u) ∧ (∃ cs, w.heap[gs]? = some (.cells cs 77 (0, 0))) := by
  obtain ⟨g, cap, cur, hv, h1, h2, hb, h3, hc⟩ := ownS_blk h hk
  simp at hv
  exact ⟨g, hv.1, hc, cur, hb⟩
theorem ptells_any (p : Pt) (v : Value) (l : List UInt8) (m : Nat) (w : World) (ok : PtOk p) (hm : m < 256) (hs : Sl w v l.length (bvs l)) (hw : Lw w) (hk : Lk w) :
    Ret Tryd.prog 10 #[.agg (pt p), v, .int .u8 m] w fun v' w' => v' = .bool true ∧ Ch Nw w w' := by
  have hlen := hs.len Tryd.underlying30 3
  have hps := pt_size ok
  have hpa := pt_all ok
  refine v_enter Tryd.func10 Tryd.ntmps10 rfl (by simp) fun R' hR => ?_
  have b3 := al3_0 w (.cells (pt p) 28) (.cells #[.int .u8 m] 5) (.cells #[.bool false] 4)
  have b5 := al3_1 w (.cells (pt p) 28) (.cells #[.int .u8 m] 5) (.cells #[.bool false] 4)
  have b6 := al3_2 w (.cells (pt p) 28) (.cells #[.int .u8 m] 5) (.cells #[.bool false] 4)
  have c1 := (((Ch.refl Nw w).alloc (.cells (pt p) 28)).alloc (.cells #[.int .u8 m] 5)).alloc (.cells #[.bool false] 4)
  have hz1 : (((w.alloc (.cells (pt p) 28)).alloc (.cells #[.int .u8 m] 5)).alloc (.cells #[.bool false] 4)).heap.size = w.heap.size + 3 := by simp
  by_cases h200 : (200 : Int) < l.length
  · simp [go_sem, hlen, h200]
    revert b3 b5 b6 c1 hz1
    generalize (((w.alloc (.cells (pt p) 28)).alloc (.cells #[.int .u8 m] 5)).alloc (.cells #[.bool false] 4)) = w1
    generalize hq : w.heap.size = q
    intro b3 b5 b6 c1 hz1
    refine (pwakes_any w1 (hw.ch c1 id) (hk.ch c1 id)).mono ?_
    rintro _ w2 ⟨rfl, c2⟩
    have b6 := c2.hp b6 id
    have e6 := fun i => cell_blk b6 i
    have z6 := fun i => frz_blk b6 i
    simp [go_sem, e6, z6]
    exact hR _ _ ⟨rfl, (c1.trans c2).setCell (.inr (by show w.heap.size ≤ q + 2; omega)) _⟩
  have sx := fun {w : World} {v : Value} {l : List UInt8} {n : Nat} (h : Sl w v n (bvs l)) (hn : l.length = n) => h.str (P := Tryd.prog) hn Tryd.underlying30 Tryd.underlying5 Tryd.underlying9
  have hs1 := hs.ch c1 fun _ _ e => e
  have hstr := sx hs1 rfl
  simp [go_sem, hlen, h200, hstr]
  revert b3 b5 b6 c1 hz1 hs1
  clear hstr
  generalize (((w.alloc (.cells (pt p) 28)).alloc (.cells #[.int .u8 m] 5)).alloc (.cells #[.bool false] 4)) = w1
  generalize hq : w.heap.size = q
  intro b3 b5 b6 c1 hz1 hs1
  refine v_draw' [(0, none), (2, none), (1, some [2]), (3, some []), (4, none), (5, none), (6, none), (8, none), (11, none), (12, none), (7, some [8, 11, 12]), (9, some [11, 12]), (10, none), (13, some [11, 10]), (14, none), (15, none), (16, none), (17, none), (18, none), (19, none), (20, none), (22, none), (23, none), (21, some [22, 23]), (24, some []), (25, none), (26, none)] (by kernel_rfl) (by kernel_rfl) ?_
  have c1 := c1.drew
  replace hs1 : Sl w1.drew v l.length (bvs l) := hs1
  replace b3 : w1.drew.heap[q]? = _ := b3
  replace b5 : w1.drew.heap[q + 1]? = _ := b5
  replace b6 : w1.drew.heap[q + 2]? = _ := b6
  have hz1 : w1.drew.heap.size = q + 3 := hz1
  revert c1 hs1 b3 b5 b6 hz1
  generalize w1.drew = w1
  intro c1 hs1 b3 b5 b6 hz1
  simp [go_sem, b3, hps, hpa]
  refine (may_any p w1 ok (hw.ch c1 id)).mono ?_
  rintro _ w2 ⟨rfl, c2⟩
  have b3' := c2.hp b3 id
  simp [go_sem, b3', hps, hpa]
  refine (rmay_any p w2 ok).mono ?_
  rintro _ w3 ⟨rfl, c3⟩
  rw [mayR_eq p ok]
  have c23 := c2.trans c3
  have b3' := c23.hp b3 id
  have hs3 := hs1.ch c23 fun _ _ e => e
  simp [go_sem, b3', hps, hpa]
  refine VB_copyOf tyB hs3 (bvs_length l) (bvs_one _) (by unfold maxLen; omega) (by omega) fun v4 w4 d1 d2 d3 => ?_
  have c4 := c23.trans d2
  have b3' := c4.hp b3 id
  simp [go_sem, b3', hps, hpa]
  refine (pput_any v4 l.length l p w4 ok (by omega) rfl d1).mono fun v5 w5 ho5 => ?_
  have c5 : Ch Nw w1 w5 := c4.trans' ho5.2.1 fun j hj e => by have := d3 j e; have := c23.size; omega
  have b3' := c5.hp b3 id
  have t5 := sx (Sl.of_own ho5.1) (by simp [putP_length ok])
  simp [go_sem, b3', hps, hpa, t5]
  refine (rbytes_any p w5 ok).mono ?_
  rintro v6 w6 hm6
  have t5' := sx ((Sl.of_own ho5.1).ch hm6.ch fun _ _ e => e) (by simp [putP_length ok])
  have t6 := sx hm6.sl (putP_length ok)
  have c6 := c5.trans hm6.ch
  have b3' := c6.hp b3 id
  have hpl := putP_length ok
  have e3' := (cell_blk b3' 0).trans pt_k
  have hbig : ¬ 9223372036854775807 < l.length + 64 := by omega
  simp [go_sem, b3', e3', t5', t6, bcat, hpl, hbig]
  have hkk := ok.k
  refine (wide_any p.k w6 ok.k (hw.ch (c1.trans c6) id)).mono ?_
  rintro _ w6 ⟨rfl, rfl⟩
  simp [go_sem, e3']
  refine (rwide_any p.k w6 ok.k).mono ?_
  rintro _ w6 ⟨rfl, rfl⟩
  simp [go_sem]
  have c6 := c1.trans c6
  have hz6 := c6.size
  have b3 := b3'
  have c16 := c5.trans hm6.ch
  have b5 := c16.hp b5 id
  have b6 := c16.hp b6 id
  have hlt6 := lt_of_block b6
  simp [go_sem, b3, hps, hpa]
  refine (rcopies_any p w6 ok).mono ?_
  rintro vS w7 hmS
  have c7 := c6.trans hmS.ch
  have hb3 := hmS.ch.hp b3 id
  have hb5 := hmS.ch.hp b5 id
  have hb6 := hmS.ch.hp b6 id
  obtain ⟨A, cA, rfl, _⟩ := Sl.of_own hmS.own
  have c8 := ((Ch.refl Nw w7).alloc (.cells #[.slice A (cseq p.a 4).length cA] 71)).alloc (.cells #[.int .i64 0] 3)
  have b8 := al2_0 w7 (.cells #[.slice A (cseq p.a 4).length cA] 71) (.cells #[.int .i64 0] 3)
  have b9 := al2_1 w7 (.cells #[.slice A (cseq p.a 4).length cA] 71) (.cells #[.int .i64 0] 3)
  have hb3 := c8.hp hb3 id
  simp [go_sem, hb3, hps, hpa]
  obtain ⟨n4, hn4⟩ : ∃ n, (cseq p.a 4).length = n := ⟨_, rfl⟩
  rw [hn4] at b8 b9 hmS c8 ⊢
  have hb5 := c8.hp hb5 id
  have hb6 := c8.hp hb6 id
  have c8w := c7.trans c8
  have hS8 := hmS.own
  have hn4le : n4 ≤ 4 := by rw [← hn4]; exact cseq_le p.a 4
  have hcells : 0 < n4 → ∃ gs, A = some ⟨gs, 0, none⟩ ∧ w6.heap.size ≤ gs ∧ gs < w7.heap.size ∧ ∀ j u, (ccs p.a 4)[j]? = some u → ((w7.alloc (.cells #[.slice A n4 cA] 71)).alloc (.cells #[.int .i64 0] 3)).cell? ⟨gs, j, none⟩ = some u := by
    intro h0
    obtain ⟨gs, rfl, h1, cs, h2⟩ := co_at hmS.own h0
    exact ⟨gs, rfl, hmS.fresh gs rfl, lt_of_block h2, fun j u hu => c8.cell (h1 j u hu) id⟩
  have hq7 : q + 2 < w7.heap.size := by have := hmS.ch.size; omega
  revert b8 b9 hb3 hb5 hb6 c8w hcells hq7
  generalize ((w7.alloc (.cells #[.slice A n4 cA] 71)).alloc (.cells #[.int .i64 0] 3)) = w8
  generalize w7.heap.size = q8
  intro hb3 b9 b8 hb5 hb6 c8w hcells hq7
  clear c8 hS8 hmS c7 b3 c16 b5 b6 t5 t5' t6 hm6
  refine (copies_any p w8).mono ?_
  rintro _ w9 ⟨rfl, rfl⟩
  simp [go_sem]
  have cP := (Ch.refl Nw w8).alloc (.cells (pt p) 28)
  have bP := hp_alloc w8 (.cells (pt p) 28)
  have b8 := cP.hp b8 id
  have b9 := cP.hp b9 id
  have hb5 := cP.hp hb5 id
  have hb6 := cP.hp hb6 id
  have c9 := c8w.trans cP
  have hcells : 0 < n4 → ∃ gs, A = some ⟨gs, 0, none⟩ ∧ w6.heap.size ≤ gs ∧ gs < q8 ∧ ∀ j u, (ccs p.a 4)[j]? = some u → (w8.alloc (.cells (pt p) 28)).cell? ⟨gs, j, none⟩ = some u := fun h0 => by
    obtain ⟨gs, h1, h2, h3, h4⟩ := hcells h0
    exact ⟨gs, h1, h2, h3, fun j u hu => cP.cell (h4 j u hu) id⟩
  revert bP b8 b9 hb5 hb6 c9 hcells
  generalize w8.alloc (.cells (pt p) 28) = wR
  generalize w8.heap.size = gp
  intro bP b8 b9 hb5 hb6 c9 hcells
  have hltR := lt_of_block b9
  rw [eq_nilf]
  simp [go_sem]
  refine v_range (copies_iter p gp _ _ (fun k => k = q + 2 ∨ k = q8 + 1) wR ok bP) (Ch.refl _ _) rfl rfl (by kernel_rfl) (fun k hk => by rcases hk with rfl | rfl <;> omega)
    (fun pre W => Ch (fun k => k = q + 2 ∨ k = q8 + 1) wR W ∧ W.heap[q + 2]? = some (.cells #[.bool false] 4 (0, 0)) ∧ W.heap[q8 + 1]? = some (.cells #[.int .i64 pre.length] 3 (0, 0)))
    (fun c pre W => (c = .ret ∧ ¬ pre <+: cseq p.a 4) ∨ (c = .exit 0 ∧ m < pre.length ∧ Ch (fun k => k = q + 2 ∨ k = q8 + 1) wR W ∧ W.heap[q + 2]? = some (.cells #[.bool false] 4 (0, 0)) ∧ W.heap[q8 + 1]? = some (.cells #[.int .i64 pre.length] 3 (0, 0))))
    (fun x f' _ => f' 5 = .pointer (some ⟨q + 1, 0, none⟩) ∧ f' 6 = .pointer (some ⟨q + 2, 0, none⟩) ∧ f' 8 = .pointer (some ⟨q8, 0, none⟩) ∧ f' 9 = .pointer (some ⟨q8 + 1, 0, none⟩) ∧ f' 11 = .int .i64 ((x : Int) / 2) ∧ f' 12 = .int .u16 (p.a.getD x 0)) ?_ ?_ ?_ ?_ ?_ ?_ ?_ ?_
  · rintro pre W W' ⟨h0, h1, h2⟩ hr
    exact ⟨hr.since h0 (Nat.le_refl _), hr.blk h1, hr.blk h2⟩
  · rintro c pre W W' (h | ⟨h, h', h0, h1, h2⟩) hr
    · exact .inl h
    · exact .inr ⟨h, h', hr.since h0 (Nat.le_refl _), hr.blk h1, hr.blk h2⟩
  · exact fun _ _ _ _ h _ => h
  · exact ⟨Ch.refl _ _, hb6, by simpa using b9⟩
  · rintro pre x W hI
    simp [go_sem, cenc]
    exact ⟨Ch.refl _ _, hI⟩
  · rintro pre x f' W ⟨h0, h1, h2⟩ ⟨t5, t6, t8, t9, t11, t12⟩
    have W5 := h0.hp hb5 (by rintro (e | e) <;> omega)
    have W8 := h0.hp b8 (by rintro (e | e) <;> omega)
    have k5 := fun i => cell_blk W5 i
    have k6 := fun i => cell_blk h1 i
    have z6 := fun i => frz_blk h1 i
    have k8 := fun i => cell_blk W8 i
    have k9 := fun i => cell_blk h2 i
    have z9 := fun i => frz_blk h2 i
    by_cases hlt : pre.length < n4
    · obtain ⟨gs, rfl, hg1, hg2, hgc⟩ := hcells (by omega)
      have hlt' : (pre.length : Int) < n4 := by omega
      have hge' : ¬ (n4 : Int) ≤ pre.length := by omega
      obtain ⟨y, hy⟩ : ∃ y, (cseq p.a 4)[pre.length]? = some y := ⟨_, List.getElem?_eq_getElem (by omega)⟩
      obtain ⟨hya, hyb⟩ := ccs_get p.a hy
      have ka := h0.cell (hgc _ _ hya) (by rintro (e | e) <;> simp at e <;> omega)
      have kb := h0.cell (hgc _ _ hyb) (by rintro (e | e) <;> simp at e <;> omega)
      obtain ⟨ay, hay⟩ : ∃ n, p.a.getD y 0 = n := ⟨_, rfl⟩
      obtain ⟨ax, hax⟩ : ∃ n, p.a.getD x 0 = n := ⟨_, rfl⟩
      rw [hay] at kb
      rw [hax] at t12
      obtain ⟨P, hP⟩ : ∃ P, (decide (((y : Int) / 2) = (x : Int) / 2) && decide (ay = ax)) = P := ⟨_, rfl⟩
      have heq := fun w => (eq_co ((y : Int) / 2) ((x : Int) / 2) ay ax w).trans (by rw [hP])
      cases P with
      | false =>
        simp [go_sem, t9, t8, t6, t5, t11, t12, k8, k9, k6, z6, hlt', hge', ka, kb, heq]
        refine ⟨(Ch.refl _ _).setCell (p := ⟨q + 2, 0, none⟩) (.inl (.inl rfl)) _, fun hp => ?_⟩
        obtain ⟨t, ht⟩ := hp
        have : (cseq p.a 4)[pre.length]? = some x := by rw [← ht]; simp
        rw [hy] at this
        simp at this
        subst this
        rw [hay] at hax
        subst hax
        simp at hP
      | true =>
        have hw1 : IntKind.i64.wrap ((pre.length : Int) + 1) = ((pre.length + 1 : Nat) : Int) := by rw [IntKind.wrap_i64]; omega
        have cS := (Ch.refl (fun k => k = q + 2 ∨ k = q8 + 1) W).setCell (p := ⟨q8 + 1, 0, none⟩) (.inl (.inr rfl)) (.int .i64 ((pre.length : Int) + 1))
        have g1 := (hp_setCell_ne W ⟨q8 + 1, 0, none⟩ (q + 2) (.int .i64 ((pre.length : Int) + 1)) (by simp; omega)).trans h1
        have g2 : (W.setCell ⟨q8 + 1, 0, none⟩ (.int .i64 ((pre.length : Int) + 1))).heap[q8 + 1]? = some (.cells #[.int .i64 ((pre ++ [x]).length : Nat)] 3 (0, 0)) := by
          rw [hp_setCell, h2, setOf_cells]
          simp
        have hwm : IntKind.i64.wrap (m : Int) = m := by rw [IntKind.wrap_i64]; omega
        by_cases hmm : (m : Int) < (pre.length : Int) + 1
        · simp [go_sem, t9, t8, t6, t5, t11, t12, k8, k9, k6, k5, z6, z9, hlt', hge', ka, kb, heq, hw1, hwm, hmm]
          exact ⟨cS, by omega, h0.trans cS, g1, by simpa using g2⟩
        · simp [go_sem, t9, t8, t6, t5, t11, t12, k8, k9, k6, k5, z6, z9, hlt', hge', ka, kb, heq, hw1, hwm, hmm]
          exact ⟨cS, h0.trans cS, g1, by simpa using g2⟩
    · have hlt' : ¬ (pre.length : Int) < n4 := by omega
      have hle' : (n4 : Int) ≤ pre.length := by omega
      simp [go_sem, t9, t8, t6, k8, k9, k6, z6, hlt', hle']
      refine ⟨(Ch.refl _ _).setCell (p := ⟨q + 2, 0, none⟩) (.inl (.inl rfl)) _, fun hp => ?_⟩
      have := hp.length_le
      simp at this
      omega
  · rintro D W hD ⟨h0, h1, h2⟩ hd
    rw [hn4] at h2
    have W8 := h0.hp b8 (by rintro (e | e) <;> omega)
    have k6 := fun i => cell_blk h1 i
    have k8 := fun i => cell_blk W8 i
    have k9 := fun i => cell_blk h2 i
    have cW := c9.trans' h0 (fun j hj e => by rcases e with e | e <;> omega)
    simp [go_sem, k8, k9]
    refine (pwakes_any W (hw.ch cW id) (hk.ch cW id)).mono ?_
    rintro _ W2 ⟨rfl, cW2⟩
    have h1 := cW2.hp h1 id
    have hd := cW2.obj hd id
    have hne : D ≠ q + 2 := fun e => by rw [e, h1] at hd; cases hd
    have k6 := fun i => cell_blk h1 i
    have z6 := fun i => frz_blk h1 i
    have h3 : ((W2.setCell ⟨q + 2, 0, none⟩ (.bool true)).putObj D (.deferred none)).heap[q + 2]? = some (.cells #[.bool true] 4 (0, 0)) := by
      rw [hp_putObj hne.symm]; simp [h1, setOf]
    have hcl3 := fun i => cell_blk h3 i
    have cE := (cW.trans cW2).setCell (p := ⟨q + 2, 0, none⟩) (.inr (by show w.heap.size ≤ q + 2; omega)) (.bool true)
    have cF := cE.putObj (D := D) (.inr (by have := c9.size; omega)) (.deferred none)
    simp [go_sem, k6, z6, VEnd_normal', VEnd_ret', hne, hd, hcl3]
    exact hR _ _ ⟨rfl, cF⟩
  · rintro D c k W hD hk' (⟨rfl, hno⟩ | ⟨rfl, hmm, h0, h1, h2⟩) hd
    · exact absurd (List.take_prefix _ _) hno
    · have hkl : (List.take k (cseq p.a 4)).length ≤ 4 := by rw [List.length_take]; omega
      generalize (List.take k (cseq p.a 4)).length = nk at *
      have W8 := h0.hp b8 (by rintro (e | e) <;> omega)
      have W5 := h0.hp hb5 (by rintro (e | e) <;> omega)
      have k5 := fun i => cell_blk W5 i
      have k6 := fun i => cell_blk h1 i
      have k8 := fun i => cell_blk W8 i
      have k9 := fun i => cell_blk h2 i
      have cW := c9.trans' h0 (fun j hj e => by rcases e with e | e <;> omega)
      have hwm : IntKind.i64.wrap (m : Int) = m := by rw [IntKind.wrap_i64]; omega
      have hmi : (m : Int) < nk := by omega
      obtain ⟨P, hP⟩ : ∃ P, ((nk : Int) == (n4 : Int)) = P := ⟨_, rfl⟩
      cases P <;>
      · simp [go_sem, k8, k9, k5, hP, hwm, hmi]
        refine (pwakes_any W (hw.ch cW id) (hk.ch cW id)).mono ?_
        rintro _ W2 ⟨rfl, cW2⟩
        have h1 := cW2.hp h1 id
        have hd := cW2.obj hd id
        have hne : D ≠ q + 2 := fun e => by rw [e, h1] at hd; cases hd
        have k6 := fun i => cell_blk h1 i
        have z6 := fun i => frz_blk h1 i
        have h3 : ((W2.setCell ⟨q + 2, 0, none⟩ (.bool true)).putObj D (.deferred none)).heap[q + 2]? = some (.cells #[.bool true] 4 (0, 0)) := by
          rw [hp_putObj hne.symm]; simp [h1, setOf]
        have hcl3 := fun i => cell_blk h3 i
        have cE := (cW.trans cW2).setCell (p := ⟨q + 2, 0, none⟩) (.inr (by show w.heap.size ≤ q + 2; omega)) (.bool true)
        have cF := cE.putObj (D := D) (.inr (by have := c9.size; omega)) (.deferred none)
        simp [go_sem, k6, z6, VEnd_normal', VEnd_ret', hne, hd, hcl3]
        exact hR _ _ ⟨rfl, cF⟩
end Go.Proofs.YtfcoiboeohgimaaDoor
