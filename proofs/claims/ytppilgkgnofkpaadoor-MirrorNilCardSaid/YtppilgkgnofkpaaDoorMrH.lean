/- Mirrors write. No condition but on sizes. -/
import Derived.Test.YtppilgkgnofkpaaDoorMrG
set_option linter.unusedSimpArgs false
set_option linter.unusedVariables false

namespace Go.Proofs.YtppilgkgnofkpaaDoor
open Go.RowKit Go.Kin

theorem wrOk_iff (D : Dk) (n : Nat) (P : Pwr) (a : Nat) (b : Byts) : wrOk D n P a b = decide (wrE (D.writes n P a b) = 0) := by
  unfold wrOk
  cases D.writes n P a b <;> rfl
/-- while copies are written: the boxes -/
structure WrI (w W : World) (B m p n : Nat) (z : Mz) (mv : Value) (y : Nat → Dn) (O : Nat → Prop) (q : Pt) (v : Value) (b : Byts) (G g1 g2 g3 : Nat) (t : Mr × Int) : Prop where
  at' : ∃ A', MrS W m p n z t.1 mv A' y ∧ ∀ k, MrO z m p mv A' k → O k ∨ B ≤ k
  b0 : W.heap[G]? = some (.cells #[.pointer (some ⟨m, 0, none⟩)] 33 (0, 0))
  b1 : W.heap[g1]? = some (.cells (pt q) 28 (0, 0))
  b2 : W.heap[g2]? = some (.cells #[v] 29 (0, 0))
  b3 : W.heap[g3]? = some (.cells #[.int .i64 t.2] 34 (0, 0))
  sl : Sl W v b.length (bvs b)
  sz : B ≤ W.heap.size
  ch : Ch O w W
section
variable {w w' W : World} {m p n i B : Nat} {z : Mz} {s : Mr} {mv : Value} {A : Nat → Nat → Prop} {O O' S : Nat → Prop} {c : Nat} {y : Nat → Dn} {q : Pt} {v : Value} {b : Byts} {G g1 g2 g3 : Nat} {t : Mr × Int}
theorem WrI.rcd (h : WrI w W B m p n z mv y O q v b G g1 g2 g3 t) (hr : Rec B W w') (hy : ∀ i, i < 2 → (y i).bm < B ∧ (y i).bb < B ∧ (y i).bs < B) (hB : w.heap.size ≤ B) : WrI w w' B m p n z mv y O q v b G g1 g2 g3 t := by
  obtain ⟨A', h1, h2⟩ := h.at'
  exact ⟨⟨A', h1.rcd hr hy, h2⟩, hr.blk h.b0, hr.blk h.b1, hr.blk h.b2, hr.blk h.b3, hr.sl h.sl, Nat.le_trans h.sz hr.ch.size, hr.since h.ch hB⟩
theorem sl_lt (h : Sl w v b.length (bvs b)) (hb : 0 < b.length) : ∀ k, v.ownBlock = some k → k < w.heap.size := by
  obtain ⟨A, c, rfl, _, _, h3⟩ := h
  obtain ⟨ad, rfl, h4⟩ := h3 (by rw [bvs_length]; exact hb)
  intro k hk
  simp [Value.ownBlock] at hk
  subst hk
  have := World.block_lt_of_cell? w _ (h4 0 _ (List.getElem?_eq_getElem (by rw [bvs_length]; exact hb)))
  rwa [block_of_add] at this
theorem Mr.Fine.puts (q : Pt) (b : Byts) : ∀ (l : List Nat) (c : Nat) (t : Mr × Int), t.1.Fine c → (l.foldl (Mr.put n q b) t).1.Fine (c + l.length)
  | [], _, _, ht => ht
  | k :: l, c, t, ht => by
    have h1 : (Mr.put n q b t k).1.Fine (c + 1) := ht.writ q b k
    have := Mr.Fine.puts q b l (c + 1) (Mr.put n q b t k) h1
    rw [List.length_cons, show c + (l.length + 1) = c + 1 + l.length by omega]
    exact this
set_option maxRecDepth 100000 in
set_option maxHeartbeats 4000000 in
theorem mwrite_any (h : MrAt w m p n z s O) (q : Pt) (ok : PtOk q) (hw : Lw w) (hk : Lk w) (b : Byts) (v : Value) (hv : Sl w v b.length (bvs b)) (hvl : ∀ j, v.ownBlock = some j → j < w.heap.size) (hvO : 0 < b.length → ∀ j, v.ownBlock = some j → ¬ O j) (hb : b.length ≤ 800000) (fine : s.Fine c) (hc : c ≤ 800000) :
    Ret Tryd.prog 13 #[.pointer (some ⟨m, 0, none⟩), .agg (pt q), v] w fun v' w' => v' = .int .i64 (s.write n q b).2 ∧ MrAt w' m p n z (s.write n q b).1 (Gr O w w') ∧ Ch O w w' := by
  refine v_enter Tryd.func13 Tryd.ntmps13 rfl (by simp) fun R' hR => ?_
  have hps := pt_size ok
  have hpa := pt_all ok
  obtain ⟨Av, cv, hvv, _⟩ := id hv
  obtain ⟨G, hG⟩ : ∃ G, w.heap.size = G := ⟨_, rfl⟩
  have hl := h.lt
  have b0 : (((w.alloc (.cells #[.pointer (some ⟨m, 0, none⟩)] 33)).alloc (.cells (pt q) 28)).alloc (.cells #[v] 29)).heap[G]? = some (.cells #[.pointer (some ⟨m, 0, none⟩)] 33 (0, 0)) := by
    subst hG
    rw [hp_alloc_lt _ _ _ (by simp <;> omega), hp_alloc_lt _ _ _ (by simp <;> omega), hp_alloc]
  have b1 : (((w.alloc (.cells #[.pointer (some ⟨m, 0, none⟩)] 33)).alloc (.cells (pt q) 28)).alloc (.cells #[v] 29)).heap[G + 1]? = some (.cells (pt q) 28 (0, 0)) := by
    subst hG
    rw [hp_alloc_lt _ _ _ (by simp <;> omega), hp_alloc_eq _ _ _ (by simp <;> omega)]
  have b2 : (((w.alloc (.cells #[.pointer (some ⟨m, 0, none⟩)] 33)).alloc (.cells (pt q) 28)).alloc (.cells #[v] 29)).heap[G + 2]? = some (.cells #[v] 29 (0, 0)) := by
    subst hG
    rw [hp_alloc_eq _ _ _ (by simp <;> omega)]
  have ca := (((Ch.refl Nw w).alloc (.cells #[.pointer (some ⟨m, 0, none⟩)] 33)).alloc (.cells (pt q) 28)).alloc (.cells #[v] 29)
  have sa : (((w.alloc (.cells #[.pointer (some ⟨m, 0, none⟩)] 33)).alloc (.cells (pt q) 28)).alloc (.cells #[v] 29)).heap.size = G + 3 := by simp [hG]
  subst hvv
  obtain ⟨v, hvn⟩ : ∃ v, Value.slice Av b.length cv = v := ⟨_, rfl⟩
  simp [go_sem, hps, hpa]
  rw [hG]
  revert b0 b1 b2 ca sa
  generalize ((w.alloc (.cells #[.pointer (some ⟨m, 0, none⟩)] 33)).alloc (.cells (pt q) 28)).alloc (.cells #[.slice Av b.length cv] 29) = w1
  intro b0 b1 b2 ca sa
  obtain ⟨g2, e2⟩ : ∃ g, G + 1 + 1 = g := ⟨_, rfl⟩
  obtain ⟨g1, e1⟩ : ∃ g, G + 1 = g := ⟨_, rfl⟩
  rw [e2, e1]
  rw [show G + 1 = g1 from e1] at b1
  rw [show G + 2 = g2 from e2] at b2
  have c0 : w1.cell? ⟨G, 0, none⟩ = some (.pointer (some ⟨m, 0, none⟩)) := cell_blk b0 0
  refine (may_any q w1 ok (hw.ch ca id)).mono ?_
  rintro _ w2 ⟨rfl, k2⟩
  have cw2 := ca.trans k2
  cases hmay : mayP q with
  | false =>
    have hx : s.write n q b = (s, 1) := by unfold Mr.write; rw [hmay]; rfl
    simp [go_sem]
    rw [hx] at hR
    exact hR _ _ ⟨rfl, (h.ch cw2 fun _ _ e => e).weak (fun _ => .inl) (Gr.lt hl cw2.size), cw2.mono fun _ _ e => e.elim⟩
  | true =>
    have b12 := k2.obj b1 id
    have b22 := k2.obj b2 id
    have c22 : w2.cell? ⟨g2, 0, none⟩ = some (.slice Av b.length cv) := cell_blk b22 0
    simp [go_sem, b12, c22, hps, hpa]
    rw [hvn] at hv hvl hvO
    have hv2 := hv.ch cw2 fun _ _ e => e
    rw [hvn]
    refine (fits_any q v b w2 ok hv2 (fun k hk => Nat.lt_of_lt_of_le (hvl k hk) cw2.size) (by omega) (hk.ch cw2 id)).mono ?_
    rintro _ w3 ⟨rfl, k3⟩
    have cw3 := cw2.trans k3
    rw [show (decide (b.length = 512) && decide (digS q b = q.h)) = fitB q b from rfl]
    cases hfit : fitB q b with
    | false =>
      have hx : s.write n q b = (s, 1) := by unfold Mr.write; rw [hmay, hfit]; rfl
      simp [go_sem]
      rw [hx] at hR
      exact hR _ _ ⟨rfl, (h.ch cw3 fun _ _ e => e).weak (fun _ => .inl) (Gr.lt hl cw3.size), cw3.mono fun _ _ e => e.elim⟩
    | true =>
      have hx : s.write n q b = (cseq q.a 4).foldl (Mr.put n q b) (s, 21) := by unfold Mr.write; rw [hmay, hfit]; rfl
      have hb5 := fitB_len hfit
      have b03 := k3.obj (k2.obj b0 id) id
      have b13 := k3.obj b12 id
      have b23 := k3.obj b22 id
      simp [go_sem]
      have k4 := (Ch.refl Nw w3).alloc (.cells #[.int .i64 21] 34)
      have b34 := hp_alloc w3 (.cells #[.int .i64 21] 34)
      obtain ⟨g3, e3⟩ : ∃ g, w3.heap.size = g := ⟨_, rfl⟩
      rw [e3] at b34 ⊢
      have sw4 : (w3.alloc (.cells #[.int .i64 21] 34)).heap.size = g3 + 1 := by simp [e3]
      revert k4 b34 sw4
      generalize w3.alloc (.cells #[.int .i64 21] 34) = w4
      intro k4 b34 sw4
      have b04 := k4.obj b03 id
      have b14 := k4.obj b13 id
      have b24 := k4.obj b23 id
      simp [go_sem, b14, hps, hpa]
      refine (copies_any q w4).mono ?_
      rintro _ w5 ⟨rfl, e5⟩
      have x5 := hp_alloc w4 (.cells (pt q) 28)
      have k5 := (Ch.refl Nw w4).alloc (.cells (pt q) 28)
      have s5 : w5.heap.size = g3 + 2 := by rw [e5]; simp [sw4]
      rw [← e5] at k5 x5
      rw [sw4] at x5 ⊢
      clear e5
      have cw5 := (cw3.trans k4).trans k5
      have hG3 : G + 3 ≤ g3 := by have := k2.size; have := k3.size; omega
      simp [go_sem]
      obtain ⟨mv, A, hP, hPO, hPl⟩ := h.ch cw5 fun _ _ e => e
      obtain ⟨y, hS, hy⟩ := hP.maps
      have hmod : ∀ k, k ∈ cseq q.a 4 → k % 4 = k := fun k hk => Nat.mod_eq_of_lt (cseq_lt hk).1
      have hv5 := hv.ch cw5 fun _ _ e => e
      have hI0 : WrI w w5 w5.heap.size m p n z mv y O q v b G g1 g2 g3 (s, 21) := by
        rw [hvn] at b24
        exact ⟨⟨A, hS, fun k hk => .inl (hPO k hk)⟩, k5.obj b04 id, k5.obj b14 id, k5.obj b24 id, k5.obj b34 id, hv5, Nat.le_refl _, cw5.mono fun _ _ e => e.elim⟩
      obtain ⟨I, hI⟩ : ∃ I : List Nat → World → Prop, I = fun pre W => WrI w W w5.heap.size m p n z mv y O q v b G g1 g2 g3 ((pre.map (· % 4)).foldl (Mr.put n q b) (s, 21)) ∧ pre.length ≤ 4 := ⟨_, rfl⟩
      refine v_range2 (copies_iter4 q (g3 + 1) _ _ (fun k => O k ∨ k = g3) w5 ok x5) (Ch.refl _ _) rfl rfl (by kernel_rfl) I (fun _ _ _ => False)
        (fun x f' _ => f' 8 = .int .i64 (x % 4 / 2 : Nat) ∧ f' 9 = .int .u16 (adr q (x % 4)) ∧ f' 3 = .pointer (some ⟨G, 0, none⟩) ∧ f' 5 = .pointer (some ⟨g2, 0, none⟩) ∧ f' 7 = .pointer (some ⟨g3, 0, none⟩)) ?_ ?_ ?_ ?_ ?_ ?_ ?_ ?_
      · rintro pre W W' hh hr
        rw [hI] at hh ⊢
        exact ⟨hh.1.rcd hr hy cw5.size, hh.2⟩
      · exact fun _ _ _ _ h _ => h
      · exact fun _ _ _ _ h _ => h
      · rw [hI]
        exact ⟨hI0, by simp⟩
      · rintro pre x W hh
        simp [go_sem]
        refine ⟨Ch.refl _ _, hh, ?_, ?_⟩
        · simp [cenc]
        · simp [cenc, adr]
      · rintro pre x f' W hlen hh ⟨f8, f9, f3, f5, f7⟩
        have hpl : pre.length < 4 := by
          have : (cseq q.a 4).length ≤ 4 := by unfold cseq; exact Nat.le_trans (List.length_filter_le _ _) (by simp)
          omega
        rw [hI] at hh
        obtain ⟨hL, _⟩ := hh
        obtain ⟨k, hkx⟩ : ∃ k, x % 4 = k := ⟨_, rfl⟩
        have hk4 : k < 4 := by omega
        rw [hkx] at f8 f9
        obtain ⟨i, hki⟩ : ∃ i, k / 2 = i := ⟨_, rfl⟩
        have hi : i < 2 := by omega
        have hi2 : (i : Int) < 2 := by omega
        obtain ⟨L, hLm⟩ : ∃ L, pre.map (· % 4) = L := ⟨_, rfl⟩
        have hLl : L.length < 4 := by rw [← hLm, List.length_map]; exact hpl
        rw [hLm] at hL
        have hpx : (pre ++ [x]).map (· % 4) = L ++ [k] := by rw [List.map_append, hLm, List.map_cons, hkx]; rfl
        have hfin := Mr.Fine.puts (n := n) q b L c (s, 21) fine
        obtain ⟨t, ht⟩ : ∃ t, L.foldl (Mr.put n q b) (s, 21) = t := ⟨_, rfl⟩
        rw [ht] at hL hfin
        have hst : (L ++ [k]).foldl (Mr.put n q b) (s, 21) = Mr.put n q b t k := by rw [List.foldl_append, ht]; rfl
        obtain ⟨A', hS', hO'⟩ := hL.at'
        have d0 : W.cell? ⟨G, 0, none⟩ = some (.pointer (some ⟨m, 0, none⟩)) := cell_blk hL.b0 0
        have d2 : W.cell? ⟨g2, 0, none⟩ = some v := cell_blk hL.b2 0
        have cd : W.cell? ⟨m, i, none⟩ = some (.pointer (some ⟨z.d i, 0, none⟩)) := by
          rw [cell_blk hS'.at'.blk]
          rcases lt2 hi with rfl | rfl <;> rfl
        rw [hki] at f8
        simp [go_sem]
        refine v_draw' [(0, none), (1, none), (2, none), (3, none), (4, none), (5, none), (6, none), (7, none), (8, some []), (9, none)] (by kernel_rfl) (by kernel_rfl) ?_
        rw [← hvn] at d2
        simp [go_sem, f8, f9, f3, f5, d0, d2, cd, hi, hi2]
        rw [hvn]
        have hSd := hS'.ch (Ch.refl Nw W).drew fun _ _ e => e
        have hvD : ∀ j, v.ownBlock = some j → ¬ MrO z m p mv A' j := fun j hj e => by
          rcases hO' j e with e | e
          · exact hvO (by omega) j hj e
          · have := hvl j hj; have := cw5.size; omega
        have hput := hSd.put q ok k hk4 b v hL.sl.drew hvD hfin.fuse (by have := hfin.cache (k / 2) (by omega); omega) (hfin.astray (k / 2) (by omega))
        rw [hki] at hput
        refine hput.mono ?_
        rintro _ W2 ⟨rfl, ⟨A2, hS2, hO2⟩, kn2, k2'⟩
        have k2'' : Ch (MrO z m p mv A') W W2 := Ch.of_drew k2'
        have kn : KeepN W W2 := kn2
        have hO2' : ∀ k, MrO z m p mv A2 k → O k ∨ w5.heap.size ≤ k := fun j hj => by
          rcases hO2 j hj with e | e
          · exact hO' j e
          · have h5 : W.heap.size ≤ j := e.1
            exact .inr (Nat.le_trans hL.sz h5)
        have nO : ∀ j, G ≤ j → j < w5.heap.size → ¬ MrO z m p mv A' j := fun j h1 h2 e => by
          rcases hO' j e with e | e
          · have := hl j e; omega
          · omega
        have x0 := k2''.obj hL.b0 (nO _ (by omega) (by omega))
        have x1 := k2''.obj hL.b1 (nO _ (by omega) (by omega))
        have x2 := k2''.obj hL.b2 (nO _ (by omega) (by omega))
        have x3 := k2''.obj hL.b3 (nO _ (by omega) (by omega))
        have xs := hL.sl.ch k2'' hvD
        have kw2 : Ch O w W2 := hL.ch.trans' k2'' fun j hj e => by
          rcases hO' j e with e | e
          · exact e
          · have := cw5.size; omega
        have kst : Ch (fun j => (O j ∨ j = g3) ∨ w5.heap.size ≤ j) W W2 := k2''.mono fun j _ e => (hO' j e).imp .inl id
        have hput1 : (Mr.put n q b t k).1 = t.1.writ n q b k := rfl
        have hput2 : (Mr.put n q b t k).2 = if wrE ((t.1.dk i).writes n t.1.P (adr q k) b) = 0 then 0 else t.2 := by unfold Mr.put; rw [hki, wrOk_iff]; simp
        by_cases hwr : wrE ((t.1.dk i).writes n t.1.P (adr q k) b) = 0
        · rw [hwr]
          rw [if_pos hwr] at hput2
          have fz := frz_blk x3 0
          have q3 : W2.cell? ⟨g3, 0, none⟩ = some (.int .i64 t.2) := cell_blk x3 0
          simp [go_sem, f7, fz, q3]
          have cs : Ch (one g3) W2 (W2.setCell ⟨g3, 0, none⟩ (.int .i64 0)) := (Ch.refl (one g3) W2).setCell (p := ⟨g3, 0, none⟩) (.inl rfl) _
          have z3 : (W2.setCell ⟨g3, 0, none⟩ (.int .i64 0)).heap[g3]? = some (.cells #[.int .i64 0] 34 (0, 0)) := by rw [hp_setCell, x3, setOf_cells]; rfl
          have kn3 := kn.setCell (i := 0) x3 (.int .i64 0)
          have n3 : ∀ j, j ≠ g3 → ¬ one g3 j := fun j h e => h e
          refine ⟨⟨kn3.from (Nat.le_trans k2''.size cs.size) _, kst.trans (cs.mono fun j _ e => .inl (.inr e))⟩, ?_⟩
          rw [hI]
          refine ⟨?_, by simp; omega⟩
          rw [hpx, hst]
          have hS3 := hS2.ch cs fun j hj e => by
            simp only [one] at e
            rcases hO2' j hj with e2 | e2
            · have := hl j e2; omega
            · omega
          refine ⟨⟨A2, by rw [hput1]; exact hS3, hO2'⟩, cs.obj x0 (n3 _ (by omega)), cs.obj x1 (n3 _ (by omega)), cs.obj x2 (n3 _ (by omega)), by rw [hput2]; exact z3, xs.ch cs fun j hj e => ?_, Nat.le_trans hL.sz (Nat.le_trans k2''.size cs.size), kw2.trans' cs fun j hj e => ?_⟩
          · simp only [one] at e
            have := hvl j hj
            omega
          · simp only [one] at e; omega
        · rw [if_neg hwr] at hput2
          have hwr2 : (wrE ((t.1.dk i).writes n t.1.P (adr q k) b) == 0) = false := beq_false_of_ne hwr
          simp [go_sem, hwr, hwr2]
          refine ⟨⟨kn.from k2''.size _, kst⟩, ?_⟩
          rw [hI]
          refine ⟨?_, by simp; omega⟩
          rw [hpx, hst]
          exact ⟨⟨A2, by rw [hput1]; exact hS2, hO2'⟩, x0, x1, x2, by rw [hput2]; exact x3, xs, Nat.le_trans hL.sz k2''.size, kw2⟩
      · rintro D W hD hh hd
        rw [hI] at hh
        obtain ⟨hL, _⟩ := hh
        have hseq : (cseq q.a 4).map (· % 4) = cseq q.a 4 := by
          conv => rhs; rw [← List.map_id (cseq q.a 4)]
          exact List.map_congr_left fun k hk => by simpa using hmod k hk
        rw [hseq, ← hx] at hL
        have c3 : W.cell? ⟨g3, 0, none⟩ = some (.int .i64 (s.write n q b).2) := cell_blk hL.b3 0
        obtain ⟨A', hS', hO'⟩ := hL.at'
        simp [go_sem, c3, VEnd_ret', hd]
        have cp : Ch (one D) W (W.putObj D (.deferred none)) := (Ch.refl (one D) W).putObj (.inl rfl) _
        have hr : Rec w5.heap.size W (W.putObj D (.deferred none)) := ⟨some D, grownBy_putObj' W D _, fun r hr => by
          cases hr
          exact ⟨hD, _, hd, rfl⟩⟩
        have hS2 := hS'.rcd hr hy
        refine hR _ _ ⟨rfl, ⟨mv, A', hS2.at', fun j hj => ?_, Gr.lt hl (Nat.le_trans hL.ch.size cp.size)⟩, hL.ch.trans' cp fun j hj e => ?_⟩
        · rcases hO' j hj with e | e
          · exact .inl e
          · exact .inr ⟨by have := cw5.size; omega, hS2.at'.olt j hj⟩
        · simp only [one] at e; have := cw5.size; omega
      · exact fun _ _ _ _ _ _ h _ => h.elim
end
end Go.Proofs.YtppilgkgnofkpaaDoor
