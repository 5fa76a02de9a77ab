/- Mirrors are flushed, cleared; what they tell. No condition but on sizes. -/
import Derived.Test.YtppilgkgnofkpaaGreatDoorMrG
set_option linter.unusedSimpArgs false
set_option linter.unusedVariables false

/- Mirrors write. No condition but on sizes. -/
namespace Go.Proofs.YtppilgkgnofkpaaGreatDoor
open Go.RowKit Go.Kin

theorem wrOk_iff (D : Dk) (n : Nat) (P : Pwr) (a : Nat) (b : Byts) : wrOk D n P a b = decide (wrE (D.writes n P a b) = 0) := by
  unfold wrOk
  cases D.writes n P a b <;> rfl
/-- while copies are written: the boxes -/
structure WrI (w W : World) (B m p n : Nat) (z : Mz) (mv : Value) (y : Nat → Dn) (O : Nat → Prop) (q : Pt) (v : Value) (b : Byts) (G g1 g2 g3 : Nat) (t : Mr × Int) : Prop where
  at' : ∃ A', MrS W m p n z t.1 mv A' y ∧ ∀ k, MrO z m p mv A' k → O k ∨ B ≤ k
  b0 : W.heap[G]? = some (.cells #[.pointer (some ⟨m, 0, none⟩)] 31 (0, 0))
  b1 : W.heap[g1]? = some (.cells (pt q) 58 (0, 0))
  b2 : W.heap[g2]? = some (.cells #[v] 59 (0, 0))
  b3 : W.heap[g3]? = some (.cells #[.int .i64 t.2] 67 (0, 0))
  sl : Sl W v b.length (bvs b)
  sz : B ≤ W.heap.size
  ch : Ch O w W
section
variable {w w' W : World} {m p n i B : Nat} {z : Mz} {s : Mr} {mv : Value} {A : Nat → Nat → Prop} {O O' S : Nat → Prop} {c : Nat} {y : Nat → Dn} {q : Pt} {v : Value} {b : Byts} {G g1 g2 g3 : Nat} {t : Mr × Int}
theorem WrI.rcd (h : WrI w W B m p n z mv y O q v b G g1 g2 g3 t) (hr : Rec B W w') (hy : ∀ i, i < 2 → (y i).bm < B ∧ (y i).bb < B ∧ (y i).bs < B) (hB : w.heap.size ≤ B) : WrI w w' B m p n z mv y O q v b G g1 g2 g3 t := by
  obtain ⟨A', h1, h2⟩ := h.at'
  exact ⟨⟨A', h1.rcd hr hy, h2⟩, hr.blk h.b0, hr.blk h.b1, hr.blk h.b2, hr.blk h.b3, hr.sl h.sl, Nat.le_trans h.sz hr.ch.size, hr.since h.ch hB⟩
theorem sl_lt (h : Sl w v b.length (bvs b)) (hb : 0 < b.length) : ∀ k, v.ownBlock = some k → k < w.heap.size := by
  obtain ⟨A, c, rfl, _, _, h3⟩ := h
  obtain ⟨ad, rfl, h4⟩ := h3 (by rw [bvs_length]; exact hb)
  intro k hk
  simp [Value.ownBlock] at hk
  subst hk
  have := World.block_lt_of_cell? w _ (h4 0 _ (List.getElem?_eq_getElem (by rw [bvs_length]; exact hb)))
  rwa [block_of_add] at this
theorem Mr.Fine.puts (q : Pt) (b : Byts) : ∀ (l : List Nat) (c : Nat) (t : Mr × Int), t.1.Fine c → (l.foldl (Mr.put n q b) t).1.Fine (c + l.length)
  | [], _, _, ht => ht
  | k :: l, c, t, ht => by
    have h1 : (Mr.put n q b t k).1.Fine (c + 1) := ht.writ q b k
    have := Mr.Fine.puts q b l (c + 1) (Mr.put n q b t k) h1
    rw [List.length_cons, show c + (l.length + 1) = c + 1 + l.length by omega]
    exact this
set_option maxRecDepth 100000 in
set_option maxHeartbeats 4000000 in
theorem mwrite_any (h : MrAt w m p n z s O) (q : Pt) (ok : PtOk q) (hw : Lw w) (hk : Lk w) (b : Byts) (v : Value) (hv : Sl w v b.length (bvs b)) (hvl : ∀ j, v.ownBlock = some j → j < w.heap.size) (hvO : 0 < b.length → ∀ j, v.ownBlock = some j → ¬ O j) (hb : b.length ≤ 800000) (fine : s.Fine c) (hc : c ≤ 800000) :
    Ret Tryz.prog 12 #[.pointer (some ⟨m, 0, none⟩), .agg (pt q), v] w fun v' w' => v' = .int .i64 (s.write n q b).2 ∧ MrAt w' m p n z (s.write n q b).1 (Gr O w w') ∧ Ch O w w' := by
  refine v_enter Tryz.func12 Tryz.ntmps12 rfl (by simp) fun R' hR => ?_
  have hps := pt_size ok
  have hpa := pt_all ok
  obtain ⟨Av, cv, hvv, _⟩ := id hv
  obtain ⟨G, hG⟩ : ∃ G, w.heap.size = G := ⟨_, rfl⟩
  have hl := h.lt
  have b0 : (((w.alloc (.cells #[.pointer (some ⟨m, 0, none⟩)] 31)).alloc (.cells (pt q) 58)).alloc (.cells #[v] 59)).heap[G]? = some (.cells #[.pointer (some ⟨m, 0, none⟩)] 31 (0, 0)) := by
    subst hG
    rw [hp_alloc_lt _ _ _ (by simp <;> omega), hp_alloc_lt _ _ _ (by simp <;> omega), hp_alloc]
  have b1 : (((w.alloc (.cells #[.pointer (some ⟨m, 0, none⟩)] 31)).alloc (.cells (pt q) 58)).alloc (.cells #[v] 59)).heap[G + 1]? = some (.cells (pt q) 58 (0, 0)) := by
    subst hG
    rw [hp_alloc_lt _ _ _ (by simp <;> omega), hp_alloc_eq _ _ _ (by simp <;> omega)]
  have b2 : (((w.alloc (.cells #[.pointer (some ⟨m, 0, none⟩)] 31)).alloc (.cells (pt q) 58)).alloc (.cells #[v] 59)).heap[G + 2]? = some (.cells #[v] 59 (0, 0)) := by
    subst hG
    rw [hp_alloc_eq _ _ _ (by simp <;> omega)]
  have ca := (((Ch.refl Nw w).alloc (.cells #[.pointer (some ⟨m, 0, none⟩)] 31)).alloc (.cells (pt q) 58)).alloc (.cells #[v] 59)
  have sa : (((w.alloc (.cells #[.pointer (some ⟨m, 0, none⟩)] 31)).alloc (.cells (pt q) 58)).alloc (.cells #[v] 59)).heap.size = G + 3 := by simp [hG]
  subst hvv
  obtain ⟨v, hvn⟩ : ∃ v, Value.slice Av b.length cv = v := ⟨_, rfl⟩
  simp [go_sem, hps, hpa]
  rw [hG]
  revert b0 b1 b2 ca sa
  generalize ((w.alloc (.cells #[.pointer (some ⟨m, 0, none⟩)] 31)).alloc (.cells (pt q) 58)).alloc (.cells #[.slice Av b.length cv] 59) = w1
  intro b0 b1 b2 ca sa
  obtain ⟨g2, e2⟩ : ∃ g, G + 1 + 1 = g := ⟨_, rfl⟩
  obtain ⟨g1, e1⟩ : ∃ g, G + 1 = g := ⟨_, rfl⟩
  rw [e2, e1]
  rw [show G + 1 = g1 from e1] at b1
  rw [show G + 2 = g2 from e2] at b2
  have c0 : w1.cell? ⟨G, 0, none⟩ = some (.pointer (some ⟨m, 0, none⟩)) := cell_blk b0 0
  refine (may_any q w1 ok (hw.ch ca id)).mono ?_
  rintro _ w2 ⟨rfl, k2⟩
  have cw2 := ca.trans k2
  cases hmay : mayP q with
  | false =>
    have hx : s.write n q b = (s, 1) := by unfold Mr.write; rw [hmay]; rfl
    simp [go_sem]
    rw [hx] at hR
    exact hR _ _ ⟨rfl, (h.ch cw2 fun _ _ e => e).weak (fun _ => .inl) (Gr.lt hl cw2.size), cw2.mono fun _ _ e => e.elim⟩
  | true =>
    have b12 := k2.obj b1 id
    have b22 := k2.obj b2 id
    have c22 : w2.cell? ⟨g2, 0, none⟩ = some (.slice Av b.length cv) := cell_blk b22 0
    simp [go_sem, b12, c22, hps, hpa]
    rw [hvn] at hv hvl hvO
    have hv2 := hv.ch cw2 fun _ _ e => e
    rw [hvn]
    refine (fits_any q v b w2 ok hv2 (fun k hk => Nat.lt_of_lt_of_le (hvl k hk) cw2.size) (by omega) (hk.ch cw2 id)).mono ?_
    rintro _ w3 ⟨rfl, k3⟩
    have cw3 := cw2.trans k3
    rw [show (decide (b.length = 512) && decide (digS q b = q.h)) = fitB q b from rfl]
    cases hfit : fitB q b with
    | false =>
      have hx : s.write n q b = (s, 1) := by unfold Mr.write; rw [hmay, hfit]; rfl
      simp [go_sem]
      rw [hx] at hR
      exact hR _ _ ⟨rfl, (h.ch cw3 fun _ _ e => e).weak (fun _ => .inl) (Gr.lt hl cw3.size), cw3.mono fun _ _ e => e.elim⟩
    | true =>
      have hx : s.write n q b = (cseq q.a 4).foldl (Mr.put n q b) (s, 21) := by unfold Mr.write; rw [hmay, hfit]; rfl
      have hb5 := fitB_len hfit
      have b03 := k3.obj (k2.obj b0 id) id
      have b13 := k3.obj b12 id
      have b23 := k3.obj b22 id
      simp [go_sem]
      have k4 := (Ch.refl Nw w3).alloc (.cells #[.int .i64 21] 67)
      have b34 := hp_alloc w3 (.cells #[.int .i64 21] 67)
      obtain ⟨g3, e3⟩ : ∃ g, w3.heap.size = g := ⟨_, rfl⟩
      rw [e3] at b34 ⊢
      have sw4 : (w3.alloc (.cells #[.int .i64 21] 67)).heap.size = g3 + 1 := by simp [e3]
      revert k4 b34 sw4
      generalize w3.alloc (.cells #[.int .i64 21] 67) = w4
      intro k4 b34 sw4
      have b04 := k4.obj b03 id
      have b14 := k4.obj b13 id
      have b24 := k4.obj b23 id
      simp [go_sem, b14, hps, hpa]
      refine (copies_any q w4).mono ?_
      rintro _ w5 ⟨rfl, e5⟩
      have x5 := hp_alloc w4 (.cells (pt q) 58)
      have k5 := (Ch.refl Nw w4).alloc (.cells (pt q) 58)
      have s5 : w5.heap.size = g3 + 2 := by rw [e5]; simp [sw4]
      rw [← e5] at k5 x5
      rw [sw4] at x5 ⊢
      clear e5
      have cw5 := (cw3.trans k4).trans k5
      have hG3 : G + 3 ≤ g3 := by have := k2.size; have := k3.size; omega
      simp [go_sem]
      obtain ⟨mv, A, hP, hPO, hPl⟩ := h.ch cw5 fun _ _ e => e
      obtain ⟨y, hS, hy⟩ := hP.maps
      have hmod : ∀ k, k ∈ cseq q.a 4 → k % 4 = k := fun k hk => Nat.mod_eq_of_lt (cseq_lt hk).1
      have hv5 := hv.ch cw5 fun _ _ e => e
      have hI0 : WrI w w5 w5.heap.size m p n z mv y O q v b G g1 g2 g3 (s, 21) := by
        rw [hvn] at b24
        exact ⟨⟨A, hS, fun k hk => .inl (hPO k hk)⟩, k5.obj b04 id, k5.obj b14 id, k5.obj b24 id, k5.obj b34 id, hv5, Nat.le_refl _, cw5.mono fun _ _ e => e.elim⟩
      obtain ⟨I, hI⟩ : ∃ I : List Nat → World → Prop, I = fun pre W => WrI w W w5.heap.size m p n z mv y O q v b G g1 g2 g3 ((pre.map (· % 4)).foldl (Mr.put n q b) (s, 21)) ∧ pre.length ≤ 4 := ⟨_, rfl⟩
      refine v_range2 (copies_iter4 q (g3 + 1) _ _ (fun k => O k ∨ k = g3) w5 ok x5) (Ch.refl _ _) rfl rfl (by kernel_rfl) I (fun _ _ _ => False)
        (fun x f' _ => f' 8 = .int .i64 (x % 4 / 2 : Nat) ∧ f' 9 = .int .u16 (adr q (x % 4)) ∧ f' 3 = .pointer (some ⟨G, 0, none⟩) ∧ f' 5 = .pointer (some ⟨g2, 0, none⟩) ∧ f' 7 = .pointer (some ⟨g3, 0, none⟩)) ?_ ?_ ?_ ?_ ?_ ?_ ?_ ?_
      · rintro pre W W' hh hr
        rw [hI] at hh ⊢
        exact ⟨hh.1.rcd hr hy cw5.size, hh.2⟩
      · exact fun _ _ _ _ h _ => h
      · exact fun _ _ _ _ h _ => h
      · rw [hI]
        exact ⟨hI0, by simp⟩
      · rintro pre x W hh
        simp [go_sem]
        refine ⟨Ch.refl _ _, hh, ?_, ?_⟩
        · simp [cenc]
        · simp [cenc, adr]
      · rintro pre x f' W hlen hh ⟨f8, f9, f3, f5, f7⟩
        have hpl : pre.length < 4 := by
          have : (cseq q.a 4).length ≤ 4 := by unfold cseq; exact Nat.le_trans (List.length_filter_le _ _) (by simp)
          omega
        rw [hI] at hh
        obtain ⟨hL, _⟩ := hh
        obtain ⟨k, hkx⟩ : ∃ k, x % 4 = k := ⟨_, rfl⟩
        have hk4 : k < 4 := by omega
        rw [hkx] at f8 f9
        obtain ⟨i, hki⟩ : ∃ i, k / 2 = i := ⟨_, rfl⟩
        have hi : i < 2 := by omega
        have hi2 : (i : Int) < 2 := by omega
        obtain ⟨L, hLm⟩ : ∃ L, pre.map (· % 4) = L := ⟨_, rfl⟩
        have hLl : L.length < 4 := by rw [← hLm, List.length_map]; exact hpl
        rw [hLm] at hL
        have hpx : (pre ++ [x]).map (· % 4) = L ++ [k] := by rw [List.map_append, hLm, List.map_cons, hkx]; rfl
        have hfin := Mr.Fine.puts (n := n) q b L c (s, 21) fine
        obtain ⟨t, ht⟩ : ∃ t, L.foldl (Mr.put n q b) (s, 21) = t := ⟨_, rfl⟩
        rw [ht] at hL hfin
        have hst : (L ++ [k]).foldl (Mr.put n q b) (s, 21) = Mr.put n q b t k := by rw [List.foldl_append, ht]; rfl
        obtain ⟨A', hS', hO'⟩ := hL.at'
        have d0 : W.cell? ⟨G, 0, none⟩ = some (.pointer (some ⟨m, 0, none⟩)) := cell_blk hL.b0 0
        have d2 : W.cell? ⟨g2, 0, none⟩ = some v := cell_blk hL.b2 0
        have cd : W.cell? ⟨m, i, none⟩ = some (.pointer (some ⟨z.d i, 0, none⟩)) := by
          rw [cell_blk hS'.at'.blk]
          rcases lt2 hi with rfl | rfl <;> rfl
        rw [hki] at f8
        simp [go_sem]
        refine v_draw' [(0, none), (1, none), (2, none), (3, none), (4, none), (5, none), (6, none), (7, none), (8, some []), (9, none)] (by kernel_rfl) (by kernel_rfl) ?_
        rw [← hvn] at d2
        simp [go_sem, f8, f9, f3, f5, d0, d2, cd, hi, hi2]
        rw [hvn]
        have hSd := hS'.ch (Ch.refl Nw W).drew fun _ _ e => e
        have hvD : ∀ j, v.ownBlock = some j → ¬ MrO z m p mv A' j := fun j hj e => by
          rcases hO' j e with e | e
          · exact hvO (by omega) j hj e
          · have := hvl j hj; have := cw5.size; omega
        have hput := hSd.put q ok k hk4 b v hL.sl.drew hvD hfin.fuse (by have := hfin.cache (k / 2) (by omega); omega) (hfin.astray (k / 2) (by omega))
        rw [hki] at hput
        refine hput.mono ?_
        rintro _ W2 ⟨rfl, ⟨A2, hS2, hO2⟩, kn2, k2'⟩
        have k2'' : Ch (MrO z m p mv A') W W2 := Ch.of_drew k2'
        have kn : KeepN W W2 := kn2
        have hO2' : ∀ k, MrO z m p mv A2 k → O k ∨ w5.heap.size ≤ k := fun j hj => by
          rcases hO2 j hj with e | e
          · exact hO' j e
          · have h5 : W.heap.size ≤ j := e.1
            exact .inr (Nat.le_trans hL.sz h5)
        have nO : ∀ j, G ≤ j → j < w5.heap.size → ¬ MrO z m p mv A' j := fun j h1 h2 e => by
          rcases hO' j e with e | e
          · have := hl j e; omega
          · omega
        have x0 := k2''.obj hL.b0 (nO _ (by omega) (by omega))
        have x1 := k2''.obj hL.b1 (nO _ (by omega) (by omega))
        have x2 := k2''.obj hL.b2 (nO _ (by omega) (by omega))
        have x3 := k2''.obj hL.b3 (nO _ (by omega) (by omega))
        have xs := hL.sl.ch k2'' hvD
        have kw2 : Ch O w W2 := hL.ch.trans' k2'' fun j hj e => by
          rcases hO' j e with e | e
          · exact e
          · have := cw5.size; omega
        have kst : Ch (fun j => (O j ∨ j = g3) ∨ w5.heap.size ≤ j) W W2 := k2''.mono fun j _ e => (hO' j e).imp .inl id
        have hput1 : (Mr.put n q b t k).1 = t.1.writ n q b k := rfl
        have hput2 : (Mr.put n q b t k).2 = if wrE ((t.1.dk i).writes n t.1.P (adr q k) b) = 0 then 0 else t.2 := by unfold Mr.put; rw [hki, wrOk_iff]; simp
        by_cases hwr : wrE ((t.1.dk i).writes n t.1.P (adr q k) b) = 0
        · rw [hwr]
          rw [if_pos hwr] at hput2
          have fz := frz_blk x3 0
          have q3 : W2.cell? ⟨g3, 0, none⟩ = some (.int .i64 t.2) := cell_blk x3 0
          simp [go_sem, f7, fz, q3]
          have cs : Ch (one g3) W2 (W2.setCell ⟨g3, 0, none⟩ (.int .i64 0)) := (Ch.refl (one g3) W2).setCell (p := ⟨g3, 0, none⟩) (.inl rfl) _
          have z3 : (W2.setCell ⟨g3, 0, none⟩ (.int .i64 0)).heap[g3]? = some (.cells #[.int .i64 0] 67 (0, 0)) := by rw [hp_setCell, x3, setOf_cells]; rfl
          have kn3 := kn.setCell (i := 0) x3 (.int .i64 0)
          have n3 : ∀ j, j ≠ g3 → ¬ one g3 j := fun j h e => h e
          refine ⟨⟨kn3.from (Nat.le_trans k2''.size cs.size) _, kst.trans (cs.mono fun j _ e => .inl (.inr e))⟩, ?_⟩
          rw [hI]
          refine ⟨?_, by simp; omega⟩
          rw [hpx, hst]
          have hS3 := hS2.ch cs fun j hj e => by
            simp only [one] at e
            rcases hO2' j hj with e2 | e2
            · have := hl j e2; omega
            · omega
          refine ⟨⟨A2, by rw [hput1]; exact hS3, hO2'⟩, cs.obj x0 (n3 _ (by omega)), cs.obj x1 (n3 _ (by omega)), cs.obj x2 (n3 _ (by omega)), by rw [hput2]; exact z3, xs.ch cs fun j hj e => ?_, Nat.le_trans hL.sz (Nat.le_trans k2''.size cs.size), kw2.trans' cs fun j hj e => ?_⟩
          · simp only [one] at e
            have := hvl j hj
            omega
          · simp only [one] at e; omega
        · rw [if_neg hwr] at hput2
          have hwr2 : (wrE ((t.1.dk i).writes n t.1.P (adr q k) b) == 0) = false := beq_false_of_ne hwr
          simp [go_sem, hwr, hwr2]
          refine ⟨⟨kn.from k2''.size _, kst⟩, ?_⟩
          rw [hI]
          refine ⟨?_, by simp; omega⟩
          rw [hpx, hst]
          exact ⟨⟨A2, by rw [hput1]; exact hS2, hO2'⟩, x0, x1, x2, by rw [hput2]; exact x3, xs, Nat.le_trans hL.sz k2''.size, kw2⟩
      · rintro D W hD hh hd
        rw [hI] at hh
        obtain ⟨hL, _⟩ := hh
        have hseq : (cseq q.a 4).map (· % 4) = cseq q.a 4 := by
          conv => rhs; rw [← List.map_id (cseq q.a 4)]
          exact List.map_congr_left fun k hk => by simpa using hmod k hk
        rw [hseq, ← hx] at hL
        have c3 : W.cell? ⟨g3, 0, none⟩ = some (.int .i64 (s.write n q b).2) := cell_blk hL.b3 0
        obtain ⟨A', hS', hO'⟩ := hL.at'
        simp [go_sem, c3, VEnd_ret', hd]
        have cp : Ch (one D) W (W.putObj D (.deferred none)) := (Ch.refl (one D) W).putObj (.inl rfl) _
        have hr : Rec w5.heap.size W (W.putObj D (.deferred none)) := ⟨some D, grownBy_putObj' W D _, fun r hr => by
          cases hr
          exact ⟨hD, _, hd, rfl⟩⟩
        have hS2 := hS'.rcd hr hy
        refine hR _ _ ⟨rfl, ⟨mv, A', hS2.at', fun j hj => ?_, Gr.lt hl (Nat.le_trans hL.ch.size cp.size)⟩, hL.ch.trans' cp fun j hj e => ?_⟩
        · rcases hO' j hj with e | e
          · exact .inl e
          · exact .inr ⟨by have := cw5.size; omega, hS2.at'.olt j hj⟩
        · simp only [one] at e; have := cw5.size; omega
      · exact fun _ _ _ _ _ _ h _ => h.elim
end
end Go.Proofs.YtppilgkgnofkpaaGreatDoor

namespace Go.Proofs.YtppilgkgnofkpaaGreatDoor
open Go.RowKit Go.Kin

theorem rowsL_len {α : Type} {f : α → Array Value} {n : Nat} (l : List α) (h : ∀ x ∈ l, (f x).size = n) : (rowsL f l).length = l.length * n := by
  have := rows_size (f := f) (n := n) (xs := l) h
  unfold rowsOf at this
  simpa using this
theorem rowsPt_one {l : List Pt} (h : ∀ q ∈ l, PtOk q) : ∀ u ∈ rowsL pt l, u.oneCell' = true := by
  intro u hu
  unfold rowsL at hu
  rw [List.mem_flatMap] at hu
  obtain ⟨x, hx, hu⟩ := hu
  have := pt_ones x
  unfold ones at this
  rw [Array.all_eq_true'] at this
  exact this u (by simpa using hu)
/-- slices.Clone at pointers: a row of the call's own. -/
theorem cloneP_any (v : Value) (l : List Pt) (w : World) (hn : l.length ≤ 1000000) (ok : ∀ q ∈ l, PtOk q) (hs : w.ownsRow 0 58 41 v l.length (rowsL pt l)) :
    Ret Tryz.prog 77 #[v] w fun v' w' => MineS 58 41 w v' l.length (rowsL pt l) w' := by
  refine v_enter Tryz.func77 Tryz.ntmps77 rfl (by simp) fun R' hR => ?_
  rcases id hs.2 with ⟨hv, h0⟩ | ⟨g, cap, cur, hv, _, hg, h1, h2, h3, h4⟩
  · subst hv
    have hb := fun w => Lib.run_eql_slice_nil (P := Tryz.prog) w 43 58 none 0 0 0 0 Tryz.underlying43
    simp [go_sem, hb]
    exact hR _ _ ⟨hs, Ch.refl _ _, fun k hk => by simp [Value.ownBlock] at hk⟩
  · subst hv
    have hb := fun w => Lib.run_eql_slice_nil (P := Tryz.prog) w 43 58 (some ⟨g, 0, none⟩) l.length cap 0 0 Tryz.underlying43
    simp [go_sem, hb]
    have hlen : (rowsL pt l).length = l.length * 41 := rowsL_len l fun x hx => pt_size (ok x hx)
    refine VB_appS tyPt (news := rowsL pt l) (World.ownsRow_made w #[] 0 (Nat.zero_le _) (Nat.zero_le _) rfl) hlen (fun j u hu => ?_) (rowsPt_one ok) (by unfold maxLen; omega) (by omega) fun v' w' k1 k2 k3 => ?_
    · have := hs.cells (g := g) rfl j u hu
      exact ((Ch.refl Nw w).alloc _).cell this id
    simp [go_sem]
    refine hR _ _ ⟨by simpa using k1, ((Ch.refl Nw w).alloc _).trans' k2 fun j hj e => ?_, ?_⟩
    · simp [Value.ownBlock] at e; omega
    · rcases k3 with k3 | k3
      · intro k hk
        rw [k3] at hk
        simp [Value.ownBlock] at hk
        omega
      · exact k3.mono (by simp)
section
variable {w w' : World} {m p n i : Nat} {z : Mz} {s : Mr} {O : Nat → Prop} {c : Nat}
theorem Mr.Fine.flush1 (h : s.Fine c) (d : Nat) : (s.flush1 d).1.Fine c := by
  unfold Mr.flush1
  refine ⟨?_, fun i hi => ?_, fun i hi => ?_, h.found, h.mended, h.moves⟩
  · show (if (s.dk d).able s.P then s.P.step else s.P).fuse ≤ _
    split
    · exact Pwr.step_fuse h.fuse (by decide)
    · exact h.fuse
  · by_cases e : i = d
    · subst e
      simp only [upd1_same]
      split
      · simp [Dk.flush]
      · exact h.cache _ hi
    · simp only [upd1_ne _ _ e]; exact h.cache _ hi
  · by_cases e : i = d
    · subst e
      simp only [upd1_same]
      split
      · rw [flush_astray]; exact h.astray _ hi
      · exact h.astray _ hi
    · simp only [upd1_ne _ _ e]; exact h.astray _ hi
theorem MrAt.dcell (h : MrAt w m p n z s O) (hi : i < 2) : w.cell? ⟨m, i, none⟩ = some (.pointer (some ⟨z.d i, 0, none⟩)) := by
  obtain ⟨mv, A, hP, _⟩ := h
  rw [cell_blk hP.blk]
  rcases lt2 hi with rfl | rfl <;> rfl
theorem mflush_any (h : MrAt w m p n z s O) (fine : s.Fine c) (hc : c ≤ 800000) :
    Ret Tryz.prog 14 #[.pointer (some ⟨m, 0, none⟩)] w fun v' w' => v' = .int .i64 s.flush.2 ∧ MrAt w' m p n z s.flush.1 (Gr O w w') ∧ Ch O w w' := by
  refine v_enter Tryz.func14 Tryz.ntmps14 rfl (by simp) fun R' hR => ?_
  have h1 := h.ch (Ch.refl Nw w).drew fun _ _ e => e
  have hl := h.lt
  simp [go_sem]
  refine v_draw' [(0, none), (1, none), (2, none), (3, none), (4, none), (6, none), (7, none), (8, none), (9, none), (10, none), (5, some [6, 7, 8, 9, 10]), (11, some []), (12, none), (13, none)] (by kernel_rfl) (by kernel_rfl) ?_
  have c0 : w.cell? ⟨m, 0, none⟩ = some (.pointer (some ⟨z.d 0, 0, none⟩)) := h.dcell (by omega)
  have c1 : w.cell? ⟨m, 1, none⟩ = some (.pointer (some ⟨z.d 1, 0, none⟩)) := h.dcell (by omega)
  simp [go_sem, c0, c1]
  obtain ⟨E0, hE0⟩ : ∃ E : Int, (if (s.dk 0).able s.P && s.P.made then 0 else 3) = E := ⟨_, rfl⟩
  obtain ⟨E1, hE1⟩ : ∃ E : Int, (if ((s.flush1 0).1.dk 1).able (s.flush1 0).1.P && (s.flush1 0).1.P.made then 0 else 3) = E := ⟨_, rfl⟩
  refine (h1.disk (i := 0) (by omega) (R := fun v' _ => v' = .int .i64 E0) fun B hB hBO => (hB.flush fine.fuse (by have := fine.cache 0 (by omega); omega)).mono fun v' w' hh => ⟨hh.1.trans (by rw [hE0]), hh.2.1, hh.2.2⟩).mono ?_
  rintro _ w2 ⟨rfl, h2, k2⟩
  have k2' : Ch O w w2 := Ch.of_drew k2
  have h2' : MrAt w2 m p n z (s.flush1 0).1 (Gr O w w2) := h2
  have f2 := fine.flush1 0
  have e0 : w2.cell? ⟨m, 1, none⟩ = some (.pointer (some ⟨z.d 1, 0, none⟩)) := h2'.dcell (by omega)
  simp [go_sem, e0]
  refine (h2'.disk (i := 1) (by omega) (R := fun v' _ => v' = .int .i64 E1) fun B hB hBO => (hB.flush f2.fuse (by have := f2.cache 1 (by omega); omega)).mono fun v' w' hh => ⟨hh.1.trans (by rw [hE1]), hh.2.1, hh.2.2⟩).mono ?_
  rintro _ w3 ⟨rfl, h3, k3⟩
  have h3' : MrAt w3 m p n z s.flush.1 (Gr (Gr O w w2) w2 w3) := h3
  have hres : s.flush.2 = if (s.flush1 0).2 || (((s.flush1 0).1).flush1 1).2 then 0 else 21 := rfl
  have hr0 : ((s.dk 0).able s.P && s.P.made) = (s.flush1 0).2 := rfl
  have hr1 : (((s.flush1 0).1.dk 1).able (s.flush1 0).1.P && (s.flush1 0).1.P.made) = (((s.flush1 0).1).flush1 1).2 := rfl
  rw [hr0] at hE0
  rw [hr1] at hE1
  have fin : R' (.int .i64 s.flush.2) w3 := hR _ _ ⟨rfl, h3'.weak (fun k hk => gr2 k2'.size k3.size hk) (Gr.lt hl (Nat.le_trans k2'.size k3.size)), k2'.trans' k3 fun j hj e => e.resolve_right (by omega)⟩
  rw [hres] at fin
  cases ha : (s.flush1 0).2 <;> cases hb : (((s.flush1 0).1).flush1 1).2 <;> (rw [ha] at hE0; rw [hb] at hE1; subst hE0 hE1; simp [go_sem, bne]; simpa [ha, hb] using fin)
theorem mclear_any (h : MrAt w m p n z s O) : Ret Tryz.prog 16 #[.pointer (some ⟨m, 0, none⟩)] w fun v' w' => v' = .tuple #[] ∧ MrAt w' m p n z { s with moves := [] } (Gr O w w') ∧ Ch O w w' := by
  refine v_enter Tryz.func16 Tryz.ntmps16 rfl (by simp) fun R' hR => ?_
  have hl := h.lt
  obtain ⟨mv, A, hP, hPO, hPl⟩ := id h
  have c7 : w.cell? ⟨m, 7, none⟩ = some mv := cell_blk hP.blk 7
  have f7 := frz_blk hP.blk 7
  simp [go_sem, c7, f7]
  have cs : Ch (one m) w (w.setCell ⟨m, 7, none⟩ (.slice none 0 0)) := (Ch.refl (one m) w).setCell (p := ⟨m, 7, none⟩) (.inl rfl) _
  have hx : MrX z m mv m := .inl rfl
  obtain ⟨n1, n2, n3, n4, n5, n6⟩ := hP.ne
  have hP2 : MrP (w.setCell ⟨m, 7, none⟩ (.slice none 0 0)) m p n z { s with moves := [] } (.slice none 0 0) A := by
    refine ⟨?_, fun i hi => ?_, cs.obj hP.sp n1, fun i hi => ?_, World.ownsRow_nil _ _ _ _, fun q hq => by simp at hq, hP.ab, hP.ne, fun k hk => ?_, fun k hk => by simp [Value.ownBlock] at hk⟩
    · rw [hp_setCell, hP.blk, setOf_cells]; rfl
    · exact (hP.sd i hi).ch cs (fun k hk e => (hP.xi hi hx).1 (by simp only [one] at e; rw [← e]; exact hk)) fun e => (hP.xi hi hx).2 e.symm
    · rcases lt2 hi with rfl | rfl
      · exact cs.obj (hP.pl 0 hi) n2
      · exact cs.obj (hP.pl 1 hi) n3
    · refine hP.nx k ?_
      rcases hk with hk | hk | hk | hk | hk
      · exact .inl hk
      · exact .inr (.inl hk)
      · exact .inr (.inr (.inl hk))
      · exact .inr (.inr (.inr (.inl hk)))
      · simp [Value.ownBlock] at hk
  refine hR _ _ ⟨rfl, ⟨_, A, hP2, fun k hk => .inl (hPO k ?_), Gr.lt hl cs.size⟩, cs.mono fun j _ e => by simp only [one] at e; subst e; exact h.own.1⟩
  rcases hk with (hk | hk | hk | hk | hk) | hk | hk | hk
  · exact .inl (.inl hk)
  · exact .inl (.inr (.inl hk))
  · exact .inl (.inr (.inr (.inl hk)))
  · exact .inl (.inr (.inr (.inr (.inl hk))))
  · simp [Value.ownBlock] at hk
  · exact .inr (.inl hk)
  · exact .inr (.inr (.inl hk))
  · exact .inr (.inr (.inr hk))
def Mr.health (s : Mr) (i : Nat) : Nat := if (s.dk i).dead then 2 else if s.found i = 0 then 0 else 1
theorem mhealth_any (h : MrAt w m p n z s O) (hi : i < 2) : Ret Tryz.prog 36 #[.pointer (some ⟨m, 0, none⟩), .int .i64 i] w fun v' w' => v' = .int .u8 (s.health i) ∧ w' = w := by
  refine v_enter Tryz.func36 Tryz.ntmps36 rfl (by simp) fun R' hR => ?_
  have cd := h.dcell hi
  have hi2 : (i : Int) < 2 := by omega
  have hi1 : ¬ (1 : Int) < i := by omega
  have hi0 : ¬ (i : Int) < 0 := by omega
  obtain ⟨mv, A, hP, hPO, hPl⟩ := id h
  have cF : w.cell? ⟨m, 3 + i * 2, none⟩ = some (.int .i64 (s.found i)) := by rw [cell_blk hP.blk]; exact mcs_at_found _ z mv hi
  simp [go_sem, hi, hi0, hi1, hi2, cd]
  refine ((hP.sd i hi).dead).mono ?_
  rintro _ _ ⟨rfl, rfl⟩
  unfold Mr.health at hR
  cases hd : (s.dk i).dead with
  | true =>
    rw [hd] at hR
    simp [go_sem]
    exact hR _ _ ⟨rfl, rfl⟩
  | false =>
    rw [hd] at hR
    simp [go_sem, hi, hi2, cF]
    by_cases hf : s.found i = 0
    · simp [go_sem, hf]
      exact hR _ _ ⟨by simp [hf], rfl⟩
    · have hf0 : 0 < s.found i := by omega
      simp [go_sem, hf0]
      exact hR _ _ ⟨by simp [hf], rfl⟩
theorem mcount_any (h : MrAt w m p n z s O) (hi : i < 2) : Ret Tryz.prog 35 #[.pointer (some ⟨m, 0, none⟩), .int .i64 i] w fun v' w' => v' = .agg #[.int .i64 (s.found i), .int .i64 (s.mended i)] ∧ Ch Nw w w' := by
  refine v_enter Tryz.func35 Tryz.ntmps35 rfl (by simp) fun R' hR => ?_
  have hi2 : (i : Int) < 2 := by omega
  have hi1 : ¬ (1 : Int) < i := by omega
  have hi0 : ¬ (i : Int) < 0 := by omega
  have ca := (Ch.refl Nw w).alloc (.cells #[.int .i64 0, .int .i64 0] 96)
  obtain ⟨mv, A, hP, hPO, hPl⟩ := h.ch ca fun _ _ e => e
  have cF := cell_blk hP.blk (3 + i * 2)
  rw [mcs_at_found _ z mv hi] at cF
  have cM := cell_blk hP.blk (3 + i * 2 + 1)
  rw [mcs_at_mended _ z mv hi] at cM
  have hlt := hP.olt m (.inl (.inl rfl))
  simp [go_sem, hi, hi0, hi1, hi2, cF, cM]
  exact hR _ _ ⟨rfl, by first | exact ca | exact (Ch.refl Nw w).alloc _⟩
theorem mmoves_any (h : MrAt w m p n z s O) (fine : s.Fine c) (hc : c ≤ 800000) : Ret Tryz.prog 34 #[.pointer (some ⟨m, 0, none⟩)] w fun v' w' => MineS 58 41 w v' s.moves.length (rowsL pt s.moves) w' := by
  refine v_enter Tryz.func34 Tryz.ntmps34 rfl (by simp) fun R' hR => ?_
  obtain ⟨mv, A, hP, hPO, hPl⟩ := id h
  have c7 : w.cell? ⟨m, 7, none⟩ = some mv := cell_blk hP.blk 7
  obtain ⟨A0, c0, hmv⟩ : ∃ A c, mv = .slice A s.moves.length c := by
    rcases hP.mo.2 with ⟨hv, h0⟩ | ⟨g, cap, cur, hv, _⟩
    · exact ⟨none, 0, by rw [hv, h0]⟩
    · exact ⟨_, _, hv⟩
  have hmo := hP.mo
  subst hmv
  simp [go_sem, c7]
  refine (cloneP_any _ s.moves w (by have := fine.moves; omega) hP.okm hmo).mono ?_
  intro v1 w1 hm
  simp [go_sem]
  exact hR _ _ hm
end
end Go.Proofs.YtppilgkgnofkpaaGreatDoor
