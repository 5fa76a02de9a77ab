/- The document's mirror mends a copy. No condition but on sizes. -/
import Derived.Test.YtppilgkgnofkpaaGreatDoorRmB
set_option linter.unusedSimpArgs false
set_option linter.unusedVariables false

namespace Go.Proofs.YtppilgkgnofkpaaGreatDoor
open Go.RowKit Go.Kin

theorem Gr.two {O : Nat → Prop} {w w1 w2 : World} (h1 : w.heap.size ≤ w1.heap.size) (h2 : w1.heap.size ≤ w2.heap.size) {k : Nat} (h : Gr (Gr O w w1) w1 w2 k) : Gr O w w2 k := gr2 h1 h2 h
theorem sk_same (s : Mr) (i : Nat) : upd1 s.sick i (s.sick i) = s.sick := by
  funext j
  unfold upd1
  split
  · subst ‹j = i›; rfl
  · rfl
section
variable {w w' : World} {m q n i c : Nat} {d e : Nat → Nat} {s : Mr} {O : Nat → Prop}
/-- what was made ahead doesn't matter -/
theorem RmAt.since {w1 : World} {s' : Mr} (h : RmAt m q n d e s' w' (Gr O w1 w')) (hl : ∀ k, O k → k < w.heap.size) (h1 : w.heap.size ≤ w1.heap.size) (h2 : w1.heap.size ≤ w'.heap.size) : RmAt m q n d e s' w' (Gr O w w') :=
  (RmAt.ok ..).weak h (fun k hk => hk.imp id fun e => ⟨by omega, e.2⟩) (Gr.lt hl (by omega))
theorem RmAt.then' {w1 : World} {s' : Mr} (h : RmAt m q n d e s' w' (Gr (Gr O w w1) w1 w')) (hl : ∀ k, O k → k < w.heap.size) (h1 : w.heap.size ≤ w1.heap.size) (h2 : w1.heap.size ≤ w'.heap.size) : RmAt m q n d e s' w' (Gr O w w') :=
  (RmAt.ok ..).weak h (fun k hk => gr2 h1 h2 hk) (Gr.lt hl (by omega))
theorem Ch.then' {w1 : World} (h : Ch O w w1) (k : Ch (Gr O w w1) w1 w') : Ch O w w' := h.trans' k fun j hj e => e.resolve_right (by omega)
theorem RmAt.blk1 {w1 : World} {mv mv' : Value} {n' : Nat} {xs : List Value} (h : RmAt m q n d e s w O) (hmv : w.cell? ⟨m, 8, none⟩ = some mv) (own1 : w1.ownsRow 0 58 41 mv' n' xs) (cl : Ch (fun k => mv.ownBlock = some k) w w1) (ff : mv'.ownBlock = mv.ownBlock ∨ Fresh w.heap.size mv') :
    w1.heap[m]? = some (.cells (rmcs s d e mv) 45 (0, 0)) := by
  obtain ⟨⟨mv0, h⟩, o⟩ := h
  obtain ⟨O1, h1, _⟩ := h.get (i := 0) rfl
  have hm0 : mv0 = mv := by
    have := (cell_blk h1.1 8).symm.trans hmv
    simpa [rmcs] using this
  subst hm0
  obtain ⟨a, b⟩ := h.move (i := 4) (H' := RowH 58 41 mv' n' xs) (w' := w1) RmL.ok rfl fun O1 h1 _ => by
    have hc : Ch O1 w w1 := cl.mono fun k _ e => h1.2.1 k e
    refine ⟨⟨own1, fun k hk => ?_, Gr.lt h1.2.2 hc.size⟩, hc⟩
    rcases ff with ff | ff
    · exact .inl (h1.2.1 k (by rw [← ff]; exact hk))
    · exact .inr ⟨ff k hk, own_blt own1 k hk⟩
  obtain ⟨O2, h2, _⟩ := a.get (i := 0) rfl
  exact h2.1
set_option maxRecDepth 100000 in
set_option maxHeartbeats 4000000 in
theorem rmend_any (h : RmAt m q n d e s w O) (x : Pt) (ok : PtOk x) (fine : s.Fine c) (hc : c ≤ 800000) (hn : n ≤ 4096) (k : Nat) (hk4 : k < 4) (b : Byts) (hb : b.length ≤ 1000000) :
    Ret Tryz.prog 47 #[.pointer (some ⟨m, 0, none⟩), .agg (pt x), .agg #[.int .i64 (k / 2 : Nat), .int .u16 (adr x k)], .string ⟨b.toArray⟩] w fun _ w' => RmAt m q n d e (s.mend n x b k) w' (Gr O w w') ∧ Ch O w w' := by
  refine v_enter Tryz.func47 Tryz.ntmps47 rfl (by simp) fun R' hR => ?_
  have hps := pt_size ok
  have hpa := pt_all ok
  have hal := adr_lt ok k
  have hlO := (RmAt.ok m q n d e s).lt h
  obtain ⟨i, hki⟩ : ∃ i, k / 2 = i := ⟨_, rfl⟩
  have hi : i < 2 := by omega
  have hi2 : (i : Int) < 2 := by omega
  have hwr : s.writ n x b k = { s with dk := upd1 s.dk i ((s.dk i).write n s.P (adr x k) b), P := (s.dk i).wpow n s.P (adr x k) b } := by unfold Mr.writ; rw [hki]
  have fine2 := fine.writ (n := n) x b k
  rw [hki]
  have b0 := al2_0 w (.cells (pt x) 58) (.cells #[.int .i64 i, .int .u16 (adr x k)] 113)
  have b1 := al2_1 w (.cells (pt x) 58) (.cells #[.int .i64 i, .int .u16 (adr x k)] 113)
  have ca := ((Ch.refl Nw w).alloc (.cells (pt x) 58)).alloc (.cells #[.int .i64 i, .int .u16 (adr x k)] 113)
  have sa : ((w.alloc (.cells (pt x) 58)).alloc (.cells #[.int .i64 i, .int .u16 (adr x k)] 113)).heap.size = w.heap.size + 2 := by simp
  simp [go_sem, hps, hpa]
  obtain ⟨g, hgs⟩ : ∃ g, w.heap.size = g := ⟨_, rfl⟩
  rw [hgs] at b0 b1 sa ⊢
  generalize (w.alloc (.cells (pt x) 58)).alloc (.cells #[.int .i64 i, .int .u16 (adr x k)] 113) = w1 at *
  have h1 := (RmAt.ok m q n d e s).ch h ca fun _ _ e => e
  have h1d := (RmAt.ok m q n d e s).ch h1 (Ch.refl Nw w1).drew fun _ _ e => e
  have c1 := fun j => cell_blk b1 j
  have cd := h1.dcell hi
  refine v_draw' [(0, none), (1, none), (2, none), (3, none), (4, none), (5, none), (6, none), (7, none), (8, none), (9, none), (10, some [])] (by kernel_rfl) (by kernel_rfl) ?_
  simp [go_sem, c1, cd, hi, hi2]
  refine (h1d.disk hi (D' := (s.dk i).write n s.P (adr x k) b) (P' := (s.dk i).wpow n s.P (adr x k) b) (R := fun v' _ => v' = .int .i64 (wrE ((s.dk i).writes n s.P (adr x k) b))) fun B hB hBO => hB.write (adr x k) hal b fine.fuse (by have := fine.cache i hi; omega) (fine.astray i hi)).mono ?_
  rintro _ w2 ⟨rfl, h2, k2⟩
  rw [← hwr] at h2
  have k2 : Ch O w1 w2 := Ch.of_drew k2
  have h2 : RmAt m q n d e (s.writ n x b k) w2 (Gr O w1 w2) := h2
  have hs2 := k2.size
  have nO : ∀ j, g ≤ j → ¬ O j := fun j hj e => by have := hlO j e; omega
  have b02 := k2.obj b0 (nO _ (by omega))
  have b12 := k2.obj b1 (nO _ (by omega))
  have c12 := fun j => cell_blk b12 j
  have cw2 : Ch O w1 w2 := k2
  have hl1 : ∀ k, O k → k < w1.heap.size := fun k hk => by have := hlO k hk; omega
  have h2' := h2
  have hs1 : w.heap.size ≤ w1.heap.size := ca.size
  have fin : ∀ {u : World} {s' : Mr} {v : Value}, s.mend n x b k = s' → RmAt m q n d e s' u (Gr O w1 u) → Ch O w1 u → R' v u := fun e1 h1 h2 => by
    subst e1
    exact hR _ _ ⟨h1.since hlO hs1 h2.size, (ca.mono fun _ _ e => e.elim).trans h2⟩
  clear hR
  obtain ⟨t, ht⟩ : ∃ t, s.writ n x b k = t := ⟨_, rfl⟩
  rw [ht] at h2 h2' fine2
  have hgd := rgood_any h2' x ok (fun j hj => by have := fine2.cache j hj; omega) k hk4
  rw [hki] at hgd
  simp [go_sem, b02, c12, b12, hps, hpa]
  refine hgd.mono ?_
  rintro _ w3 ⟨⟨tb, rfl, _⟩, c3⟩
  have h3 : RmAt m q n d e t w3 (Gr O w1 w3) := by
    have := (RmAt.ok m q n d e t).ch h2' c3 fun _ _ e => e
    exact (RmAt.ok ..).weak this (fun k hk => hk.imp id fun e => ⟨e.1, Nat.lt_of_lt_of_le e.2 c3.size⟩) (Gr.lt hl1 (by have := cw2.size; have := c3.size; omega))
  have cw3 : Ch O w1 w3 := cw2.trans (c3.mono fun _ _ e => e.elim)
  have b03 := c3.obj b02 id
  have b13 := c3.obj b12 id
  have c13 := fun j => cell_blk b13 j
  have hs3 := cw3.size
  cases hgood : t.good n x k with
  | some bb =>
    have hm : s.mend n x b k = { t with mended := upd1 t.mended i (t.mended i + 1) } := by unfold Mr.mend; simp only [ht]; rw [hgood, hki]; rfl
    have cm := h3.mcell hi
    obtain ⟨mv, hbm⟩ := h3.blk
    have fzm := frz_blk hbm (6 + i)
    have hme := fine2.mended i
    have hwm : IntKind.i64.wrap ((t.mended i : Int) + 1) = ((t.mended i + 1 : Nat) : Int) := by rw [IntKind.wrap_i64]; omega
    simp [go_sem]
    refine v_draw' [(0, none), (1, none), (2, none), (3, none), (4, none), (5, none), (6, none), (7, none), (8, none), (9, none), (10, none), (11, some [])] (by kernel_rfl) (by kernel_rfl) ?_
    simp [go_sem, c13, hi, hi2, cm, fzm, hwm]
    obtain ⟨h4, k4⟩ := h3.set (s' := { t with mended := upd1 t.mended i (t.mended i + 1) }) (fun mv => rmcs_mended t d e mv hi (t.mended i + 1)) rfl rfl rfl rfl
    exact fin hm ((RmAt.ok ..).ch (h4.then' hl1 hs3 k4.size) (Ch.refl Nw _).drew fun _ _ e => e) (Ch.then' cw3 k4).drew
  | none =>
    have hm : s.mend n x b k = (t.sicks n i (adr x k)).moved x := by unfold Mr.mend; simp only [ht]; rw [hgood, hki]; rfl
    have ce := h3.ecell hi
    simp [go_sem]
    refine v_draw' [(0, none), (1, none), (2, none), (3, none), (4, none), (5, none), (6, none), (7, none), (8, none), (9, some [])] (by kernel_rfl) (by kernel_rfl) ?_
    simp [go_sem, c13, hi, hi2, ce]
    have h3d := (RmAt.ok m q n d e t).ch h3 (Ch.refl Nw w3).drew fun _ _ e => e
    refine (h3d.skstep hi (R := fun v' _ => ∃ r : Int, v' = .int .i64 r) fun B hB => act3_any hB hn (adr x k) hal).mono ?_
    rintro _ w4 ⟨⟨r, rfl⟩, h4, k4⟩
    have k4 : Ch (Gr O w1 w3) w3 w4 := Ch.of_drew k4
    have hsk : ({ t with sick := upd1 t.sick i (if adr x k = 0 ∨ n ≤ adr x k then t.sick i else upd1 (t.sick i) (adr x k) true) } : Mr) = t.sicks n i (adr x k) := by
      unfold Mr.sicks
      split
      · rw [sk_same]
      · rfl
    rw [hsk] at h4
    have h4 : RmAt m q n d e (t.sicks n i (adr x k)) w4 (Gr O w1 w4) := RmAt.then' h4 hl1 hs3 k4.size
    have cw4 : Ch O w1 w4 := Ch.then' cw3 k4
    obtain ⟨t2, ht2⟩ : ∃ t2, t.sicks n i (adr x k) = t2 := ⟨_, rfl⟩
    have hmo : t2.moves = t.moves := by rw [← ht2]; unfold Mr.sicks; split <;> rfl
    rw [ht2] at h4 hm
    have hml : t2.moves.length ≤ 900000 := by rw [hmo]; have := fine2.moves; omega
    have b04 := k4.obj b03 fun e => by
      rcases e with e | e
      · exact nO _ (by omega) e
      · omega
    obtain ⟨mv, c8, mo⟩ := h4.mo
    have hmok : ∀ y ∈ t2.moves, PtOk y := h4.2
    obtain ⟨Am, cm, hmv⟩ : ∃ A c, mv = .slice A t2.moves.length c := by
      rcases mo.2 with ⟨hv, h0⟩ | ⟨g, cap, cur, hv, _⟩
      · exact ⟨none, 0, by rw [hv, h0]⟩
      · exact ⟨_, _, hv⟩
    subst hmv
    have hlm : ∀ w', (Builtin.len_ #[43] 3 #[.slice Am t2.moves.length cm]).run Tryz.prog w' = .ok (.int .i64 t2.moves.length) w' := fun w' => by simp [Builtin.len_, run_underlying Tryz.underlying43, goInt]
    have hs4 := cw4.size
    simp [go_sem]
    refine v_loop (fun r f u => ∃ j, r = t2.moves.length - j ∧ j ≤ t2.moves.length ∧ f 0 = .pointer (some ⟨m, 0, none⟩) ∧ f 5 = .pointer (some ⟨g, 0, none⟩) ∧ f 10 = .int .i64 j ∧ Ch Nw w4 u ∧ ∀ (i : Nat) y, i < j → t2.moves[i]? = some y → y ≠ x) t2.moves.length
      ⟨0, rfl, Nat.zero_le _, by simp, by simp, by simp, Ch.refl _ _, fun i y hi => absurd hi (by omega)⟩ ?_
    rintro J hJ _ f u ⟨j, rfl, hj, f0, f5, f10, cu, hno⟩
    have c8u := cu.cell c8 id
    have b0u := cu.obj b04 id
    have hu := (RmAt.ok m q n d e t2).ch h4 cu fun _ _ e => e
    by_cases hlt : j < t2.moves.length
    · have hjj : (j : Int) < t2.moves.length := by omega
      have hwj : IntKind.i64.wrap ((j : Int) + 1) = ((j + 1 : Nat) : Int) := by rw [IntKind.wrap_i64]; omega
      obtain ⟨y, hy⟩ : ∃ y, t2.moves[j]? = some y := ⟨_, List.getElem?_eq_getElem hlt⟩
      obtain ⟨gm, capm, curm, hvm, _, hgm, hex, hsz⟩ := mv_at (s := t2) mo hmok hy
      cases hvm
      have hgmu := cu.obj hgm id
      have oky := hmok y (List.mem_of_getElem? hy)
      simp [go_sem, f0, f10, c8u, hlm, hjj]
      refine v_draw' [(0, none), (1, none), (2, none), (3, none), (4, none), (5, none), (6, none), (7, none), (8, none)] (by kernel_rfl) (by kernel_rfl) ?_
      by_cases hyx : y = x
      · have heq : ∀ w, (Op.equalIn 10000 58 (.agg (pt y)) (.agg (pt x))).run Tryz.prog w = .ok true w := fun w => (eq_pt w oky ok).trans (by simp [hyx])
        have hct : t2.moved x = t2 := by
          unfold Mr.moved
          rw [if_pos]
          rw [List.contains_iff_mem]
          exact hyx ▸ List.mem_of_getElem? hy
        rw [hct] at hm
        simp [go_sem, f0, f5, f10, c8u, hgmu, hjj, hlt, hex, hsz, b0u, hps, hpa, heq]
        exact fin hm ((RmAt.ok ..).weak ((RmAt.ok ..).ch hu (Ch.refl Nw u).drew fun _ _ e => e) (fun k hk => hk.imp id fun e => ⟨e.1, Nat.lt_of_lt_of_le e.2 cu.size⟩) (Gr.lt hl1 (Nat.le_trans hs4 cu.size))) (cw4.trans (cu.drew.mono fun _ _ e => e.elim))
      · have heq : ∀ w, (Op.equalIn 10000 58 (.agg (pt y)) (.agg (pt x))).run Tryz.prog w = .ok false w := fun w => (eq_pt w oky ok).trans (by simp [hyx])
        simp [go_sem, f0, f5, f10, c8u, hgmu, hjj, hlt, hex, hsz, b0u, hps, hpa, heq, hwj]
        refine Rnd.intro (t2.moves.length - (j + 1)) (by omega) (hJ _ _ _ ⟨j + 1, rfl, by omega, by simp [f0], by simp [f5], by simp, cu.drew, fun i y' hi' hy' => ?_⟩)
        by_cases hij : i = j
        · subst hij
          rw [hy] at hy'
          cases hy'
          exact hyx
        · exact hno i y' (by omega) hy'
    · obtain rfl : j = t2.moves.length := by omega
      have hct : t2.moved x = { t2 with moves := t2.moves ++ [x] } := by
        unfold Mr.moved
        rw [if_neg]
        rw [List.contains_iff_mem]
        intro hm
        obtain ⟨i, hi⟩ := List.mem_iff_getElem?.1 hm
        exact hno i x (List.getElem?_eq_some_iff.1 hi).1 hi rfl
      rw [hct] at hm
      obtain ⟨N, hN⟩ : ∃ N, t2.moves.length = N := ⟨_, rfl⟩
      have hud := (RmAt.ok ..).ch hu (Ch.refl Nw u).drew fun _ _ e => e
      have mod := own_ch mo (cu.drew) fun _ _ e => e
      rw [hN] at mod c8u hlm f10 hml ⊢
      simp [go_sem, f0, f10, c8u, hlm]
      refine v_draw' [(0, none), (1, none), (2, none), (3, none), (4, none), (5, none), (6, some [0, 1, 2, 3, 4]), (7, some [0]), (8, none), (9, none), (10, some [])] (by kernel_rfl) (by kernel_rfl) ?_
      simp [↓VX_bsl1, go_sem, f0, f5, c8u, b0u, hps, hpa]
      refine VBs_run (bsl_pt ok _) ?_
      have c8a : (u.alloc (.cells (pt x) 58)).cell? ⟨m, 8, none⟩ = some (.slice Am N cm) := ((Ch.refl Nw u).alloc (.cells (pt x) 58)).cell c8u id
      simp [go_sem, f0, c8u, c8a]
      rw [show (u.alloc (.cells (pt x) 58)).drew = u.drew.alloc (.cells (pt x).toList.toArray 58) by simp; rfl]
      refine VB_app1S (w := u.drew) (us := (pt x).toList) tyPt mod (by rw [Array.length_toList, hps]) (fun uu huu => by
        have := pt_ones x
        unfold ones at this
        exact Array.all_eq_true'.1 this uu (by simpa using huu)) (by unfold maxLen; omega) (by omega) fun v6 w6 own6 cl6 ff6 => ?_
      have own6' : w6.ownsRow 0 58 41 v6 (t2.moves ++ [x]).length (rowsL pt (t2.moves ++ [x])) := by
        rw [rowsL_append, rowsL_one, List.length_append, hN]
        exact own6
      obtain ⟨h7, k7⟩ := hud.push ok c8u own6' cl6 ff6
      obtain ⟨gq, capq, curq, hv6, _⟩ := ownS_blk own6 (by omega)
      have b6m := hud.blk1 c8u own6 cl6 ff6
      have c86 := cell_blk b6m 8
      have f86 := frz_blk b6m 8
      simp [rmcs] at c86
      subst hv6
      simp [go_sem, c86, f86]
      have k7 : Ch (Gr O w1 w4) u _ := Ch.of_drew k7
      have hus := cu.size
      refine ⟨f0, fin hm ?_ ?_⟩
      · refine (RmAt.ok ..).weak h7 (fun k hk => ?_) (Gr.lt hl1 (Nat.le_trans hs4 (Nat.le_trans hus k7.size)))
        rcases hk with (hk | hk) | hk
        · exact .inl hk
        · exact .inr ⟨hk.1, by have := k7.size; omega⟩
        · exact .inr ⟨by have : u.heap.size ≤ k := hk.1; omega, hk.2⟩
      · exact (cw4.trans (cu.mono fun _ _ e => e.elim)).trans' k7 fun j hj e => e.resolve_right (by omega)
end
end Go.Proofs.YtppilgkgnofkpaaGreatDoor
