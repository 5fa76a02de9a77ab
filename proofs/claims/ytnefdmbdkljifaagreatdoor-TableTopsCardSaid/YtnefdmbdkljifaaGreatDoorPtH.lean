/- What the document's Take of a pointer answers, as a contract on the call. No condition but on sizes. -/
import Derived.Test.YtnefdmbdkljifaaGreatDoorPtG
import Derived.Test.YtnefdmbdkljifaaGreatDoorWireF
set_option linter.unusedSimpArgs false
set_option linter.unusedVariables false

namespace Go.Proofs.YtnefdmbdkljifaaGreatDoor
open Go.RowKit Go.Kin

/-- block q holds a reader of the document's -/
def RC (w : World) (q : Nat) (l : List UInt8) (e : Int) (own : Option Nat) : Prop :=
  ∃ s, w.heap[q]? = some (.cells #[s, .int .i64 e] 115 (0, 0)) ∧ Sl w s l.length (bvs l) ∧ (s.ownBlock = own ∨ s.ownBlock = none)
theorem own_or {S : Nat → Prop} {own o : Option Nat} (hn : ∀ k, own = some k → ¬ S k) (ho : o = own ∨ o = none) : ∀ k, o = some k → ¬ S k := by
  rintro k hk
  rcases ho with h | h
  · exact hn k (by rw [← h, hk])
  · rw [h] at hk; cases hk
theorem RC.ch {S : Nat → Prop} {w w' : World} {q : Nat} {l : List UInt8} {e : Int} {own : Option Nat} (h : RC w q l e own) (hc : Ch S w w') (hq : ¬ S q) (hn : ∀ k, own = some k → ¬ S k) : RC w' q l e own := by
  obtain ⟨s, h1, h2, h3⟩ := h
  exact ⟨s, hc.obj h1 hq, h2.ch hc (own_or hn h3), h3⟩
theorem RefR.ch {S : Nat → Prop} {w w' : World} {v : Value} {l : List UInt8} {e : Int} {own : Option Nat} (h : RefR w v l e own) (hc : Ch S w w') (hn : ∀ k, own = some k → ¬ S k) : RefR w' v l e own := by
  obtain ⟨s, h1, h2, h3⟩ := h
  exact ⟨s, h1, h2.ch hc (own_or hn h3), h3⟩
/-- a reader is stored -/
def put2 (w : World) (q : Nat) (s : Value) (e : Int) : World := (w.setCell ⟨q, 0, none⟩ s).setCell ⟨q, 1, none⟩ (.int .i64 e)
theorem put2_ch {S : Nat → Prop} {w0 w : World} {q : Nat} {s : Value} {e : Int} (hc : Ch S w0 w) (hq : S q ∨ w0.heap.size ≤ q) : Ch S w0 (put2 w q s e) := (hc.setCell (p := ⟨q, 0, none⟩) hq _).setCell (p := ⟨q, 1, none⟩) hq _
theorem put2_rc {w : World} {q : Nat} {a b s : Value} {e : Int} {l : List UInt8} {own : Option Nat} (hb : w.heap[q]? = some (.cells #[a, b] 115 (0, 0))) (h2 : Sl w s l.length (bvs l)) (h3 : s.ownBlock = own ∨ s.ownBlock = none) (hn : ∀ k, own = some k → k ≠ q) :
    RC (put2 w q s e) q l e own :=
  ⟨s, blk_set1 (blk_set0 hb), h2.ch (put2_ch (S := only q) (Ch.refl _ w) (.inl rfl)) (own_or (fun k hk => hn k hk) h3), h3⟩
theorem rtake_any (v : Value) (l : List UInt8) (e : Int) (own : Option Nat) (w : World) (hl : l.length ≤ 1000000) (h : RefR w v l e own) (hown : ∀ k, own = some k → k < w.heap.size) :
    Ret Tryz.prog 45 #[v] w fun v' w' => ∃ r, v' = .tuple #[.agg (pt (ptS l e).1), r] ∧ RefR w' r (ptS l e).2.1 (ptS l e).2.2 own ∧ Ch Nw w w' := by
  obtain ⟨s, rfl, hs, ho⟩ := h
  refine v_enter Tryz.func45 Tryz.ntmps45 rfl (by simp) fun R' hR => ?_
  simp [go_sem, hz_pt, zc_pt]
  generalize hq : w.heap.size = q at *
  have c1 := (((Ch.refl Nw w).alloc (.cells #[s, .int .i64 e] 115)).alloc (.cells (pt ptz) 37)).alloc (.cells #[.slice none 0 0, .int .i64 0] 115)
  have b0 := al3_0 w (.cells #[s, .int .i64 e] 115) (.cells (pt ptz) 37) (.cells #[.slice none 0 0, .int .i64 0] 115)
  have b1 := al3_1 w (.cells #[s, .int .i64 e] 115) (.cells (pt ptz) 37) (.cells #[.slice none 0 0, .int .i64 0] 115)
  have b2 := al3_2 w (.cells #[s, .int .i64 e] 115) (.cells (pt ptz) 37) (.cells #[.slice none 0 0, .int .i64 0] 115)
  rw [hq] at b0 b1 b2
  revert c1 b0 b1 b2
  generalize ((w.alloc (.cells #[s, .int .i64 e] 115)).alloc (.cells (pt ptz) 37)).alloc (.cells #[.slice none 0 0, .int .i64 0] 115) = w1
  intro c1 b0 b1 b2
  refine (refRaw _ l e 64 own w1 (by omega) (by decide) ⟨s, rfl, hs.ch c1 fun _ _ e => e, ho⟩).mono ?_
  rw [show (64 : Int).toNat = 64 by decide]
  rintro _ w2 ⟨sb, _, rfl, k1, k2, ⟨s2, rfl, k3, k4⟩, c2⟩
  have b1 := c2.hp b1 id
  have b2 := c2.hp b2 id
  have c12 := c1.trans c2
  have hown2 : ∀ k, own = some k → k < q := hown
  have hz2 := c12.size
  have q2 := lt_of_block b2
  have lit : ∀ {w : World} {v : Value} {n : Nat} {xs : List Value}, Sl w v n xs → ∃ A m c, v = .slice A m c := fun h => by
    obtain ⟨A, c, h, _⟩ := id h
    exact ⟨A, _, c, h⟩
  obtain ⟨A2, n2, C2, rfl⟩ := lit k3
  simp [go_sem]
  have c3 := (Ch.refl Nw w2).alloc (.cells #[.slice A2 n2 C2, .int .i64 (rawS l e 64).2.2] 115)
  have b5 := hp_alloc w2 (.cells #[.slice A2 n2 C2, .int .i64 (rawS l e 64).2.2] 115)
  have z3 : (w2.alloc (.cells #[.slice A2 n2 C2, .int .i64 (rawS l e 64).2.2] 115)).heap.size = w2.heap.size + 1 := by simp
  have b1 := c3.hp b1 id
  have b2 := c3.hp b2 id
  have ks2 := k3.ch c3 fun _ _ e => e
  have ksb := k1.ch c3 fun _ _ e => e
  have c13 := c12.trans c3
  revert c13 b5 b1 b2 ks2 ksb z3
  generalize w2.alloc (.cells #[.slice A2 n2 C2, .int .i64 (rawS l e 64).2.2] 115) = w3
  generalize hq5 : w2.heap.size = q5 at *
  intro b5 z3 b1 b2 ks2 ksb c13
  clear c3 k1 k3
  have hsz := pt_size ptz_ok
  have hall := pt_all ptz_ok
  by_cases hlt : (rawS l e 64).1.length < 64
  · have he2 : (rawS l e 64).2.2 ≠ 0 := by
      unfold rawS at hlt ⊢
      split
      · assumption
      · split
        · simp
        · rename_i h1 h2
          rw [if_neg h1, if_neg h2] at hlt
          simp at hlt
          omega
    have he2' : ((rawS l e 64).2.2 != 0) = true := by simpa using he2
    have eS : ptS l e = (ptz, (rawS l e 64).2) := by unfold ptS; rw [if_pos hlt]
    simp [go_sem, he2']
    refine v_draw' [(0, none), (1, none), (2, some [1]), (3, some [])] (by kernel_rfl) (by kernel_rfl) ?_
    have e5 := fun i => cell_blk b5 i
    have hb3 : (w3.setRow (q + 1) (pt ptz)).heap[q + 1]? = some (.cells (pt ptz) 37 (0, 0)) := by rw [hp_setRow, b1]; rfl
    have hb5 : (w3.setRow (q + 1) (pt ptz)).heap[q5]? = some (.cells #[.slice A2 n2 C2, .int .i64 (rawS l e 64).2.2] 115 (0, 0)) := by rw [hp_setRow_ne _ _ _ _ (by omega), b5]
    have hb2 : (w3.setRow (q + 1) (pt ptz)).heap[q + 1 + 1]? = some (.cells #[.slice none 0 0, .int .i64 0] 115 (0, 0)) := by rw [hp_setRow_ne _ _ _ _ (by omega), b2]
    have e5' := fun i => cell_blk hb5 i
    have e2' := fun i => cell_blk hb2 i
    have f2' := fun i => frz_blk hb2 i
    have c14 := (c13.setRow (g := q + 1) (.inr (by omega)) (pt ptz)).drew
    simp [go_sem, bld_pt0, b1, e5, hsz, hall, blit_whole, hb3, e5', e2', f2', hb2]
    have c3S : Ch (fun k => k = q + 1 ∨ k = q + 1 + 1) w3 (put2 (w3.setRow (q + 1) (pt ptz)) (q + 1 + 1) (.slice A2 n2 C2) (rawS l e 64).2.2) := put2_ch ((Ch.refl _ w3).setRow (.inl (.inl rfl)) _) (.inl (.inr rfl))
    refine hR _ _ ⟨_, by rw [eS], ?_, ((c13.setRow (.inr (by omega)) _).setCell (.inr (by show w.heap.size ≤ q + 1 + 1; omega)) _ |>.setCell (.inr (by show w.heap.size ≤ q + 1 + 1; omega)) _).drew⟩
    rw [eS]
    exact ⟨_, rfl, ks2.ch c3S.drew (own_or (fun k hk e => by have := hown k hk; omega) k4), k4⟩
  · have he : e = 0 := by
      apply Classical.byContradiction
      intro h
      simp [rawS, h] at hlt
    subst he
    have hlen : ¬ l.length < 64 := by
      intro h
      simp [rawS, h] at hlt
    have hraw : rawS l 0 64 = (l.take 64, l.drop 64, 0) := by simp [rawS, hlen]
    rw [hraw] at ks2 ksb b5 hlt
    rw [hraw]
    simp only at ks2 ksb b5 hlt ⊢
    generalize hbdef : l.take 64 = b at *
    have hb : b.length = 64 := by rw [← hbdef]; simp; omega
    have eS : ptS l 0 = if tkOk b then (ptOf b, l.drop 64, 0) else (ptz, [], 5) := by
      unfold ptS
      rw [hraw]
      simp only [hb, Nat.lt_irrefl, if_false]
    have ok := ptOf_ok hb
    have r1 : rawS b 0 1 = (b.take 1, b.drop 1, 0) := by simp [rawS, hb]
    have r2 : rawS (b.drop 1) 0 1 = ((b.drop 1).take 1, b.drop 2, 0) := by simp [rawS, hb]
    have r3 : rawS (b.drop 2) 0 2 = ((b.drop 2).take 2, b.drop 4, 0) := by simp [rawS, hb]
    have r4 : rawS (b.drop 4) 0 4 = ((b.drop 4).take 4, b.drop 8, 0) := by simp [rawS, hb]
    have r5 : rawS (b.drop 8) 0 8 = ((b.drop 8).take 8, b.drop 16, 0) := by simp [rawS, hb]
    obtain ⟨vk, hvk⟩ : ∃ x, fromLe (b.take 1) = x := ⟨_, rfl⟩
    obtain ⟨vl, hvl⟩ : ∃ x, fromLe ((b.drop 1).take 1) = x := ⟨_, rfl⟩
    obtain ⟨vo, hvo⟩ : ∃ x, fromLe ((b.drop 2).take 2) = x := ⟨_, rfl⟩
    obtain ⟨vf, hvf⟩ : ∃ x, fromLe ((b.drop 4).take 4) = x := ⟨_, rfl⟩
    obtain ⟨vb, hvb⟩ : ∃ x, fromLe ((b.drop 8).take 8) = x := ⟨_, rfl⟩
    have hok : vk < 256 ∧ vl < 256 ∧ vo < 65536 ∧ vf < 4294967296 ∧ vb < 18446744073709551616 := by
      rw [← hvk, ← hvl, ← hvo, ← hvf, ← hvb]
      exact ⟨ok.k, ok.l, ok.o, ok.f, ok.b⟩
    obtain ⟨Ab, nb, Cb, rfl⟩ := lit ksb
    simp [go_sem, hz_pt, zc_pt]
    have b6 := al2_0 w3 (.cells #[.slice Ab nb Cb, .int .i64 0] 115) (.cells (pt ptz) 37)
    have B7 := al2_1 w3 (.cells #[.slice Ab nb Cb, .int .i64 0] 115) (.cells (pt ptz) 37)
    have c4 := ((Ch.refl Nw w3).alloc (.cells #[.slice Ab nb Cb, .int .i64 0] 115)).alloc (.cells (pt ptz) 37)
    have R6 : (_ : World).heap[w3.heap.size]? = _ ∧ _ := ⟨b6, ksb.ch c4 fun _ _ e => e⟩
    have ch := c4
    have hq67 : q5 < w3.heap.size ∧ w3.heap.size < w3.heap.size + 1 := by omega
    clear b6
    clear c4
    revert B7 R6 ch hq67
    generalize (w3.alloc (.cells #[.slice Ab nb Cb, .int .i64 0] 115)).alloc (.cells (pt ptz) 37) = w4
    generalize w3.heap.size + 1 = q7
    generalize hq6 : w3.heap.size = q6 at *
    intro B7 R6 ch hq67
    have hqq : w.heap.size ≤ q5 := by omega
    -- r1
    obtain ⟨h6, hs6⟩ := R6
    have ho6 := k2
    refine (refNumM _ (b) 0 1 own w4 (by first | omega | (simp; omega)) (by omega) ⟨_, rfl, hs6, ho6⟩ (fun k hk => by have := hown k hk; have := ch.size; omega)).mono ?_
    rw [r1, hvk]
    dsimp only
    rintro _ y5 ⟨_, rfl, ⟨sx, rfl, ks, ko⟩, cx⟩
    obtain ⟨Ax, nx, Cx, rfl⟩ := lit ks
    have h6 := cx.hp h6 id
    have e6 := fun i => cell_blk h6 i
    have g6 := fun i => frz_blk h6 i
    have B7 := cx.hp B7 id
    have ch := ch.trans cx
    have R6 := put2_rc (e := 0) h6 ks ko fun k hk e => by have := hown k hk; omega
    have ch := put2_ch (s := .slice Ax nx Cx) (e := 0) (q := q6) ch (.inr (by omega))
    have B7 : (put2 y5 q6 (.slice Ax nx Cx) 0).heap[q7]? = _ := (hp_setCell_ne _ _ _ _ (by show q7 ≠ q6; omega)).trans ((hp_setCell_ne _ _ _ _ (by show q7 ≠ q6; omega)).trans B7)
    obtain ⟨w5, hW⟩ : ∃ u, put2 y5 q6 (.slice Ax nx Cx) 0 = u := ⟨_, rfl⟩
    rw [hW] at R6 ch B7
    simp only [put2] at hW
    simp [go_sem, e6, g6, hW]
    clear hW h6 e6 g6 ks ko cx
    -- r2
    obtain ⟨s6, h6, hs6, ho6⟩ := R6
    obtain ⟨A6, n6, C6, rfl⟩ := lit hs6
    have e6 := fun i => cell_blk h6 i
    simp [go_sem, e6]
    refine (refNumM _ (b.drop 1) 0 1 own w5 (by first | omega | (simp; omega)) (by omega) ⟨_, rfl, hs6, ho6⟩ (fun k hk => by have := hown k hk; have := ch.size; omega)).mono ?_
    rw [r2, hvl]
    dsimp only
    rintro _ y6 ⟨_, rfl, ⟨sx, rfl, ks, ko⟩, cx⟩
    obtain ⟨Ax, nx, Cx, rfl⟩ := lit ks
    have h6 := cx.hp h6 id
    have e6 := fun i => cell_blk h6 i
    have g6 := fun i => frz_blk h6 i
    have B7 := cx.hp B7 id
    have ch := ch.trans cx
    have R6 := put2_rc (e := 0) h6 ks ko fun k hk e => by have := hown k hk; omega
    have ch := put2_ch (s := .slice Ax nx Cx) (e := 0) (q := q6) ch (.inr (by omega))
    have B7 : (put2 y6 q6 (.slice Ax nx Cx) 0).heap[q7]? = _ := (hp_setCell_ne _ _ _ _ (by show q7 ≠ q6; omega)).trans ((hp_setCell_ne _ _ _ _ (by show q7 ≠ q6; omega)).trans B7)
    obtain ⟨w6, hW⟩ : ∃ u, put2 y6 q6 (.slice Ax nx Cx) 0 = u := ⟨_, rfl⟩
    rw [hW] at R6 ch B7
    simp only [put2] at hW
    simp [go_sem, e6, g6, hW]
    clear hW h6 e6 g6 ks ko cx
    -- r3
    obtain ⟨s6, h6, hs6, ho6⟩ := R6
    obtain ⟨A6, n6, C6, rfl⟩ := lit hs6
    have e6 := fun i => cell_blk h6 i
    simp [go_sem, e6]
    refine (refNumM _ (b.drop 2) 0 2 own w6 (by first | omega | (simp; omega)) (by omega) ⟨_, rfl, hs6, ho6⟩ (fun k hk => by have := hown k hk; have := ch.size; omega)).mono ?_
    rw [r3, hvo]
    dsimp only
    rintro _ y7 ⟨_, rfl, ⟨sx, rfl, ks, ko⟩, cx⟩
    obtain ⟨Ax, nx, Cx, rfl⟩ := lit ks
    have h6 := cx.hp h6 id
    have e6 := fun i => cell_blk h6 i
    have g6 := fun i => frz_blk h6 i
    have B7 := cx.hp B7 id
    have ch := ch.trans cx
    have R6 := put2_rc (e := 0) h6 ks ko fun k hk e => by have := hown k hk; omega
    have ch := put2_ch (s := .slice Ax nx Cx) (e := 0) (q := q6) ch (.inr (by omega))
    have B7 : (put2 y7 q6 (.slice Ax nx Cx) 0).heap[q7]? = _ := (hp_setCell_ne _ _ _ _ (by show q7 ≠ q6; omega)).trans ((hp_setCell_ne _ _ _ _ (by show q7 ≠ q6; omega)).trans B7)
    obtain ⟨w7, hW⟩ : ∃ u, put2 y7 q6 (.slice Ax nx Cx) 0 = u := ⟨_, rfl⟩
    rw [hW] at R6 ch B7
    simp only [put2] at hW
    simp [go_sem, e6, g6, hW]
    clear hW h6 e6 g6 ks ko cx
    -- r4
    obtain ⟨s6, h6, hs6, ho6⟩ := R6
    obtain ⟨A6, n6, C6, rfl⟩ := lit hs6
    have e6 := fun i => cell_blk h6 i
    simp [go_sem, e6]
    refine (refNumM _ (b.drop 4) 0 4 own w7 (by first | omega | (simp; omega)) (by omega) ⟨_, rfl, hs6, ho6⟩ (fun k hk => by have := hown k hk; have := ch.size; omega)).mono ?_
    rw [r4, hvf]
    dsimp only
    rintro _ y8 ⟨_, rfl, ⟨sx, rfl, ks, ko⟩, cx⟩
    obtain ⟨Ax, nx, Cx, rfl⟩ := lit ks
    have h6 := cx.hp h6 id
    have e6 := fun i => cell_blk h6 i
    have g6 := fun i => frz_blk h6 i
    have B7 := cx.hp B7 id
    have ch := ch.trans cx
    have R6 := put2_rc (e := 0) h6 ks ko fun k hk e => by have := hown k hk; omega
    have ch := put2_ch (s := .slice Ax nx Cx) (e := 0) (q := q6) ch (.inr (by omega))
    have B7 : (put2 y8 q6 (.slice Ax nx Cx) 0).heap[q7]? = _ := (hp_setCell_ne _ _ _ _ (by show q7 ≠ q6; omega)).trans ((hp_setCell_ne _ _ _ _ (by show q7 ≠ q6; omega)).trans B7)
    obtain ⟨w8, hW⟩ : ∃ u, put2 y8 q6 (.slice Ax nx Cx) 0 = u := ⟨_, rfl⟩
    rw [hW] at R6 ch B7
    simp only [put2] at hW
    simp [go_sem, e6, g6, hW]
    clear hW h6 e6 g6 ks ko cx
    have u0 : IntKind.u8.wrap (vk : Int) = vk := by simp [IntKind.wrap_u8]; omega
    have u1 : IntKind.u8.wrap (vl : Int) = vl := by simp [IntKind.wrap_u8]; omega
    have u2 : IntKind.u16.wrap (vo : Int) = vo := by simp [IntKind.wrap_u16]; omega
    have u3 : IntKind.u32.wrap (vf : Int) = vf := by simp [IntKind.wrap_u32]; omega
    have m0 := (cell_blk B7 0).trans pt_k
    have m1 := (cell_blk B7 1).trans pt_l
    have m2 := (cell_blk B7 2).trans pt_o
    have m3 := (cell_blk B7 3).trans pt_f
    have z7 := fun i => frz_blk B7 i
    obtain ⟨s6, h6, hs6, ho6⟩ := R6
    obtain ⟨A6, n6, C6, rfl⟩ := lit hs6
    have e6 := fun i => cell_blk h6 i
    simp [go_sem, u0, u1, u2, u3, m0, m1, m2, m3, z7, e6]
    have hown' : ∀ k, own = some k → k ≠ q6 ∧ k ≠ q7 := fun k hk => by have := hown k hk; omega
    have cS := ((((Ch.refl (only q7) w8).setCell (p := ⟨q7, 0, none⟩) (.inl rfl) (.int .u8 vk)).setCell (p := ⟨q7, 1, none⟩) (.inl rfl) (.int .u8 vl)).setCell (p := ⟨q7, 2, none⟩) (.inl rfl) (.int .u16 vo)).setCell (p := ⟨q7, 3, none⟩) (.inl rfl) (.int .u32 vf)
    have ch := ch.trans' cS fun j hj e => by simp only [only] at e; omega
    have B7' : ((((w8.setCell ⟨q7, 0, none⟩ (.int .u8 vk)).setCell ⟨q7, 1, none⟩ (.int .u8 vl)).setCell ⟨q7, 2, none⟩ (.int .u16 vo)).setCell ⟨q7, 3, none⟩ (.int .u32 vf)).heap[q7]? = some (.cells (pt ⟨vk, vl, vo, vf, 0, zb 32, [0, 0, 0, 0]⟩) 37 (0, 0)) := by
      rw [hp_setCell, hp_setCell, hp_setCell, hp_setCell, B7]; simp [setOf, pt, ptz]
    have h6 := cS.hp h6 (by simp only [only]; omega)
    have hs6 := hs6.ch cS (own_or (fun k hk e => by have := hown' k hk; simp only [only] at e; omega) ho6)
    clear m0 m1 m2 m3 z7 e6 B7
    revert ch B7' h6 hs6
    generalize (((w8.setCell ⟨q7, 0, none⟩ (.int .u8 vk)).setCell ⟨q7, 1, none⟩ (.int .u8 vl)).setCell ⟨q7, 2, none⟩ (.int .u16 vo)).setCell ⟨q7, 3, none⟩ (.int .u32 vf) = w9
    intro ch B7 h6 hs6
    clear cS
    refine (refNumM _ (b.drop 8) 0 8 own w9 (by first | omega | (simp; omega)) (by omega) ⟨_, rfl, hs6, ho6⟩ (fun k hk => by have := hown k hk; have := ch.size; omega)).mono ?_
    rw [r5, hvb]
    dsimp only
    rintro _ y10 ⟨_, rfl, ⟨sx, rfl, ks, ko⟩, cx⟩
    obtain ⟨Ax, nx, Cx, rfl⟩ := lit ks
    have h6 := cx.hp h6 id
    have e6 := fun i => cell_blk h6 i
    have g6 := fun i => frz_blk h6 i
    have B7 := cx.hp B7 id
    have ch := ch.trans cx
    have m4 := (cell_blk B7 4).trans pt_b
    have z7 := fun i => frz_blk B7 i
    have cS := (Ch.refl (only q7) y10).setCell (p := ⟨q7, 4, none⟩) (.inl rfl) (.int .u64 vb)
    have h6' := cS.hp h6 (by simp only [only]; omega)
    have R6 := put2_rc (e := 0) h6' (ks.ch cS (own_or (fun k hk e => by have := hown' k hk; simp only [only] at e; omega) ko)) ko fun k hk e => by have := hown' k hk; omega
    have ch := put2_ch (s := .slice Ax nx Cx) (e := 0) (q := q6) (ch.trans' cS fun j hj e => by simp only [only] at e; omega) (.inr (by omega))
    have B7' : (put2 (y10.setCell ⟨q7, 4, none⟩ (.int .u64 vb)) q6 (.slice Ax nx Cx) 0).heap[q7]? = some (.cells (pt ⟨vk, vl, vo, vf, vb, zb 32, [0, 0, 0, 0]⟩) 37 (0, 0)) := (hp_setCell_ne _ _ _ _ (by show q7 ≠ q6; omega)).trans ((hp_setCell_ne _ _ _ _ (by show q7 ≠ q6; omega)).trans (by rw [hp_setCell, B7]; simp [setOf, pt]))
    obtain ⟨w10, hW⟩ : ∃ u, put2 (y10.setCell ⟨q7, 4, none⟩ (.int .u64 vb)) q6 (.slice Ax nx Cx) 0 = u := ⟨_, rfl⟩
    rw [hW] at R6 ch B7'
    simp only [put2] at hW
    simp [go_sem, e6, g6, m4, z7, hW]
    have hHl : ((b.drop 16).take 32).length = 32 := ok.h
    refine v_loop (fun r f wr => ∃ k, k ≤ 32 ∧ r = 32 - k ∧ f 2 = .pointer (some ⟨q + 1, 0, none⟩) ∧ f 3 = .pointer (some ⟨q + 1 + 1, 0, none⟩) ∧ f 4 = .slice Ab nb Cb ∧ f 5 = .pointer (some ⟨q5, 0, none⟩) ∧ f 6 = .pointer (some ⟨q6, 0, none⟩) ∧ f 7 = .pointer (some ⟨q7, 0, none⟩) ∧ f 12 = .int .i64 k ∧
      RC wr q6 (b.drop (16 + k)) 0 own ∧ Ch Nw w3 wr ∧ wr.heap[q7]? = some (.cells (pt ⟨vk, vl, vo, vf, vb, ((b.drop 16).take 32).take k ++ zb (32 - k), [0, 0, 0, 0]⟩) 37)) 32
      ⟨0, by omega, rfl, by simp, by simp, by simp, by simp, by simp, by simp, by simp, R6, ch, B7'⟩ ?_
    clear R6 ch B7' B7 hW h6 e6 g6 ks ko cx m4 z7 cS h6' hs6 ho6 u0 u1 u2 u3
    rintro J hJ _ f wr ⟨k, hk, rfl, h2, h3, h4, h5, hf6, h7, h12, R6, ch, B7⟩
    by_cases hk32 : k < 32
    · have hki : (k : Int) < 32 := by omega
      obtain ⟨s6, h6, hs6, ho6⟩ := R6
      obtain ⟨A6, n6, C6, rfl⟩ := lit hs6
      have e6 := fun i => cell_blk h6 i
      simp [go_sem, h12, hki, hf6, e6]
      refine (refNumM _ (b.drop (16 + k)) 0 1 own wr (by first | omega | (simp; omega)) (by omega) ⟨_, rfl, hs6, ho6⟩ (fun k hk => by have := hown k hk; have := ch.size; omega)).mono ?_
      obtain ⟨c, hc⟩ : ∃ c, b[16 + k]? = some c := ⟨_, List.getElem?_eq_getElem (by omega)⟩
      have rk : rawS (b.drop (16 + k)) 0 1 = ([c], b.drop (16 + (k + 1)), 0) := by
        have hd : b.drop (16 + k) = c :: b.drop (16 + (k + 1)) := by
          rw [List.drop_eq_getElem_cons (show 16 + k < b.length by omega)]
          congr 1
          have := List.getElem?_eq_getElem (show 16 + k < b.length by omega)
          rw [hc] at this
          exact (Option.some.inj this).symm
        simp [rawS, hd]
      rw [rk]
      dsimp only
      rintro _ y10 ⟨_, rfl, ⟨sx, rfl, ks, ko⟩, cx⟩
      obtain ⟨Ax, nx, Cx, rfl⟩ := lit ks
      have h6 := cx.hp h6 id
      have B7 := cx.hp B7 id
      have ch := ch.trans cx
      have hcn : fromLe [c] = c.toNat := by simp [fromLe]
      have hcc : IntKind.u8.wrap (c.toNat : Int) = c.toNat := by have := c.toNat_lt; simp [IntKind.wrap_u8]; omega
      simp [go_sem, hcn]
      have cA := (Ch.refl Nw y10).alloc (.cells #[.slice Ax nx Cx, .int .i64 0] 115)
      have h6 := cA.hp h6 id
      have B7 := cA.hp B7 id
      have ch := ch.trans cA
      have ks := ks.ch cA fun _ _ e => e
      revert h6 B7 ch ks
      generalize y10.alloc (.cells #[.slice Ax nx Cx, .int .i64 0] 115) = wA
      intro h6 B7 ch ks
      have e6 := fun i => cell_blk h6 i
      have g6 := fun i => frz_blk h6 i
      have z7 := fun i => frz_blk B7 i
      have okk : PtOk ⟨vk, vl, vo, vf, vb, ((b.drop 16).take 32).take k ++ zb (32 - k), [0, 0, 0, 0]⟩ :=
        ⟨hok.1, hok.2.1, hok.2.2.1, hok.2.2.2.1, hok.2.2.2.2, by simp [zb, hb]; omega, rfl, ptz_ok.at'⟩
      have hin := (cell_blk B7 (5 + k)).trans (pt_h_at (i := k) (c := 0) (by
        show (((b.drop 16).take 32).take k ++ zb (32 - k))[k]? = _
        rw [List.getElem?_append_right (by rw [List.length_take]; omega), List.length_take, hHl, zb, List.getElem?_replicate, if_pos (by omega)]) okk)
      have hwk : IntKind.i64.wrap ((k : Int) + 1) = ((k + 1 : Nat) : Int) := by simp [IntKind.wrap_i64]; omega
      simp [go_sem, hf6, h7, h12, e6, g6, z7, hin, hcc, hki, hwk]
      have R6 := put2_rc (e := 0) h6 ks ko fun k hk e => by have := hown' k hk; omega
      have cS := (Ch.refl (only q7) (put2 wA q6 (.slice Ax nx Cx) 0)).setCell (p := ⟨q7, 5 + k, none⟩) (.inl rfl) (.int .u8 c.toNat)
      refine Rnd.intro (32 - (k + 1)) (by omega) (hJ _ _ _ ⟨k + 1, by omega, rfl, by simpa using h2, by simpa using h3, by simpa using h4, by simpa using h5, by simpa using hf6, by simpa using h7, by simp,
        R6.ch cS (by simp only [only]; omega) (fun k hk e => by have := hown' k hk; simp only [only] at e; omega), (put2_ch ch (.inr (by omega))).trans' cS (fun j hj e => by simp only [only] at e; omega), ?_⟩)
      show ((put2 wA q6 (.slice Ax nx Cx) 0).setCell ⟨q7, 5 + k, none⟩ (.int .u8 c.toNat)).heap[q7]? = _
      rw [hp_setCell, show (put2 wA q6 (.slice Ax nx Cx) 0).heap[q7]? = _ from (hp_setCell_ne _ _ _ _ (by show q7 ≠ q6; omega)).trans ((hp_setCell_ne _ _ _ _ (by show q7 ≠ q6; omega)).trans B7), setOf_cells, set_pt_h _ _ (by rw [okk.h]; omega)]
      congr 3
      simp only
      have hcH : ((b.drop 16).take 32)[k]? = some c := by
        rw [List.getElem?_take, if_pos hk32, List.getElem?_drop, hc]
      rw [List.set_append_right _ _ (by rw [List.length_take]; omega), List.length_take, hHl, show k - min k 32 = 0 by omega, show ((b.drop 16).take 32).take (k + 1) = ((b.drop 16).take 32).take k ++ ((b.drop 16).take 32)[k]?.toList from List.take_add_one, hcH, zb, show 32 - k = (32 - (k + 1)) + 1 by omega, List.replicate_succ, List.set_cons_zero]
      simp [zb]
    · obtain rfl : k = 32 := by omega
      simp only [Nat.sub_self, List.take_of_length_le (show ((b.drop 16).take 32).length ≤ 32 by omega), zb, List.replicate_zero, List.append_nil] at B7
      simp [go_sem, h12]
      refine v_loop (fun r f wr => ∃ k, k ≤ 4 ∧ r = 4 - k ∧ f 2 = .pointer (some ⟨q + 1, 0, none⟩) ∧ f 3 = .pointer (some ⟨q + 1 + 1, 0, none⟩) ∧ f 4 = .slice Ab nb Cb ∧ f 5 = .pointer (some ⟨q5, 0, none⟩) ∧ f 6 = .pointer (some ⟨q6, 0, none⟩) ∧ f 7 = .pointer (some ⟨q7, 0, none⟩) ∧ f 15 = .int .i64 k ∧
        RC wr q6 (b.drop (48 + 2 * k)) 0 own ∧ Ch Nw w3 wr ∧ wr.heap[q7]? = some (.cells (pt ⟨vk, vl, vo, vf, vb, (b.drop 16).take 32, (atOf b).take k ++ List.replicate (4 - k) 0⟩) 37)) 4
        ⟨0, by omega, rfl, by simp [h2], by simp [h3], by simp [h4], by simp [h5], by simp [hf6], by simp [h7], by simp, R6, ch, B7⟩ ?_
      clear R6 ch B7 h2 h3 h4 h5 hf6 h7 h12
      rintro J hJ _ f wr ⟨k, hk, rfl, h2, h3, h4, h5, hf6, h7, h15, R6, ch, B7⟩
      by_cases hk4 : k < 4
      · have hki : (k : Int) < 4 := by omega
        obtain ⟨s6, h6, hs6, ho6⟩ := R6
        obtain ⟨A6, n6, C6, rfl⟩ := lit hs6
        have e6 := fun i => cell_blk h6 i
        simp [go_sem, h15, hki, hf6, e6]
        refine (refNumM _ (b.drop (48 + 2 * k)) 0 2 own wr (by first | omega | (simp; omega)) (by omega) ⟨_, rfl, hs6, ho6⟩ (fun k hk => by have := hown k hk; have := ch.size; omega)).mono ?_
        have rk : rawS (b.drop (48 + 2 * k)) 0 2 = ((b.drop (48 + 2 * k)).take 2, b.drop (48 + 2 * (k + 1)), 0) := by
          simp [rawS, hb, show ¬ 64 - (48 + 2 * k) < 2 by omega, Nat.mul_add, Nat.add_assoc]
        obtain ⟨x, hx⟩ : ∃ x, fromLe ((b.drop (48 + 2 * k)).take 2) = x := ⟨_, rfl⟩
        rw [rk, hx]
        dsimp only
        rintro _ y10 ⟨_, rfl, ⟨sx, rfl, ks, ko⟩, cx⟩
        obtain ⟨Ax, nx, Cx, rfl⟩ := lit ks
        have h6 := cx.hp h6 id
        have B7 := cx.hp B7 id
        have ch := ch.trans cx
        have hxl : x < 65536 := by rw [← hx]; exact cut_lt hb (48 + 2 * k) 2 (by omega)
        have hcc : IntKind.u16.wrap (x : Int) = x := by simp [IntKind.wrap_u16]; omega
        simp [go_sem]
        have cA := (Ch.refl Nw y10).alloc (.cells #[.slice Ax nx Cx, .int .i64 0] 115)
        have h6 := cA.hp h6 id
        have B7 := cA.hp B7 id
        have ch := ch.trans cA
        have ks := ks.ch cA fun _ _ e => e
        revert h6 B7 ch ks
        generalize y10.alloc (.cells #[.slice Ax nx Cx, .int .i64 0] 115) = wA
        intro h6 B7 ch ks
        have e6 := fun i => cell_blk h6 i
        have g6 := fun i => frz_blk h6 i
        have z7 := fun i => frz_blk B7 i
        have hAl : (atOf b).length = 4 := rfl
        have okk : PtOk ⟨vk, vl, vo, vf, vb, (b.drop 16).take 32, (atOf b).take k ++ List.replicate (4 - k) 0⟩ := by
          refine ⟨hok.1, hok.2.1, hok.2.2.1, hok.2.2.2.1, hok.2.2.2.2, hHl, by simp [hAl]; omega, fun y hy => ?_⟩
          rcases List.mem_append.1 hy with h | h
          · exact ok.at' y (List.mem_of_mem_take h)
          · rw [(List.mem_replicate.1 h).2]; decide
        have hin := (cell_blk B7 (37 + k)).trans (pt_a okk (i := k) (x := 0) (by
          show ((atOf b).take k ++ List.replicate (4 - k) 0)[k]? = _
          rw [List.getElem?_append_right (by rw [List.length_take]; omega), List.length_take, List.getElem?_replicate, if_pos (by omega)]))
        have hwk : IntKind.i64.wrap ((k : Int) + 1) = ((k + 1 : Nat) : Int) := by simp [IntKind.wrap_i64]; omega
        simp [go_sem, hf6, h7, h15, e6, g6, z7, hin, hcc, hki, hwk]
        have R6 := put2_rc (e := 0) h6 ks ko fun k hk e => by have := hown' k hk; omega
        have cS := (Ch.refl (only q7) (put2 wA q6 (.slice Ax nx Cx) 0)).setCell (p := ⟨q7, 37 + k, none⟩) (.inl rfl) (.int .u16 x)
        refine Rnd.intro (4 - (k + 1)) (by omega) (hJ _ _ _ ⟨k + 1, by omega, rfl, by simpa using h2, by simpa using h3, by simpa using h4, by simpa using h5, by simpa using hf6, by simpa using h7, by simp,
          R6.ch cS (by simp only [only]; omega) (fun k hk e => by have := hown' k hk; simp only [only] at e; omega), (put2_ch ch (.inr (by omega))).trans' cS (fun j hj e => by simp only [only] at e; omega), ?_⟩)
        show ((put2 wA q6 (.slice Ax nx Cx) 0).setCell ⟨q7, 37 + k, none⟩ (.int .u16 x)).heap[q7]? = _
        rw [hp_setCell, show (put2 wA q6 (.slice Ax nx Cx) 0).heap[q7]? = _ from (hp_setCell_ne _ _ _ _ (by show q7 ≠ q6; omega)).trans ((hp_setCell_ne _ _ _ _ (by show q7 ≠ q6; omega)).trans B7), setOf_cells, set_pt_a hHl]
        congr 3
        simp only
        have hxk : (atOf b)[k]? = some x := by
          rw [← hx]
          match k, hk4 with
          | 0, _ => rfl
          | 1, _ => rfl
          | 2, _ => rfl
          | 3, _ => rfl
        rw [List.set_append_right _ _ (by rw [List.length_take]; omega), List.length_take, hAl, show k - min k 4 = 0 by omega, show (atOf b).take (k + 1) = (atOf b).take k ++ (atOf b)[k]?.toList from List.take_add_one, hxk, show 4 - k = (4 - (k + 1)) + 1 by omega, List.replicate_succ, List.set_cons_zero]
        simp
      · obtain rfl : k = 4 := by omega
        have hpe : (⟨vk, vl, vo, vf, vb, (b.drop 16).take 32, (atOf b).take 4 ++ List.replicate (4 - 4) 0⟩ : Pt) = ptOf b := by
          rw [← hvk, ← hvl, ← hvo, ← hvf, ← hvb]
          rfl
        rw [hpe] at B7
        simp [go_sem, h15]
        have sx := fun {w : World} {v : Value} {l : List UInt8} {n : Nat} (h : Sl w v n (bvs l)) (hn : l.length = n) => h.str (P := Tryz.prog) hn Tryz.underlying62 Tryz.underlying5 Tryz.underlying9
        have sb1 := sx (ksb.ch (ch.drew) fun _ _ e => e) rfl
        have sz' := pt_size ok
        have al' := pt_all ok
        refine v_draw' [(0, none), (3, none), (4, none), (1, some [3, 4]), (2, none), (5, none), (6, none), (7, none), (8, none), (9, none), (10, none), (11, none), (12, some []), (13, none), (14, none), (15, none)] (by kernel_rfl) (by kernel_rfl) ?_
        have B7d : wr.drew.heap[q7]? = _ := B7
        simp [go_sem, h4, h7, B7, sz', al', sb1]
        refine (rbytes_any (ptOf b) _ ok).mono ?_
        rintro v2 wB hM
        have cB := hM.ch
        have sb2 := sx (ksb.ch (ch.drew.trans cB) fun _ _ e => e) rfl
        have sv2 := sx (Sl.of_own hM.own) (putP_length ok)
        have B8 := cB.hp B7d id
        simp [go_sem, h4, sb2, sv2]
        by_cases hnz : nz (b.drop 56) = true
        · have htk : ¬ tkOk b = true := by simp [tkOk, hnz]
          have hne : (putP (ptOf b) == b) = false := beq_false_of_ne fun h => by rw [(put_ptOf_iff hb).1 h] at hnz; cases hnz
          simp [go_sem, hne]
          have b1u := (ch.drew.trans cB).hp b1 id
          have b2u := (ch.drew.trans cB).hp b2 id
          have e2u := fun i => cell_blk b2u i
          have f2u := fun i => frz_blk b2u i
          have hb3 : (wB.setRow (q + 1) (pt ptz)).heap[q + 1]? = some (.cells (pt ptz) 37 (0, 0)) := by rw [hp_setRow, b1u]; rfl
          have hb2 : (wB.setRow (q + 1) (pt ptz)).heap[q + 1 + 1]? = some (.cells #[.slice none 0 0, .int .i64 0] 115 (0, 0)) := by rw [hp_setRow_ne _ _ _ _ (by omega), b2u]
          have e2' := fun i => cell_blk hb2 i
          have f2' := fun i => frz_blk hb2 i
          simp [go_sem, h2, h3, bld_pt0, b1u, hsz, hall, blit_whole, hb3, e2', f2', hb2]
          refine hR _ _ ⟨_, by rw [eS, if_neg htk], ?_, (((c13.trans (ch.drew.trans cB)).setRow (.inr (by omega)) _).setCell (.inr (by show w.heap.size ≤ q + 1 + 1; omega)) _ |>.setCell (.inr (by show w.heap.size ≤ q + 1 + 1; omega)) _)⟩
          rw [eS, if_neg htk]
          exact ⟨_, rfl, Sl.nil _, .inr rfl⟩
        · simp only [Bool.not_eq_true] at hnz
          have hne : (putP (ptOf b) == b) = true := by rw [(put_ptOf_iff hb).2 hnz]; simp
          by_cases hpz : ptOf b = ptz
          · have htk : tkOk b = true := by simp [tkOk, hnz, hpz]
            have heqz := fun w => eq_pt w ptz_ok ptz_ok
            have B8' := B8
            rw [hpz] at B8'
            simp [go_sem, hne, h7, B8', hsz, hall, bld_pt0, heqz]
            refine v_draw' [(0, none), (1, none), (2, some [1]), (3, some [])] (by kernel_rfl) (by kernel_rfl) ?_
            have b1u := (ch.drew.trans cB).hp b1 id
            have b2u := (ch.drew.trans cB).hp b2 id
            have b5u := (ch.drew.trans cB).hp b5 id
            have e5 := fun i => cell_blk b5u i
            have hb3 : (wB.setRow (q + 1) (pt (ptOf b))).heap[q + 1]? = some (.cells (pt (ptOf b)) 37 (0, 0)) := by rw [hp_setRow, b1u]; rfl
            have hb5 : (wB.setRow (q + 1) (pt (ptOf b))).heap[q5]? = some (.cells #[.slice A2 n2 C2, .int .i64 0] 115 (0, 0)) := by rw [hp_setRow_ne _ _ _ _ (by omega), b5u]
            have hb2 : (wB.setRow (q + 1) (pt (ptOf b))).heap[q + 1 + 1]? = some (.cells #[.slice none 0 0, .int .i64 0] 115 (0, 0)) := by rw [hp_setRow_ne _ _ _ _ (by omega), b2u]
            have e5' := fun i => cell_blk hb5 i
            have e2' := fun i => cell_blk hb2 i
            have f2' := fun i => frz_blk hb2 i
            simp [go_sem, h2, h3, h5, h7, B8, b1u, e5, sz', al', hsz, blit_whole, hb3, e5', e2', f2', hb2]
            refine hR _ _ ⟨_, by rw [eS, if_pos htk], ?_, ((((c13.trans (ch.drew.trans cB)).setRow (.inr (by omega)) _).setCell (.inr (by show w.heap.size ≤ q + 1 + 1; omega)) _ |>.setCell (.inr (by show w.heap.size ≤ q + 1 + 1; omega)) _)).drew⟩
            rw [eS, if_pos htk]
            have c3S : Ch (fun k => k = q + 1 ∨ k = q + 1 + 1) w3 (put2 (wB.setRow (q + 1) (pt (ptOf b))) (q + 1 + 1) (.slice A2 n2 C2) 0) := put2_ch ((((ch.drew.trans cB).mono fun _ _ e => e.elim)).setRow (.inl (.inl rfl)) _) (.inl (.inr rfl))
            exact ⟨_, rfl, ks2.ch c3S.drew (own_or (fun k hk e => by have := hown k hk; omega) k4), k4⟩
          · have heqz := fun w => eq_pt w ok ptz_ok
            simp [go_sem, hne, h7, B8, sz', al', bld_pt0, heqz, hpz]
            refine (rmay_any (ptOf b) _ ok).mono ?_
            rintro _ wC ⟨rfl, cC⟩
            have B9 := cC.hp B8 id
            rw [mayR_eq _ ok]
            cases hm : mayP (ptOf b)
            · have htk : ¬ tkOk b = true := by simp [tkOk, hnz, hpz, hm]
              simp [go_sem]
              have b1u := ((ch.drew.trans cB).trans cC).hp b1 id
              have b2u := ((ch.drew.trans cB).trans cC).hp b2 id
              have e2u := fun i => cell_blk b2u i
              have f2u := fun i => frz_blk b2u i
              have hb3 : (wC.setRow (q + 1) (pt ptz)).heap[q + 1]? = some (.cells (pt ptz) 37 (0, 0)) := by rw [hp_setRow, b1u]; rfl
              have hb2 : (wC.setRow (q + 1) (pt ptz)).heap[q + 1 + 1]? = some (.cells #[.slice none 0 0, .int .i64 0] 115 (0, 0)) := by rw [hp_setRow_ne _ _ _ _ (by omega), b2u]
              have e2' := fun i => cell_blk hb2 i
              have f2' := fun i => frz_blk hb2 i
              simp [go_sem, h2, h3, bld_pt0, b1u, hsz, hall, blit_whole, hb3, e2', f2', hb2]
              refine hR _ _ ⟨_, by rw [eS, if_neg htk], ?_, (((c13.trans ((ch.drew.trans cB).trans cC)).setRow (.inr (by omega)) _).setCell (.inr (by show w.heap.size ≤ q + 1 + 1; omega)) _ |>.setCell (.inr (by show w.heap.size ≤ q + 1 + 1; omega)) _)⟩
              rw [eS, if_neg htk]
              exact ⟨_, rfl, Sl.nil _, .inr rfl⟩
            · have htk : tkOk b = true := by simp [tkOk, hnz, hpz, hm]
              simp [go_sem]
              refine v_draw' [(0, none), (1, none), (2, some [1]), (3, some [])] (by kernel_rfl) (by kernel_rfl) ?_
              have b1u := ((ch.drew.trans cB).trans cC).hp b1 id
              have b2u := ((ch.drew.trans cB).trans cC).hp b2 id
              have b5u := ((ch.drew.trans cB).trans cC).hp b5 id
              have e5 := fun i => cell_blk b5u i
              have hb3 : (wC.setRow (q + 1) (pt (ptOf b))).heap[q + 1]? = some (.cells (pt (ptOf b)) 37 (0, 0)) := by rw [hp_setRow, b1u]; rfl
              have hb5 : (wC.setRow (q + 1) (pt (ptOf b))).heap[q5]? = some (.cells #[.slice A2 n2 C2, .int .i64 0] 115 (0, 0)) := by rw [hp_setRow_ne _ _ _ _ (by omega), b5u]
              have hb2 : (wC.setRow (q + 1) (pt (ptOf b))).heap[q + 1 + 1]? = some (.cells #[.slice none 0 0, .int .i64 0] 115 (0, 0)) := by rw [hp_setRow_ne _ _ _ _ (by omega), b2u]
              have e5' := fun i => cell_blk hb5 i
              have e2' := fun i => cell_blk hb2 i
              have f2' := fun i => frz_blk hb2 i
              simp [go_sem, h2, h3, h5, h7, B9, b1u, e5, sz', al', hsz, blit_whole, hb3, e5', e2', f2', hb2]
              refine hR _ _ ⟨_, by rw [eS, if_pos htk], ?_, ((((c13.trans ((ch.drew.trans cB).trans cC)).setRow (.inr (by omega)) _).setCell (.inr (by show w.heap.size ≤ q + 1 + 1; omega)) _ |>.setCell (.inr (by show w.heap.size ≤ q + 1 + 1; omega)) _)).drew⟩
              rw [eS, if_pos htk]
              have c3S : Ch (fun k => k = q + 1 ∨ k = q + 1 + 1) w3 (put2 (wC.setRow (q + 1) (pt (ptOf b))) (q + 1 + 1) (.slice A2 n2 C2) 0) := put2_ch (((((ch.drew.trans cB).trans cC).mono fun _ _ e => e.elim)).setRow (.inl (.inl rfl)) _) (.inl (.inr rfl))
              exact ⟨_, rfl, ks2.ch c3S.drew (own_or (fun k hk e => by have := hown k hk; omega) k4), k4⟩
end Go.Proofs.YtnefdmbdkljifaaGreatDoor
