/- Tables: Set, of any sink. Conditions: the variables ptr.wide and tree.hole hold what the text lays. -/
import Derived.Test.YtnefdmbdkljifaaGreatDoorTbN
import Derived.Test.YtnefdmbdkljifaaGreatDoorSpH
set_option linter.unusedSimpArgs false
set_option linter.unusedVariables false

namespace Go.Proofs.YtnefdmbdkljifaaGreatDoor
open Go.RowKit Go.Kin Go.Maps

theorem nodup_lt {n : Nat} : ∀ (m : Nat) (xs : List (Fin n)), xs.Nodup → (∀ a ∈ xs, a.val < m) → xs.length ≤ m
  | 0, xs, _, h => by
    cases xs with
    | nil => simp
    | cons a xs => have := h a (by simp); omega
  | m + 1, xs, hn, h => by
    by_cases hm : ∃ a ∈ xs, a.val = m
    · obtain ⟨a, ha, hav⟩ := hm
      have h1 := nodup_lt m (xs.erase a) (hn.erase a) fun c hc => by
        have h2 := h c (List.mem_of_mem_erase hc)
        have h3 : c ≠ a := fun e => by
          subst e
          exact (List.Nodup.not_mem_erase hn) hc
        have h4 : c.val ≠ a.val := fun e => h3 (Fin.ext e)
        omega
      rw [List.length_erase_of_mem ha] at h1
      omega
    · have h1 := nodup_lt m xs hn fun c hc => by
        have h2 := h c hc
        have h3 : c.val ≠ m := fun e => hm ⟨c, hc, e⟩
        omega
      omega
theorem keys_offs {F : Off → Option Value} {l : List (Nat × In)} (his : ∀ o : Off, (F o).isSome = true ↔ btgrp l o.val ≠ []) (hl : ∀ x ∈ l, x.1 ≤ 255) {xs : List Off} (hK : S32.Keys F xs) : (∀ a ∈ xs, a.val < 64) ∧ (xs.Pairwise (fun a b => a < b) → xs.map (fun a : Off => a.val) = offsL l) := by
  have h64 : ∀ a ∈ xs, a.val < 64 := fun a ha => by
    have h1 := (his a).1 ((hK.2 a).1 ha)
    obtain ⟨x, hx⟩ := List.exists_mem_of_ne_nil _ h1
    obtain ⟨h2, h3⟩ := btgrp_mem.1 hx
    have := hl x h2
    omega
  refine ⟨h64, fun hp => rise_ext ?_ (offsL_rise l) fun o => ?_⟩
  · rw [List.pairwise_map]
    exact hp
  · rw [List.mem_map, offsL_mem]
    constructor
    · rintro ⟨a, ha, rfl⟩
      exact ⟨h64 a ha, (his a).1 ((hK.2 a).1 ha)⟩
    · rintro ⟨h1, h2⟩
      exact ⟨⟨o, by omega⟩, (hK.2 _).2 ((his _).2 h2), rfl⟩
theorem al4 (w : World) (A B C D : Obj) : ∃ W, (((w.alloc A).alloc B).alloc C).alloc D = W ∧ W.heap[w.heap.size]? = some A ∧ W.heap[w.heap.size + 1]? = some B ∧ W.heap[w.heap.size + 2]? = some C ∧ W.heap[w.heap.size + 3]? = some D ∧ W.heap.size = w.heap.size + 4 ∧ Ch Nw w W := by
  refine ⟨_, rfl, ?_, ?_, ?_, ?_, by simp, ((((Ch.refl Nw w).alloc _).alloc _).alloc _).alloc _⟩
  · rw [hp_alloc_lt _ _ _ (by simp <;> omega), hp_alloc_lt _ _ _ (by simp <;> omega), hp_alloc_lt _ _ _ (by simp <;> omega), hp_alloc]
  · rw [hp_alloc_lt _ _ _ (by simp <;> omega), hp_alloc_lt _ _ _ (by simp <;> omega)]
    simp
  · rw [hp_alloc_lt _ _ _ (by simp <;> omega)]
    simp
  · simp
/-- a cut of a row from its start, with no room behind it -/
theorem cut3S {P : Program} {t e : TypeId} {z : Value} {size bytes g n c : Nat} (T : TyS P t e z size bytes) (hn : 0 < n) (hnc : n ≤ c) (w : World) : (Instr.sliceAt t (.slice (some ⟨g, 0, none⟩) n c) none (some (.int .i64 n)) (some (.int .i64 n))).run P w = .ok (.slice (some ⟨g, 0, none⟩) n n) w := by
  obtain ⟨i, hi, _, hsz, _⟩ := info_parts T.info
  have hc1' : ¬ c < n := by omega
  have h0 : ¬ n = 0 := by omega
  simp [Instr.sliceAt, Instr.slice, Instr.sliceBounds, Instr.sliceBound, asIntOf, run_underlying T.und, sizeOf, typeInfo, hi, hc1', h0, Addr.add]
theorem lst_recap {α : Type} {w : World} {A : Option Addr} {c c' k : Nat} {en : α → List Value} {L : List α} (h : Lst w (.slice A L.length c) en k L) (h1 : L.length ≤ c') (h2 : c' ≤ maxLen) : Lst w (.slice A L.length c') en k L := by
  obtain ⟨A2, c2, e, _, _, h3⟩ := h
  injection e with e1 _ _
  subst e1
  exact ⟨A, c', rfl, h1, h2, h3⟩
section
variable {σ : Type} {H : σ → HP} {m : σ → Nat} {rd : Src σ} {nw : σ → Pt → List UInt8 → σ × Pt × Int} {od : σ → Pt → σ} {bt : TypeId} {bv : Value} {s : σ} {w w' : World} {O : Nat → Prop}
set_option maxRecDepth 100000 in
set_option maxHeartbeats 8000000 in
theorem btset_any (hs : SnkOk H m rd nw od (.iface bt bv)) (hm : 9000 ≤ m s) (hH : ∀ s, HOk (H s)) (h : H s w O) (p : Pt) (ok : PtOk p) (lv : Value) (l : List (Nat × In)) (hl : Lst w lv itL 45 l) (hin : ∀ x ∈ l, ItOk x) (hlO : ∀ j, lv.ownBlock = some j → ¬ O j ∧ j < w.heap.size) (hll : l.length ≤ 1000) (env : TEnv w) (hg : GlOk H O) :
    Ret Tryz.prog 8 #[.iface bt bv, .agg (pt p), lv] w fun v' w' => v' = .tuple #[.agg (pt (btset rd nw od s p l).2.1), .int .i64 (btset rd nw od s p l).2.2] ∧ PtOk (btset rd nw od s p l).2.1 ∧ H (btset rd nw od s p l).1 w' (Gr O w w') ∧ Ch O w w' := by
  refine v_enter Tryz.func8 Tryz.ntmps8 rfl (by simp) fun R' hR => ?_
  have hps := pt_size ok
  have hpa := pt_all ok
  have hzs := pt_size ptz_ok
  have hza := pt_all ptz_ok
  have hOl := (hH s).lt h
  have nO : ∀ j, w.heap.size ≤ j → ¬ O j := fun j hj e => by have := hOl j e; omega
  have hlen := hl.len Tryz.underlying43 3
  obtain ⟨W1, hW1, b0, b1, b2, b3, sa, ca⟩ := al4 w (.cells (pt p) 37) (.cells (pt ptz) 37) (.map #[] 0) (.cells #[.map (some (w.heap.size + 2))] 79)
  have hmm : ∀ (t : TypeId) (w : World), (Instr.makeMap t none).run Tryz.prog w = .ok (.map (some w.heap.size)) (w.alloc (.map #[] 0)) := fun _ _ => rfl
  have hzi := pt_size ptz_ok
  simp [go_sem, hps, hpa, hz_pt, zc_pt, hlen, hmm]
  obtain ⟨g, hgs⟩ : ∃ g, w.heap.size = g := ⟨_, rfl⟩
  rw [hgs] at b0 b1 b2 b3 sa hW1 ⊢
  rw [hW1]
  clear hW1
  obtain ⟨d0, d1, d2, b3', cw2, s2⟩ : W1.heap[g]? = some (.cells (pt p) 37 (0, 0)) ∧ W1.heap[g + 1]? = some (.cells (pt ptz) 37 (0, 0)) ∧ W1.heap[g + 2]? = some (.map #[] 0) ∧ W1.heap[g + 3]? = some (.cells #[.map (some (g + 2))] 79 (0, 0)) ∧ Ch Nw w W1 ∧ W1.heap.size = g + 4 := ⟨b0, b1, b2, b3, ca, sa⟩
  clear b0 b1 b2 b3 ca sa
  have hl2 := hl.ch cw2 fun _ _ _ e => e
  have env2 := env.ch cw2 fun _ _ e => e
  have g2 : Grp (g + 4) (g + 2) (fun _ => none) [] W1 := ⟨⟨_, ⟨#[], 0, d2, ⟨by simp, MapKept.stamped_empty 0, by simp⟩, Nat.le_refl _, rfl⟩, fun a => rfl⟩, fun o => World.ownsRow_nil _ _ _ _, fun o => by simp [btgrp], fun o k hk => by simp [gv, Value.ownBlock] at hk, fun o o' k hk => by simp [gv, Value.ownBlock] at hk⟩
  have hgT : ∀ k, glT k → k < g := fun k hk => by have := env.lt k hk; omega
  refine v_loop (fun r f u => ∃ i F, r = l.length - i ∧ i ≤ l.length ∧ f 0 = .iface bt bv ∧ f 2 = lv ∧ f 4 = .pointer (some ⟨g, 0, none⟩) ∧ f 6 = .pointer (some ⟨g + 1, 0, none⟩) ∧ f 8 = .pointer (some ⟨g + 3, 0, none⟩) ∧ f 9 = .func (.func 23) #[] #[.pointer (some ⟨g + 3, 0, none⟩)] ∧
      f 24 = lv ∧ f 25 = .int .i64 l.length ∧ f 26 = .int .i64 (i : Nat) ∧ btOk none l = btOk (prevI l i) (l.drop i) ∧ (∀ x ∈ l.take i, x.1 ≤ 255) ∧ Grp (g + 4) (g + 2) F (l.take i) u ∧ Ch (Kin.one (g + 2)) W1 u) l.length
    ⟨0, _, rfl, Nat.zero_le _, by simp, by simp, by simp, by simp, by simp, by simp, by simp, by simp, by simp, rfl, by simp, by simpa using g2, Ch.refl _ _⟩ ?_
  rintro J hJ _ f u ⟨i, F, rfl, hi, f0, f2, f4, f6, f8, f9, f24, f25, f26, hok, h255, hG, cu⟩
  have hsu := cu.size
  have cwu : Ch Nw w u := cw2.trans' cu fun k hk e => by simp only [Kin.one] at e; omega
  have envu := env.ch cwu fun _ _ e => e
  have hu := (hH s).ch h cwu fun _ _ e => e
  have u0 := cu.obj d0 fun e => by simp only [Kin.one] at e; omega
  have u1 := cu.obj d1 fun e => by simp only [Kin.one] at e; omega
  have u3 := cu.obj b3' fun e => by simp only [Kin.one] at e; omega
  have hlu := hl.ch cwu fun _ _ _ e => e
  have fin : ∀ {W : World} {x : σ × Pt × Int} {Q : Nat → Prop}, btset rd nw od s p l = x → PtOk x.2.1 → H x.1 W Q → ¬ Q (g + 1) → (∀ k, Q k → Gr O w W k) → Ch O w W → R' (.tuple #[.agg (pt x.2.1), .int .i64 x.2.2]) (W.setRow (g + 1) (pt x.2.1)) := fun {W x Q} e okx a nq hQ c => by
    subst e
    have hsW := c.size
    have c' : Ch (Kin.one (g + 1)) W (W.setRow (g + 1) (pt (btset rd nw od s p l).2.1)) := (Ch.refl (Kin.one (g + 1)) W).setRow (.inl rfl) _
    have hs' := c'.size
    refine hR _ _ ⟨rfl, okx, (hH _).weak ((hH _).ch a c' fun k hk e => by simp only [Kin.one] at e; subst e; exact nq hk) (fun k hk => (hQ k hk).imp id fun e => ⟨e.1, by omega⟩) (Gr.lt hOl (by omega)), ?_⟩
    exact c.trans' c' fun k hk e => by simp only [Kin.one] at e; omega
  clear hR
  have bad : ∀ {W : World}, btOk none l = false → Ch Nw u W → R' (.tuple #[.agg (pt ptz), .int .i64 1]) (W.setRow (g + 1) (pt ptz)) := fun {W} e c => by
    have e2 : btset rd nw od s p l = (s, ptz, 1) := by unfold btset; rw [if_neg (by rw [e]; decide)]
    exact fin e2 ptz_ok ((hH s).ch hu c fun _ _ e => e) (nO _ (by omega)) (fun k hk => .inl hk) ((cwu.trans c).mono fun _ _ e => e.elim)
  by_cases hlt : i < l.length
  · have hii : (i : Int) < l.length := by omega
    obtain ⟨x, hx⟩ : ∃ x, l[i]? = some x := ⟨_, List.getElem?_eq_getElem hlt⟩
    have okx := hin x (List.mem_of_getElem? hx)
    have hxs := itv_size okx
    have hxa := itv_all okx
    have hxi := itv_i okx
    have hzt := itv_size itz_ok
    have hon := itv_ones (x := x)
    have hwi : IntKind.i64.wrap ((i : Int) + 1) = ((i + 1 : Nat) : Int) := by rw [IntKind.wrap_i64]; omega
    obtain ⟨b, off, c, cs, T, fr, hv, hb, h0, h1, h2, h3⟩ := it_at hlu hin hx
    have hcs : off + i * 45 + 45 ≤ cs.size := by omega
    have hstep := btOk_at l hx
    rw [show (if i = 0 then none else (l[i - 1]?).map (·.1)) = prevI l i from rfl, show (if i + 1 = 0 then none else (l[i + 1 - 1]?).map (·.1)) = prevI l (i + 1) from rfl] at hstep
    rw [hstep] at hok
    have hone : btOne l i x = (decide (1 ≤ x.1 ∧ x.1 ≤ 255) && mayI x.2 && (match prevI l i with | none => true | some z => decide (z < x.1))) := rfl
    have hbad : btOne l i x = false → btOk none l = false := fun e => by rw [hok, e]; rfl
    have c5 := (Ch.refl Nw u).alloc (.cells (itv x) 76)
    have b5 := hp_alloc u (.cells (itv x) 76)
    have s5 : (u.alloc (.cells (itv x) 76)).heap.size = u.heap.size + 1 := by simp
    obtain ⟨w5, hw5⟩ : ∃ w5, u.alloc (.cells (itv x) 76) = w5 := ⟨_, rfl⟩
    rw [hw5] at c5 b5 s5
    have f24' := f24
    have f2' := f2
    rw [hv] at f24' f2'
    simp [go_sem, f24', f25, f26, hii, hlt, hb, h3, hcs, hz_it, zc_it, hon, hzt, hxs, hxa, blit_whole, hw5]
    clear hw5
    obtain ⟨gx, hgx⟩ : ∃ gx, u.heap.size = gx := ⟨_, rfl⟩
    rw [hgx] at b5 s5 ⊢
    have cx0 := (cell_blk b5 0).trans (itv_0 (x := x))
    have env5 := envu.ch c5 fun _ _ e => e
    refine v_draw' [(0, none), (1, none), (2, some []), (3, none), (4, none), (5, none), (6, none), (7, some []), (8, none), (9, none), (10, none), (11, none), (12, none), (13, none), (14, none), (15, none), (16, none), (17, none), (18, none), (19, none), (20, none), (21, none), (22, none), (23, none), (24, none)] (by kernel_rfl) (by kernel_rfl) ?_
    have c5d := c5.drew
    have b5d : w5.drew.heap[gx]? = some (.cells (itv x) 76 (0, 0)) := b5
    have cx0d : w5.drew.cell? ⟨gx, 0, none⟩ = some (.int .u16 x.1) := cx0
    have env5d := env5.ch (Ch.refl Nw w5).drew fun _ _ e => e
    have s5d : w5.drew.heap.size = gx + 1 := s5
    generalize w5.drew = w6 at *
    simp [go_sem, cx0d]
    refine (tbmay_any x.1 okx.n w6).mono ?_
    rintro _ w7 ⟨rfl, e7⟩
    subst e7
    by_cases g1 : 1 ≤ x.1 ∧ x.1 ≤ 255
    case neg =>
      have e := u1
      have b1' := c5d.obj u1 id
      simp [go_sem, g1, bld_pt0, f6, b1', hzs, hza, blit_whole]
      exact bad (hbad (by rw [hone, decide_eq_false g1]; rfl)) c5d
    rw [decide_eq_true g1, Bool.true_and] at hone
    simp [go_sem, g1, b5d, hxs, hxi]
    refine (imay_any x.2 w7 okx.i env5d.lw).mono ?_
    rintro _ w8 ⟨rfl, c8⟩
    have c58 := c5d.trans c8
    have b8 := c8.obj b5d id
    have b18 := c58.obj u1 id
    have cx8 := (cell_blk b8 0).trans (itv_0 (x := x))
    cases hmI : mayI x.2 with
    | false =>
      simp [go_sem, bld_pt0, f6, b18, hzs, hza, blit_whole]
      exact bad (hbad (by rw [hone, hmI]; rfl)) c58
    | true =>
    rw [hmI, Bool.true_and] at hone
    have hpr : prevI l i = none ∧ i = 0 ∨ ∃ y, 0 < i ∧ l[i - 1]? = some y ∧ prevI l i = some y.1 := by
      by_cases h0 : i = 0
      · exact .inl ⟨by unfold prevI; rw [if_pos h0], h0⟩
      · obtain ⟨y, hy⟩ : ∃ y, l[i - 1]? = some y := ⟨_, List.getElem?_eq_getElem (by omega)⟩
        exact .inr ⟨y, by omega, hy, by unfold prevI; rw [if_neg h0, hy]; rfl⟩
    rcases hpr with ⟨hp0, hk0⟩ | ⟨y, hk0, hy, hpy⟩
    case' inl =>
      rw [hp0] at hone
      have hone : btOne l i x = true := hone
      have hk0i : ¬ (0 : Int) < i := by omega
      have hk0n : ¬ 0 < i := by omega
      simp [go_sem, hk0i, hk0n, f9, b8, hxs, hxa]
    case' inr =>
      rw [hpy] at hone
      have hone : btOne l i x = decide (y.1 < x.1) := hone
      have hk0i : (0 : Int) < i := by omega
      have hk1l : i - 1 < l.length := by omega
      have hwk1 : IntKind.i64.wrap ((i : Int) - 1) = ((i - 1 : Nat) : Int) := by rw [IntKind.wrap_i64]; omega
      obtain ⟨b2, off2, c2, cs2, T2, fr2, hv2, hb2, h02, _⟩ := it_at (hlu.ch c58 fun _ _ _ e => e) hin hy
      rw [hv] at hv2
      injection hv2 with hA0 _ _
      injection hA0 with hA0
      injection hA0 with hA1 hA2
      subst hA1 hA2
      by_cases hyx : y.1 < x.1
      case' neg =>
        have hyi : (x.1 : Int) ≤ y.1 := by omega
        simp [go_sem, hk0, hk0i, hwk1, hk1l, f2', h02, cx8, hyi, bld_pt0, f6, b18, hzs, hza, blit_whole]
        exact bad (hbad (by rw [hone, decide_eq_false hyx])) c58
      have hyi : ¬ (x.1 : Int) ≤ y.1 := by omega
      rw [decide_eq_true hyx] at hone
      simp [go_sem, hk0, hk0i, hwk1, hk1l, f2', h02, cx8, hyi, f9, b8, hxs, hxa]
    all_goals
      have hfn : ∀ (x : List Value) (w : World), (callFunc 23 x.toArray).run Tryz.prog w = .ok (.enter 23 x.toArray) w := fun x w => by simp [go_sem]
      rw [VCall_closure _ _ _ _ [.pointer (some ⟨g + 3, 0, none⟩)] _ (hfn _ _)]
      have hs8 := c8.size
      have hG8 := hG.ch c58 id fun _ _ _ e => e
      refine (gather_any hG8 (c58.obj u3 id) (by omega) (by omega) (by omega) (by omega) okx (by rw [List.length_take]; omega)).mono ?_
      rintro v9 w9 ⟨F', hG9, c9⟩
      have htk : l.take i ++ [x] = l.take (i + 1) := by rw [List.take_add_one, hx]; rfl
      rw [htk] at hG9
      simp [go_sem, f26, hwi]
      refine Rnd.intro (l.length - (i + 1)) (by omega) (hJ _ _ _ ⟨i + 1, F', rfl, by omega, by simp [f0], by simp [f2], by simp [f4], by simp [f6], by simp [f8], by simp [f9], by simp [f24], by simp [f25], by simp, by rw [hok, hone]; rfl, fun z hz => ?_, hG9, (cu.trans (c58.mono fun _ _ e => e.elim)).trans' c9 fun j hj e => ?_⟩)
      · rw [← htk] at hz
        rcases List.mem_append.1 hz with hz | hz
        · exact h255 z hz
        · rw [List.mem_singleton] at hz
          rw [hz]
          exact g1.2
      · rcases e with e | e
        · exact e
        · omega
  obtain rfl : i = l.length := by omega
  rw [List.drop_of_length_le (Nat.le_refl _)] at hok
  rw [List.take_of_length_le (Nat.le_refl _)] at hG h255
  have hok : btOk none l = true := hok
  clear bad hi hlt
  have q3 := cell_blk u3 0
  simp [go_sem, f25, f26, f8, q3]
  refine (S32.keysf_any (g + 2) u).mono ?_
  rintro _ w4 ⟨rfl, e4⟩
  subst e4
  have c4 := (Ch.refl Nw u).alloc (.cells #[.map (some (g + 2))] 79)
  have b4 := hp_alloc u (.cells #[.map (some (g + 2))] 79)
  obtain ⟨q4, hq4⟩ : ∃ q4, u.heap.size = q4 := ⟨_, rfl⟩
  simp [go_sem]
  rw [hq4] at b4 ⊢
  generalize u.alloc (.cells #[.map (some (g + 2))] 79) = w4 at *
  have hK64 : ∀ xs, S32.Keys F xs → xs.length ≤ 255 := fun xs hK => Nat.le_trans (nodup_lt 64 xs hK.1 (keys_offs hG.is h255 hK).1) (by omega)
  refine (S32.sorted_any (q := q4) u hG.map (by omega) hK64 w4 c4 (cell_blk b4 0)).mono ?_
  rintro vk w5 ⟨xs, hK, hsort, hsl, c5, hfr⟩
  have c45 := c4.trans c5
  have hs5 := c45.size
  obtain ⟨h64, hoffs⟩ := keys_offs hG.is h255 hK
  have hoffs := hoffs hsort
  have hxl := offsL_len l
  rw [← hoffs, List.length_map] at hxl
  have hG5 := hG.ch c45 id fun _ _ _ e => e
  have v0 := c45.obj u0 id
  have v1 := c45.obj u1 id
  have v3 := c45.obj u3 id
  have env5 := envu.ch c45 fun _ _ e => e
  have h5 := (hH s).ch hu c45 fun _ _ e => e
  have cw5 : Ch Nw w w5 := cwu.trans c45
  have hklen := hsl.len Tryz.underlying85 3
  have hbs : btset rd nw od s p l = if (btgs rd nw p l (offsL l) s []).2.2 ≠ 0 then ((btgs rd nw p l (offsL l) s []).1, ptz, (btgs rd nw p l (offsL l) s []).2.2) else tset rd nw od 0 (btgs rd nw p l (offsL l) s []).1 p (btgs rd nw p l (offsL l) s []).2.1 := by
    unfold btset
    rw [if_pos hok]
  have hlf0 : ∀ x ∈ ([] : List (Nat × Pt)), LfOk x := by simp
  simp [go_sem, hklen]
  have fin5 : ∀ {W : World} {x : σ × Pt × Int} {Q : Nat → Prop}, btset rd nw od s p l = x → PtOk x.2.1 → H x.1 W Q → (∀ k, Q k → Gr O w5 W k) → Ch O w5 W → R' (.tuple #[.agg (pt x.2.1), .int .i64 x.2.2]) (W.setRow (g + 1) (pt x.2.1)) := fun {W x Q} e okx a hQ c => by
    have h1 := c.size
    have h2 := cw5.size
    exact fin e okx a (fun hk => (hQ _ hk).elim (nO _ (by omega)) fun e => by omega) (fun k hk => (hQ k hk).imp id fun e => ⟨by omega, e.2⟩) ((cw5.mono fun _ _ e => e.elim).trans c)
  refine v_loop (fun r f u => ∃ j s' acc vl Oc, r = xs.length - j ∧ j ≤ xs.length ∧ f 0 = .iface bt bv ∧ f 4 = .pointer (some ⟨g, 0, none⟩) ∧ f 6 = .pointer (some ⟨g + 1, 0, none⟩) ∧ f 8 = .pointer (some ⟨g + 3, 0, none⟩) ∧ f 12 = vl ∧ f 63 = vk ∧ f 64 = .int .i64 xs.length ∧ f 65 = .int .i64 (j : Nat) ∧
      btgs rd nw p l (offsL l) s [] = btgs rd nw p l ((offsL l).drop j) s' acc ∧ acc.length ≤ j ∧ (∀ x ∈ acc, LfOk x) ∧ u.ownsRow 0 93 42 vl acc.length (rowsL lfv acc) ∧ (∀ k, vl.ownBlock = some k → w5.heap.size ≤ k ∧ ¬ Oc k) ∧
      H s' u Oc ∧ (∀ k, Oc k → Gr O w5 u k) ∧ Ch O w5 u ∧ 64 * (xs.length - j) + 4200 ≤ m s') xs.length
    ⟨0, s, [], .slice none 0 0, O, rfl, Nat.zero_le _, by simp [f0], by simp [f4], by simp [f6], by simp [f8], by simp, by simp, by simp, by simp, rfl, by simp, hlf0, World.ownsRow_nil _ _ _ _, fun k hk => by simp [Value.ownBlock] at hk, h5, fun k hk => .inl hk, Ch.refl _ _, by omega⟩ ?_
  clear J hJ f f0 f2 f4 f6 f8 f9 f24 f25 f26
  rintro J hJ _ f u' ⟨j, s', acc, vl, Oc, rfl, hj, f0, f4, f6, f8, f12, f63, f64, f65, hgo, lacc, okacc, ow, fw, hu', hOc, cu', mu⟩
  have su' := cu'.size
  have hw5g : g ≤ w5.heap.size := by have := cw5.size; omega
  have nO5 : ∀ k, g ≤ k → ¬ O k := fun k hk => nO k (by omega)
  have x0 := cu'.obj v0 (nO5 _ (Nat.le_refl _))
  have x1 := cu'.obj v1 (nO5 _ (by omega))
  have x3 := cu'.obj v3 (nO5 _ (by omega))
  have y3 := cell_blk x3 0
  have env' := hg.env env5 cu' ⟨_, hu'⟩ fun _ _ e => e
  have hgO : GlOk H Oc := (hg.gr env5).mono hOc
  have hOcl := (hH _).lt hu'
  by_cases hlt : j < xs.length
  case neg =>
    obtain rfl : j = xs.length := by omega
    rw [List.drop_of_length_le (by rw [← hoffs, List.length_map]; omega), btgs] at hgo
    rw [hgo] at hbs
    simp only [ne_eq, not_true_eq_false, if_false] at hbs
    simp [go_sem, f64, f65, f0, f4, f12, x0, hps, hpa]
    have hLl : Lst u' vl lfL 42 acc := Lst.of_own ow fun a ha => lfv_size (okacc a ha)
    refine (tset_gl hs hH hu' p ok 0 vl acc (by omega) hLl okacc (fun k hk => ⟨(fw k hk).2, own_in ow k hk⟩) env' hgO (by decide)).mono ?_
    obtain ⟨⟨s6, q6, e6⟩, hT⟩ : ∃ x, tset rd nw od 0 s' p acc = x := ⟨_, rfl⟩
    rw [hT] at hbs ⊢
    rintro _ w6 ⟨rfl, ok6, h6, c6⟩
    have hs6 := c6.size
    have z1 := c6.obj x1 fun e => (hOc _ e).elim (nO5 _ (by omega)) fun e => by have := lt_of_block v1; omega
    have hq6 := pt_size ok6
    have hqa6 := pt_all ok6
    simp only at hq6 hqa6
    simp [go_sem, f6, z1, hq6, hqa6, hzs, blit_whole]
    refine fin5 hbs ok6 h6 (fun k hk => ?_) (cu'.trans' c6 fun k hk e => (hOc k e).elim id fun e => by omega)
    rcases hk with hk | hk
    · exact (hOc k hk).imp id fun e => ⟨e.1, by omega⟩
    · exact .inr ⟨by omega, hk.2⟩
  have hji : (j : Int) < xs.length := by omega
  obtain ⟨a, ha⟩ : ∃ a, xs[j]? = some a := ⟨_, List.getElem?_eq_getElem hlt⟩
  have ha64 := h64 a (List.mem_of_getElem? ha)
  have hdr : (offsL l).drop j = a.val :: (offsL l).drop (j + 1) := by
    have hl1 : j < (offsL l).length := by rw [← hoffs, List.length_map]; exact hlt
    rw [List.drop_eq_getElem_cons hl1]
    congr 1
    have e : (offsL l)[j]? = some a.val := by rw [← hoffs, List.getElem?_map, ha]; rfl
    rw [List.getElem?_eq_getElem hl1] at e
    exact Option.some.inj e
  rw [hdr, btgs] at hgo
  have hwj : IntKind.i64.wrap ((j : Int) + 1) = ((j + 1 : Nat) : Int) := by rw [IntKind.wrap_i64]; omega
  have hsl' := hsl.ch cu' fun k hk e => nO5 k (by have := hfr k hk; have := c4.size; omega) e
  obtain ⟨ad, hidx, hca, _⟩ := hsl'.at S32.ty (by simp [S32.ks]) (i := j) (u := .int .u32 a.val) (by simp [S32.ks, ha, kO])
  have hGu := hG5.ch cu' (nO5 _ (by omega)) fun o k hk e => nO5 k (by have := (hG5.fr o k hk).1; omega) e
  have hgne : btgrp l a.val ≠ [] := (hG5.is a).1 ((hK.2 a).1 (List.mem_of_getElem? ha))
  have hgn : 0 < (btgrp l a.val).length := List.length_pos_iff.2 hgne
  have hgin : ∀ x ∈ btgrp l a.val, ItOk x := fun x hx => hin x (btgrp_mem.1 hx).1
  obtain ⟨gr, cap, cur, hgv, hcap, hcapm, hgb, hgs2, _⟩ := ownS_blk (hGu.own a) hgn
  have hlk := hGu.map.look kysO Tryz.underlying79 (z := .slice none 0 0) (by kernel_rfl) a
  have hlk : (Instr.lookup 79 (.map (some (g + 2))) (.int .u32 a.val) false).run Tryz.prog u' = .ok (.slice (some ⟨gr, 0, none⟩) (btgrp l a.val).length cap) u' := by rw [← hgv]; exact hlk
  have hcut := fun w => cut3S tyIt (g := gr) hgn hcap w
  have hgl : Lst u' (.slice (some ⟨gr, 0, none⟩) (btgrp l a.val).length (btgrp l a.val).length) itL 45 (btgrp l a.val) := by
    have h1 : Lst u' (gv F a) itL 45 (btgrp l a.val) := Lst.of_own (hGu.own a) fun x hx => itv_size (hgin x hx)
    rw [hgv] at h1
    exact lst_recap h1 (Nat.le_refl _) (by omega)
  have hgr : g + 4 ≤ gr := (hG5.fr a gr (by rw [hgv]; rfl)).1
  have hgr5 : gr < w5.heap.size := own_in (hG5.own a) gr (by rw [hgv]; rfl)
  have hgrO : ¬ Oc gr := fun e => (hOc _ e).elim (nO5 _ (by omega)) fun e => by omega
  have hidx : ∀ w', (Instr.indexAt 85 vk (.int .i64 j)).run Tryz.prog w' = .ok (.pointer (some ad)) w' := hidx
  simp [go_sem, f63, f64, f65, hji, hidx, hca, f8, y3, hlk]
  have hmk := fun (W : World) (O' : Nat → Prop) (hW : H s' W O') (hc : Ch Nw u' W) (hO' : ∀ k, O' k → Oc k) => bmade_any hs (by omega) hH hW p ok a.val (by omega) (.slice (some ⟨gr, 0, none⟩) (btgrp l a.val).length (btgrp l a.val).length) (btgrp l a.val) (hgl.ch hc fun _ _ _ e => e) hgin (fun k hk => by
      simp [Value.ownBlock] at hk
      have := hc.size
      subst hk
      exact ⟨fun e => hgrO (hO' _ e), by omega⟩) (Nat.le_trans (btgrp_len l a.val) (by omega)) (env'.ch hc fun _ _ e => e) (hgO.mono hO')
  have hmm2 := bmade_m hs s' p a.val (btgrp l a.val)
  obtain ⟨⟨s6, p6, is6, e6⟩, hB⟩ : ∃ x, bmade rd nw s' p a.val (btgrp l a.val) = x := ⟨_, rfl⟩
  rw [hB] at hgo hmm2
  simp only at hgo hmm2
  simp only [hB] at hmk
  obtain ⟨I, hI⟩ : ∃ I : (Nat → Value) → World → Prop, I = fun f' W => ∃ gq O6, f' 0 = .iface bt bv ∧ f' 4 = .pointer (some ⟨g, 0, none⟩) ∧ f' 6 = .pointer (some ⟨g + 1, 0, none⟩) ∧ f' 8 = .pointer (some ⟨g + 3, 0, none⟩) ∧ f' 12 = vl ∧ f' 14 = .int .u32 a.val ∧ f' 16 = .pointer (some ⟨gq, 0, none⟩) ∧ f' 17 = .bool is6 ∧ f' 18 = .int .i64 e6 ∧ f' 63 = vk ∧ f' 64 = .int .i64 xs.length ∧ f' 65 = .int .i64 (j : Nat) ∧
      PtOk p6 ∧ W.heap[gq]? = some (.cells (pt p6) 37 (0, 0)) ∧ H s6 W O6 ∧ (∀ k, O6 k → Gr O w5 W k ∧ (Oc k ∨ u'.heap.size ≤ k)) ∧ Ch O w5 W ∧ W.ownsRow 0 93 42 vl acc.length (rowsL lfv acc) ∧ u'.heap.size ≤ W.heap.size := ⟨_, rfl⟩
  have hvl5 : ∀ k, vl.ownBlock = some k → k < u'.heap.size := own_in ow
  refine v_join I [[(0, none), (1, none), (2, none), (3, none), (4, none), (5, none), (6, none), (7, none), (8, none), (9, some []), (10, none), (11, none), (12, none), (13, none), (14, some [10, 11, 12, 13]), (15, some [12, 13]), (16, none), (17, none)],
    [(0, none), (1, none), (2, none), (3, none), (4, none), (5, none), (6, none), (7, none), (8, none), (14, some [0, 1, 2, 3, 4, 5, 6, 7, 8]), (9, some []), (10, none), (11, none), (12, none), (13, none), (15, some [12, 13]), (16, none), (17, none)]] (by kernel_rfl) (by kernel_rfl) ?_ ?_
  · intro plan hplan
    simp only [List.mem_cons, List.not_mem_nil, or_false] at hplan
    have cd : Ch Nw u' u'.drew := (Ch.refl _ _).drew
    have x0d : u'.drew.heap[g]? = some (.cells (pt p) 37 (0, 0)) := x0
    have hud : H s' u'.drew Oc := (hH _).ch hu' cd fun _ _ e => e
    have cud : Ch O w5 u'.drew := cu'.drew
    have owd : u'.drew.ownsRow 0 93 42 vl acc.length (rowsL lfv acc) := own_ch ow cd fun _ _ e => e
    have sud : u'.drew.heap.size = u'.heap.size := rfl
    obtain ⟨ud, hud'⟩ : ∃ ud, u'.drew = ud := ⟨_, rfl⟩
    rw [hud'] at cd x0d hud cud owd sud ⊢
    clear hud'
    rcases hplan with rfl | rfl
    · simp [go_sem, f0, f4, x0d, hps, hpa, hcut]
      refine (hmk ud Oc hud cd fun _ e => e).mono ?_
      rintro _ w6 ⟨rfl, ok6, h6, c6⟩
      have hs6 := c6.size
      have hq6 := pt_size ok6
      have hqa6 := pt_all ok6
      have c7 := (Ch.refl Nw w6).alloc (.cells (pt p6) 37)
      have b7 := hp_alloc w6 (.cells (pt p6) 37)
      have s7 : (w6.alloc (.cells (pt p6) 37)).heap.size = w6.heap.size + 1 := by simp
      simp [go_sem, hz_pt, zc_pt, hzs, hq6, blit_whole]
      rw [hI]
      refine ⟨w6.heap.size, Gr Oc ud w6, by simp [f0], by simp [f4], by simp [f6], by simp [f8], by simp [f12], by simp, by simp, by simp, by simp, by simp [f63], by simp [f64], by simp [f65], ok6, b7, (hH _).ch h6 c7 fun _ _ e => e, fun k hk => ?_, ?_, own_ch (own_ch owd c6 fun k hk => (fw k hk).2) c7 fun _ _ e => e, by omega⟩
      · rcases hk with hk | hk
        · exact ⟨(hOc k hk).imp id fun e => ⟨e.1, by omega⟩, .inl hk⟩
        · exact ⟨.inr ⟨by omega, by omega⟩, .inr (by omega)⟩
      · exact (cud.trans' c6 fun k hk e => (hOc k e).elim id fun e => by omega).trans (c7.mono fun _ _ e => e.elim)
    · have c7 := (Ch.refl Nw ud).alloc (.cells (pt ptz) 37)
      have b7 := hp_alloc ud (.cells (pt ptz) 37)
      have s7 : (ud.alloc (.cells (pt ptz) 37)).heap.size = ud.heap.size + 1 := by simp
      have x07 := c7.obj x0d id
      simp [go_sem, f0, f4, x0d, x07, hps, hpa, hcut, hz_pt, zc_pt]
      refine (hmk _ Oc ((hH _).ch hud c7 fun _ _ e => e) (cd.trans c7) fun _ e => e).mono ?_
      rintro _ w6 ⟨rfl, ok6, h6, c6⟩
      have hs6 := c6.size
      have hq6 := pt_size ok6
      have hqa6 := pt_all ok6
      have nq : ¬ Oc ud.heap.size := fun e => by have := hOcl _ e; omega
      have b76 := c6.obj b7 nq
      have c8 : Ch (Kin.one ud.heap.size) w6 (w6.setRow ud.heap.size (pt p6)) := (Ch.refl (Kin.one ud.heap.size) w6).setRow (.inl rfl) _
      have hs8 := c8.size
      have b8 : (w6.setRow ud.heap.size (pt p6)).heap[ud.heap.size]? = some (.cells (pt p6) 37 (0, 0)) := by rw [hp_setRow, b76]; rfl
      simp [go_sem, b76, hzs, hq6, blit_whole]
      rw [hI]
      refine ⟨ud.heap.size, Gr Oc (ud.alloc (.cells (pt ptz) 37)) w6, by simp [f0], by simp [f4], by simp [f6], by simp [f8], by simp [f12], by simp, by simp, by simp, by simp, by simp [f63], by simp [f64], by simp [f65], ok6, b8, (hH _).ch h6 c8 fun k hk e => ?_, fun k hk => ?_, ?_, own_ch (own_ch (own_ch owd c7 fun _ _ e => e) c6 fun k hk => (fw k hk).2) c8 fun k hk e => ?_, by omega⟩
      · simp only [Kin.one] at e
        subst e
        exact hk.elim nq fun e => by omega
      · rcases hk with hk | hk
        · exact ⟨(hOc k hk).imp id fun e => ⟨e.1, by omega⟩, .inl hk⟩
        · exact ⟨.inr ⟨by omega, by omega⟩, .inr (by omega)⟩
      · exact (((cud.trans (c7.mono fun _ _ e => e.elim)).trans' c6 fun k hk e => (hOc k e).elim id fun e => by omega)).trans' c8 fun k hk e => by simp only [Kin.one] at e; omega
      · simp only [Kin.one] at e
        have := hvl5 k hk
        omega
  rw [hI]
  clear hI I hmk f0 f4 f6 f8 f12 f63 f64 f65
  rintro f W ⟨gq, O6, f0, f4, f6, f8, f12, f14, f16, f17, f18, f63, f64, f65, ok6, bq, h6, hO6, c6, ow6, sW⟩
  have hq6 := pt_size ok6
  have hqa6 := pt_all ok6
  by_cases he : e6 = 0
  case neg =>
    have he2 : (e6 == 0) = false := beq_false_of_ne he
    rw [if_pos he] at hgo
    rw [hgo] at hbs
    simp only [ne_eq, he, not_false_eq_true, if_true] at hbs
    have z1 := c6.obj v1 (nO5 _ (by omega))
    simp [go_sem, f18, he, he2, bne, bld_pt0, f6, z1, hzs, hza, blit_whole]
    exact fin5 hbs ptz_ok h6 (fun k hk => (hO6 k hk).1) c6
  rw [if_neg (by simp [he])] at hgo
  subst he
  cases is6 with
  | false =>
    simp [go_sem, f17, f18, f65, hwj]
    exact Rnd.intro (xs.length - (j + 1)) (by omega) (hJ _ _ _ ⟨j + 1, s6, acc, vl, O6, rfl, by omega, by simp [f0], by simp [f4], by simp [f6], by simp [f8], by simp [f12], by simp [f63], by simp [f64], by simp, by simpa using hgo, by omega, okacc, ow6, fun k hk => ⟨(fw k hk).1, fun e => (hO6 k e).2.elim (fw k hk).2 fun e => by have := hvl5 k hk; omega⟩, h6, fun k hk => (hO6 k hk).1, c6, by omega⟩)
  | true =>
    have okl : LfOk (a.val, p6) := ⟨by show a.val < _; omega, ok6⟩
    have hbl : ∀ {w : World} {K : Value → World → Prop}, VBld Tryz.prog 93 [(0, .int .u32 a.val), (1, .agg (pt p6))] w K = K (.agg (lfv (a.val, p6))) w := fun {w K} => bld_lf (x := (a.val, p6)) okl
    obtain ⟨A1, m1, c1, hvl⟩ : ∃ A m c, vl = .slice A m c := by
      rcases ow6.2 with ⟨e, _⟩ | ⟨g', cap, cur, e, _⟩
      · exact ⟨_, _, _, e⟩
      · exact ⟨_, _, _, e⟩
    simp [↓VX_bsl1, go_sem, f17, f18, f14, f12, f16, bq, hq6, hqa6, hbl]
    refine VBs_run (bsl_lf okl _) ?_
    simp [go_sem, f12]
    refine VB_app1S (us := (lfv (a.val, p6)).toList) tyLf ow6 (by rw [Array.length_toList, lfv_size okl]) (ones_mem (lfv_ones _)) (by unfold maxLen; omega) (by omega) fun v8 w8 k1 k2 k3 => ?_
    have e8 : rowsL lfv (acc ++ [(a.val, p6)]) = rowsL lfv acc ++ (lfv (a.val, p6)).toList := by rw [rowsL_append, rowsL_one]
    have hs8 := k2.size
    simp [go_sem, f65, hwj]
    refine Rnd.intro (xs.length - (j + 1)) (by omega) (hJ _ _ _ ⟨j + 1, s6, acc ++ [(a.val, p6)], v8, O6, rfl, by omega, by simp [f0], by simp [f4], by simp [f6], by simp [f8], by simp, by simp [f63], by simp [f64], by simp, by simpa using hgo, by rw [List.length_append, List.length_singleton]; omega, fun x hx => ?_, ?_, fun k hk => ?_, (hH _).ch h6 k2 fun k hk e => ?_, fun k hk => (hO6 k hk).1.imp id fun e => ⟨e.1, by omega⟩, c6.trans' k2 fun k hk e => by have := (fw k e).1; omega, by omega⟩)
    · rcases List.mem_append.1 hx with hx | hx
      · exact okacc x hx
      · rw [List.mem_singleton] at hx
        rw [hx]
        exact okl
    · rw [e8, List.length_append, List.length_singleton]
      exact k1
    · rcases k3 with e | e
      · rw [e] at hk
        exact ⟨(fw k hk).1, fun e => (hO6 k e).2.elim (fw k hk).2 fun e => by have := hvl5 k hk; omega⟩
      · have := e k hk
        have := c6.size
        exact ⟨by omega, fun e => by have := (hH _).lt h6 k e; omega⟩
    · have h9 := (hO6 k hk).2
      rcases h9 with h9 | h9
      · exact (fw k e).2 h9
      · have := hvl5 k e
        omega
end
end Go.Proofs.YtnefdmbdkljifaaGreatDoor
