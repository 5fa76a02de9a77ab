/- The tree law's tells: a tree tells its map. Conditions: the variables ptr.wide and tree.hole hold what the text lays. -/
import Derived.Test.YtppilgkgnofkpaaDoorTrT
set_option linter.unusedSimpArgs false
set_option linter.unusedVariables false

namespace Go.Proofs.YtppilgkgnofkpaaDoor
open Go.RowKit Go.Kin

theorem eq_lf (w : World) {x y : Nat × Pt} (hx : LfOk x) (hy : LfOk y) : (Op.equalIn 10000 69 (.agg (lfv x)) (.agg (lfv y))).run Tryd.prog w = .ok (decide (x = y)) w := by
  have e1 : ∀ w, (Op.equalIn 9999 28 (.agg (pt x.2)) (.agg (pt y.2))).run Tryd.prog w = .ok (decide (x.2 = y.2)) w := fun w => eq_pt_any w 9996 hx.p hy.p
  have hc : ((x.1 : Int) == (y.1 : Int)) = decide (x.1 = y.1) := by
    by_cases h : x.1 = y.1
    · simp [h]
    · rw [beq_false_of_ne (by omega), decide_eq_false h]
  have hxs := lfv_size hx
  have hys := lfv_size hy
  rw [Op.equalIn]
  simp [go_sem, lfv_0, lfv_g0, lfv_pt hx, lfv_pt hy, e1, hc, hxs, hys]
  obtain ⟨a, p⟩ := x
  obtain ⟨b, q⟩ := y
  simp only [Prod.mk.injEq]
  by_cases h1 : a = b <;> by_cases h2 : p = q <;> simp [h1, h2]
theorem lvsOf_ok {h : List Pt} (hh : ∀ p ∈ h, PtOk p) {k : Nat} (hk : k ≤ 64) : ∀ x ∈ lvsOf h k, LfOk x := fun x hx => by
  unfold lvsOf at hx
  obtain ⟨off, h1, h2⟩ := List.mem_filterMap.1 hx
  have h1 := List.mem_range.1 h1
  split at h2
  · cases h2
  · cases h2
    refine ⟨by show off < _; omega, ?_⟩
    show PtOk (h.getD off ptz)
    rw [List.getD_eq_getElem?_getD]
    by_cases hl : off < h.length
    · rw [List.getElem?_eq_getElem hl]; exact hh _ (List.getElem_mem hl)
    · rw [List.getElem?_eq_none (by omega)]; exact ptz_ok
/-- what tells hands out -/
def TellR (g : Nat) (W0 : World) (Bk : Nat → Prop) (s : Shf) (nodes : List Pt) (w : World) (O : Nat → Prop) (v' : Value) (w' : World) : Prop :=
  ∃ vn l O', v' = .tuple #[vn, .bool true] ∧ w'.ownsRow 0 28 41 vn nodes.length (rowsL pt nodes) ∧ ShH g W0 Bk (s.more l) w' O' ∧ (∀ k, O' k → Gr O w w' k) ∧ (∀ k, vn.ownBlock = some k → ¬ O' k ∧ w.heap.size ≤ k) ∧ Ch O w w' ∧ l.length ≤ 150
theorem shM_more (s : Shf) (l : List Pt) : shM s ≤ shM (s.more l) + l.length := by
  unfold shM
  simp
  omega
section
variable {g : Nat} {W0 : World} {Bk : Nat → Prop} {s : Shf} {w : World} {O : Nat → Prop}
set_option maxRecDepth 100000 in
set_option maxHeartbeats 4000000 in
theorem ttells_gl (hS : ShH g W0 Bk s w O) {root : Pt} {top h : List Pt} (tp : TreeP s.bl root top h) (hb : s.bad = []) (hm : 5000 ≤ shM s) (v : Value) (hl : PtLst w v h) (hvO : ∀ j, v.ownBlock = some j → ¬ O j ∧ j < w.heap.size) (env : TEnv w) (hg : GlOk (ShH g W0 Bk) O) :
    Ret Tryd.prog 23 #[.pointer (some ⟨g, 0, none⟩), .agg (pt root), v] w (TellR g W0 Bk s (nodesOf root top) w O) := by
  refine v_enter Tryd.func23 Tryd.ntmps23 rfl (by simp) fun R' hR => ?_
  have ok := tp.rs.okp
  have okh := tp.ok
  have hps := pt_size ok
  have hpa := pt_all ok
  have hlO := (ShH.ok _ _ _ _).lt hS
  have nO : ∀ j, w.heap.size ≤ j → ¬ O j := fun j hj e => by have := hlO j e; omega
  have ca := (Ch.refl Nw w).alloc (.cells (pt root) 28)
  have b0 := hp_alloc w (.cells (pt root) 28)
  have hS1 := (ShH.ok _ _ _ _).ch hS ca fun _ _ e => e
  have env1 := env.ch ca fun _ _ e => e
  have hl1 := hl.ch' ca fun _ _ e => e
  obtain ⟨q, hq⟩ : ∃ q, w.heap.size = q := ⟨_, rfl⟩
  simp [go_sem, hps, hpa]
  rw [hq] at b0 nO ⊢
  have sa := ca.size
  have sa1 : (w.alloc (.cells (pt root) 28)).heap.size = q + 1 := by simp [hq]
  generalize w.alloc (.cells (pt root) 28) = w1 at *
  refine (tall_gl (shSnk g W0 Bk).rd (by omega) (ShH.ok g W0 Bk) hS1 root ok env1 hg).mono ?_
  obtain ⟨l0, hl0, hall⟩ := tp.all hb
  rw [hall]
  rintro _ w2 ⟨vl, vn, O2, rfl, ownl, ownn, hS2, hO2, hvl, hvn, c2⟩
  have ownl : w2.ownsRow 0 69 42 vl (lvsOf h 64).length (rowsL lfv (lvsOf h 64)) := ownl
  have ownn : w2.ownsRow 0 28 41 vn (nodesOf root top).length (rowsL pt (nodesOf root top)) := ownn
  have hS2 : ShH g W0 Bk (s.more l0) w2 O2 := hS2
  have hs2 := c2.size
  have env2 := hg.env env1 c2 ⟨_, hS2⟩ fun _ _ e => e
  have b02 := c2.obj b0 (nO _ (Nat.le_refl _))
  have hl2 := hl1.ch' c2 fun j hj => (hvO j hj).1
  have hlvok := lvsOf_ok okh (Nat.le_refl 64)
  have hLl : Lst w2 vl (fun x => (lfv x).toList) 42 (lvsOf h 64) := Lst.of_own ownl fun x hx => lfv_size (hlvok x hx)
  have hlenL := hLl.len Tryd.underlying64 3
  have hL64 := lvsOf_len h 64
  simp [go_sem]
  have nq2 : ¬ O2 q := fun e => (hO2 q e).elim (nO q (Nat.le_refl _)) fun e => by omega
  have hg2 : GlOk (ShH g W0 Bk) O2 := (hg.gr env1).mono hO2
  have hv2 : ∀ j, v.ownBlock = some j → ¬ O2 j := fun j hj e => (hO2 j e).elim (hvO j hj).1 fun e => by have := (hvO j hj).2; omega
  have hl2O : ∀ k, O2 k → k < w2.heap.size := (ShH.ok _ _ _ _).lt hS2
  refine v_loop (fun r f u => ∃ (k : Nat) (l : List Pt), r = 64 - k ∧ k ≤ 64 ∧ f 0 = .pointer (some ⟨g, 0, none⟩) ∧ f 2 = v ∧ f 4 = .pointer (some ⟨q, 0, none⟩) ∧ f 8 = vl ∧ f 9 = vn ∧ f 10 = .int .i64 0 ∧ f 11 = .int .i64 (lvsOf h k).length ∧ f 12 = .int .i64 k
      ∧ l.length ≤ 9 + 2 * k ∧ ShH g W0 Bk (s.more l) u (Gr O2 w2 u) ∧ Ch O2 w2 u) 64
    ⟨0, l0, rfl, by omega, by simp, by simp, by simp, by simp, by simp, by simp, by simp [lvsOf], by simp, by omega, (ShH.ok _ _ _ _).weak hS2 (fun k hk => .inl hk) (Gr.lt hl2O (Nat.le_refl _)), Ch.refl _ _⟩ ?_
  rintro J hJ _ f u ⟨k, l, rfl, hk, f0, f2, f4, f8, f9, f10, f11, f12, hll, hu, cu⟩
  have hsu := cu.size
  by_cases hlt : k < 64
  · have hki : (k : Int) < 64 := by omega
    have hwk : IntKind.i64.wrap ((k : Int) + 1) = ((k + 1 : Nat) : Int) := by rw [IntKind.wrap_i64]; omega
    have hwku : IntKind.u32.wrap (k : Int) = k := by simp [IntKind.wrap, IntKind.bits, IntKind.signed]; omega
    have bu := cu.obj b02 nq2
    have envu := hg2.env env2 cu ⟨_, hu⟩ fun _ _ e => e
    have hgu : GlOk (ShH g W0 Bk) (Gr O2 w2 u) := hg2.gr env2
    have hml := shM_more s l
    simp [go_sem, f0, f4, f12, hki, bu, hps, hpa, hwku]
    refine (tget_gl (shSnk g W0 Bk).rd (by omega) (ShH.ok g W0 Bk) hu root ok k (by omega) envu hgu).mono ?_
    obtain ⟨l1, hl1', hget⟩ := TreeP.get (s := s.more l) tp hb hlt
    rw [hget]
    rintro _ w3 ⟨rfl, h3, c3⟩
    obtain ⟨x, hx⟩ : ∃ x, h[k]? = some x := ⟨_, List.getElem?_eq_getElem (by rw [tp.hl]; exact hlt)⟩
    have hxd : h.getD k ptz = x := by rw [List.getD_eq_getElem?_getD, hx]; rfl
    have okx := okh x (List.mem_of_getElem? hx)
    have hxs := pt_size okx
    have hxa := pt_all okx
    have h3 : ShH g W0 Bk ((s.more l).more l1) w3 (Gr (Gr O2 w2 u) u w3) := h3
    rw [Shf.more_more] at h3
    simp only [hxd]
    have hs3 := c3.size
    have cw3 : Ch O2 w2 w3 := ch_gr cu c3
    have c4 := (Ch.refl Nw w3).alloc (.cells (pt x) 28)
    have b4 := hp_alloc w3 (.cells (pt x) 28)
    have h4 := (ShH.ok _ _ _ _).ch h3 c4 fun _ _ e => e
    have cw4 : Ch O2 w2 (w3.alloc (.cells (pt x) 28)) := cw3.trans (c4.mono fun _ _ e => e.elim)
    simp [go_sem, hz_pt, zc_pt, hxs, hxa, pt_size ptz_ok, blit_whole]
    obtain ⟨g4, hg4⟩ : ∃ g4, w3.heap.size = g4 := ⟨_, rfl⟩
    rw [hg4] at b4 ⊢
    have hs4 := c4.size
    generalize w3.alloc (.cells (pt x) 28) = w4 at *
    have h4' : ShH g W0 Bk (s.more (l ++ l1)) w4 (Gr O2 w2 w4) := (ShH.ok _ _ _ _).weak h4 (fun k hk => by
      rcases hk with (hk | hk) | hk
      · exact .inl hk
      · exact .inr ⟨hk.1, by omega⟩
      · exact .inr ⟨by omega, by omega⟩) (Gr.lt hl2O (by omega))
    obtain ⟨b, of', c, cs, T, fr, hve, hbw, hex, hcs⟩ := hl2.elem (by decide) (fun q hq => pt_size (okh q hq)) hx
    have hb4 := cw4.obj hbw (hv2 b (by rw [hve]; rfl))
    have heq : ∀ w, (Op.equalIn 10000 28 (.agg (pt x)) (.agg (pt x))).run Tryd.prog w = .ok true w := fun w => by
      rw [eq_pt w okx okx, decide_eq_true rfl]
    have heqz : ∀ w, (Op.equalIn 10000 28 (.agg (pt x)) (.agg (pt ptz))).run Tryd.prog w = .ok (decide (x = ptz)) w := fun w => eq_pt w okx ptz_ok
    have hk64 : k < h.length := by rw [tp.hl]; exact hlt
    rw [hve] at f2
    have b4d : w4.drew.heap[g4]? = some (.cells (pt x) 28 (0, 0)) := b4
    have hb4d : w4.drew.heap[b]? = some (.cells cs T fr) := hb4
    refine v_draw' [(0, none), (1, none), (2, none), (3, none), (4, none), (5, none), (6, none), (7, none), (8, none), (9, none)] (by kernel_rfl) (by kernel_rfl) ?_
    have hst := lvsOf_step h k
    rw [hxd] at hst
    by_cases hz : x = ptz
    · rw [if_pos hz, List.append_nil] at hst
      subst hz
      simp [go_sem, f2, f12, hk64, b4, b4d, hb4, hb4d, hex, hcs, hxs, hxa, heq, bld_pt0, heqz, hwk]
      exact Rnd.intro (64 - (k + 1)) (by omega) (hJ _ _ _ ⟨k + 1, l ++ l1, rfl, by omega, by simp [f0], by simp [f2, hve], by simp [f4], by simp [f8], by simp [f9], by simp [f10], by simp [f11, hst], by simp, by rw [List.length_append]; omega, (ShH.ok _ _ _ _).ch h4' (Ch.refl Nw w4).drew fun _ _ e => e, cw4.drew⟩)
    · rw [if_neg hz] at hst
      have hat := lvsOf_at (h := h) hlt (by rw [hxd]; exact hz)
      rw [hxd] at hat
      simp [go_sem, f2, f12, hk64, b4, b4d, hb4, hb4d, hex, hcs, hxs, hxa, heq, bld_pt0, heqz, hz]
      have okl : LfOk (k, x) := ⟨by show k < _; omega, okx⟩
      have hbl : ∀ {w : World} {K : Value → World → Prop}, VBld Tryd.prog 69 [(0, .int .u32 k), (1, .agg (pt x))] w K = K (.agg (lfv (k, x))) w := fun {w K} => bld_lf (x := (k, x)) okl
      have heql : ∀ w, (Op.equalIn 10000 69 (.agg (lfv (k, x))) (.agg (lfv (k, x)))).run Tryd.prog w = .ok true w := fun w => by
        rw [eq_lf w okl okl, decide_eq_true rfl]
      obtain ⟨bl, ofl, cl, csl, Tl, frl, hvel, hbwl, hexl, hcsl⟩ := hLl.elem (by decide) (fun y hy => lfv_size (hlvok y hy)) hat
      have hvlb : vl.ownBlock = some bl := by rw [hvel]; rfl
      have hbl4 := cw4.obj hbwl (hvl bl hvlb).1
      have hbl4d : w4.drew.heap[bl]? = some (.cells csl Tl frl) := hbl4
      have hnl : (lvsOf h k).length < (lvsOf h 64).length := (List.getElem?_eq_some_iff.1 hat).1
      have hnli : ¬ ((lvsOf h 64).length : Int) ≤ (lvsOf h k).length := by omega
      have hwn : IntKind.i64.wrap (((lvsOf h k).length : Int) + 1) = (((lvsOf h k).length + 1 : Nat) : Int) := by rw [IntKind.wrap_i64]; omega
      have hls := lfv_size okl
      have hla := lfv_all okl
      have hlenL' : ∀ w', (Builtin.len_ #[64] 3 #[.slice (some ⟨bl, ofl, none⟩) (lvsOf h 64).length cl]).run Tryd.prog w' = .ok (.int .i64 (lvsOf h 64).length) w' := fun w' => by rw [← hvel]; exact hlenL w'
      rw [hvel] at f8
      refine v_draw' [(0, none), (1, none), (2, none), (3, none), (4, none), (5, none), (6, none), (7, none), (8, none), (9, none), (10, none), (11, none), (12, none), (13, none), (14, none)] (by kernel_rfl) (by kernel_rfl) ?_
      simp [go_sem, f8, f11, f12, hlenL', hnl, hnli, hbl4, hbl4d, hexl, hcsl, hls, hwku, b4, b4d, hxs, hxa, hbl, heql, hwn, hwk]
      exact Rnd.intro (64 - (k + 1)) (by omega) (hJ _ _ _ ⟨k + 1, l ++ l1, rfl, by omega, by simp [f0], by simp [f2, hve], by simp [f4], by simp [f8, hvel], by simp [f9], by simp [f10], by simp [hst], by simp, by rw [List.length_append]; omega, (ShH.ok _ _ _ _).ch h4' (Ch.refl Nw w4).drew.drew fun _ _ e => e, cw4.drew.drew⟩)
  · obtain rfl : k = 64 := by omega
    simp [go_sem, f8, f9, f10, f11, f12, hlenL]
    refine hR _ _ ⟨vn, l, Gr O2 w2 u, rfl, own_ch ownn cu fun j hj => (hvn j hj).1, hu, fun j hj => ?_, fun j hj => ⟨fun e => e.elim (hvn j hj).1 fun e => ?_, ?_⟩, ?_, by omega⟩
    · rcases hj with hj | hj
      · exact (hO2 j hj).imp id fun e => ⟨by omega, by omega⟩
      · exact .inr ⟨by omega, hj.2⟩
    · have := own_in ownn j hj; omega
    · have := (hvn j hj).2; omega
    · exact ((ca.mono fun _ _ e => e.elim).trans c2).trans' cu fun j hj e => (hO2 j e).elim id fun e => by omega
theorem ttells_any (hS : ShH g W0 Bk s w O) {root : Pt} {top h : List Pt} (tp : TreeP s.bl root top h) (hb : s.bad = []) (hm : 5000 ≤ shM s) (v : Value) (hl : PtLst w v h) (hvO : ∀ j, v.ownBlock = some j → ¬ O j ∧ j < w.heap.size) (env : TEnv w) (hg : ∀ k, glT k → ¬ O k) :
    Ret Tryd.prog 23 #[.pointer (some ⟨g, 0, none⟩), .agg (pt root), v] w (TellR g W0 Bk s (nodesOf root top) w O) :=
  ttells_gl hS tp hb hm v hl hvO env (.inl hg)
end
end Go.Proofs.YtppilgkgnofkpaaDoor
