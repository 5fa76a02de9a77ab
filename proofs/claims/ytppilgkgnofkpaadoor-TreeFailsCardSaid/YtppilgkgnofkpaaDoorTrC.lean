/- Trees: a sink, and a node that is made anew. Conditions: the variables ptr.wide and tree.hole hold what the text lays. -/
import Derived.Test.YtppilgkgnofkpaaDoorTrB
set_option linter.unusedSimpArgs false
set_option linter.unusedVariables false

namespace Go.Proofs.YtppilgkgnofkpaaDoor
open Go.RowKit Go.Kin

theorem own_in {w : World} {e s n : Nat} {v : Value} {xs : List Value} (h : w.ownsRow 0 e s v n xs) : ∀ k, v.ownBlock = some k → k < w.heap.size := fun k hk => by
  rcases h.2 with ⟨hv, _⟩ | ⟨g, cap, cur, hv, _, hg, _⟩
  · rw [hv] at hk; simp [Value.ownBlock] at hk
  · rw [hv] at hk
    simp [Value.ownBlock] at hk
    rw [← hk]; exact lt_of_block hg
/-- a sink in memory: it reads, makes blocks, is told what is old -/
structure SnkOk {σ : Type} (H : σ → HP) (m : σ → Nat) (rd : Src σ) (nw : σ → Pt → List UInt8 → σ × Pt × Int) (od : σ → Pt → σ) (sv : Value) : Prop where
  rd : SrcOk H m rd sv
  stepN : ∀ (s : σ) (p : Pt) (b : List UInt8), m s ≤ m (nw s p b).1 + 16
  stepO : ∀ (s : σ) (p : Pt), m s ≤ m (od s p) + 16
  nw : ∀ (s : σ) (w : World) (O : Nat → Prop) (p : Pt) (b : List UInt8) (v : Value) (K : Value → World → Prop), 16 ≤ m s → H s w O → PtOk p → b.length = 512 → Sl w v 512 (bvs b) → (∀ j, v.ownBlock = some j → ¬ O j ∧ j < w.heap.size) → TEnv w → GlOk H O →
    (∀ w', PtOk (nw s p b).2.1 → H (nw s p b).1 w' (Gr O w w') → Ch O w w' → K (.tuple #[.agg (pt (nw s p b).2.1), .int .i64 (nw s p b).2.2]) w') → VInv Tryd.prog sv "New" [.agg (pt p), v] w K
  od : ∀ (s : σ) (w : World) (O : Nat → Prop) (p : Pt) (K : Value → World → Prop), 16 ≤ m s → H s w O → PtOk p → TEnv w → GlOk H O →
    (∀ v' w', H (od s p) w' (Gr O w w') → Ch O w w' → K v' w') → VInv Tryd.prog sv "Old" [.agg (pt p)] w K
def nwp (level obj off : Nat) : Pt := ⟨3, level, obj, off, 0, List.replicate 32 0, [0, 0, 0, 0]⟩
/-- a node that was another one, anew -/
def tmade {σ : Type} (nw : σ → Pt → List UInt8 → σ × Pt × Int) (od : σ → Pt → σ) (s : σ) (p : Pt) (was n : List Pt) (level obj off : Nat) : σ × Pt × Int :=
  if n = was then (s, p, 0) else if n = ndz then (if p = ptz then s else od s p, ptz, 0) else if n.all okP = false then (if p = ptz then s else od s p, ptz, 1) else nw (if p = ptz then s else od s p) (nwp level obj off) (bytesN n)
theorem al5 (w : World) (A B C D E : Obj) : ∃ W, ((((w.alloc A).alloc B).alloc C).alloc D).alloc E = W ∧ W.heap[w.heap.size]? = some A ∧ W.heap[w.heap.size + 1]? = some B ∧ W.heap[w.heap.size + 2]? = some C ∧ W.heap[w.heap.size + 3]? = some D ∧ W.heap[w.heap.size + 4]? = some E ∧ W.heap.size = w.heap.size + 5 ∧ Ch Nw w W := by
  refine ⟨_, rfl, ?_, ?_, ?_, ?_, ?_, by simp, (((((Ch.refl Nw w).alloc _).alloc _).alloc _).alloc _).alloc _⟩
  · rw [hp_alloc_lt _ _ _ (by simp <;> omega), hp_alloc_lt _ _ _ (by simp <;> omega), hp_alloc_lt _ _ _ (by simp <;> omega), hp_alloc_lt _ _ _ (by simp <;> omega), hp_alloc]
  · rw [hp_alloc_lt _ _ _ (by simp <;> omega), hp_alloc_lt _ _ _ (by simp <;> omega), hp_alloc_lt _ _ _ (by simp <;> omega)]
    simp
  · rw [hp_alloc_lt _ _ _ (by simp <;> omega), hp_alloc_lt _ _ _ (by simp <;> omega)]
    simp
  · rw [hp_alloc_lt _ _ _ (by simp <;> omega)]
    simp
  · simp
theorem bld_nwp {w : World} {K : Value → World → Prop} (l o f : Nat) : VBld Tryd.prog 28 [(0, .int .u8 3), (1, .int .u8 l), (2, .int .u16 o), (3, .int .u32 f)] w K = K (.agg (pt (nwp l o f))) w := by
  refine VBld_struct Tryd.underlying28 hz_pt (places := #[(0, 1), (1, 1), (2, 1), (3, 1), (4, 1), (5, 32), (37, 4)]) (by simp [go_sem]) ?_
  simp [fillB, zc_pt, Value.cells, blit_size, pt_size ptz_ok]
  simp [blit, pt, ptz, nwp, bvs_length, u16s, u16v]
  rfl
theorem nwp_ok {l o f : Nat} (h1 : l < 256) (h2 : o < 65536) (h3 : f < 4294967296) : PtOk (nwp l o f) := ⟨by simp [nwp], by simpa [nwp] using h1, by simpa [nwp] using h2, by simpa [nwp] using h3, by simp [nwp], by simp [nwp], by simp [nwp], by simp [nwp]⟩
section
variable {σ : Type} {H : σ → HP} {m : σ → Nat} {rd : Src σ} {nw : σ → Pt → List UInt8 → σ × Pt × Int} {od : σ → Pt → σ} {bt : TypeId} {bv sv : Value} {s : σ} {w w' : World} {O : Nat → Prop}
theorem tmade_m (hs : SnkOk H m rd nw od sv) (s : σ) (p : Pt) (was n : List Pt) (level obj off : Nat) : m s ≤ m (tmade nw od s p was n level obj off).1 + 32 := by
  have h1 := hs.stepO s p
  have h2 := hs.stepN (if p = ptz then s else od s p) (nwp level obj off) (bytesN n)
  have h3 : m s ≤ m (if p = ptz then s else od s p) + 16 := by split <;> omega
  unfold tmade
  split
  · exact Nat.le_add_right _ _
  · split
    · exact Nat.le_trans h3 (by simp)
    · split
      · exact Nat.le_trans h3 (by simp)
      · omega
set_option maxRecDepth 100000 in
set_option maxHeartbeats 4000000 in
theorem tmade_any (hs : SnkOk H m rd nw od (.iface bt bv)) (hm : 32 ≤ m s) (hH : ∀ s, HOk (H s)) (h : H s w O) (p : Pt) (ok : PtOk p) (was n : List Pt) (okw : NdOk was) (okn : NdOk n) (level obj off : Nat) (env : TEnv w) (hg : GlOk H O) (hlv : level < 256) (hob : obj < 65536) (hof : off < 4294967296) :
    Ret Tryd.prog 54 #[.agg #[.iface bt bv, .int .u16 obj], .agg (pt p), .agg (nd was), .agg (nd n), .int .u8 level, .int .u32 off] w fun v' w' => v' = .tuple #[.agg (pt (tmade nw od s p was n level obj off).2.1), .int .i64 (tmade nw od s p was n level obj off).2.2] ∧ PtOk (tmade nw od s p was n level obj off).2.1 ∧ H (tmade nw od s p was n level obj off).1 w' (Gr O w w') ∧ Ch O w w' := by
  refine v_enter Tryd.func54 Tryd.ntmps54 rfl (by simp) fun R' hR => ?_
  have hps := pt_size ok
  have hpa := pt_all ok
  have hzs := pt_size ptz_ok
  have hza := pt_all ptz_ok
  have hws := nd_size okw
  have hwa := nd_all okw
  have hns := nd_size okn
  have hna := nd_all okn
  have hlO := (hH s).lt h
  have nO : ∀ j, w.heap.size ≤ j → ¬ O j := fun j hj e => by have := hlO j e; omega
  simp [go_sem, hps, hpa, hz_pt, zc_pt, hws, hwa, hns, hna]
  obtain ⟨W1, hW1, b0, b1, b2, b3, b4, sa, ca⟩ := al5 w (.cells #[.iface bt bv, .int .u16 obj] 114) (.cells (pt p) 28) (.cells (nd was) 116) (.cells (nd n) 116) (.cells (pt ptz) 28)
  rw [hW1]
  have env1 := env.ch ca fun _ _ e => e
  have c00 : W1.cell? ⟨w.heap.size, 0, none⟩ = some (.iface bt bv) := cell_blk b0 0
  have h1 := (hH s).ch h ca fun _ _ e => e
  obtain ⟨g, hgs⟩ : ∃ g, w.heap.size = g := ⟨_, rfl⟩
  rw [hgs] at b0 b1 b2 b3 b4 sa nO c00 ⊢
  have hl1 : ∀ k, O k → k < W1.heap.size := fun k hk => by have := hlO k hk; omega
  have heq1 : ∀ w, (Op.equalIn 10000 116 (.agg (nd n)) (.agg (nd was))).run Tryd.prog w = .ok (decide (n = was)) w := fun w => eq_nd w okn okw
  have heqp : ∀ w, (Op.equalIn 10000 28 (.agg (pt p)) (.agg (pt ptz))).run Tryd.prog w = .ok (decide (p = ptz)) w := fun w => eq_pt w ok ptz_ok
  have fin : ∀ {W : World} {x : σ × Pt × Int}, tmade nw od s p was n level obj off = x → PtOk x.2.1 → H x.1 W (Gr O W1 W) → Ch O W1 W → R' (.tuple #[.agg (pt x.2.1), .int .i64 x.2.2]) (W.setRow (g + 4) (pt x.2.1)) := fun {W x} e okx a c => by
    subst e
    have hsW := c.size
    have c' : Ch (one (g + 4)) W (W.setRow (g + 4) (pt (tmade nw od s p was n level obj off).2.1)) := (Ch.refl (one (g + 4)) W).setRow (.inl rfl) _
    have hs' := c'.size
    refine hR _ _ ⟨rfl, okx, (hH _).weak ((hH _).ch a c' fun k hk e => by simp only [one] at e; subst e; exact hk.elim (nO _ (by omega)) fun e => by omega) (fun k hk => hk.imp id fun e => ⟨by omega, by omega⟩) (Gr.lt hlO (by omega)), ?_⟩
    exact ((ca.mono fun _ _ e => e.elim).trans c).trans' c' fun k hk e => by simp only [one] at e; omega
  clear hR
  by_cases hnw : n = was
  · have ht : tmade nw od s p was n level obj off = (s, p, 0) := by unfold tmade; rw [if_pos hnw]
    subst hnw
    simp [go_sem, heq1, b1, b4, hps, hpa, hzs, blit_whole]
    exact fin (x := (s, p, 0)) ht ok ((hH _).weak h1 (fun k hk => .inl hk) (Gr.lt hl1 (Nat.le_refl _))) (Ch.refl _ _)
  · obtain ⟨s1, hs1⟩ : ∃ s1, (if p = ptz then s else od s p) = s1 := ⟨_, rfl⟩
    have hm1 : 16 ≤ m s1 := by
      have h1 := hs.stepO s p
      rw [← hs1]
      split <;> omega
    have ht : tmade nw od s p was n level obj off = if n = ndz then (s1, ptz, 0) else if n.all okP = false then (s1, ptz, 1) else nw s1 (nwp level obj off) (bytesN n) := by unfold tmade; rw [if_neg hnw, hs1]
    obtain ⟨cs, T, fr, hh, hx, hz⟩ := id env1.lh
    by_cases hp : p = ptz
    case' pos =>
      rw [if_pos hp] at hs1
      subst hp
      obtain ⟨w2, hw2, c2⟩ : ∃ w2, W1 = w2 ∧ Ch O W1 w2 := ⟨W1, rfl, Ch.refl _ _⟩
      have h2 : H s1 w2 (Gr O W1 w2) := by rw [← hs1, ← hw2]; exact (hH _).weak h1 (fun k hk => .inl hk) (Gr.lt hl1 (Nat.le_refl _))
      simp [go_sem, heq1, hnw, b1, hps, hpa, hh, hx, hz, heqp]
      rw [hw2]
    case' neg =>
      rw [if_neg hp] at hs1
      simp [go_sem, heq1, hnw, c00, b1, hps, hpa, hh, hx, hz, heqp, hp]
      refine hs.od s W1 O p _ (by omega) h1 ok env1 hg fun v' w2 h2 c2 => ?_
      rw [hs1] at h2
    all_goals
      have hs2 := c2.size
      have nG : ∀ j, g ≤ j → j < W1.heap.size → ¬ O j := fun j h1 _ => nO j h1
      have b02 := c2.obj b0 (nO _ (by omega))
      have b32 := c2.obj b3 (nO _ (by omega))
      have b42 := c2.obj b4 (nO _ (by omega))
      have env2 := hg.env env1 c2 ⟨_, h2⟩ fun _ _ e => e
      simp [go_sem, b32, hns, hna]
      refine (empty_any n w2 okn).mono ?_
      rintro _ w3 ⟨rfl, c3⟩
      have env3 := env2.ch c3 fun _ _ e => e
      obtain ⟨cs3, T3, fr3, hh3, hx3, hz3⟩ := id env3.lh
      have b33 := c3.obj b32 id
      have b43 := c3.obj b42 id
      have h3 := (hH _).ch h2 c3 fun _ _ e => e
      have hs3 := c3.size
      have h3' : H s1 w3 (Gr O W1 w3) := (hH _).weak h3 (fun k hk => hk.imp id fun e => ⟨e.1, by omega⟩) (Gr.lt hl1 (by omega))
      have cw3 : Ch O W1 w3 := c2.trans (c3.mono fun _ _ e => e.elim)
      by_cases hn0 : n = ndz
      · rw [if_pos hn0] at ht
        simp [go_sem, hn0, hh3, hx3, hz3, b43, hzs, hza, blit_whole]
        exact fin (x := (s1, ptz, 0)) ht ptz_ok h3' cw3
      · rw [if_neg hn0] at ht
        simp [go_sem, hn0, b33, hns, hna]
        refine (nput_any n w3 okn env3.lw).mono ?_
        rintro v4 w4 (⟨hall, sl, rfl, hm⟩ | ⟨hall, rfl, c4⟩)
        · rw [if_neg (by rw [hall]; simp)] at ht
          have c4 := hm.ch
          have hbl : (bytesN n).length = 512 := by rw [bytesN_length _ okn.all, okn.len]
          have b04 := (c3.trans c4).obj b02 id
          have c04 : w4.cell? ⟨g, 0, none⟩ = some (.iface bt bv) := cell_blk b04 0
          have c14 : w4.cell? ⟨g, 1, none⟩ = some (.int .u16 obj) := cell_blk b04 1
          have b44 := c4.obj b43 id
          have env4 := env3.ch c4 fun _ _ e => e
          have hs4 := c4.size
          have h4 : H s1 w4 (Gr O W1 w2) := (hH _).ch ((hH _).ch h2 c3 fun _ _ e => e) c4 fun _ _ e => e
          have hg4 : GlOk H (Gr O W1 w2) := hg.gr env1
          simp [go_sem, c04, c14, bld_nwp]
          refine hs.nw s1 w4 (Gr O W1 w2) (nwp level obj off) (bytesN n) sl _ (by omega) h4 (nwp_ok hlv hob hof) hbl (Sl.of_own hm.own) (fun j hj => ⟨fun e => ?_, own_in hm.own j hj⟩) env4 hg4 fun w5 ok5 h5 c5 => ?_
          · have := hm.fresh j hj
            exact e.elim (fun e => by have := hl1 j e; omega) fun e => by omega
          · have hs5 := c5.size
            have b45 := c5.obj b44 fun e => e.elim (nO _ (by omega)) fun e => by omega
            obtain ⟨⟨s5, q5, e5⟩, hx5⟩ : ∃ x5, nw s1 (nwp level obj off) (bytesN n) = x5 := ⟨_, rfl⟩
            rw [hx5] at ok5 h5 ht ⊢
            have hqs := pt_size ok5
            have hqa := pt_all ok5
            simp only at hqs hqa
            simp [go_sem, b45, hqs, hqa, hzs, blit_whole]
            exact fin (x := (s5, q5, e5)) ht ok5 ((hH _).weak h5 (fun k hk => by
              rcases hk with (hk | hk) | hk
              · exact .inl hk
              · exact .inr ⟨hk.1, by omega⟩
              · exact .inr ⟨by omega, hk.2⟩) (Gr.lt hl1 (by omega))) ((cw3.trans (c4.mono fun _ _ e => e.elim)).trans' c5 fun k hk e => e.elim id fun e => by omega)
        · rw [if_pos hall] at ht
          have env4 := env3.ch c4 fun _ _ e => e
          obtain ⟨cs4, T4, fr4, hh4, hx4, hz4⟩ := id env4.lh
          have b44 := c4.obj b43 id
          have hs4 := c4.size
          simp [go_sem, hh4, hx4, hz4, b44, hzs, hza, blit_whole]
          exact fin (x := (s1, ptz, 1)) ht ptz_ok ((hH _).weak ((hH _).ch h3' c4 fun _ _ e => e) (fun k hk => hk.imp id fun e => ⟨e.1, by omega⟩) (Gr.lt hl1 (by omega))) (cw3.trans (c4.mono fun _ _ e => e.elim))
end
end Go.Proofs.YtppilgkgnofkpaaDoor
