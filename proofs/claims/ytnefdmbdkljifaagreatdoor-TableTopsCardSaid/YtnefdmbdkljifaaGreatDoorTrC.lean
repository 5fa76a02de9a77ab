/- Trees: a sink, and a node that is made anew. Conditions: the variables ptr.wide and tree.hole hold what the text lays. -/
import Derived.Test.YtnefdmbdkljifaaGreatDoorInL
set_option linter.unusedSimpArgs false
set_option linter.unusedVariables false

/- Trees: a leaf's pointer, of any source. Conditions: the variables ptr.wide and tree.hole hold what the text lays. -/
namespace Go.Proofs.YtnefdmbdkljifaaGreatDoor
open Go.RowKit Go.Kin

theorem gr2' {O : Nat → Prop} {w w1 w2 : World} (h1 : w.heap.size ≤ w1.heap.size) (h2 : w1.heap.size ≤ w2.heap.size) {k : Nat} (h : Gr (Gr O w w1) w1 w2 k) : Gr O w w2 k := by
  rcases h with (h | h) | h
  · exact .inl h
  · exact .inr ⟨h.1, by omega⟩
  · exact .inr ⟨by omega, h.2⟩
/-- down the tree, k nodes more -/
def tgo {σ : Type} (rd : Src σ) (off : Nat) : Nat → σ → Pt → σ × Pt × Int
  | 0, s, p => (s, p, 0)
  | k + 1, s, p => if (tread rd s p).2.2 ≠ 0 then ((tread rd s p).1, ptz, (tread rd s p).2.2) else tgo rd off k (tread rd s p).1 ((tread rd s p).2.1.getD (if k = 1 then off / 8 else off % 8) ptz)
def tget {σ : Type} (rd : Src σ) (s : σ) (root : Pt) (off : Nat) : σ × Pt × Int := if mayT root && decide (off < 64) then tgo rd off 2 s root else (s, ptz, 1)
section
variable {σ : Type} {H : σ → HP} {m : σ → Nat} {rd : Src σ} {bt : TypeId} {bv : Value} {s : σ} {w w' : World} {O : Nat → Prop}
set_option maxRecDepth 100000 in
set_option maxHeartbeats 4000000 in
theorem tget_gl (hs : SrcOk H m rd (.iface bt bv)) (hm : 32 ≤ m s) (hH : ∀ s, HOk (H s)) (h : H s w O) (p : Pt) (ok : PtOk p) (off : Nat) (hoff : off < 4294967296) (env : TEnv w) (hg : GlOk H O) :
    Ret Tryz.prog 32 #[.iface bt bv, .agg (pt p), .int .u32 off] w fun v' w' => v' = .tuple #[.agg (pt (tget rd s p off).2.1), .int .i64 (tget rd s p off).2.2] ∧ H (tget rd s p off).1 w' (Gr O w w') ∧ Ch O w w' := by
  refine v_enter Tryz.func32 Tryz.ntmps32 rfl (by simp) fun R' hR => ?_
  have hps := pt_size ok
  have hpa := pt_all ok
  have hzs := pt_size ptz_ok
  have hza := pt_all ptz_ok
  have hlO := (hH s).lt h
  have ca := ((Ch.refl Nw w).alloc (.cells (pt p) 37)).alloc (.cells (pt ptz) 37)
  have b0 := al2_0 w (.cells (pt p) 37) (.cells (pt ptz) 37)
  have b1 := al2_1 w (.cells (pt p) 37) (.cells (pt ptz) 37)
  have env1 := env.ch ca fun _ _ e => e
  have sa : ((w.alloc (.cells (pt p) 37)).alloc (.cells (pt ptz) 37)).heap.size = w.heap.size + 2 := by simp
  simp [go_sem, hps, hpa, hz_pt, zc_pt]
  revert ca b0 b1 env1 sa
  generalize (w.alloc (.cells (pt p) 37)).alloc (.cells (pt ptz) 37) = w1
  intro ca b0 b1 env1 sa
  have nO : ∀ j, w.heap.size ≤ j → ¬ O j := fun j hj e => by have := hlO j e; omega
  refine (tmay_any p w1 ok env1).mono ?_
  rintro _ w2 ⟨rfl, c2⟩
  have env2 := env1.ch c2 fun _ _ e => e
  have b02 := c2.obj b0 id
  have b12 := c2.obj b1 id
  have h2 := (hH s).ch h (ca.trans c2) fun _ _ e => e
  have hs2 := c2.size
  have cw2 : Ch Nw w w2 := ca.trans c2
  obtain ⟨cs, T, fr, hh, hx, hz⟩ := id env2.lh
  have bad : ∀ {W : World}, (mayT p && decide (off < 64)) = false → W = w2.setRow (w.heap.size + 1) (pt ptz) → R' (.tuple #[.agg (pt ptz), .int .i64 1]) W := fun {W} e1 e2 => by
    have e3 : tget rd s p off = (s, ptz, 1) := by unfold tget; rw [e1]; rfl
    rw [e3] at hR
    have c' : Ch Nw w W := by rw [e2]; exact cw2.setRow (.inr (by omega)) _
    exact hR _ _ ⟨rfl, (hH s).weak ((hH s).ch h c' fun _ _ e => e) (fun k hk => .inl hk) (Gr.lt hlO c'.size), c'.mono fun _ _ e => e.elim⟩
  cases hmt : mayT p with
  | false =>
    simp [go_sem, b12, hh, hx, hz, hzs, hza, blit_whole]
    exact bad (by rw [hmt]; rfl) rfl
  | true =>
    by_cases h64 : off < 64
    · have h64i : ¬ (64 : Int) ≤ off := by omega
      have hT : tget rd s p off = tgo rd off 2 s p := by unfold tget; rw [hmt, decide_eq_true h64]; rfl
      rw [hT] at hR
      clear bad hT
      simp [go_sem, h64, h64i, b02, hps, hpa, hz_pt, zc_pt, hzs, blit_whole]
      have c3 := (Ch.refl Nw w2).alloc (.cells (pt p) 37)
      have b3 := hp_alloc w2 (.cells (pt p) 37)
      have b13 := c3.obj b12 id
      have env3 := env2.ch c3 fun _ _ e => e
      have h3 := (hH s).ch h2 c3 fun _ _ e => e
      have s3 : (w2.alloc (.cells (pt p) 37)).heap.size = w2.heap.size + 1 := by simp
      have cw3 := cw2.trans c3
      obtain ⟨g, hgs⟩ : ∃ g, w2.heap.size = g := ⟨_, rfl⟩
      rw [hgs] at b3 s3 ⊢
      generalize w2.alloc (.cells (pt p) 37) = w3 at *
      obtain ⟨g6, hg6⟩ : ∃ g6, w.heap.size + 1 = g6 := ⟨_, rfl⟩
      rw [hg6] at b13 ⊢
      have hs3 := cw3.size
      have hw1 : IntKind.u32.wrap ((off : Int).tdiv 8) = ((off / 8 : Nat) : Int) := by rw [Int.tdiv_eq_ediv_of_nonneg (by omega)]; simp [IntKind.wrap, IntKind.bits, IntKind.signed]; omega
      have hw2 : IntKind.u32.wrap ((off : Int).tmod 8) = ((off % 8 : Nat) : Int) := by rw [Int.tmod_eq_emod_of_nonneg (by omega)]; simp [IntKind.wrap, IntKind.bits, IntKind.signed]; omega
      have hq1 : IntKind.u32.wrap ((off : Int) / 8) = (off : Int) / 8 := by simp [IntKind.wrap, IntKind.bits, IntKind.signed]; omega
      have hq2 : IntKind.u32.wrap ((off : Int) % 8) = (off : Int) % 8 := by simp [IntKind.wrap, IntKind.bits, IntKind.signed]; omega
      have hr1 : (off : Int).tdiv 8 = ((off / 8 : Nat) : Int) := by rw [Int.tdiv_eq_ediv_of_nonneg (by omega)]; omega
      have hr2 : (off : Int).tmod 8 = ((off % 8 : Nat) : Int) := by rw [Int.tmod_eq_emod_of_nonneg (by omega)]; omega
      have hl3 : ∀ k, O k → k < w3.heap.size := fun k hk => by have := hlO k hk; omega
      refine v_loop (fun r f u => ∃ (i : Nat) (s' : σ) (p' : Pt), r = 2 - i ∧ i ≤ 2 ∧ f 0 = .iface bt bv ∧ f 6 = .pointer (some ⟨g6, 0, none⟩) ∧ f 8 = .pointer (some ⟨g, 0, none⟩) ∧ f 31 = .agg #[.int .u32 (off / 8 : Nat), .int .u32 (off % 8 : Nat)] ∧ f 32 = .int .i64 i ∧ PtOk p' ∧ tgo rd off 2 s p = tgo rd off (2 - i) s' p'
          ∧ u.heap[g]? = some (.cells (pt p') 37 (0, 0)) ∧ H s' u (Gr O w3 u) ∧ Ch (fun k => O k ∨ k = g) w3 u ∧ 16 * (2 - i) ≤ m s') 2
        ⟨0, s, p, rfl, by omega, by simp, by simp, by simp, by simp [hw1, hw2, hr1, hr2, hq1, hq2], by simp, ok, rfl, b3, (hH s).weak h3 (fun k hk => .inl hk) (Gr.lt hl3 (Nat.le_refl _)), Ch.refl _ _, hm⟩ ?_
      rintro J hJ _ f u ⟨i, s', p', rfl, hi, f0, f6, f8, f31, f32, ok', ht, bu, hu, cu, hmu⟩
      have hsu := cu.size
      have envu := hg.env env3 cu ⟨_, hu⟩ fun k hk e => e.elim id fun e => by
        have := env2.lt k hk
        omega
      have hgO : ¬ O g := nO g (by omega)
      have h6O : ¬ O g6 := nO g6 (by omega)
      have b6u := cu.obj b13 fun e => e.elim h6O fun e => by omega
      have hps' := pt_size ok'
      have hpa' := pt_all ok'
      have hgu : GlOk H (Gr O w3 u) := hg.gr env3
      have fin : ∀ {W : World} {x : σ × Pt × Int}, tgo rd off 2 s p = x → H x.1 W (Gr O w3 W) → Ch (fun k => O k ∨ k = g) w3 W → R' (.tuple #[.agg (pt x.2.1), .int .i64 x.2.2]) (W.setRow g6 (pt x.2.1)) := fun {W x} e a c => by
        subst e
        have hsW := c.size
        have c' : Ch (one g6) W (W.setRow g6 (pt (tgo rd off 2 s p).2.1)) := (Ch.refl (one g6) W).setRow (.inl rfl) _
        have hs' := c'.size
        refine hR _ _ ⟨rfl, (hH _).weak ((hH _).ch a c' fun k hk e => by simp only [one] at e; subst e; exact hk.elim h6O fun e => by omega) (fun k hk => hk.imp id fun e => ⟨by omega, by omega⟩) (Gr.lt hlO (by omega)), ?_⟩
        exact ((cw3.mono fun _ _ e => e.elim).trans' c fun k hk e => e.resolve_right (by omega)).trans' c' fun k hk e => by simp only [one] at e; omega
      by_cases hlt : i < 2
      · have hi7 : (i : Int) < 2 := by omega
        obtain ⟨ix, hix⟩ : ∃ ix, (if i = 0 then off / 8 else off % 8) = ix := ⟨_, rfl⟩
        have hix8 : ix < 8 := by rw [← hix]; split <;> omega
        have hgo : tgo rd off (2 - i) s' p' = if (tread rd s' p').2.2 ≠ 0 then ((tread rd s' p').1, ptz, (tread rd s' p').2.2) else tgo rd off (2 - (i + 1)) (tread rd s' p').1 ((tread rd s' p').2.1.getD ix ptz) := by
          rcases (show i = 0 ∨ i = 1 by omega) with rfl | rfl
          · subst hix; rfl
          · subst hix; rfl
        have hidx : ∀ u, (Instr.index 134 (.agg #[.int .u32 ((off : Int) / 8), .int .u32 ((off : Int) % 8)]) (.int .i64 i)).run Tryz.prog u = .ok (.int .u32 ix) u := fun u => by
          rcases (show i = 0 ∨ i = 1 by omega) with rfl | rfl
          · subst hix; exact run_index_agg Tryz.underlying134 Tryz.sizeOf32 Tryz.isAgg32 (by decide) (by simp) u
          · subst hix; exact run_index_agg Tryz.underlying134 Tryz.sizeOf32 Tryz.isAgg32 (by decide) (by simp) u
        have hwi : IntKind.i64.wrap ((i : Int) + 1) = ((i + 1 : Nat) : Int) := by rw [IntKind.wrap_i64]; omega
        simp [go_sem, f0, f8, f31, f32, hi7, hidx, bu, hps', hpa']
        have hm9 := tread_m hs s' p'
        refine (tread_any hs (by omega) hH hu p' ok' envu hgu).mono ?_
        rintro _ w9 ⟨rfl, h9, c9⟩
        have ok8 := tread_ok rd s' p'
        obtain ⟨T9, hT9⟩ : ∃ T9, tread rd s' p' = T9 := ⟨_, rfl⟩
        rw [hT9] at ok8 h9 hgo hm9 ⊢
        obtain ⟨s9, N8, e8⟩ := T9
        simp only at ok8 h9 hgo hm9 ⊢
        have h8s := nd_size ok8
        have h8a := nd_all ok8
        have hs9 := c9.size
        have bu9 := c9.obj bu fun e => e.elim hgO fun e => by omega
        have b69 := c9.obj b6u fun e => e.elim h6O fun e => by omega
        have h9 : H s9 w9 (Gr O w3 w9) := (hH _).weak h9 (fun k hk => gr2' hsu hs9 hk) (Gr.lt hl3 (by omega))
        have cu9 : Ch (fun k => O k ∨ k = g) w3 w9 := cu.trans' c9 fun k hk e => e.elim .inl fun e => by omega
        have env9 := hgu.env envu c9 ⟨_, h9⟩ fun _ _ e => e
        have c10 := (Ch.refl Nw w9).alloc (.cells (nd N8) 128)
        have bn := hp_alloc w9 (.cells (nd N8) 128)
        have bu10 := c10.obj bu9 id
        have b610 := c10.obj b69 id
        have env10 := env9.ch c10 fun _ _ e => e
        have h10 : H s9 _ _ := (hH _).ch h9 c10 fun _ _ e => e
        have cu10 := cu9.trans (c10.mono fun _ _ e => e.elim)
        simp [go_sem, hz_nd, zc_nd, h8s, h8a, nd_size ndz_ok, blit_whole]
        obtain ⟨gn, hgn⟩ : ∃ gn, w9.heap.size = gn := ⟨_, rfl⟩
        rw [hgn] at bn ⊢
        generalize w9.alloc (.cells (nd N8) 128) = w10 at *
        obtain ⟨cs', T', fr', hh', hx', hz'⟩ := id env10.lh
        have hs10 := c10.size
        have h10 : H s9 w10 (Gr O w3 w10) := (hH _).weak h10 (fun k hk => hk.imp id fun e => ⟨e.1, by omega⟩) (Gr.lt hl3 (by omega))
        by_cases h8 : e8 = 0
        · subst h8
          rw [if_neg (by simp)] at hgo
          obtain ⟨q, hq⟩ : ∃ q, N8[ix]? = some q := ⟨_, List.getElem?_eq_getElem (by rw [ok8.len]; exact hix8)⟩
          have okq := ok8.all _ (List.mem_of_getElem? hq)
          have hqd : N8.getD ix ptz = q := by rw [List.getD_eq_getElem?_getD, hq]; rfl
          have hqe := nd_get ok8 hq
          rw [hqd] at hgo
          have hqs := pt_size okq
          have hix8i : (ix : Int) < 8 := by omega
          have hixe : ix * 41 + 41 ≤ 328 := by omega
          simp [go_sem, f8, f32, bn, bu10, hix8, hix8i, hixe, h8s, hqe, hps', hqs, blit_whole, hwi]
          have c11 : Ch (one g) w10 (w10.setRow g (pt q)) := (Ch.refl (one g) w10).setRow (.inl rfl) _
          have hs11 := c11.size
          have h11 : H s9 (w10.setRow g (pt q)) (Gr O w3 (w10.setRow g (pt q))) := (hH _).weak ((hH _).ch h10 c11 fun k hk e => by simp only [one] at e; subst e; exact hk.elim hgO fun e => by omega) (fun k hk => hk.imp id fun e => ⟨e.1, by omega⟩) (Gr.lt hl3 (by omega))
          exact Rnd.intro (2 - (i + 1)) (by omega) (hJ _ _ _ ⟨i + 1, s9, q, rfl, by omega, by simp [f0], by simp [f6], by simp [f8], by simp [f31], by simp, okq, ht.trans hgo, by rw [hp_setRow, bu10]; rfl, h11, cu10.trans (c11.mono fun k _ e => by simp only [one] at e; exact .inr e), by omega⟩)
        · rw [if_pos h8] at hgo
          have h82 : (e8 == 0) = false := beq_false_of_ne h8
          simp [go_sem, h8, h82, bne, f6, b610, hh', hx', hz', hzs, hza, blit_whole]
          exact fin (x := (s9, ptz, e8)) (ht.trans hgo) h10 cu10
      · obtain rfl : i = 2 := by omega
        have ht : tgo rd off 2 s p = (s', p', 0) := ht
        simp [go_sem, f6, f8, f32, bu, b6u, hps', hpa', hzs, blit_whole]
        exact fin (x := (s', p', 0)) ht hu cu
    · have h64i : (64 : Int) ≤ off := by omega
      simp [go_sem, h64, h64i, b12, hh, hx, hz, hzs, hza, blit_whole]
      exact bad (by rw [decide_eq_false h64]; simp) rfl
theorem tget_any (hs : SrcOk H m rd (.iface bt bv)) (hm : 32 ≤ m s) (hH : ∀ s, HOk (H s)) (h : H s w O) (p : Pt) (ok : PtOk p) (off : Nat) (hoff : off < 4294967296) (env : TEnv w) (hg : ∀ k, glT k → ¬ O k) :
    Ret Tryz.prog 32 #[.iface bt bv, .agg (pt p), .int .u32 off] w fun v' w' => v' = .tuple #[.agg (pt (tget rd s p off).2.1), .int .i64 (tget rd s p off).2.2] ∧ H (tget rd s p off).1 w' (Gr O w w') ∧ Ch O w w' :=
  tget_gl hs hm hH h p ok off hoff env (.inl hg)
end
end Go.Proofs.YtnefdmbdkljifaaGreatDoor

namespace Go.Proofs.YtnefdmbdkljifaaGreatDoor
open Go.RowKit Go.Kin

theorem own_in {w : World} {e s n : Nat} {v : Value} {xs : List Value} (h : w.ownsRow 0 e s v n xs) : ∀ k, v.ownBlock = some k → k < w.heap.size := fun k hk => by
  rcases h.2 with ⟨hv, _⟩ | ⟨g, cap, cur, hv, _, hg, _⟩
  · rw [hv] at hk; simp [Value.ownBlock] at hk
  · rw [hv] at hk
    simp [Value.ownBlock] at hk
    rw [← hk]; exact lt_of_block hg
/-- a sink in memory: it reads, makes blocks, is told what is old -/
structure SnkOk {σ : Type} (H : σ → HP) (m : σ → Nat) (rd : Src σ) (nw : σ → Pt → List UInt8 → σ × Pt × Int) (od : σ → Pt → σ) (sv : Value) : Prop where
  rd : SrcOk H m rd sv
  stepN : ∀ (s : σ) (p : Pt) (b : List UInt8), m s ≤ m (nw s p b).1 + 16
  stepO : ∀ (s : σ) (p : Pt), m s ≤ m (od s p) + 16
  nw : ∀ (s : σ) (w : World) (O : Nat → Prop) (p : Pt) (b : List UInt8) (v : Value) (K : Value → World → Prop), 16 ≤ m s → H s w O → PtOk p → b.length = 512 → Sl w v 512 (bvs b) → (∀ j, v.ownBlock = some j → ¬ O j ∧ j < w.heap.size) → TEnv w → GlOk H O →
    (∀ w', PtOk (nw s p b).2.1 → H (nw s p b).1 w' (Gr O w w') → Ch O w w' → K (.tuple #[.agg (pt (nw s p b).2.1), .int .i64 (nw s p b).2.2]) w') → VInv Tryz.prog sv "New" [.agg (pt p), v] w K
  od : ∀ (s : σ) (w : World) (O : Nat → Prop) (p : Pt) (K : Value → World → Prop), 16 ≤ m s → H s w O → PtOk p → TEnv w → GlOk H O →
    (∀ v' w', H (od s p) w' (Gr O w w') → Ch O w w' → K v' w') → VInv Tryz.prog sv "Old" [.agg (pt p)] w K
def nwp (level obj off : Nat) : Pt := ⟨3, level, obj, off, 0, List.replicate 32 0, [0, 0, 0, 0]⟩
/-- a node that was another one, anew -/
def tmade {σ : Type} (nw : σ → Pt → List UInt8 → σ × Pt × Int) (od : σ → Pt → σ) (s : σ) (p : Pt) (was n : List Pt) (level obj off : Nat) : σ × Pt × Int :=
  if n = was then (s, p, 0) else if n = ndz then (if p = ptz then s else od s p, ptz, 0) else if n.all okP = false then (if p = ptz then s else od s p, ptz, 1) else nw (if p = ptz then s else od s p) (nwp level obj off) (bytesN n)
theorem al5 (w : World) (A B C D E : Obj) : ∃ W, ((((w.alloc A).alloc B).alloc C).alloc D).alloc E = W ∧ W.heap[w.heap.size]? = some A ∧ W.heap[w.heap.size + 1]? = some B ∧ W.heap[w.heap.size + 2]? = some C ∧ W.heap[w.heap.size + 3]? = some D ∧ W.heap[w.heap.size + 4]? = some E ∧ W.heap.size = w.heap.size + 5 ∧ Ch Nw w W := by
  refine ⟨_, rfl, ?_, ?_, ?_, ?_, ?_, by simp, (((((Ch.refl Nw w).alloc _).alloc _).alloc _).alloc _).alloc _⟩
  · rw [hp_alloc_lt _ _ _ (by simp <;> omega), hp_alloc_lt _ _ _ (by simp <;> omega), hp_alloc_lt _ _ _ (by simp <;> omega), hp_alloc_lt _ _ _ (by simp <;> omega), hp_alloc]
  · rw [hp_alloc_lt _ _ _ (by simp <;> omega), hp_alloc_lt _ _ _ (by simp <;> omega), hp_alloc_lt _ _ _ (by simp <;> omega)]
    simp
  · rw [hp_alloc_lt _ _ _ (by simp <;> omega), hp_alloc_lt _ _ _ (by simp <;> omega)]
    simp
  · rw [hp_alloc_lt _ _ _ (by simp <;> omega)]
    simp
  · simp
theorem bld_nwp {w : World} {K : Value → World → Prop} (l o f : Nat) : VBld Tryz.prog 37 [(0, .int .u8 3), (1, .int .u8 l), (2, .int .u16 o), (3, .int .u32 f)] w K = K (.agg (pt (nwp l o f))) w := by
  refine VBld_struct Tryz.underlying37 hz_pt (places := #[(0, 1), (1, 1), (2, 1), (3, 1), (4, 1), (5, 32), (37, 4)]) (by simp [go_sem]) ?_
  simp [fillB, zc_pt, Value.cells, blit_size, pt_size ptz_ok]
  simp [blit, pt, ptz, nwp, bvs_length, u16s, u16v]
  rfl
theorem nwp_ok {l o f : Nat} (h1 : l < 256) (h2 : o < 65536) (h3 : f < 4294967296) : PtOk (nwp l o f) := ⟨by simp [nwp], by simpa [nwp] using h1, by simpa [nwp] using h2, by simpa [nwp] using h3, by simp [nwp], by simp [nwp], by simp [nwp], by simp [nwp]⟩
section
variable {σ : Type} {H : σ → HP} {m : σ → Nat} {rd : Src σ} {nw : σ → Pt → List UInt8 → σ × Pt × Int} {od : σ → Pt → σ} {bt : TypeId} {bv sv : Value} {s : σ} {w w' : World} {O : Nat → Prop}
theorem tmade_m (hs : SnkOk H m rd nw od sv) (s : σ) (p : Pt) (was n : List Pt) (level obj off : Nat) : m s ≤ m (tmade nw od s p was n level obj off).1 + 32 := by
  have h1 := hs.stepO s p
  have h2 := hs.stepN (if p = ptz then s else od s p) (nwp level obj off) (bytesN n)
  have h3 : m s ≤ m (if p = ptz then s else od s p) + 16 := by split <;> omega
  unfold tmade
  split
  · exact Nat.le_add_right _ _
  · split
    · exact Nat.le_trans h3 (by simp)
    · split
      · exact Nat.le_trans h3 (by simp)
      · omega
set_option maxRecDepth 100000 in
set_option maxHeartbeats 4000000 in
theorem tmade_any (hs : SnkOk H m rd nw od (.iface bt bv)) (hm : 32 ≤ m s) (hH : ∀ s, HOk (H s)) (h : H s w O) (p : Pt) (ok : PtOk p) (was n : List Pt) (okw : NdOk was) (okn : NdOk n) (level obj off : Nat) (env : TEnv w) (hg : GlOk H O) (hlv : level < 256) (hob : obj < 65536) (hof : off < 4294967296) :
    Ret Tryz.prog 56 #[.agg #[.iface bt bv, .int .u16 obj], .agg (pt p), .agg (nd was), .agg (nd n), .int .u8 level, .int .u32 off] w fun v' w' => v' = .tuple #[.agg (pt (tmade nw od s p was n level obj off).2.1), .int .i64 (tmade nw od s p was n level obj off).2.2] ∧ PtOk (tmade nw od s p was n level obj off).2.1 ∧ H (tmade nw od s p was n level obj off).1 w' (Gr O w w') ∧ Ch O w w' := by
  refine v_enter Tryz.func56 Tryz.ntmps56 rfl (by simp) fun R' hR => ?_
  have hps := pt_size ok
  have hpa := pt_all ok
  have hzs := pt_size ptz_ok
  have hza := pt_all ptz_ok
  have hws := nd_size okw
  have hwa := nd_all okw
  have hns := nd_size okn
  have hna := nd_all okn
  have hlO := (hH s).lt h
  have nO : ∀ j, w.heap.size ≤ j → ¬ O j := fun j hj e => by have := hlO j e; omega
  simp [go_sem, hps, hpa, hz_pt, zc_pt, hws, hwa, hns, hna]
  obtain ⟨W1, hW1, b0, b1, b2, b3, b4, sa, ca⟩ := al5 w (.cells #[.iface bt bv, .int .u16 obj] 126) (.cells (pt p) 37) (.cells (nd was) 128) (.cells (nd n) 128) (.cells (pt ptz) 37)
  rw [hW1]
  have env1 := env.ch ca fun _ _ e => e
  have c00 : W1.cell? ⟨w.heap.size, 0, none⟩ = some (.iface bt bv) := cell_blk b0 0
  have h1 := (hH s).ch h ca fun _ _ e => e
  obtain ⟨g, hgs⟩ : ∃ g, w.heap.size = g := ⟨_, rfl⟩
  rw [hgs] at b0 b1 b2 b3 b4 sa nO c00 ⊢
  have hl1 : ∀ k, O k → k < W1.heap.size := fun k hk => by have := hlO k hk; omega
  have heq1 : ∀ w, (Op.equalIn 10000 128 (.agg (nd n)) (.agg (nd was))).run Tryz.prog w = .ok (decide (n = was)) w := fun w => eq_nd w okn okw
  have heqp : ∀ w, (Op.equalIn 10000 37 (.agg (pt p)) (.agg (pt ptz))).run Tryz.prog w = .ok (decide (p = ptz)) w := fun w => eq_pt w ok ptz_ok
  have fin : ∀ {W : World} {x : σ × Pt × Int}, tmade nw od s p was n level obj off = x → PtOk x.2.1 → H x.1 W (Gr O W1 W) → Ch O W1 W → R' (.tuple #[.agg (pt x.2.1), .int .i64 x.2.2]) (W.setRow (g + 4) (pt x.2.1)) := fun {W x} e okx a c => by
    subst e
    have hsW := c.size
    have c' : Ch (one (g + 4)) W (W.setRow (g + 4) (pt (tmade nw od s p was n level obj off).2.1)) := (Ch.refl (one (g + 4)) W).setRow (.inl rfl) _
    have hs' := c'.size
    refine hR _ _ ⟨rfl, okx, (hH _).weak ((hH _).ch a c' fun k hk e => by simp only [one] at e; subst e; exact hk.elim (nO _ (by omega)) fun e => by omega) (fun k hk => hk.imp id fun e => ⟨by omega, by omega⟩) (Gr.lt hlO (by omega)), ?_⟩
    exact ((ca.mono fun _ _ e => e.elim).trans c).trans' c' fun k hk e => by simp only [one] at e; omega
  clear hR
  by_cases hnw : n = was
  · have ht : tmade nw od s p was n level obj off = (s, p, 0) := by unfold tmade; rw [if_pos hnw]
    subst hnw
    simp [go_sem, heq1, b1, b4, hps, hpa, hzs, blit_whole]
    exact fin (x := (s, p, 0)) ht ok ((hH _).weak h1 (fun k hk => .inl hk) (Gr.lt hl1 (Nat.le_refl _))) (Ch.refl _ _)
  · obtain ⟨s1, hs1⟩ : ∃ s1, (if p = ptz then s else od s p) = s1 := ⟨_, rfl⟩
    have hm1 : 16 ≤ m s1 := by
      have h1 := hs.stepO s p
      rw [← hs1]
      split <;> omega
    have ht : tmade nw od s p was n level obj off = if n = ndz then (s1, ptz, 0) else if n.all okP = false then (s1, ptz, 1) else nw s1 (nwp level obj off) (bytesN n) := by unfold tmade; rw [if_neg hnw, hs1]
    obtain ⟨cs, T, fr, hh, hx, hz⟩ := id env1.lh
    by_cases hp : p = ptz
    case' pos =>
      rw [if_pos hp] at hs1
      subst hp
      obtain ⟨w2, hw2, c2⟩ : ∃ w2, W1 = w2 ∧ Ch O W1 w2 := ⟨W1, rfl, Ch.refl _ _⟩
      have h2 : H s1 w2 (Gr O W1 w2) := by rw [← hs1, ← hw2]; exact (hH _).weak h1 (fun k hk => .inl hk) (Gr.lt hl1 (Nat.le_refl _))
      simp [go_sem, heq1, hnw, b1, hps, hpa, hh, hx, hz, heqp]
      rw [hw2]
    case' neg =>
      rw [if_neg hp] at hs1
      simp [go_sem, heq1, hnw, c00, b1, hps, hpa, hh, hx, hz, heqp, hp]
      refine hs.od s W1 O p _ (by omega) h1 ok env1 hg fun v' w2 h2 c2 => ?_
      rw [hs1] at h2
    all_goals
      have hs2 := c2.size
      have nG : ∀ j, g ≤ j → j < W1.heap.size → ¬ O j := fun j h1 _ => nO j h1
      have b02 := c2.obj b0 (nO _ (by omega))
      have b32 := c2.obj b3 (nO _ (by omega))
      have b42 := c2.obj b4 (nO _ (by omega))
      have env2 := hg.env env1 c2 ⟨_, h2⟩ fun _ _ e => e
      simp [go_sem, b32, hns, hna]
      refine (empty_any n w2 okn).mono ?_
      rintro _ w3 ⟨rfl, c3⟩
      have env3 := env2.ch c3 fun _ _ e => e
      obtain ⟨cs3, T3, fr3, hh3, hx3, hz3⟩ := id env3.lh
      have b33 := c3.obj b32 id
      have b43 := c3.obj b42 id
      have h3 := (hH _).ch h2 c3 fun _ _ e => e
      have hs3 := c3.size
      have h3' : H s1 w3 (Gr O W1 w3) := (hH _).weak h3 (fun k hk => hk.imp id fun e => ⟨e.1, by omega⟩) (Gr.lt hl1 (by omega))
      have cw3 : Ch O W1 w3 := c2.trans (c3.mono fun _ _ e => e.elim)
      by_cases hn0 : n = ndz
      · rw [if_pos hn0] at ht
        simp [go_sem, hn0, hh3, hx3, hz3, b43, hzs, hza, blit_whole]
        exact fin (x := (s1, ptz, 0)) ht ptz_ok h3' cw3
      · rw [if_neg hn0] at ht
        simp [go_sem, hn0, b33, hns, hna]
        refine (nput_any n w3 okn env3.lw).mono ?_
        rintro v4 w4 (⟨hall, sl, rfl, hm⟩ | ⟨hall, rfl, c4⟩)
        · rw [if_neg (by rw [hall]; simp)] at ht
          have c4 := hm.ch
          have hbl : (bytesN n).length = 512 := by rw [bytesN_length _ okn.all, okn.len]
          have b04 := (c3.trans c4).obj b02 id
          have c04 : w4.cell? ⟨g, 0, none⟩ = some (.iface bt bv) := cell_blk b04 0
          have c14 : w4.cell? ⟨g, 1, none⟩ = some (.int .u16 obj) := cell_blk b04 1
          have b44 := c4.obj b43 id
          have env4 := env3.ch c4 fun _ _ e => e
          have hs4 := c4.size
          have h4 : H s1 w4 (Gr O W1 w2) := (hH _).ch ((hH _).ch h2 c3 fun _ _ e => e) c4 fun _ _ e => e
          have hg4 : GlOk H (Gr O W1 w2) := hg.gr env1
          simp [go_sem, c04, c14, bld_nwp]
          refine hs.nw s1 w4 (Gr O W1 w2) (nwp level obj off) (bytesN n) sl _ (by omega) h4 (nwp_ok hlv hob hof) hbl (Sl.of_own hm.own) (fun j hj => ⟨fun e => ?_, own_in hm.own j hj⟩) env4 hg4 fun w5 ok5 h5 c5 => ?_
          · have := hm.fresh j hj
            exact e.elim (fun e => by have := hl1 j e; omega) fun e => by omega
          · have hs5 := c5.size
            have b45 := c5.obj b44 fun e => e.elim (nO _ (by omega)) fun e => by omega
            obtain ⟨⟨s5, q5, e5⟩, hx5⟩ : ∃ x5, nw s1 (nwp level obj off) (bytesN n) = x5 := ⟨_, rfl⟩
            rw [hx5] at ok5 h5 ht ⊢
            have hqs := pt_size ok5
            have hqa := pt_all ok5
            simp only at hqs hqa
            simp [go_sem, b45, hqs, hqa, hzs, blit_whole]
            exact fin (x := (s5, q5, e5)) ht ok5 ((hH _).weak h5 (fun k hk => by
              rcases hk with (hk | hk) | hk
              · exact .inl hk
              · exact .inr ⟨hk.1, by omega⟩
              · exact .inr ⟨by omega, hk.2⟩) (Gr.lt hl1 (by omega))) ((cw3.trans (c4.mono fun _ _ e => e.elim)).trans' c5 fun k hk e => e.elim id fun e => by omega)
        · rw [if_pos hall] at ht
          have env4 := env3.ch c4 fun _ _ e => e
          obtain ⟨cs4, T4, fr4, hh4, hx4, hz4⟩ := id env4.lh
          have b44 := c4.obj b43 id
          have hs4 := c4.size
          simp [go_sem, hh4, hx4, hz4, b44, hzs, hza, blit_whole]
          exact fin (x := (s1, ptz, 1)) ht ptz_ok ((hH _).weak ((hH _).ch h3' c4 fun _ _ e => e) (fun k hk => hk.imp id fun e => ⟨e.1, by omega⟩) (Gr.lt hl1 (by omega))) (cw3.trans (c4.mono fun _ _ e => e.elim))
end
end Go.Proofs.YtnefdmbdkljifaaGreatDoor
