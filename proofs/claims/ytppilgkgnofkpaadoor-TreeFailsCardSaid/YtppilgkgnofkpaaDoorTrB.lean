/- Trees: a leaf's pointer, of any source. Conditions: the variables ptr.wide and tree.hole hold what the text lays. -/
import Derived.Test.YtppilgkgnofkpaaDoorTrA
set_option linter.unusedSimpArgs false
set_option linter.unusedVariables false

namespace Go.Proofs.YtppilgkgnofkpaaDoor
open Go.RowKit Go.Kin

theorem gr2' {O : Nat → Prop} {w w1 w2 : World} (h1 : w.heap.size ≤ w1.heap.size) (h2 : w1.heap.size ≤ w2.heap.size) {k : Nat} (h : Gr (Gr O w w1) w1 w2 k) : Gr O w w2 k := by
  rcases h with (h | h) | h
  · exact .inl h
  · exact .inr ⟨h.1, by omega⟩
  · exact .inr ⟨by omega, h.2⟩
/-- down the tree, k nodes more -/
def tgo {σ : Type} (rd : Src σ) (off : Nat) : Nat → σ → Pt → σ × Pt × Int
  | 0, s, p => (s, p, 0)
  | k + 1, s, p => if (tread rd s p).2.2 ≠ 0 then ((tread rd s p).1, ptz, (tread rd s p).2.2) else tgo rd off k (tread rd s p).1 ((tread rd s p).2.1.getD (if k = 1 then off / 8 else off % 8) ptz)
def tget {σ : Type} (rd : Src σ) (s : σ) (root : Pt) (off : Nat) : σ × Pt × Int := if mayT root && decide (off < 64) then tgo rd off 2 s root else (s, ptz, 1)
section
variable {σ : Type} {H : σ → HP} {m : σ → Nat} {rd : Src σ} {bt : TypeId} {bv : Value} {s : σ} {w w' : World} {O : Nat → Prop}
set_option maxRecDepth 100000 in
set_option maxHeartbeats 4000000 in
theorem tget_gl (hs : SrcOk H m rd (.iface bt bv)) (hm : 32 ≤ m s) (hH : ∀ s, HOk (H s)) (h : H s w O) (p : Pt) (ok : PtOk p) (off : Nat) (hoff : off < 4294967296) (env : TEnv w) (hg : GlOk H O) :
    Ret Tryd.prog 26 #[.iface bt bv, .agg (pt p), .int .u32 off] w fun v' w' => v' = .tuple #[.agg (pt (tget rd s p off).2.1), .int .i64 (tget rd s p off).2.2] ∧ H (tget rd s p off).1 w' (Gr O w w') ∧ Ch O w w' := by
  refine v_enter Tryd.func26 Tryd.ntmps26 rfl (by simp) fun R' hR => ?_
  have hps := pt_size ok
  have hpa := pt_all ok
  have hzs := pt_size ptz_ok
  have hza := pt_all ptz_ok
  have hlO := (hH s).lt h
  have ca := ((Ch.refl Nw w).alloc (.cells (pt p) 28)).alloc (.cells (pt ptz) 28)
  have b0 := al2_0 w (.cells (pt p) 28) (.cells (pt ptz) 28)
  have b1 := al2_1 w (.cells (pt p) 28) (.cells (pt ptz) 28)
  have env1 := env.ch ca fun _ _ e => e
  have sa : ((w.alloc (.cells (pt p) 28)).alloc (.cells (pt ptz) 28)).heap.size = w.heap.size + 2 := by simp
  simp [go_sem, hps, hpa, hz_pt, zc_pt]
  revert ca b0 b1 env1 sa
  generalize (w.alloc (.cells (pt p) 28)).alloc (.cells (pt ptz) 28) = w1
  intro ca b0 b1 env1 sa
  have nO : ∀ j, w.heap.size ≤ j → ¬ O j := fun j hj e => by have := hlO j e; omega
  refine (tmay_any p w1 ok env1).mono ?_
  rintro _ w2 ⟨rfl, c2⟩
  have env2 := env1.ch c2 fun _ _ e => e
  have b02 := c2.obj b0 id
  have b12 := c2.obj b1 id
  have h2 := (hH s).ch h (ca.trans c2) fun _ _ e => e
  have hs2 := c2.size
  have cw2 : Ch Nw w w2 := ca.trans c2
  obtain ⟨cs, T, fr, hh, hx, hz⟩ := id env2.lh
  have bad : ∀ {W : World}, (mayT p && decide (off < 64)) = false → W = w2.setRow (w.heap.size + 1) (pt ptz) → R' (.tuple #[.agg (pt ptz), .int .i64 1]) W := fun {W} e1 e2 => by
    have e3 : tget rd s p off = (s, ptz, 1) := by unfold tget; rw [e1]; rfl
    rw [e3] at hR
    have c' : Ch Nw w W := by rw [e2]; exact cw2.setRow (.inr (by omega)) _
    exact hR _ _ ⟨rfl, (hH s).weak ((hH s).ch h c' fun _ _ e => e) (fun k hk => .inl hk) (Gr.lt hlO c'.size), c'.mono fun _ _ e => e.elim⟩
  cases hmt : mayT p with
  | false =>
    simp [go_sem, b12, hh, hx, hz, hzs, hza, blit_whole]
    exact bad (by rw [hmt]; rfl) rfl
  | true =>
    by_cases h64 : off < 64
    · have h64i : ¬ (64 : Int) ≤ off := by omega
      have hT : tget rd s p off = tgo rd off 2 s p := by unfold tget; rw [hmt, decide_eq_true h64]; rfl
      rw [hT] at hR
      clear bad hT
      simp [go_sem, h64, h64i, b02, hps, hpa, hz_pt, zc_pt, hzs, blit_whole]
      have c3 := (Ch.refl Nw w2).alloc (.cells (pt p) 28)
      have b3 := hp_alloc w2 (.cells (pt p) 28)
      have b13 := c3.obj b12 id
      have env3 := env2.ch c3 fun _ _ e => e
      have h3 := (hH s).ch h2 c3 fun _ _ e => e
      have s3 : (w2.alloc (.cells (pt p) 28)).heap.size = w2.heap.size + 1 := by simp
      have cw3 := cw2.trans c3
      obtain ⟨g, hgs⟩ : ∃ g, w2.heap.size = g := ⟨_, rfl⟩
      rw [hgs] at b3 s3 ⊢
      generalize w2.alloc (.cells (pt p) 28) = w3 at *
      obtain ⟨g6, hg6⟩ : ∃ g6, w.heap.size + 1 = g6 := ⟨_, rfl⟩
      rw [hg6] at b13 ⊢
      have hs3 := cw3.size
      have hw1 : IntKind.u32.wrap ((off : Int).tdiv 8) = ((off / 8 : Nat) : Int) := by rw [Int.tdiv_eq_ediv_of_nonneg (by omega)]; simp [IntKind.wrap, IntKind.bits, IntKind.signed]; omega
      have hw2 : IntKind.u32.wrap ((off : Int).tmod 8) = ((off % 8 : Nat) : Int) := by rw [Int.tmod_eq_emod_of_nonneg (by omega)]; simp [IntKind.wrap, IntKind.bits, IntKind.signed]; omega
      have hq1 : IntKind.u32.wrap ((off : Int) / 8) = (off : Int) / 8 := by simp [IntKind.wrap, IntKind.bits, IntKind.signed]; omega
      have hq2 : IntKind.u32.wrap ((off : Int) % 8) = (off : Int) % 8 := by simp [IntKind.wrap, IntKind.bits, IntKind.signed]; omega
      have hr1 : (off : Int).tdiv 8 = ((off / 8 : Nat) : Int) := by rw [Int.tdiv_eq_ediv_of_nonneg (by omega)]; omega
      have hr2 : (off : Int).tmod 8 = ((off % 8 : Nat) : Int) := by rw [Int.tmod_eq_emod_of_nonneg (by omega)]; omega
      have hl3 : ∀ k, O k → k < w3.heap.size := fun k hk => by have := hlO k hk; omega
      refine v_loop (fun r f u => ∃ (i : Nat) (s' : σ) (p' : Pt), r = 2 - i ∧ i ≤ 2 ∧ f 0 = .iface bt bv ∧ f 6 = .pointer (some ⟨g6, 0, none⟩) ∧ f 8 = .pointer (some ⟨g, 0, none⟩) ∧ f 31 = .agg #[.int .u32 (off / 8 : Nat), .int .u32 (off % 8 : Nat)] ∧ f 32 = .int .i64 i ∧ PtOk p' ∧ tgo rd off 2 s p = tgo rd off (2 - i) s' p'
          ∧ u.heap[g]? = some (.cells (pt p') 28 (0, 0)) ∧ H s' u (Gr O w3 u) ∧ Ch (fun k => O k ∨ k = g) w3 u ∧ 16 * (2 - i) ≤ m s') 2
        ⟨0, s, p, rfl, by omega, by simp, by simp, by simp, by simp [hw1, hw2, hr1, hr2, hq1, hq2], by simp, ok, rfl, b3, (hH s).weak h3 (fun k hk => .inl hk) (Gr.lt hl3 (Nat.le_refl _)), Ch.refl _ _, hm⟩ ?_
      rintro J hJ _ f u ⟨i, s', p', rfl, hi, f0, f6, f8, f31, f32, ok', ht, bu, hu, cu, hmu⟩
      have hsu := cu.size
      have envu := hg.env env3 cu ⟨_, hu⟩ fun k hk e => e.elim id fun e => by
        have := env2.lt k hk
        omega
      have hgO : ¬ O g := nO g (by omega)
      have h6O : ¬ O g6 := nO g6 (by omega)
      have b6u := cu.obj b13 fun e => e.elim h6O fun e => by omega
      have hps' := pt_size ok'
      have hpa' := pt_all ok'
      have hgu : GlOk H (Gr O w3 u) := hg.gr env3
      have fin : ∀ {W : World} {x : σ × Pt × Int}, tgo rd off 2 s p = x → H x.1 W (Gr O w3 W) → Ch (fun k => O k ∨ k = g) w3 W → R' (.tuple #[.agg (pt x.2.1), .int .i64 x.2.2]) (W.setRow g6 (pt x.2.1)) := fun {W x} e a c => by
        subst e
        have hsW := c.size
        have c' : Ch (one g6) W (W.setRow g6 (pt (tgo rd off 2 s p).2.1)) := (Ch.refl (one g6) W).setRow (.inl rfl) _
        have hs' := c'.size
        refine hR _ _ ⟨rfl, (hH _).weak ((hH _).ch a c' fun k hk e => by simp only [one] at e; subst e; exact hk.elim h6O fun e => by omega) (fun k hk => hk.imp id fun e => ⟨by omega, by omega⟩) (Gr.lt hlO (by omega)), ?_⟩
        exact ((cw3.mono fun _ _ e => e.elim).trans' c fun k hk e => e.resolve_right (by omega)).trans' c' fun k hk e => by simp only [one] at e; omega
      by_cases hlt : i < 2
      · have hi7 : (i : Int) < 2 := by omega
        obtain ⟨ix, hix⟩ : ∃ ix, (if i = 0 then off / 8 else off % 8) = ix := ⟨_, rfl⟩
        have hix8 : ix < 8 := by rw [← hix]; split <;> omega
        have hgo : tgo rd off (2 - i) s' p' = if (tread rd s' p').2.2 ≠ 0 then ((tread rd s' p').1, ptz, (tread rd s' p').2.2) else tgo rd off (2 - (i + 1)) (tread rd s' p').1 ((tread rd s' p').2.1.getD ix ptz) := by
          rcases (show i = 0 ∨ i = 1 by omega) with rfl | rfl
          · subst hix; rfl
          · subst hix; rfl
        have hidx : ∀ u, (Instr.index 127 (.agg #[.int .u32 ((off : Int) / 8), .int .u32 ((off : Int) % 8)]) (.int .i64 i)).run Tryd.prog u = .ok (.int .u32 ix) u := fun u => by
          rcases (show i = 0 ∨ i = 1 by omega) with rfl | rfl
          · subst hix; exact run_index_agg Tryd.underlying127 Tryd.sizeOf23 Tryd.isAgg23 (by decide) (by simp) u
          · subst hix; exact run_index_agg Tryd.underlying127 Tryd.sizeOf23 Tryd.isAgg23 (by decide) (by simp) u
        have hwi : IntKind.i64.wrap ((i : Int) + 1) = ((i + 1 : Nat) : Int) := by rw [IntKind.wrap_i64]; omega
        simp [go_sem, f0, f8, f31, f32, hi7, hidx, bu, hps', hpa']
        have hm9 := tread_m hs s' p'
        refine (tread_any hs (by omega) hH hu p' ok' envu hgu).mono ?_
        rintro _ w9 ⟨rfl, h9, c9⟩
        have ok8 := tread_ok rd s' p'
        obtain ⟨T9, hT9⟩ : ∃ T9, tread rd s' p' = T9 := ⟨_, rfl⟩
        rw [hT9] at ok8 h9 hgo hm9 ⊢
        obtain ⟨s9, N8, e8⟩ := T9
        simp only at ok8 h9 hgo hm9 ⊢
        have h8s := nd_size ok8
        have h8a := nd_all ok8
        have hs9 := c9.size
        have bu9 := c9.obj bu fun e => e.elim hgO fun e => by omega
        have b69 := c9.obj b6u fun e => e.elim h6O fun e => by omega
        have h9 : H s9 w9 (Gr O w3 w9) := (hH _).weak h9 (fun k hk => gr2' hsu hs9 hk) (Gr.lt hl3 (by omega))
        have cu9 : Ch (fun k => O k ∨ k = g) w3 w9 := cu.trans' c9 fun k hk e => e.elim .inl fun e => by omega
        have env9 := hgu.env envu c9 ⟨_, h9⟩ fun _ _ e => e
        have c10 := (Ch.refl Nw w9).alloc (.cells (nd N8) 116)
        have bn := hp_alloc w9 (.cells (nd N8) 116)
        have bu10 := c10.obj bu9 id
        have b610 := c10.obj b69 id
        have env10 := env9.ch c10 fun _ _ e => e
        have h10 : H s9 _ _ := (hH _).ch h9 c10 fun _ _ e => e
        have cu10 := cu9.trans (c10.mono fun _ _ e => e.elim)
        simp [go_sem, hz_nd, zc_nd, h8s, h8a, nd_size ndz_ok, blit_whole]
        obtain ⟨gn, hgn⟩ : ∃ gn, w9.heap.size = gn := ⟨_, rfl⟩
        rw [hgn] at bn ⊢
        generalize w9.alloc (.cells (nd N8) 116) = w10 at *
        obtain ⟨cs', T', fr', hh', hx', hz'⟩ := id env10.lh
        have hs10 := c10.size
        have h10 : H s9 w10 (Gr O w3 w10) := (hH _).weak h10 (fun k hk => hk.imp id fun e => ⟨e.1, by omega⟩) (Gr.lt hl3 (by omega))
        by_cases h8 : e8 = 0
        · subst h8
          rw [if_neg (by simp)] at hgo
          obtain ⟨q, hq⟩ : ∃ q, N8[ix]? = some q := ⟨_, List.getElem?_eq_getElem (by rw [ok8.len]; exact hix8)⟩
          have okq := ok8.all _ (List.mem_of_getElem? hq)
          have hqd : N8.getD ix ptz = q := by rw [List.getD_eq_getElem?_getD, hq]; rfl
          have hqe := nd_get ok8 hq
          rw [hqd] at hgo
          have hqs := pt_size okq
          have hix8i : (ix : Int) < 8 := by omega
          have hixe : ix * 41 + 41 ≤ 328 := by omega
          simp [go_sem, f8, f32, bn, bu10, hix8, hix8i, hixe, h8s, hqe, hps', hqs, blit_whole, hwi]
          have c11 : Ch (one g) w10 (w10.setRow g (pt q)) := (Ch.refl (one g) w10).setRow (.inl rfl) _
          have hs11 := c11.size
          have h11 : H s9 (w10.setRow g (pt q)) (Gr O w3 (w10.setRow g (pt q))) := (hH _).weak ((hH _).ch h10 c11 fun k hk e => by simp only [one] at e; subst e; exact hk.elim hgO fun e => by omega) (fun k hk => hk.imp id fun e => ⟨e.1, by omega⟩) (Gr.lt hl3 (by omega))
          exact Rnd.intro (2 - (i + 1)) (by omega) (hJ _ _ _ ⟨i + 1, s9, q, rfl, by omega, by simp [f0], by simp [f6], by simp [f8], by simp [f31], by simp, okq, ht.trans hgo, by rw [hp_setRow, bu10]; rfl, h11, cu10.trans (c11.mono fun k _ e => by simp only [one] at e; exact .inr e), by omega⟩)
        · rw [if_pos h8] at hgo
          have h82 : (e8 == 0) = false := beq_false_of_ne h8
          simp [go_sem, h8, h82, bne, f6, b610, hh', hx', hz', hzs, hza, blit_whole]
          exact fin (x := (s9, ptz, e8)) (ht.trans hgo) h10 cu10
      · obtain rfl : i = 2 := by omega
        have ht : tgo rd off 2 s p = (s', p', 0) := ht
        simp [go_sem, f6, f8, f32, bu, b6u, hps', hpa', hzs, blit_whole]
        exact fin (x := (s', p', 0)) ht hu cu
    · have h64i : (64 : Int) ≤ off := by omega
      simp [go_sem, h64, h64i, b12, hh, hx, hz, hzs, hza, blit_whole]
      exact bad (by rw [decide_eq_false h64]; simp) rfl
theorem tget_any (hs : SrcOk H m rd (.iface bt bv)) (hm : 32 ≤ m s) (hH : ∀ s, HOk (H s)) (h : H s w O) (p : Pt) (ok : PtOk p) (off : Nat) (hoff : off < 4294967296) (env : TEnv w) (hg : ∀ k, glT k → ¬ O k) :
    Ret Tryd.prog 26 #[.iface bt bv, .agg (pt p), .int .u32 off] w fun v' w' => v' = .tuple #[.agg (pt (tget rd s p off).2.1), .int .i64 (tget rd s p off).2.2] ∧ H (tget rd s p off).1 w' (Gr O w w') ∧ Ch O w w' :=
  tget_gl hs hm hH h p ok off hoff env (.inl hg)
end
end Go.Proofs.YtppilgkgnofkpaaDoor
