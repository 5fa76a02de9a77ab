/- A block of inodes, in plain Lean: what is put is taken, and what is taken is what was put. No condition but that the values are of their types. -/
import Derived.Test.YtnefdmbdkljifaaGreatDoorInE
import Derived.Test.YtnefdmbdkljifaaGreatDoorSoN
import Derived.Test.YtnefdmbdkljifaaGreatDoorKep
set_option linter.unusedSimpArgs false
set_option linter.unusedVariables false

/- A node's bytes, in plain Lean: what is put is taken, and what is taken is what was put. No condition but that the values are of their types. -/
namespace Go.Proofs.YtnefdmbdkljifaaGreatDoor
open Go.RowKit Go.Kin

theorem rawS_app (b r : List UInt8) (hb : b.length = 64) : rawS (b ++ r) 0 64 = (b, r, 0) := by
  simp [rawS, hb]
theorem ptS_put {p : Pt} (ok : PtOk p) (h : okP p = true) (r : List UInt8) : ptS (putP p ++ r) 0 = (p, r, 0) := by
  have hl := putP_length ok
  unfold ptS
  rw [rawS_app _ _ hl]
  simp only [hl, Nat.lt_irrefl, if_false]
  rw [if_pos (tk_put ok (okP_iff.1 h)), ptOf_put ok]
theorem ndS_put {ps : List Pt} (ok : ∀ p ∈ ps, PtOk p) (h : ps.all okP = true) (r : List UInt8) : ∀ k, k ≤ ps.length → ndS k (bytesN ps ++ r) 0 = (ps.take k, bytesN (ps.drop k) ++ r, 0) := by
  intro k
  induction k with
  | zero => intro _; simp [ndS]
  | succ k ih =>
    intro hk
    have hlt : k < ps.length := by omega
    simp only [ndS, ih (by omega)]
    have e1 := List.drop_eq_getElem_cons hlt
    have e2 : bytesN (ps.drop k) ++ r = putP ps[k] ++ (bytesN (ps.drop (k + 1)) ++ r) := by
      rw [e1, bytesN, List.flatMap_cons, List.append_assoc]
      rfl
    rw [e2, ptS_put (ok _ (List.getElem_mem hlt)) (List.all_eq_true.1 h _ (List.getElem_mem hlt)), List.take_add_one, List.getElem?_eq_getElem hlt]
    rfl
theorem nd8_put {ps : List Pt} (ok : NdOk ps) (h : ps.all okP = true) : nd8 (bytesN ps) = (ps, 0) := by
  have := ndS_put ok.all h [] 8 (by rw [ok.len]; omega)
  rw [List.take_of_length_le (by rw [ok.len]; omega), List.drop_of_length_le (by rw [ok.len]; omega), List.append_nil] at this
  unfold nd8
  rw [this]
  simp [endS, bytesN]
theorem rawS_e {l : List UInt8} {e : Int} {n : Nat} (h : (rawS l e n).2.2 = 0) : e = 0 ∧ n ≤ l.length ∧ rawS l e n = (l.take n, l.drop n, 0) := by
  unfold rawS at *
  split at h
  · rename_i he; exact absurd h he
  · rename_i he
    split at h
    · cases h
    · rename_i hl
      have he : e = 0 := by simpa using he
      exact ⟨he, by omega, by simp [he, hl]⟩
theorem ptS_e {l : List UInt8} {e : Int} (h : (ptS l e).2.2 = 0) : e = 0 ∧ l = putP (ptS l e).1 ++ (ptS l e).2.1 ∧ okP (ptS l e).1 = true := by
  unfold ptS at h
  split at h
  · rename_i hlt
    obtain ⟨h1, h2, h3⟩ := rawS_e h
    rw [h3] at hlt
    simp at hlt
    omega
  · rename_i hlt
    split at h
    · rename_i htk
      obtain ⟨h1, h2, h3⟩ := rawS_e h
      have hb : (l.take 64).length = 64 := by simp; omega
      have e1 : ptS l e = (ptOf (l.take 64), l.drop 64, 0) := by
        unfold ptS
        rw [if_neg hlt, if_pos htk, h3]
      rw [h3] at htk
      simp only at htk
      unfold tkOk at htk
      simp only [Bool.and_eq_true, Bool.not_eq_true'] at htk
      rw [e1]
      refine ⟨h1, ?_, htk.2⟩
      simp only
      rw [(put_ptOf_iff hb).2 htk.1, List.take_append_drop]
    · cases h
theorem ndS_e {l : List UInt8} {e : Int} : ∀ k, (ndS k l e).2.2 = 0 → e = 0 ∧ l = bytesN (ndS k l e).1 ++ (ndS k l e).2.1 ∧ (ndS k l e).1.all okP = true
  | 0, h => ⟨h, by simp [ndS, bytesN], by simp [ndS]⟩
  | k + 1, h => by
    obtain ⟨h1, h2, h3⟩ := ptS_e (show (ptS (ndS k l e).2.1 (ndS k l e).2.2).2.2 = 0 from h)
    obtain ⟨k1, k2, k3⟩ := ndS_e k h1
    refine ⟨k1, ?_, ?_⟩
    · simp only [ndS, bytesN, List.flatMap_append, List.flatMap_cons, List.flatMap_nil, List.append_nil, List.append_assoc]
      rw [← h2]
      exact k2
    · simp only [ndS, List.all_append, k3, List.all_cons, List.all_nil, h3]; rfl
theorem endS_e {l : List UInt8} {e : Int} (h : (endS l e).2 = 0) : l = [] ∧ e = 0 := by
  unfold endS at h
  split at h
  · unfold failS at h
    split at h
    · cases h
    · rename_i h1 h2; exact absurd h h2
  · rename_i h1
    exact ⟨List.eq_nil_of_length_eq_zero (by omega), h⟩
/-- what is taken was put -/
theorem nd8_e {l : List UInt8} (h : (nd8 l).2 = 0) : NdOk (nd8 l).1 ∧ (nd8 l).1.all okP = true ∧ bytesN (nd8 l).1 = l := by
  unfold nd8 at h
  split at h
  · rename_i he
    have e1 : nd8 l = ((ndS 8 l 0).1, 0) := by unfold nd8; rw [if_pos he]
    rw [e1]
    obtain ⟨h1, h2⟩ := endS_e he
    obtain ⟨_, h3, h4⟩ := ndS_e 8 h2
    rw [h1, List.append_nil] at h3
    exact ⟨⟨ndS_length _ _ _, ndS_ok _ _ _⟩, h4, h3.symm⟩
  · cases h
theorem nd8_ok (l : List UInt8) : NdOk (nd8 l).1 := by
  unfold nd8
  split
  · exact ⟨ndS_length _ _ _, ndS_ok _ _ _⟩
  · exact ndz_ok
theorem nd8_2 (l : List UInt8) : (nd8 l).2 = 0 ∨ (nd8 l).2 = 5 := by unfold nd8; split <;> simp
end Go.Proofs.YtnefdmbdkljifaaGreatDoor

/- Trees: a source of blocks, and the reading of a node. Conditions: the variables ptr.wide and tree.hole hold what the text lays. -/
namespace Go.Proofs.YtnefdmbdkljifaaGreatDoor
open Go.RowKit Go.Kin

/-- no pointer -/
def Lh (w : World) : Prop := ∃ cs T fr, w.heap[0]? = some (.cells cs T fr) ∧ cs.extract 0 41 = pt ptz ∧ 41 ≤ cs.size
structure TEnv (w : World) : Prop where
  lw : Lw w
  lh : Lh w
def glT (k : Nat) : Prop := k = 1 ∨ k = 0
theorem TEnv.ch {S : Nat → Prop} {w w' : World} (h : TEnv w) (hc : Ch S w w') (hn : ∀ k, glT k → ¬ S k) : TEnv w' := by
  obtain ⟨cs, T, fr, h1, h2, h3⟩ := h.lh
  exact ⟨h.lw.ch hc (hn _ (.inl rfl)), cs, T, fr, hc.obj h1 (hn _ (.inr rfl)), h2, h3⟩
theorem TEnv.lt {w : World} (h : TEnv w) : ∀ k, glT k → k < w.heap.size := fun k hk => by
  rcases hk with rfl | rfl
  · exact h.lw.lt
  · obtain ⟨cs, T, fr, h1, _, _⟩ := h.lh
    exact lt_of_block h1
/-- the two variables stay: they lie outside, or what lies there keeps them -/
def GlOk {σ : Type} (H : σ → HP) (O : Nat → Prop) : Prop := (∀ k, glT k → ¬ O k) ∨ ∀ s w O, H s w O → TEnv w
theorem GlOk.env {σ : Type} {H : σ → HP} {O S : Nat → Prop} {w w' : World} {s : σ} (hg : GlOk H O) (env : TEnv w) (c : Ch S w w') (h : ∃ O', H s w' O') (hS : ∀ k, glT k → S k → O k) : TEnv w' :=
  hg.elim (fun hg => env.ch c fun k hk e => hg k hk (hS k hk e)) fun hg => h.elim fun O' h => hg _ _ _ h
theorem GlOk.gr {σ : Type} {H : σ → HP} {O : Nat → Prop} {w w' : World} (hg : GlOk H O) (env : TEnv w) : GlOk H (Gr O w w') :=
  hg.imp (fun hg k hk e => e.elim (hg k hk) fun e => by have := env.lt k hk; omega) id
theorem GlOk.mono {σ : Type} {H : σ → HP} {O O' : Nat → Prop} (hg : GlOk H O) (h : ∀ k, O' k → O k) : GlOk H O' :=
  hg.imp (fun hg k hk e => hg k hk (h k e)) id
/-- what reads blocks: its state behind it, the block, the error -/
abbrev Src (σ : Type) := σ → Pt → σ × List UInt8 × Int
/-- a source in memory; m tells how much it may still do -/
structure SrcOk {σ : Type} (H : σ → HP) (m : σ → Nat) (rd : Src σ) (sv : Value) : Prop where
  step : ∀ (s : σ) (p : Pt), m s ≤ m (rd s p).1 + 16
  run : ∀ (s : σ) (w : World) (O : Nat → Prop) (p : Pt) (K : Value → World → Prop), 16 ≤ m s → H s w O → PtOk p → TEnv w → GlOk H O →
  (∀ u w', Sl w' u (rd s p).2.1.length (bvs (rd s p).2.1) → (rd s p).2.1.length ≤ 1000000 → H (rd s p).1 w' (Gr O w w') → Ch O w w' → K (.tuple #[u, .int .i64 (rd s p).2.2]) w') → VInv Tryz.prog sv "Read" [.agg (pt p)] w K
/-- a node is read -/
def tread {σ : Type} (rd : Src σ) (s : σ) (p : Pt) : σ × List Pt × Int :=
  if p = ptz then (s, ndz, 0) else if (rd s p).2.2 ≠ 0 then ((rd s p).1, ndz, (rd s p).2.2) else if (nd8 (rd s p).2.1).2 ≠ 0 then ((rd s p).1, ndz, 21) else ((rd s p).1, (nd8 (rd s p).2.1).1, 0)
def mayT (p : Pt) : Bool := decide (p = ptz) || (mayP p && decide (p.k = 3) && decide (p.l = 2))
theorem tread_ok {σ : Type} (rd : Src σ) (s : σ) (p : Pt) : NdOk (tread rd s p).2.1 := by
  have g : ∀ (a : σ) (b : List Pt) (c : Int), NdOk b → NdOk ((a, b, c) : σ × List Pt × Int).2.1 := fun _ _ _ h => h
  have it : ∀ (c : Prop) [Decidable c] (x y : σ × List Pt × Int), NdOk x.2.1 → NdOk y.2.1 → NdOk (if c then x else y).2.1 := fun c _ x y hx hy => by
    by_cases h : c
    · rw [if_pos h]; exact hx
    · rw [if_neg h]; exact hy
  exact it _ _ _ (g _ _ _ ndz_ok) (it _ _ _ (g _ _ _ ndz_ok) (it _ _ _ (g _ _ _ ndz_ok) (g _ _ _ (nd8_ok _))))
theorem tmay_any (p : Pt) (w : World) (ok : PtOk p) (env : TEnv w) : Ret Tryz.prog 52 #[.agg (pt p)] w fun v' w' => v' = .bool (mayT p) ∧ Ch Nw w w' := by
  refine v_enter Tryz.func52 Tryz.ntmps52 rfl (by simp) fun R' hR => ?_
  have hps := pt_size ok
  have hpa := pt_all ok
  have ca := (Ch.refl Nw w).alloc (.cells (pt p) 37)
  have b0 := hp_alloc w (.cells (pt p) 37)
  have env1 := env.ch ca fun _ _ e => e
  obtain ⟨cs, T, fr, hh, hx, hz⟩ := env1.lh
  have hhg : ∀ hlt, (w.alloc (.cells (pt p) 37)).heap[0]'hlt = .cells cs T fr := fun hlt => by
    have := hh
    rw [Array.getElem?_eq_getElem hlt] at this
    exact Option.some.inj this
  have heq : ∀ w, (Op.equalIn 10000 37 (.agg (pt p)) (.agg (pt ptz))).run Tryz.prog w = .ok (decide (p = ptz)) w := fun w => eq_pt w ok ptz_ok
  by_cases hp : p = ptz
  · subst hp
    simp [go_sem, b0, hps, hpa, hh, hhg, hx, hz, heq]
    exact hR _ _ ⟨by simp [mayT], ca⟩
  · simp [go_sem, b0, hps, hpa, hh, hhg, hx, hz, heq, hp]
    clear hhg hh
    obtain ⟨g, hg⟩ : ∃ g, w.heap.size = g := ⟨_, rfl⟩
    rw [hg] at b0 ⊢
    revert ca b0 env1
    generalize w.alloc (.cells (pt p) 37) = w1
    intro ca env1 b0
    refine (may_any p w1 ok env1.lw).mono ?_
    rintro _ w2 ⟨rfl, c2⟩
    have b2 := c2.obj b0 id
    have ck := (cell_blk b2 0).trans pt_k
    have cl := (cell_blk b2 1).trans pt_l
    cases hm : mayP p with
    | false =>
      simp [go_sem]
      exact hR _ _ ⟨by simp [mayT, hp, hm], ca.trans c2⟩
    | true =>
      by_cases hk : p.k = 3
      · by_cases hl : p.l = 2
        · simp [go_sem, ck, cl, hk, hl]
          exact hR _ _ ⟨by simp [mayT, hm, hk, hl], ca.trans c2⟩
        · have hl2 : ((p.l : Int) == 2) = false := beq_false_of_ne (by omega)
          simp [go_sem, ck, cl, hk, hl2]
          exact hR _ _ ⟨by simp [mayT, hp, hl], ca.trans c2⟩
      · have hk2 : ((p.k : Int) == 3) = false := beq_false_of_ne (by omega)
        simp [go_sem, ck, cl, hk2]
        exact hR _ _ ⟨by simp [mayT, hp, hk], ca.trans c2⟩
section
variable {σ : Type} {H : σ → HP} {m : σ → Nat} {rd : Src σ} {bt : TypeId} {bv sv : Value} {s : σ} {w w' : World} {O : Nat → Prop}
theorem tread_m (hs : SrcOk H m rd sv) (s : σ) (p : Pt) : m s ≤ m (tread rd s p).1 + 16 := by
  have h := hs.step s p
  unfold tread
  split
  · exact Nat.le_add_right _ _
  · split
    · exact h
    · split
      · exact h
      · exact h
set_option maxRecDepth 100000 in
theorem tread_any (hs : SrcOk H m rd (.iface bt bv)) (hm : 16 ≤ m s) (hH : ∀ s, HOk (H s)) (h : H s w O) (p : Pt) (ok : PtOk p) (env : TEnv w) (hg : GlOk H O) :
    Ret Tryz.prog 53 #[.iface bt bv, .agg (pt p)] w fun v' w' => v' = .tuple #[.agg (nd (tread rd s p).2.1), .int .i64 (tread rd s p).2.2] ∧ H (tread rd s p).1 w' (Gr O w w') ∧ Ch O w w' := by
  refine v_enter Tryz.func53 Tryz.ntmps53 rfl (by simp) fun R' hR => ?_
  have hps := pt_size ok
  have hpa := pt_all ok
  have hns := nd_size ndz_ok
  have hna := nd_all ndz_ok
  have hlO := (hH s).lt h
  have ca := ((Ch.refl Nw w).alloc (.cells (pt p) 37)).alloc (.cells (nd ndz) 128)
  have b0 := al2_0 w (.cells (pt p) 37) (.cells (nd ndz) 128)
  have b1 := al2_1 w (.cells (pt p) 37) (.cells (nd ndz) 128)
  have env1 := env.ch ca fun _ _ e => e
  have sa : ((w.alloc (.cells (pt p) 37)).alloc (.cells (nd ndz) 128)).heap.size = w.heap.size + 2 := by simp
  obtain ⟨cs, T, fr, hh0, hx, hz⟩ := env.lh
  have hl0 := lt_of_block hh0
  have hh1 := ca.obj hh0 id
  have heq : ∀ w, (Op.equalIn 10000 37 (.agg (pt p)) (.agg (pt ptz))).run Tryz.prog w = .ok (decide (p = ptz)) w := fun w => eq_pt w ok ptz_ok
  have fz1 := frz_blk b1 0
  have hhg : ∀ hlt, ((w.alloc (.cells (pt p) 37)).alloc (.cells (nd ndz) 128)).heap[0]'hlt = .cells cs T fr := fun hlt => by
    have := hh1
    rw [Array.getElem?_eq_getElem hlt] at this
    exact Option.some.inj this
  have hh10 := ((Ch.refl Nw w).alloc (.cells (pt p) 37)).obj hh0 id
  have hhg1 : ∀ hlt, (w.alloc (.cells (pt p) 37)).heap[0]'hlt = .cells cs T fr := fun hlt => by
    have := hh10
    rw [Array.getElem?_eq_getElem hlt] at this
    exact Option.some.inj this
  by_cases hp : p = ptz
  · have ht : tread rd s p = (s, ndz, 0) := by unfold tread; rw [if_pos hp]
    rw [ht] at hR
    subst hp
    simp [go_sem, hps, hpa, hz_nd, zc_nd, hhg, hhg1, hx, hz, heq, bld_nd0, hns, hna, blit_whole]
    exact hR _ _ ⟨rfl, (hH s).weak ((hH s).ch h (ca.setRow (.inr (by omega)) _) fun _ _ e => e) (fun k hk => .inl hk) (Gr.lt hlO (by simp; omega)), (ca.setRow (.inr (by omega)) _).mono fun _ _ e => e.elim⟩
  · simp [go_sem, hps, hpa, hz_nd, zc_nd, hhg, hhg1, hx, hz, heq, hp]
    have h1 := (hH s).ch h ca fun _ _ e => e
    have nO : ∀ j, w.heap.size ≤ j → ¬ O j := fun j hj e => by have := hlO j e; omega
    have hsa := ca.size
    obtain ⟨r, hr⟩ : ∃ r, rd s p = r := ⟨_, rfl⟩
    have fin : ∀ {W : World} {W1 : World} {x : σ × List Pt × Int}, tread rd s p = x → H x.1 W (Gr O W1 W) → w.heap.size ≤ W1.heap.size → W1.heap.size ≤ W.heap.size → Ch O w W → R' (.tuple #[.agg (nd x.2.1), .int .i64 x.2.2]) W := fun {W W1 x} e a b c d => by
      subst e
      exact hR _ _ ⟨rfl, (hH _).weak a (fun k hk => hk.imp id fun e => ⟨by omega, e.2⟩) (Gr.lt hlO (by omega)), d⟩
    clear hR hhg1 hh10
    revert h1 b0 b1 sa ca env1 fz1 hh1 hhg hsa
    generalize (w.alloc (.cells (pt p) 37)).alloc (.cells (nd ndz) 128) = w1
    intro ca b0 b1 env1 sa hh1 fz1 hhg h1 hsa
    refine hs.run s w1 O p _ hm h1 ok env1 hg fun u w2 sl hb2 h2 c2 => ?_
    have env2 := hg.env env1 c2 ⟨_, h2⟩ fun _ _ e => e
    have b12 := c2.obj b1 (nO _ (by omega))
    have hs2 := c2.size
    have cw2 : Ch O w w2 := (ca.mono fun _ _ e => e.elim).trans c2
    rw [hr] at sl hb2 h2 ⊢
    have fz12 := frz_blk b12 0
    have t0 : tread rd s p = if r.2.2 ≠ 0 then (r.1, ndz, r.2.2) else if (nd8 r.2.1).2 ≠ 0 then (r.1, ndz, 21) else (r.1, (nd8 r.2.1).1, 0) := by
      unfold tread
      rw [if_neg hp, hr]
    have endr : ∀ {W : World} {x : σ × List Pt × Int}, tread rd s p = x → x.1 = r.1 → Ch Nw w2 W → R' (.tuple #[.agg (nd x.2.1), .int .i64 x.2.2]) (W.setRow (w.heap.size + 1) (nd x.2.1)) := fun {W x} e e1 c => by
      have c' : Ch (one (w.heap.size + 1)) w2 (W.setRow (w.heap.size + 1) (nd x.2.1)) := (c.mono (S' := one (w.heap.size + 1)) fun _ _ e => e.elim).setRow (.inl rfl) _
      have hs' := c'.size
      refine fin (W1 := w1) e ?_ (by omega) (by omega) (cw2.trans' c' fun k hk e => by simp only [one] at e; omega)
      rw [e1]
      exact (hH r.1).weak ((hH r.1).ch h2 c' fun k hk e => by simp only [one] at e; exact hk.elim (nO k (by omega)) fun e => by omega) (fun k hk => hk.imp id fun e => ⟨e.1, by omega⟩) (Gr.lt (fun k hk => by have := hlO k hk; omega) (by omega))
    by_cases he : r.2.2 = 0
    · rw [if_neg (by omega)] at t0
      simp [go_sem, he]
      refine (ntake_any u r.2.1 w2 hb2 sl env2.lw).mono ?_
      rintro _ w3 ⟨rfl, c3⟩
      have ok8 := nd8_ok r.2.1
      obtain ⟨N8, hN8⟩ : ∃ N8, (nd8 r.2.1).1 = N8 := ⟨_, rfl⟩
      obtain ⟨e8, he8⟩ : ∃ e8, (nd8 r.2.1).2 = e8 := ⟨_, rfl⟩
      rw [hN8] at ok8 t0 ⊢
      rw [he8] at t0 ⊢
      have h8s := nd_size ok8
      have h8a := nd_all ok8
      have b13 := c3.obj b12 id
      have c4 := c3.alloc (.cells (nd ndz) 128)
      have b14 := ((Ch.refl Nw w3).alloc (.cells (nd ndz) 128)).obj b13 id
      have b15 := ((Ch.refl Nw w3).alloc (.cells (nd N8) 128)).obj b13 id
      by_cases h8 : e8 = 0
      · rw [if_neg (by omega)] at t0
        subst h8
        simp [go_sem, hz_nd, zc_nd, h8s, h8a, hns, hna, b14, b15, blit_whole]
        have := endr t0 rfl (c3.alloc (.cells (nd N8) 128))
        exact this
      · rw [if_pos h8] at t0
        have h82 : (e8 == 0) = false := beq_false_of_ne h8
        simp [go_sem, hz_nd, zc_nd, h8s, h8a, hns, hna, b14, b15, blit_whole, h8, h82, bne, bld_nd0]
        have := endr t0 rfl (c3.alloc (.cells (nd N8) 128))
        exact this
    · rw [if_pos he] at t0
      have he2 : (r.2.2 == 0) = false := beq_false_of_ne he
      simp [go_sem, he, he2, bne, bld_nd0, b12, hns, hna, blit_whole]
      have := endr t0 rfl (Ch.refl Nw w2)
      exact this
end
end Go.Proofs.YtnefdmbdkljifaaGreatDoor

namespace Go.Proofs.YtnefdmbdkljifaaGreatDoor
open Go.RowKit Go.Kin

theorem rawS_n {a r : List UInt8} {n : Nat} (h : a.length = n) : rawS (a ++ r) 0 n = (a, r, 0) := by
  subst h
  simp [rawS]
theorem noughtS_n (n : Nat) (r : List UInt8) : noughtS (zb n ++ r) 0 n = (r, 0) := by
  unfold noughtS
  rw [rawS_n (zb_length n)]
  have : nz (zb n) = false := (nz_zb _).2 (by rw [zb_length])
  rw [this]
  rfl
theorem noughtS_e {l : List UInt8} {e : Int} {n : Nat} (h : (noughtS l e n).2 = 0) : e = 0 ∧ l = zb n ++ (noughtS l e n).1 := by
  unfold noughtS at *
  by_cases hz : nz (rawS l e n).1 = true
  · rw [if_pos hz] at h
    unfold failS at h
    split at h
    · cases h
    · rename_i h1; exact absurd h h1
  · rw [if_neg hz] at h ⊢
    obtain ⟨h1, h2, h3⟩ := rawS_e h
    rw [h3] at hz ⊢
    simp only [Bool.not_eq_true] at hz
    refine ⟨h1, ?_⟩
    have := (nz_zb _).1 hz
    rw [List.length_take, Nat.min_eq_left h2] at this
    rw [← this, List.take_append_drop]
theorem raw_le {l : List UInt8} {e : Int} {n : Nat} (h : (rawS l e n).2.2 = 0) : e = 0 ∧ l = le (fromLe (rawS l e n).1) n ++ (rawS l e n).2.1 := by
  obtain ⟨h1, h2, h3⟩ := rawS_e h
  rw [h3]
  refine ⟨h1, ?_⟩
  have := le_fromLe (l.take n)
  rw [List.length_take, Nat.min_eq_left h2] at this
  rw [this, List.take_append_drop]
theorem inoS_e {l : List UInt8} {e : Int} (h : (inoS l e).2.2 = 0) : e = 0 ∧ l = putI (inoS l e).1 ++ (inoS l e).2.1 ∧ okP (inoS l e).1.r = true := by
  have h6 : (i6 l e).2 = 0 := h
  obtain ⟨e5, q6⟩ := noughtS_e h6
  obtain ⟨e4, q5, okr⟩ := ptS_e (show (ptS (i4 l e).2.1 (i4 l e).2.2).2.2 = 0 from e5)
  obtain ⟨e3, q4⟩ := raw_le (show (rawS (i3 l e).2.1 (i3 l e).2.2 4).2.2 = 0 from e4)
  obtain ⟨e2, q3⟩ := raw_le (show (rawS (i2 l e).1 (i2 l e).2 2).2.2 = 0 from e3)
  obtain ⟨e1, q2⟩ := noughtS_e (show (noughtS (i1 l e).2.1 (i1 l e).2.2 1).2 = 0 from e2)
  obtain ⟨e0, q1⟩ := raw_le (show (rawS l e 1).2.2 = 0 from e1)
  have q2 : (i1 l e).2.1 = zb 1 ++ (i2 l e).1 := q2
  have q3 : (i2 l e).1 = le (fromLe (i3 l e).1) 2 ++ (i3 l e).2.1 := q3
  have q4 : (i3 l e).2.1 = le (fromLe (i4 l e).1) 4 ++ (i4 l e).2.1 := q4
  have q5 : (i4 l e).2.1 = putP (i5 l e).1 ++ (i5 l e).2.1 := q5
  have q1 : l = le (fromLe (i1 l e).1) 1 ++ (i1 l e).2.1 := q1
  have hlen : l.length = 72 + (i5 l e).2.1.length := by
    have a1 := congrArg List.length q1
    have a2 := congrArg List.length q2
    have a3 := congrArg List.length q3
    have a4 := congrArg List.length q4
    have a5 := congrArg List.length q5
    simp only [List.length_append, le_length, zb_length, putP_length (ptS_ok _ _)] at a1 a2 a3 a4
    rw [List.length_append, show (putP (i5 l e).1).length = 64 from putP_length (ptS_ok _ _)] at a5
    omega
  have hn : (128 - (l.length : Int) + (i5 l e).2.1.length).toNat = 56 := by omega
  rw [hn] at q6
  have q6 : (i5 l e).2.1 = zb 56 ++ (i6 l e).1 := by
    have h7 : (i6 l e).1 = (noughtS (i5 l e).2.1 (i5 l e).2.2 56).1 := by unfold i6; rw [hn]
    rw [h7]
    exact q6
  refine ⟨e0, ?_, okr⟩
  conv => lhs; rw [q1, q2, q3, q4, q5, q6]
  rw [putI_eq]
  simp only [inoS, List.append_assoc]
theorem inoS_put {x : In} (ok : InOk x) (h : okP x.r = true) (r : List UInt8) : inoS (putI x ++ r) 0 = (x, r, 0) := by
  have hl := putI_length ok
  have q1 : i1 (putI x ++ r) 0 = (le x.k 1, zb 1 ++ (le x.n 2 ++ (le x.s 4 ++ (putP x.r ++ (zb 56 ++ r)))), 0) := by
    unfold i1
    rw [putI_eq]
    simp only [List.append_assoc]
    exact rawS_n (le_length _ _)
  have q2 : i2 (putI x ++ r) 0 = (le x.n 2 ++ (le x.s 4 ++ (putP x.r ++ (zb 56 ++ r))), 0) := by
    unfold i2
    rw [q1]
    exact noughtS_n 1 _
  have q3 : i3 (putI x ++ r) 0 = (le x.n 2, le x.s 4 ++ (putP x.r ++ (zb 56 ++ r)), 0) := by
    unfold i3
    rw [q2]
    exact rawS_n (le_length _ _)
  have q4 : i4 (putI x ++ r) 0 = (le x.s 4, putP x.r ++ (zb 56 ++ r), 0) := by
    unfold i4
    rw [q3]
    exact rawS_n (le_length _ _)
  have q5 : i5 (putI x ++ r) 0 = (x.r, zb 56 ++ r, 0) := by
    unfold i5
    rw [q4]
    exact ptS_put ok.r h _
  have q6 : i6 (putI x ++ r) 0 = (r, 0) := by
    unfold i6
    rw [q5]
    have : (128 - ((putI x ++ r).length : Int) + (x.r, zb 56 ++ r, (0 : Int)).2.1.length).toNat = 56 := by
      simp only [List.length_append, hl, zb_length]
      omega
    rw [this]
    exact noughtS_n 56 r
  unfold inoS
  rw [q1, q3, q4, q5, q6]
  have hk := ok.k
  have hn := ok.n
  have hs := ok.s
  simp only [fromLe_of_le, Nat.mod_eq_of_lt (show x.k < 256 ^ 1 by omega), Nat.mod_eq_of_lt (show x.n < 256 ^ 2 by omega), Nat.mod_eq_of_lt (show x.s < 256 ^ 4 by omega)]
theorem ibS_put {xs : List In} (ok : ∀ x ∈ xs, InOk x) (h : xs.all mayI = true) (r : List UInt8) : ∀ k, k ≤ xs.length → ibS k (bytesI xs ++ r) 0 = (xs.take k, bytesI (xs.drop k) ++ r, 0) := by
  intro k
  induction k with
  | zero => intro _; simp [ibS]
  | succ k ih =>
    intro hk
    have hlt : k < xs.length := by omega
    simp only [ibS, ih (by omega)]
    have e1 := List.drop_eq_getElem_cons hlt
    have e2 : bytesI (xs.drop k) ++ r = putI xs[k] ++ (bytesI (xs.drop (k + 1)) ++ r) := by
      rw [e1, bytesI, List.flatMap_cons, List.append_assoc]
      rfl
    rw [e2, inoS_put (ok _ (List.getElem_mem hlt)) (okP_iff.2 (mayI_root (List.all_eq_true.1 h _ (List.getElem_mem hlt)))), List.take_add_one, List.getElem?_eq_getElem hlt]
    rfl
theorem ib4_put {xs : List In} (ok : IbOk xs) (h : xs.all mayI = true) : ib4 (bytesI xs) = (xs, 0) := by
  have := ibS_put ok.all h [] 4 (by rw [ok.len]; omega)
  rw [List.take_of_length_le (by rw [ok.len]; omega), List.drop_of_length_le (by rw [ok.len]; omega), List.append_nil] at this
  unfold ib4
  rw [this]
  simp [endS, bytesI, h]
theorem ibS_e {l : List UInt8} {e : Int} : ∀ k, (ibS k l e).2.2 = 0 → e = 0 ∧ l = bytesI (ibS k l e).1 ++ (ibS k l e).2.1
  | 0, h => ⟨h, by simp [ibS, bytesI]⟩
  | k + 1, h => by
    obtain ⟨h1, h2, h3⟩ := inoS_e (show (inoS (ibS k l e).2.1 (ibS k l e).2.2).2.2 = 0 from h)
    obtain ⟨k1, k2⟩ := ibS_e k h1
    refine ⟨k1, ?_⟩
    simp only [ibS, bytesI, List.flatMap_append, List.flatMap_cons, List.flatMap_nil, List.append_nil, List.append_assoc]
    rw [← h2]
    exact k2
/-- what is taken was put -/
theorem ib4_e {l : List UInt8} (h : (ib4 l).2 = 0) : IbOk (ib4 l).1 ∧ (ib4 l).1.all mayI = true ∧ bytesI (ib4 l).1 = l := by
  unfold ib4 at h
  split at h
  · rename_i he
    have e1 : ib4 l = ((ibS 4 l 0).1, 0) := by unfold ib4; rw [if_pos he]
    rw [e1]
    obtain ⟨h1, h2⟩ := endS_e he.1
    obtain ⟨_, h3⟩ := ibS_e 4 h2
    rw [h1, List.append_nil] at h3
    exact ⟨⟨ibS_length _ _ _, ibS_ok _ _ _⟩, he.2, h3.symm⟩
  · cases h
theorem ib4_ok (l : List UInt8) : IbOk (ib4 l).1 := by
  unfold ib4
  split
  · exact ⟨ibS_length _ _ _, ibS_ok _ _ _⟩
  · exact ibz_ok
theorem ib4_2 (l : List UInt8) : (ib4 l).2 = 0 ∨ ((ib4 l).2 = 5 ∧ (ib4 l).1 = ibz) := by unfold ib4; split <;> simp
/-- are bytes those of four inodes that may be? -/
def Is4 (l : List UInt8) (xs : List In) : Prop := IbOk xs ∧ xs.all mayI = true ∧ bytesI xs = l
theorem is4_ib4 {l : List UInt8} {xs : List In} (h : Is4 l xs) : ib4 l = (xs, 0) := by
  obtain ⟨h1, h2, rfl⟩ := h
  exact ib4_put h1 h2
theorem not4_ib4 {l : List UInt8} (h : ∀ xs, ¬ Is4 l xs) : ib4 l = (ibz, 5) := by
  rcases ib4_2 l with h0 | ⟨h5, hz⟩
  · exact absurd ⟨(ib4_e h0).1, (ib4_e h0).2.1, (ib4_e h0).2.2⟩ (h _)
  · rw [← hz, ← h5]
end Go.Proofs.YtnefdmbdkljifaaGreatDoor
