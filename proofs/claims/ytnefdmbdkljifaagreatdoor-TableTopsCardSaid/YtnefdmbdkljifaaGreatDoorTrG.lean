/- Trees: groups of leaves, and a part of a slice of leaves. No condition. -/
import Derived.Test.YtnefdmbdkljifaaGreatDoorTrC
import Derived.Test.YtnefdmbdkljifaaGreatDoorKep
set_option linter.unusedSimpArgs false
set_option linter.unusedVariables false

/- Trees: a node of level 1 with other leaves, of any sink. Conditions: the variables ptr.wide and tree.hole hold what the text lays. -/
namespace Go.Proofs.YtnefdmbdkljifaaGreatDoor
open Go.RowKit Go.Kin

/-- a leaf: an offset and a pointer -/
def lfL (x : Nat × Pt) : List Value := .int .u32 x.1 :: (pt x.2).toList
def lfv (x : Nat × Pt) : Array Value := (lfL x).toArray
structure LfOk (x : Nat × Pt) : Prop where
  o : x.1 < 4294967296
  p : PtOk x.2
theorem lfL_len {x : Nat × Pt} (ok : LfOk x) : (lfL x).length = 42 := by simp [lfL, pt_size ok.p]
theorem lfv_size {x : Nat × Pt} (ok : LfOk x) : (lfv x).size = 42 := by simp [lfv, lfL_len ok]
theorem lfv_all {x : Nat × Pt} (ok : LfOk x) : (lfv x).extract 0 42 = lfv x := by rw [← lfv_size ok]; simp
theorem lfv_0 (x : Nat × Pt) : (lfv x)[0]? = some (.int .u32 x.1) := by simp [lfv, lfL]
theorem lfv_pt {x : Nat × Pt} (ok : LfOk x) : (lfv x).extract 1 42 = pt x.2 := by
  apply Array.ext'
  rw [Array.toList_extract, List.extract_eq_take_drop]
  have h := pt_size ok.p
  simp only [lfv, lfL, List.drop_succ_cons, List.drop_zero]
  rw [List.take_of_length_le (by simp [h])]
theorem lst_lf {w : World} {v : Value} {L : List (Nat × Pt)} (h : Lst w v lfL 42 L) (hin : ∀ a ∈ L, LfOk a) {i : Nat} {a : Nat × Pt} (hi : L[i]? = some a) : ∃ b off c cs T fr, v = .slice (some ⟨b, off, none⟩) L.length c ∧ w.heap[b]? = some (.cells cs T fr) ∧ cs.extract (off + i * 42) (off + i * 42 + 42) = lfv a ∧ off + i * 42 + 42 ≤ cs.size := by
  obtain ⟨A, c, rfl, _, _, h3⟩ := h
  have hlt := (List.getElem?_eq_some_iff.1 hi).1
  obtain ⟨b, off, rfl, _, hr⟩ := h3 (by omega)
  have ok := hin a (List.mem_of_getElem? hi)
  have hl := lfL_len ok
  obtain ⟨o, ho, hoc⟩ := cells_of_cell (hr i a 0 _ hi rfl)
  have ho : w.heap[b]? = some o := ho
  obtain ⟨cs, T, fr, rfl⟩ : ∃ cs T fr, o = .cells cs T fr := by
    cases o with
    | cells cs T fr => exact ⟨_, _, _, rfl⟩
    | _ => cases hoc
  have hc : ∀ j, j < 42 → cs[off + i * 42 + j]? = (lfL a)[j]? := fun j hj => by
    obtain ⟨u, hu⟩ : ∃ u, (lfL a)[j]? = some u := ⟨_, List.getElem?_eq_getElem (by omega)⟩
    rw [hu, ← hr i a j u hi hu, cell_blk ho]
  have hsz : off + i * 42 + 42 ≤ cs.size := by
    have h50 := hc 41 (by omega)
    rw [List.getElem?_eq_getElem (show 41 < (lfL a).length by omega)] at h50
    have := (Array.getElem?_eq_some_iff.1 h50).1
    omega
  refine ⟨b, off, c, cs, T, fr, rfl, ho, ?_, hsz⟩
  apply Array.ext_getElem?
  intro j
  rw [Array.getElem?_extract]
  by_cases hj : j < 42
  · rw [if_pos (by omega), hc j hj]
    simp [lfv]
  · rw [if_neg (by omega), Array.getElem?_eq_none (by rw [lfv_size ok]; omega)]
@[simp] theorem lfv_ones (x : Nat × Pt) : ones (lfv x) = true := ones_of (by
  intro u hu
  simp only [lfL, List.mem_cons] at hu
  rcases hu with rfl | hu
  · rfl
  · have := pt_ones x.2
    unfold ones at this
    exact Array.all_eq_true'.1 this u (by simpa using hu))
theorem lfv_g0 (x : Nat × Pt) (h : 0 < (lfv x).size) : (lfv x)[0]'h = .int .u32 x.1 := by simp [lfv, lfL]
theorem hz_lf : (Tryz.prog.info? 93).map (fun i => i.zero.isSome) = some true := by kernel_rfl
theorem zc_lf : zc Tryz.prog 93 = lfv (0, ptz) := by kernel_rfl
theorem lfz_ok : LfOk (0, ptz) := ⟨by decide, ptz_ok⟩
def tput {σ : Type} (od : σ → Pt → σ) (t : σ × List Pt) (x : Nat × Pt) : σ × List Pt :=
  (if t.2.getD (x.1 % 8) ptz ≠ x.2 ∧ t.2.getD (x.1 % 8) ptz ≠ ptz then od t.1 (t.2.getD (x.1 % 8) ptz) else t.1, t.2.set (x.1 % 8) x.2)
def tlow {σ : Type} (rd : Src σ) (nw : σ → Pt → List UInt8 → σ × Pt × Int) (od : σ → Pt → σ) (obj : Nat) (s : σ) (p : Pt) (off : Nat) (l : List (Nat × Pt)) : σ × Pt × Int :=
  if (tread rd s p).2.2 ≠ 0 then ((tread rd s p).1, ptz, (tread rd s p).2.2) else
    tmade nw od (l.foldl (tput od) ((tread rd s p).1, (tread rd s p).2.1)).1 p (tread rd s p).2.1 (l.foldl (tput od) ((tread rd s p).1, (tread rd s p).2.1)).2 1 obj off
theorem tput_ok {σ : Type} (od : σ → Pt → σ) (t : σ × List Pt) (x : Nat × Pt) (h : NdOk t.2) (ok : LfOk x) : NdOk (tput od t x).2 := h.set _ ok.p
theorem al3 (w : World) (A B C : Obj) : ∃ W, ((w.alloc A).alloc B).alloc C = W ∧ W.heap[w.heap.size]? = some A ∧ W.heap[w.heap.size + 1]? = some B ∧ W.heap[w.heap.size + 2]? = some C ∧ W.heap.size = w.heap.size + 3 ∧ Ch Nw w W := by
  refine ⟨_, rfl, ?_, ?_, ?_, by simp, (((Ch.refl Nw w).alloc _).alloc _).alloc _⟩
  · rw [hp_alloc_lt _ _ _ (by simp <;> omega), hp_alloc_lt _ _ _ (by simp <;> omega), hp_alloc]
  · rw [hp_alloc_lt _ _ _ (by simp <;> omega)]
    simp
  · simp
section
variable {σ : Type} {H : σ → HP} {m : σ → Nat} {rd : Src σ} {nw : σ → Pt → List UInt8 → σ × Pt × Int} {od : σ → Pt → σ} {bt : TypeId} {bv sv : Value} {s : σ} {w w' : World} {O : Nat → Prop}
theorem tput_m (hs : SnkOk H m rd nw od sv) (t : σ × List Pt) (x : Nat × Pt) : m t.1 ≤ m (tput od t x).1 + 16 := by
  have h1 := hs.stepO t.1 (t.2.getD (x.1 % 8) ptz)
  unfold tput
  split <;> simp only <;> omega
theorem tputs_m (hs : SnkOk H m rd nw od sv) : ∀ (L : List (Nat × Pt)) (t : σ × List Pt), m t.1 ≤ m (L.foldl (tput od) t).1 + 16 * L.length
  | [], t => by simp
  | x :: L, t => by
    have h1 := tput_m hs t x
    have h2 := tputs_m hs L (tput od t x)
    rw [List.foldl_cons, List.length_cons]
    omega
theorem tlow_m (hs : SnkOk H m rd nw od sv) (s : σ) (p : Pt) (obj off : Nat) (L : List (Nat × Pt)) : m s ≤ m (tlow rd nw od obj s p off L).1 + 16 * (L.length + 3) := by
  have h1 := tread_m hs.rd s p
  have h2 := tputs_m hs L ((tread rd s p).1, (tread rd s p).2.1)
  have h3 := tmade_m hs (L.foldl (tput od) ((tread rd s p).1, (tread rd s p).2.1)).1 p (tread rd s p).2.1 (L.foldl (tput od) ((tread rd s p).1, (tread rd s p).2.1)).2 1 obj off
  unfold tlow
  simp only at h2
  split
  · simp only; omega
  · omega
set_option maxRecDepth 100000 in
set_option maxHeartbeats 8000000 in
theorem tlow_any (hs : SnkOk H m rd nw od (.iface bt bv)) (hH : ∀ s, HOk (H s)) (h : H s w O) (p : Pt) (ok : PtOk p) (obj off : Nat) (v : Value) (L : List (Nat × Pt)) (hm : 16 * (L.length + 3) ≤ m s) (hL : Lst w v lfL 42 L) (hLok : ∀ a ∈ L, LfOk a) (hvO : ∀ j, v.ownBlock = some j → ¬ O j ∧ j < w.heap.size) (env : TEnv w) (hg : GlOk H O) (hob : obj < 65536) (hof : off < 4294967296) :
    Ret Tryz.prog 54 #[.agg #[.iface bt bv, .int .u16 obj], .agg (pt p), .int .u32 off, v] w fun v' w' => v' = .tuple #[.agg (pt (tlow rd nw od obj s p off L).2.1), .int .i64 (tlow rd nw od obj s p off L).2.2] ∧ PtOk (tlow rd nw od obj s p off L).2.1 ∧ H (tlow rd nw od obj s p off L).1 w' (Gr O w w') ∧ Ch O w w' := by
  refine v_enter Tryz.func54 Tryz.ntmps54 rfl (by simp) fun R' hR => ?_
  have hps := pt_size ok
  have hpa := pt_all ok
  have hzs := pt_size ptz_ok
  have hza := pt_all ptz_ok
  have hlO := (hH s).lt h
  have nO : ∀ j, w.heap.size ≤ j → ¬ O j := fun j hj e => by have := hlO j e; omega
  obtain ⟨W1, hW1, b0, b1, b2, sa, ca⟩ := al3 w (.cells #[.iface bt bv, .int .u16 obj] 126) (.cells (pt p) 37) (.cells (pt ptz) 37)
  have c00 : W1.cell? ⟨w.heap.size, 0, none⟩ = some (.iface bt bv) := cell_blk b0 0
  simp [go_sem, hps, hpa, hz_pt, zc_pt]
  rw [hW1]
  have env1 := env.ch ca fun _ _ e => e
  have h1 := (hH s).ch h ca fun _ _ e => e
  obtain ⟨g, hgs⟩ : ∃ g, w.heap.size = g := ⟨_, rfl⟩
  rw [hgs] at b0 b1 b2 sa nO c00 ⊢
  have hl1 : ∀ k, O k → k < W1.heap.size := fun k hk => by have := hlO k hk; omega
  have fin : ∀ {W : World} {x : σ × Pt × Int}, tlow rd nw od obj s p off L = x → PtOk x.2.1 → H x.1 W (Gr O W1 W) → Ch O W1 W → R' (.tuple #[.agg (pt x.2.1), .int .i64 x.2.2]) (W.setRow (g + 2) (pt x.2.1)) := fun {W x} e okx a c => by
    subst e
    have hsW := c.size
    have c' : Ch (one (g + 2)) W (W.setRow (g + 2) (pt (tlow rd nw od obj s p off L).2.1)) := (Ch.refl (one (g + 2)) W).setRow (.inl rfl) _
    have hs' := c'.size
    refine hR _ _ ⟨rfl, okx, (hH _).weak ((hH _).ch a c' fun k hk e => by simp only [one] at e; subst e; exact hk.elim (nO _ (by omega)) fun e => by omega) (fun k hk => hk.imp id fun e => ⟨by omega, by omega⟩) (Gr.lt hlO (by omega)), ?_⟩
    exact ((ca.mono fun _ _ e => e.elim).trans c).trans' c' fun k hk e => by simp only [one] at e; omega
  clear hR
  have hm2 := tread_m hs.rd s p
  refine (tread_any hs.rd (by omega) hH h1 p ok env1 hg).mono ?_
  rintro _ w2 ⟨rfl, h2, c2⟩
  have okn := tread_ok rd s p
  have ht : tlow rd nw od obj s p off L = if (tread rd s p).2.2 ≠ 0 then ((tread rd s p).1, ptz, (tread rd s p).2.2) else
    tmade nw od (L.foldl (tput od) ((tread rd s p).1, (tread rd s p).2.1)).1 p (tread rd s p).2.1 (L.foldl (tput od) ((tread rd s p).1, (tread rd s p).2.1)).2 1 obj off := rfl
  obtain ⟨⟨s2, N2, e2⟩, hT2⟩ : ∃ T, tread rd s p = T := ⟨_, rfl⟩
  rw [hT2] at okn h2 ht hm2 ⊢
  simp only at okn h2 ht hm2 ⊢
  have hns := nd_size okn
  have hna := nd_all okn
  have hs2 := c2.size
  have b02 := c2.obj b0 (nO _ (by omega))
  have b12 := c2.obj b1 (nO _ (by omega))
  have b22 := c2.obj b2 (nO _ (by omega))
  have env2 := hg.env env1 c2 ⟨_, h2⟩ fun _ _ e => e
  have c3 := (Ch.refl Nw w2).alloc (.cells (nd N2) 128)
  have b3 := hp_alloc w2 (.cells (nd N2) 128)
  have s3 : (w2.alloc (.cells (nd N2) 128)).heap.size = w2.heap.size + 1 := by simp
  simp [go_sem, hz_nd, zc_nd, hns, hna, nd_size ndz_ok, blit_whole]
  obtain ⟨gw, hgw⟩ : ∃ gw, w2.heap.size = gw := ⟨_, rfl⟩
  rw [hgw] at b3 s3 ⊢
  generalize w2.alloc (.cells (nd N2) 128) = w3 at *
  have b03 := c3.obj b02 id
  have b13 := c3.obj b12 id
  have b23 := c3.obj b22 id
  have env3 := env2.ch c3 fun _ _ e => e
  have hs3 := c3.size
  have h3 : H s2 w3 (Gr O W1 w3) := (hH _).weak ((hH _).ch h2 c3 fun _ _ e => e) (fun k hk => hk.imp id fun e => ⟨e.1, by omega⟩) (Gr.lt hl1 (by omega))
  have cw3 : Ch O W1 w3 := c2.trans (c3.mono fun _ _ e => e.elim)
  obtain ⟨cs3, T3, fr3, hh3, hx3, hz3⟩ := id env3.lh
  by_cases he : e2 = 0
  · rw [if_neg (by omega)] at ht
    subst he
    have c4 := (Ch.refl Nw w3).alloc (.cells (nd N2) 128)
    have b4 := hp_alloc w3 (.cells (nd N2) 128)
    have s4 : (w3.alloc (.cells (nd N2) 128)).heap.size = w3.heap.size + 1 := by simp
    have hlen := hL.len Tryz.underlying84 3
    simp [go_sem, b3, hns, hna, hz_nd, zc_nd, nd_size ndz_ok, blit_whole, hlen]
    obtain ⟨gn, hgn⟩ : ∃ gn, w3.heap.size = gn := ⟨_, rfl⟩
    rw [hgn] at b4 s4 ⊢
    generalize w3.alloc (.cells (nd N2) 128) = w4 at *
    have h4 : H s2 w4 (Gr O W1 w2) := (hH _).ch ((hH _).ch h2 c3 fun _ _ e => e) c4 fun _ _ e => e
    have env4 := env3.ch c4 fun _ _ e => e
    have hvG : ∀ j, v.ownBlock = some j → ¬ Gr O W1 w2 j := fun j hj e => e.elim (hvO j hj).1 fun e => by have := (hvO j hj).2; omega
    have hgG : GlOk H (Gr O W1 w2) := hg.gr env1
    have hl4 : ∀ k, Gr O W1 w2 k → k < w4.heap.size := fun k hk => hk.elim (fun e => by have := hl1 k e; omega) fun e => by omega
    obtain ⟨G3, hG3⟩ : ∃ G3, Gr O W1 w2 = G3 := ⟨_, rfl⟩
    rw [hG3] at h4 hvG hgG hl4
    refine v_loop (fun r f u => ∃ k, r = L.length - k ∧ k ≤ L.length ∧ f 2 = .int .u32 off ∧ f 4 = .pointer (some ⟨g, 0, none⟩) ∧ f 5 = .pointer (some ⟨g + 1, 0, none⟩) ∧ f 8 = .pointer (some ⟨g + 2, 0, none⟩) ∧ f 10 = .pointer (some ⟨gw, 0, none⟩) ∧ f 12 = .pointer (some ⟨gn, 0, none⟩) ∧ f 29 = v ∧ f 30 = .int .i64 L.length ∧ f 31 = .int .i64 k
        ∧ NdOk ((L.take k).foldl (tput od) (s2, N2)).2 ∧ u.heap[gn]? = some (.cells (nd ((L.take k).foldl (tput od) (s2, N2)).2) 128 (0, 0)) ∧ H ((L.take k).foldl (tput od) (s2, N2)).1 u (Gr G3 w4 u) ∧ Ch (fun k => G3 k ∨ k = gn) w4 u) L.length
      ⟨0, rfl, Nat.zero_le _, by simp, by simp, by simp, by simp, by simp, by simp, by simp, by simp, by simp, okn, b4, (hH _).weak h4 (fun k hk => .inl hk) (Gr.lt hl4 (Nat.le_refl _)), Ch.refl _ _⟩ ?_
    rintro J hJ _ f u ⟨k, rfl, hk, f2, f4, f5, f8, f10, f12, f29, f30, f31, okk, bu, hu, cu⟩
    obtain ⟨⟨sk, nk⟩, hfk⟩ : ∃ T, (L.take k).foldl (tput od) (s2, N2) = T := ⟨_, rfl⟩
    have hmk := tputs_m hs (L.take k) (s2, N2)
    rw [hfk] at okk bu hu hmk
    simp only at okk bu hu hmk
    have hmk2 : 32 + 16 * (L.length - k) ≤ m sk := by
      rw [List.length_take, Nat.min_eq_left hk] at hmk
      omega
    have hks := nd_size okk
    have hka := nd_all okk
    have hsu := cu.size
    have gnG : ¬ G3 gn := fun e => by rw [← hG3] at e; exact e.elim (nO _ (by omega)) fun e => by omega
    have nG : ∀ j, g ≤ j → j < g + 3 → ¬ G3 j := fun j h1 h2 e => by rw [← hG3] at e; exact e.elim (nO _ h1) fun e => by omega
    have wG : ¬ G3 gw := fun e => by rw [← hG3] at e; exact e.elim (nO _ (by omega)) fun e => by omega
    have b0u := cu.obj (c4.obj b03 id) fun e => e.elim (nG _ (by omega) (by omega)) fun e => by omega
    have b1u := cu.obj (c4.obj b13 id) fun e => e.elim (nG _ (by omega) (by omega)) fun e => by omega
    have b2u := cu.obj (c4.obj b23 id) fun e => e.elim (nG _ (by omega) (by omega)) fun e => by omega
    have b3u := cu.obj (c4.obj b3 id) fun e => e.elim wG fun e => by omega
    have envu := hgG.env env4 cu ⟨_, hu⟩ fun k hk e => e.elim id fun e => by
      have h9 := env3.lt k hk
      have e : k = gn := e
      rw [e, hgn] at h9
      exact (Nat.lt_irrefl _ h9).elim
    have hgu : GlOk H (Gr G3 w4 u) := hgG.gr env4
    have cuO : Ch O W1 u := (cw3.trans (c4.mono fun _ _ e => e.elim)).trans' cu fun k hk e => by
      rw [← hG3] at e
      rcases e with (e | e) | e
      · exact e
      · omega
      · omega
    by_cases hlt : k < L.length
    · have hlti : (k : Int) < L.length := by omega
      have hwk : IntKind.i64.wrap ((k : Int) + 1) = ((k + 1 : Nat) : Int) := by
        obtain ⟨A, c, _, h1, h2, _⟩ := hL
        unfold maxLen at h2
        rw [IntKind.wrap_i64]; omega
      obtain ⟨x, hx⟩ : ∃ x, L[k]? = some x := ⟨_, List.getElem?_eq_getElem hlt⟩
      have okx := hLok x (List.mem_of_getElem? hx)
      obtain ⟨b, of', c, cs, T, fr, hve, hbw, hex, hcs⟩ := lst_lf hL hLok hx
      have hbO : ¬ O b ∧ b < g := ⟨(hvO b (by rw [hve]; rfl)).1, by have := (hvO b (by rw [hve]; rfl)).2; omega⟩
      have hbu := cuO.obj (ca.obj hbw id) hbO.1
      have hxs := lfv_size okx
      have hxa := lfv_all okx
      have hxp := lfv_pt okx
      have hx0 := lfv_0 x
      have hx8 : ((x.1 : Int)).tmod 8 = ((x.1 % 8 : Nat) : Int) := by rw [Int.tmod_eq_emod_of_nonneg (by omega)]; omega
      obtain ⟨ix, hix⟩ : ∃ ix, x.1 % 8 = ix := ⟨_, rfl⟩
      rw [hix] at hx8
      have hix8 : ix < 8 := by omega
      have hix8i : (ix : Int) < 8 := by omega
      have hixe : ix * 41 + 41 ≤ 328 := by omega
      have hwi1 : IntKind.u32.wrap (ix : Int) = ix := by simp [IntKind.wrap, IntKind.bits, IntKind.signed]; omega
      have hwi2 : IntKind.i64.wrap (ix : Int) = ix := by rw [IntKind.wrap_i64]; omega
      obtain ⟨old, hold⟩ : ∃ q, nk[ix]? = some q := ⟨_, List.getElem?_eq_getElem (by rw [okk.len]; exact hix8)⟩
      have oko := okk.all _ (List.mem_of_getElem? hold)
      have hos := pt_size oko
      have hoa := pt_all oko
      have hge := nd_get okk hold
      have hod : nk.getD ix ptz = old := by rw [List.getD_eq_getElem?_getD, hold]; rfl
      have hst : (L.take (k + 1)).foldl (tput od) (s2, N2) = (if old ≠ x.2 ∧ old ≠ ptz then od sk old else sk, nk.set ix x.2) := by
        rw [List.take_add_one, hx]
        simp only [Option.toList_some, List.foldl_append, List.foldl_cons, List.foldl_nil, hfk]
        unfold tput
        simp only [hix, hod]
      subst hve
      simp [go_sem, f29, f30, f31, hlti, hlt, hbu, hex, hcs, hz_lf, zc_lf, hxs, hxa, lfv_size lfz_ok, blit_whole, lfv_g0, hx8, hwi1, hwi2, hix]
      have c5 := (Ch.refl Nw u).alloc (.cells (lfv x) 93)
      have b5 := hp_alloc u (.cells (lfv x) 93)
      have s5 : (u.alloc (.cells (lfv x) 93)).heap.size = u.heap.size + 1 := by simp
      obtain ⟨gx, hgx⟩ : ∃ gx, u.heap.size = gx := ⟨_, rfl⟩
      rw [hgx] at b5 s5 ⊢
      have bn5 := c5.obj bu id
      have b05 := c5.obj b0u id
      have h5 := (hH _).ch hu c5 fun _ _ e => e
      have env5 := envu.ch c5 fun _ _ e => e
      generalize u.alloc (.cells (lfv x) 93) = w5 at *
      have c6 := (Ch.refl Nw w5).alloc (.cells (pt old) 37)
      have b6 := hp_alloc w5 (.cells (pt old) 37)
      have b56 := c6.obj b5 id
      have bn6 := c6.obj bn5 id
      have b06 := c6.obj b05 id
      have env6 := env5.ch c6 fun _ _ e => e
      have h6 := (hH _).ch h5 c6 fun _ _ e => e
      have s6 : (w5.alloc (.cells (pt old) 37)).heap.size = w5.heap.size + 1 := by simp
      obtain ⟨cs6, T6, fr6, hh6, hx6, hz6⟩ := id env6.lh
      have hhg6 : ∀ hlt, (w5.alloc (.cells (pt old) 37)).heap[0]'hlt = .cells cs6 T6 fr6 := fun hlt => by
        have := hh6
        rw [Array.getElem?_eq_getElem hlt] at this
        exact Option.some.inj this
      obtain ⟨cs5, T5, fr5, hh5, hx5, hz5⟩ := id env5.lh
      have heq1 : ∀ w, (Op.equalIn 10000 37 (.agg (pt old)) (.agg (pt x.2))).run Tryz.prog w = .ok (decide (old = x.2)) w := fun w => eq_pt w oko okx.p
      have heq2 : ∀ w, (Op.equalIn 10000 37 (.agg (pt old)) (.agg (pt ptz))).run Tryz.prog w = .ok (decide (old = ptz)) w := fun w => eq_pt w oko ptz_ok
      have c06 : (w5.alloc (.cells (pt old) 37)).cell? ⟨g, 0, none⟩ = some (.iface bt bv) := cell_blk b06 0
      have hl6 : ∀ k, Gr G3 w4 u k → k < (w5.alloc (.cells (pt old) 37)).heap.size := fun k hk => (hH _).lt h6 k hk
      have hlu : ∀ k, Gr G3 w4 u k → k < u.heap.size := fun k hk => (hH _).lt hu k hk
      have cu6 := c5.trans c6
      have su6 := cu6.size
      have s5' := c5.size
      have s56 := c6.size
      obtain ⟨s7, hs7⟩ : ∃ s7, (if old ≠ x.2 ∧ old ≠ ptz then od sk old else sk) = s7 := ⟨_, rfl⟩
      rw [hs7] at hst
      have hcase : (old ≠ x.2 ∧ old ≠ ptz) ∨ (old = x.2) ∨ (old ≠ x.2 ∧ old = ptz) := by
        by_cases h1 : old = x.2
        · exact .inr (.inl h1)
        · by_cases h2 : old = ptz
          · exact .inr (.inr ⟨h1, h2⟩)
          · exact .inl ⟨h1, h2⟩
      rcases hcase with hc | hc | hc
      case' inl =>
        rw [if_pos hc] at hs7
        simp [go_sem, f12, bn5, hix8, hix8i, hixe, hks, hge, hz_pt, zc_pt, hos, hoa, hzs, blit_whole, b56, hxs, hxp, hxa, heq1, heq2, hc.1, hc.2, b6, hh6, hhg6, hx6, hz6, c06, f4]
        clear hhg6
        generalize w5.alloc (.cells (pt old) 37) = w6 at *
        refine hs.od sk w6 (Gr G3 w4 u) old _ (by omega) h6 oko env6 hgu fun v' w7 h7 c7 => ?_
        rw [hs7] at h7
      case' inr.inl =>
        rw [if_neg (fun e => e.1 hc)] at hs7
        subst hc
        simp [go_sem, f12, bn5, hix8, hix8i, hixe, hks, hge, hz_pt, zc_pt, hos, hoa, hzs, blit_whole, b56, hxs, hxp, hxa, heq1]
        obtain ⟨w6, hw6⟩ : ∃ w6, (w5.alloc (.cells (pt x.2) 37)) = w6 := ⟨_, rfl⟩
        rw [hw6] at h6 hl6 s6 s56 cu6 su6 b56 bn6 b06
        obtain ⟨w7, hw7', c7⟩ : ∃ w7, w6 = w7 ∧ Ch (Gr G3 w4 u) w6 w7 := ⟨w6, rfl, Ch.refl _ _⟩
        have hw7 := hw6.trans hw7'
        have h7 : H s7 w7 (Gr (Gr G3 w4 u) w6 w7) := by rw [← hs7, ← hw7']; exact (hH _).weak h6 (fun k hk => .inl hk) (Gr.lt hl6 (Nat.le_refl _))
        rw [hw7]
      case' inr.inr =>
        rw [if_neg (fun e => e.2 hc.2)] at hs7
        obtain ⟨hc1, hc2⟩ := hc
        subst hc2
        simp [go_sem, f12, bn5, hix8, hix8i, hixe, hks, hge, hz_pt, zc_pt, hos, hoa, hzs, blit_whole, b56, hxs, hxp, hxa, heq1, heq2, hc1, b6, hh6, hhg6, hx6, hz6]
        clear hhg6
        obtain ⟨w6, hw6⟩ : ∃ w6, (w5.alloc (.cells (pt ptz) 37)) = w6 := ⟨_, rfl⟩
        rw [hw6] at h6 hl6 s6 s56 cu6 su6 b56 bn6 b06
        obtain ⟨w7, hw7', c7⟩ : ∃ w7, w6 = w7 ∧ Ch (Gr G3 w4 u) w6 w7 := ⟨w6, rfl, Ch.refl _ _⟩
        have hw7 := hw6.trans hw7'
        have h7 : H s7 w7 (Gr (Gr G3 w4 u) w6 w7) := by rw [← hs7, ← hw7']; exact (hH _).weak h6 (fun k hk => .inl hk) (Gr.lt hl6 (Nat.le_refl _))
        rw [hw7]
      all_goals
        have s7' := c7.size
        have gxG : ¬ Gr G3 w4 u gx := fun e => by have := hlu _ e; omega
        have gnG' : ¬ Gr G3 w4 u gn := fun e => e.elim gnG fun e => by omega
        have b57 := c7.obj b56 gxG
        have bn7 := c7.obj bn6 gnG'
        simp [go_sem, f12, bn7, hks, hka, b57, hxs, hxp]
        refine (with_any nk ix x.2 w7 okk okx.p).mono ?_
        rintro _ w8 ⟨rfl, c8⟩
        have bn8 := c8.obj bn7 id
        rw [if_pos ⟨by omega, hix8i⟩]
        have okn8 : NdOk (nk.set ix x.2) := okk.set _ okx.p
        have hn8s := nd_size okn8
        have hn8a := nd_all okn8
        have s8 := c8.size
        simp [go_sem, f12, bn8, hks, hn8s, blit_whole, f31, hwk]
        have c9 : Ch (one gn) w8 (w8.setRow gn (nd (nk.set ix x.2))) := (Ch.refl (one gn) w8).setRow (.inl rfl) _
        have s9 := c9.size
        have hgn4 : gn < w4.heap.size := by omega
        have h9 : H s7 (w8.setRow gn (nd (nk.set ix x.2))) (Gr G3 w4 (w8.setRow gn (nd (nk.set ix x.2)))) := (hH _).weak ((hH _).ch ((hH _).ch h7 c8 fun _ _ e => e) c9 fun k hk e => by
          simp only [one] at e
          subst e
          exact hk.elim gnG' fun e => by omega) (fun k hk => by
            rcases hk with (hk | hk) | hk
            · exact .inl hk
            · exact .inr ⟨hk.1, by omega⟩
            · exact .inr ⟨by omega, by omega⟩) (Gr.lt hl4 (by omega))
        have k9 : Ch (fun k => G3 k ∨ k = gn) w4 (w8.setRow gn (nd (nk.set ix x.2))) := (((cu.trans (cu6.mono fun _ _ e => e.elim)).trans' c7 fun k hk e => .inl (e.resolve_right (by omega))).trans (c8.mono fun _ _ e => e.elim)).trans (c9.mono fun k _ e => by simp only [one] at e; exact .inr e)
        exact Rnd.intro (L.length - (k + 1)) (by omega) (hJ _ _ _ ⟨k + 1, rfl, by omega, by simp [f2], by simp [f4], by simp [f5], by simp [f8], by simp [f10], by simp [f12], by simp [f29], by simp [f30], by simp, by rw [hst]; exact okn8, by rw [hst, hp_setRow, bn8]; rfl, by rw [hst]; exact h9, k9⟩)
    · obtain rfl : k = L.length := by omega
      rw [List.take_length] at hfk
      rw [hfk] at ht
      have c0u : u.cell? ⟨g, 0, none⟩ = some (.iface bt bv) := cell_blk b0u 0
      have c1u : u.cell? ⟨g, 1, none⟩ = some (.int .u16 obj) := cell_blk b0u 1
      simp [go_sem, f2, f4, f5, f8, f10, f12, f29, f30, f31, b1u, hps, hpa, b3u, hns, hna, bu, hks, hka, c0u, c1u]
      refine (tmade_any hs (by omega) hH hu p ok N2 nk okn okk 1 obj off envu hgu (by decide) hob hof).mono ?_
      rintro _ w9 ⟨rfl, ok9, h9, c9⟩
      simp only at ht
      rw [← ht] at h9 ok9 ⊢
      have hus := pt_size ok9
      have s9 := c9.size
      have b29 := c9.obj b2u fun e => e.elim (nG _ (by omega) (by omega)) fun e => by omega
      simp [go_sem, f8, b29, hzs, hus, pt_all ok9, blit_whole]
      refine fin rfl ok9 ((hH _).weak h9 (fun k hk => ?_) (Gr.lt hl1 (by omega))) (cuO.trans' c9 fun k hk e => ?_)
      · rcases hk with (hk | hk) | hk
        · rw [← hG3] at hk
          exact hk.imp id fun e => ⟨e.1, by omega⟩
        · exact .inr ⟨by omega, by omega⟩
        · exact .inr ⟨by omega, by omega⟩
      · rcases e with e | e
        · rw [← hG3] at e
          exact e.elim id fun e => by omega
        · omega
  · rw [if_pos he] at ht
    have he2 : (e2 == 0) = false := beq_false_of_ne he
    simp [go_sem, he, he2, bne, hh3, hx3, hz3, b23, hzs, hza, blit_whole]
    exact fin (x := (s2, ptz, e2)) ht ptz_ok h3 cw3
end
end Go.Proofs.YtnefdmbdkljifaaGreatDoor

/- Trees: what may be a leaf's pointer, and what Set does, in plain Lean. Conditions: the variables ptr.wide and tree.hole hold what the text lays. -/
namespace Go.Proofs.YtnefdmbdkljifaaGreatDoor
open Go.RowKit Go.Kin

theorem tgood_any (p : Pt) (w : World) (ok : PtOk p) (env : TEnv w) : Ret Tryz.prog 51 #[.agg (pt p)] w fun v' w' => v' = .bool (okP p) ∧ Ch Nw w w' := by
  refine v_enter Tryz.func51 Tryz.ntmps51 rfl (by simp) fun R' hR => ?_
  have hps := pt_size ok
  have hpa := pt_all ok
  have ca := (Ch.refl Nw w).alloc (.cells (pt p) 37)
  have b0 := hp_alloc w (.cells (pt p) 37)
  have env1 := env.ch ca fun _ _ e => e
  obtain ⟨cs, T, fr, hh, hx, hz⟩ := env1.lh
  have hhg : ∀ hlt, (w.alloc (.cells (pt p) 37)).heap[0]'hlt = .cells cs T fr := fun hlt => by
    have := hh
    rw [Array.getElem?_eq_getElem hlt] at this
    exact Option.some.inj this
  have heq : ∀ w, (Op.equalIn 10000 37 (.agg (pt p)) (.agg (pt ptz))).run Tryz.prog w = .ok (decide (p = ptz)) w := fun w => eq_pt w ok ptz_ok
  by_cases hp : p = ptz
  · subst hp
    simp [go_sem, b0, hps, hpa, hh, hhg, hx, hz, heq]
    exact hR _ _ ⟨by simp [okP], ca⟩
  · simp [go_sem, b0, hps, hpa, hh, hhg, hx, hz, heq, hp]
    clear hhg hh
    obtain ⟨g, hg⟩ : ∃ g, w.heap.size = g := ⟨_, rfl⟩
    rw [hg] at b0 ⊢
    revert ca b0 env1
    generalize w.alloc (.cells (pt p) 37) = w1
    intro ca env1 b0
    refine (may_any p w1 ok env1.lw).mono ?_
    rintro _ w2 ⟨rfl, c2⟩
    simp [go_sem]
    exact hR _ _ ⟨by simp [okP, hp], ca.trans c2⟩
/-- leaves in order, each of an offset below 64, each a pointer that may be -/
def lvGood : Option Nat → List (Nat × Pt) → Bool
  | _, [] => true
  | b, x :: l => decide (x.1 < 64) && (match b with | none => true | some y => decide (y < x.1)) && okP x.2 && lvGood (some x.1) l
/-- the leaves of one group, ahead -/
def grp (g : Nat) (l : List (Nat × Pt)) : List (Nat × Pt) := l.takeWhile fun x => x.1 / 8 == g
/-- group for group -/
def tgrps {σ : Type} (rd : Src σ) (nw : σ → Pt → List UInt8 → σ × Pt × Int) (od : σ → Pt → σ) (obj : Nat) : Nat → σ → List Pt → List (Nat × Pt) → σ × List Pt × Int
  | 0, s, n, _ => (s, n, 0)
  | _ + 1, s, n, [] => (s, n, 0)
  | fuel + 1, s, n, x :: l =>
    let r := tlow rd nw od obj s (n.getD (x.1 / 8) ptz) (x.1 / 8) (grp (x.1 / 8) (x :: l))
    if r.2.2 ≠ 0 then (r.1, n, r.2.2) else tgrps rd nw od obj fuel r.1 (n.set (x.1 / 8) r.2.1) ((x :: l).drop (grp (x.1 / 8) (x :: l)).length)
def tset {σ : Type} (rd : Src σ) (nw : σ → Pt → List UInt8 → σ × Pt × Int) (od : σ → Pt → σ) (obj : Nat) (s : σ) (root : Pt) (l : List (Nat × Pt)) : σ × Pt × Int :=
  if lvGood none l && mayT root then
    if l = [] then (s, root, 0) else
    if (tread rd s root).2.2 ≠ 0 then ((tread rd s root).1, ptz, (tread rd s root).2.2) else
    let r := tgrps rd nw od obj l.length (tread rd s root).1 (tread rd s root).2.1 l
    if r.2.2 ≠ 0 then (r.1, ptz, r.2.2) else tmade nw od r.1 root (tread rd s root).2.1 r.2.1 2 obj 0
  else (s, ptz, 1)
theorem lvGood_cons (b : Option Nat) (y : Nat × Pt) (l : List (Nat × Pt)) : lvGood b (y :: l) = (decide (y.1 < 64) && (match b with | none => true | some z => decide (z < y.1)) && okP y.2 && lvGood (some y.1) l) := rfl
theorem lvGood_lt : ∀ (l : List (Nat × Pt)) (b : Option Nat), lvGood b l = true → ∀ x ∈ l, x.1 < 64 := by
  intro l
  induction l with
  | nil => intro b _ x hx; cases hx
  | cons y l ih =>
    intro b h x hx
    rw [lvGood_cons] at h
    simp only [Bool.and_eq_true] at h
    rcases List.mem_cons.1 hx with rfl | hx
    · exact of_decide_eq_true h.1.1.1
    · exact ih _ h.2 x hx
/-- a part of a list that lies in memory -/
theorem Lst.part {α : Type} {w : World} {b off c : Nat} {en : α → List Value} {k : Nat} {l : List α} (h : Lst w (.slice (some ⟨b, off, none⟩) l.length c) en k l) (a z : Nat) (ha : a ≤ z) (hz : z ≤ l.length) : Lst w (.slice (some ⟨b, off + a * k, none⟩) (z - a) (z - a)) en k ((l.take z).drop a) := by
  obtain ⟨A, c', e, h1, h2, h3⟩ := h
  injection e with e1 _ e3
  subst e1 e3
  have hlen : ((l.take z).drop a).length = z - a := by simp; omega
  refine ⟨_, _, by rw [hlen], by omega, by omega, fun h0 => ?_⟩
  obtain ⟨b', off', e4, hb, hr⟩ := h3 (by omega)
  injection e4 with e4
  injection e4 with e5 e6
  subst e5 e6
  refine ⟨b, off + a * k, rfl, hb, fun j x i u hj hu => ?_⟩
  have hj' : l[a + j]? = some x := by
    rw [List.getElem?_drop, List.getElem?_take] at hj
    split at hj
    · exact hj
    · cases hj
  have := hr (a + j) x i u hj' hu
  rw [Nat.add_mul, ← Nat.add_assoc] at this
  exact this
end Go.Proofs.YtnefdmbdkljifaaGreatDoor

namespace Go.Proofs.YtnefdmbdkljifaaGreatDoor
open Go.RowKit Go.Kin

theorem grp_eq (gi : Nat) (L : List (Nat × Pt)) (i j : Nat) (hij : i ≤ j) (hj : j ≤ L.length) (hall : ∀ m y, i ≤ m → m < j → L[m]? = some y → y.1 / 8 = gi) (hend : j = L.length ∨ ∃ y, L[j]? = some y ∧ y.1 / 8 ≠ gi) : grp gi (L.drop i) = (L.take j).drop i := by
  have e : L.drop i = (L.take j).drop i ++ L.drop j := by
    conv => lhs; rw [← List.take_append_drop j L]
    rw [List.drop_append_of_le_length (by rw [List.length_take]; omega)]
  have h2 : (L.drop j).takeWhile (fun x => x.1 / 8 == gi) = [] := by
    rcases hend with rfl | ⟨y, hy, hyg⟩
    · simp
    · have hlt := (List.getElem?_eq_some_iff.1 hy).1
      rw [List.drop_eq_getElem_cons hlt, (List.getElem?_eq_some_iff.1 hy).2, List.takeWhile_cons]
      simp [hyg]
  unfold grp
  rw [e, List.takeWhile_append_of_pos, h2, List.append_nil]
  intro a ha
  obtain ⟨m, hm⟩ := List.mem_iff_getElem?.1 ha
  rw [List.getElem?_drop, List.getElem?_take] at hm
  split at hm
  · simpa using hall (i + m) a (by omega) (by omega) hm
  · cases hm
theorem tyLf : TyS Tryz.prog 84 93 (.agg (lfv (0, ptz))) 42 64 := ⟨Tryz.underlying84, by kernel_rfl, lfv_size lfz_ok, by decide⟩
theorem cutLf (b of' n c i j : Nat) (hij : i < j) (hjc : j ≤ c) (w : World) : (Instr.sliceAt 84 (.slice (some ⟨b, of', none⟩) n c) (some (.int .i64 i)) (some (.int .i64 j)) (some (.int .i64 j))).run Tryz.prog w = .ok (.slice (some ⟨b, of' + i * 42, none⟩) (j - i) (j - i)) w := by
  obtain ⟨ti, hti, _, hsz, _⟩ := info_parts tyLf.info
  have h1 : ¬ c = i := by omega
  have h2 : ¬ c < j := by omega
  have h3 : ¬ j < i := by omega
  simp [Instr.sliceAt, Instr.slice, Instr.sliceBounds, Instr.sliceBound, asIntOf, run_underlying tyLf.und, sizeOf, typeInfo, hti, hsz, Nat.le_of_lt hij, hjc, h1, h2, h3, Addr.add]
  rw [if_neg (by omega)]
  by_cases h0 : i = 0
  · simp [h0]
  · rw [if_neg (by omega)]
end Go.Proofs.YtnefdmbdkljifaaGreatDoor
