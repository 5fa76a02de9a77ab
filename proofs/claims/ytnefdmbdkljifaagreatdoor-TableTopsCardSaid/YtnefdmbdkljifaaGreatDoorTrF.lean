/- Trees: Set, of any sink. Conditions: the variables ptr.wide and tree.hole hold what the text lays. -/
import Derived.Test.YtnefdmbdkljifaaGreatDoorTrG
set_option linter.unusedSimpArgs false
set_option linter.unusedVariables false

namespace Go.Proofs.YtnefdmbdkljifaaGreatDoor
open Go.RowKit Go.Kin

section
variable {σ : Type} {H : σ → HP} {m : σ → Nat} {rd : Src σ} {nw : σ → Pt → List UInt8 → σ × Pt × Int} {od : σ → Pt → σ} {bt : TypeId} {bv : Value} {s : σ} {w w' : World} {O : Nat → Prop}
/-- the offset ahead of place k -/
def prevO (L : List (Nat × Pt)) (k : Nat) : Option Nat := if k = 0 then none else (L[k - 1]?).map (·.1)
theorem fuel_step {n i j a b : Nat} (hij : i < j) (hj : j ≤ n) (h : 16 * (4 * (n - i) + 2) ≤ a) : 16 * ((j - i) + 3) ≤ a ∧ (a ≤ b + 16 * ((j - i) + 3) → 16 * (4 * (n - j) + 2) ≤ b) := by omega
theorem tgrps_m {sv : Value} (hs : SnkOk H m rd nw od sv) (obj : Nat) : ∀ (fuel : Nat) (s : σ) (n : List Pt) (l : List (Nat × Pt)), m s ≤ m (tgrps rd nw od obj fuel s n l).1 + 16 * (4 * l.length)
  | 0, s, n, l => by unfold tgrps; simp
  | fuel + 1, s, n, [] => by unfold tgrps; simp
  | fuel + 1, s, n, x :: l => by
    have h0 : grp (x.1 / 8) (x :: l) = x :: grp (x.1 / 8) l := by
      unfold grp
      rw [List.takeWhile_cons]
      simp
    have h1 := tlow_m hs s (n.getD (x.1 / 8) ptz) obj (x.1 / 8) (grp (x.1 / 8) (x :: l))
    have h3 : (grp (x.1 / 8) (x :: l)).length ≤ (x :: l).length := by unfold grp; exact List.Sublist.length_le (List.takeWhile_sublist _)
    have h4 : 1 ≤ (grp (x.1 / 8) (x :: l)).length := by rw [h0]; simp
    unfold tgrps
    simp only
    split
    · simp only; omega
    · have h2 := tgrps_m hs obj fuel (tlow rd nw od obj s (n.getD (x.1 / 8) ptz) (x.1 / 8) (grp (x.1 / 8) (x :: l))).1 (n.set (x.1 / 8) (tlow rd nw od obj s (n.getD (x.1 / 8) ptz) (x.1 / 8) (grp (x.1 / 8) (x :: l))).2.1) ((x :: l).drop (grp (x.1 / 8) (x :: l)).length)
      rw [List.length_drop] at h2
      omega
theorem tset_m {sv : Value} (hs : SnkOk H m rd nw od sv) (obj : Nat) (s : σ) (root : Pt) (l : List (Nat × Pt)) : m s ≤ m (tset rd nw od obj s root l).1 + 16 * (4 * l.length + 3) := by
  have h1 := tread_m hs.rd s root
  have h2 := tgrps_m hs obj l.length (tread rd s root).1 (tread rd s root).2.1 l
  have h3 := tmade_m hs (tgrps rd nw od obj l.length (tread rd s root).1 (tread rd s root).2.1 l).1 root (tread rd s root).2.1 (tgrps rd nw od obj l.length (tread rd s root).1 (tread rd s root).2.1 l).2.1 2 obj 0
  unfold tset
  simp only
  split
  · split
    · simp only; omega
    · split
      · simp only; omega
      · split
        · simp only; omega
        · omega
  · simp only; omega
set_option maxRecDepth 100000 in
set_option maxHeartbeats 8000000 in
theorem tset_gl (hs : SnkOk H m rd nw od (.iface bt bv)) (hH : ∀ s, HOk (H s)) (h : H s w O) (p : Pt) (ok : PtOk p) (obj : Nat) (v : Value) (L : List (Nat × Pt)) (hm : 16 * (4 * L.length + 3) ≤ m s) (hL : Lst w v lfL 42 L) (hLok : ∀ a ∈ L, LfOk a) (hvO : ∀ j, v.ownBlock = some j → ¬ O j ∧ j < w.heap.size) (env : TEnv w) (hg : GlOk H O) (hob : obj < 65536) :
    Ret Tryz.prog 30 #[.iface bt bv, .agg (pt p), .int .u16 obj, v] w fun v' w' => v' = .tuple #[.agg (pt (tset rd nw od obj s p L).2.1), .int .i64 (tset rd nw od obj s p L).2.2] ∧ PtOk (tset rd nw od obj s p L).2.1 ∧ H (tset rd nw od obj s p L).1 w' (Gr O w w') ∧ Ch O w w' := by
  refine v_enter Tryz.func30 Tryz.ntmps30 rfl (by simp) fun R' hR => ?_
  have hps := pt_size ok
  have hpa := pt_all ok
  have hzs := pt_size ptz_ok
  have hza := pt_all ptz_ok
  have hlO := (hH s).lt h
  have nO : ∀ j, w.heap.size ≤ j → ¬ O j := fun j hj e => by have := hlO j e; omega
  have ca := ((Ch.refl Nw w).alloc (.cells (pt p) 37)).alloc (.cells (pt ptz) 37)
  have b0 := al2_0 w (.cells (pt p) 37) (.cells (pt ptz) 37)
  have b1 := al2_1 w (.cells (pt p) 37) (.cells (pt ptz) 37)
  have sa : ((w.alloc (.cells (pt p) 37)).alloc (.cells (pt ptz) 37)).heap.size = w.heap.size + 2 := by simp
  have hlen := hL.len Tryz.underlying84 3
  simp [go_sem, hps, hpa, hz_pt, zc_pt, hlen]
  obtain ⟨g, hgs⟩ : ∃ g, w.heap.size = g := ⟨_, rfl⟩
  rw [hgs] at b0 b1 sa nO ⊢
  generalize (w.alloc (.cells (pt p) 37)).alloc (.cells (pt ptz) 37) = W1 at *
  have env1 := env.ch ca fun _ _ e => e
  have h1 := (hH s).ch h ca fun _ _ e => e
  have hl1 : ∀ k, O k → k < W1.heap.size := fun k hk => by have := hlO k hk; omega
  have fin : ∀ {W : World} {x : σ × Pt × Int}, tset rd nw od obj s p L = x → PtOk x.2.1 → H x.1 W (Gr O W1 W) → Ch O W1 W → R' (.tuple #[.agg (pt x.2.1), .int .i64 x.2.2]) (W.setRow (g + 1) (pt x.2.1)) := fun {W x} e okx a c => by
    subst e
    have hsW := c.size
    have c' : Ch (one (g + 1)) W (W.setRow (g + 1) (pt (tset rd nw od obj s p L).2.1)) := (Ch.refl (one (g + 1)) W).setRow (.inl rfl) _
    have hs' := c'.size
    refine hR _ _ ⟨rfl, okx, (hH _).weak ((hH _).ch a c' fun k hk e => by simp only [one] at e; subst e; exact hk.elim (nO _ (by omega)) fun e => by omega) (fun k hk => hk.imp id fun e => ⟨by omega, by omega⟩) (Gr.lt hlO (by omega)), ?_⟩
    exact ((ca.mono fun _ _ e => e.elim).trans c).trans' c' fun k hk e => by simp only [one] at e; omega
  clear hR
  have bad : ∀ {W : World}, (lvGood none L && mayT p) = false → Ch Nw W1 W → R' (.tuple #[.agg (pt ptz), .int .i64 1]) (W.setRow (g + 1) (pt ptz)) := fun {W} e c =>
    fin (x := (s, ptz, 1)) (by unfold tset; rw [e]; rfl) ptz_ok ((hH _).weak ((hH _).ch h1 c fun _ _ e => e) (fun k hk => .inl hk) (Gr.lt hl1 c.size)) (c.mono fun _ _ e => e.elim)
  refine v_loop (fun r f u => ∃ k, r = L.length - k ∧ k ≤ L.length ∧ f 0 = .iface bt bv ∧ f 2 = .int .u16 obj ∧ f 3 = v ∧ f 5 = .pointer (some ⟨g, 0, none⟩) ∧ f 8 = .pointer (some ⟨g + 1, 0, none⟩) ∧ f 24 = v ∧ f 25 = .int .i64 L.length ∧ f 26 = .int .i64 k ∧ lvGood none L = lvGood (prevO L k) (L.drop k) ∧ Ch Nw W1 u) L.length
    ⟨0, rfl, Nat.zero_le _, by simp, by simp, by simp, by simp, by simp, by simp, by simp, by simp, rfl, Ch.refl _ _⟩ ?_
  rintro J hJ _ f u ⟨k, rfl, hk, f0, f2, f3, f5, f8, f24, f25, f26, hlv, cu⟩
  have envu := env1.ch cu fun _ _ e => e
  have b0u := cu.obj b0 id
  have b1u := cu.obj b1 id
  by_cases hlt : k < L.length
  · have hlti : (k : Int) < L.length := by omega
    have hmx : L.length ≤ maxLen := by
      obtain ⟨A, c, _, h1, h2, _⟩ := hL
      omega
    have hwk : IntKind.i64.wrap ((k : Int) + 1) = ((k + 1 : Nat) : Int) := by
      unfold maxLen at hmx
      rw [IntKind.wrap_i64]; omega
    obtain ⟨x, hx⟩ : ∃ x, L[k]? = some x := ⟨_, List.getElem?_eq_getElem hlt⟩
    have okx := hLok x (List.mem_of_getElem? hx)
    obtain ⟨b, of', c, cs, T, fr, hve, hbw, hex, hcs⟩ := lst_lf hL hLok hx
    have hbu := (ca.trans cu).obj hbw id
    have hxs := lfv_size okx
    have hxa := lfv_all okx
    have hxp := lfv_pt okx
    have hdr : L.drop k = x :: L.drop (k + 1) := by
      rw [List.drop_eq_getElem_cons hlt]
      congr 1
      exact (List.getElem?_eq_some_iff.1 hx).2
    have hpv : prevO L (k + 1) = some x.1 := by simp [prevO, hx]
    rw [hdr] at hlv
    subst hve
    simp [go_sem, f24, f25, f26, hlti, hlt, hbu, hex, hcs, hz_lf, zc_lf, hxs, hxa, lfv_size lfz_ok, blit_whole]
    have c5 := (Ch.refl Nw u).alloc (.cells (lfv x) 93)
    have b5 := hp_alloc u (.cells (lfv x) 93)
    obtain ⟨gx, hgx⟩ : ∃ gx, u.heap.size = gx := ⟨_, rfl⟩
    rw [hgx] at b5 ⊢
    generalize u.alloc (.cells (lfv x) 93) = w5 at *
    have cu5 := cu.trans c5
    have env5 := envu.ch c5 fun _ _ e => e
    have cx0 : w5.cell? ⟨gx, 0, none⟩ = some (.int .u32 x.1) := (cell_blk b5 0).trans (lfv_0 x)
    refine v_draw' [(0, none), (1, none), (2, none), (3, none), (4, none), (5, none), (6, none), (7, none), (8, none), (9, none), (10, none), (11, none), (12, none), (13, none), (14, none), (15, none), (16, none), (17, none), (18, none), (19, none), (20, none), (21, some []), (22, none), (23, none)] (by kernel_rfl) (by kernel_rfl) ?_
    have hg1 : lvGood (prevO L k) (x :: L.drop (k + 1)) = (decide (x.1 < 64) && (match prevO L k with | none => true | some y => decide (y < x.1)) && okP x.2 && lvGood (some x.1) (L.drop (k + 1))) := rfl
    rw [hg1] at hlv
    have cud := cu5.drew
    have b1d : w5.drew.heap[g + 1]? = some (.cells (pt ptz) 37 (0, 0)) := (cu5.obj b1 id)
    have env5d := env5.ch (Ch.refl Nw w5).drew fun _ _ e => e
    obtain ⟨csd, Td, frd, hhd, hxd, hzd⟩ := id env5d.lh
    have hhd' : w5.heap[0]? = some (.cells csd Td frd) := hhd
    have b1d' := cu5.obj b1 id
    by_cases h64 : x.1 < 64
    · have h64i : ¬ (64 : Int) ≤ x.1 := by omega
      rw [decide_eq_true h64, Bool.true_and] at hlv
      have hpr : prevO L k = none ∧ k = 0 ∨ ∃ y, 0 < k ∧ L[k - 1]? = some y ∧ prevO L k = some y.1 := by
        by_cases h0 : k = 0
        · exact .inl ⟨by unfold prevO; rw [if_pos h0], h0⟩
        · obtain ⟨y, hy⟩ : ∃ y, L[k - 1]? = some y := ⟨_, List.getElem?_eq_getElem (by omega)⟩
          exact .inr ⟨y, by omega, hy, by unfold prevO; rw [if_neg h0, hy]; rfl⟩
      rcases hpr with ⟨hp0, hk0⟩ | ⟨y, hk0, hy, hpy⟩
      case' inl =>
        rw [hp0] at hlv
        have hlv : lvGood none L = (okP x.2 && lvGood (some x.1) (L.drop (k + 1))) := hlv
        have hk0i : ¬ (0 : Int) < k := by omega
        simp [go_sem, cx0, h64, h64i, b5, hxs, hxp, hk0, hk0i]
      case' inr =>
        rw [hpy] at hlv
        have hlv : lvGood none L = (decide (y.1 < x.1) && okP x.2 && lvGood (some x.1) (L.drop (k + 1))) := hlv
        have hk0i : (0 : Int) < k := by omega
        have oky := hLok y (List.mem_of_getElem? hy)
        obtain ⟨b2, of2, c2, cs2, T2, fr2, hve2, hbw2, hex2, hcs2⟩ := lst_lf hL hLok hy
        injection hve2 with hA0 _ _
        injection hA0 with hA0
        injection hA0 with hA1 hA2
        subst hA1 hA2
        have hbu2 := (ca.trans cu5).obj hbw2 id
        have hwk1 : IntKind.i64.wrap ((k : Int) - 1) = ((k - 1 : Nat) : Int) := by
          unfold maxLen at hmx
          rw [IntKind.wrap_i64]; omega
        have cy : w5.cell? ⟨b, of' + (k - 1) * 42, none⟩ = some (.int .u32 y.1) := by
          rw [cell_blk hbu2]
          have h0 := lfv_0 y
          rw [← hex2, Array.getElem?_extract, if_pos (by omega)] at h0
          exact h0
        have hk1l : k - 1 < L.length := by omega
        by_cases hyx : y.1 < x.1
        case' neg =>
          have hyi : (x.1 : Int) ≤ y.1 := by omega
          rw [decide_eq_false hyx] at hlv
          simp [go_sem, cx0, h64, h64i, f3, hk0, hk0i, hwk1, hk1l, cy, hyx, hyi, hhd', hxd, hzd, f8, b1d', hzs, hza, blit_whole]
          exact bad (by rw [hlv]; simp) cud
        have hyi : ¬ (x.1 : Int) ≤ y.1 := by omega
        rw [decide_eq_true hyx, Bool.true_and] at hlv
        simp [go_sem, cx0, h64, h64i, f3, hk0, hk0i, hwk1, hk1l, cy, hyx, hyi, b5, hxs, hxp]
      all_goals
        refine (tgood_any x.2 _ okx.p env5d).mono ?_
        rintro _ w6 ⟨rfl, c6⟩
        have cu6 := cud.trans c6
        cases hgd : okP x.2 with
        | false =>
          rw [hgd] at hlv
          have env6 := env5d.ch c6 fun _ _ e => e
          obtain ⟨cs6, T6, fr6, hh6, hx6, hz6⟩ := id env6.lh
          have b16 := cu6.obj b1 id
          simp [go_sem, hh6, hx6, hz6, f8, b16, hzs, hza, blit_whole]
          exact bad (by rw [hlv]; simp) cu6
        | true =>
          rw [hgd] at hlv
          simp [go_sem, f26, hwk]
          exact Rnd.intro (L.length - (k + 1)) (by omega) (hJ _ _ _ ⟨k + 1, rfl, by omega, by simp [f0], by simp [f2], by simp [f3], by simp [f5], by simp [f8], by simp [f24], by simp [f25], by simp, by rw [hlv, hpv]; rfl, cu6⟩)
    · have h64i : (64 : Int) ≤ x.1 := by omega
      rw [decide_eq_false h64] at hlv
      simp [go_sem, cx0, h64, h64i, hhd', hxd, hzd, f8, b1d', hzs, hza, blit_whole]
      exact bad (by rw [hlv]; simp) cud
  · obtain rfl : k = L.length := by omega
    have hlv : lvGood none L = true := by rw [hlv, List.drop_length]; rfl
    simp [go_sem, f24, f25, f26, b0u, f5, hps, hpa]
    refine (tmay_any p u ok envu).mono ?_
    rintro _ w2 ⟨rfl, c2⟩
    have cu2 := cu.trans c2
    have env2 := envu.ch c2 fun _ _ e => e
    obtain ⟨cs2, T2, fr2, hh2, hx2, hz2⟩ := id env2.lh
    have b02 := cu2.obj b0 id
    have b12 := cu2.obj b1 id
    cases hmt : mayT p with
    | false =>
      simp [go_sem, f8, hh2, hx2, hz2, b12, hzs, hza, blit_whole]
      exact bad (by rw [hmt]; simp) cu2
    | true =>
      have ht : tset rd nw od obj s p L = if L = [] then (s, p, 0) else if (tread rd s p).2.2 ≠ 0 then ((tread rd s p).1, ptz, (tread rd s p).2.2) else
          if (tgrps rd nw od obj L.length (tread rd s p).1 (tread rd s p).2.1 L).2.2 ≠ 0 then ((tgrps rd nw od obj L.length (tread rd s p).1 (tread rd s p).2.1 L).1, ptz, (tgrps rd nw od obj L.length (tread rd s p).1 (tread rd s p).2.1 L).2.2) else tmade nw od (tgrps rd nw od obj L.length (tread rd s p).1 (tread rd s p).2.1 L).1 p (tread rd s p).2.1 (tgrps rd nw od obj L.length (tread rd s p).1 (tread rd s p).2.1 L).2.1 2 obj 0 := by
        unfold tset
        rw [hlv, hmt]
        rfl
      have h2 : H s w2 (Gr O W1 w2) := (hH _).weak ((hH _).ch h1 cu2 fun _ _ e => e) (fun k hk => .inl hk) (Gr.lt hl1 cu2.size)
      by_cases hL0 : L = []
      · rw [if_pos hL0] at ht
        have hl0 : L.length = 0 := by rw [hL0]; rfl
        simp [go_sem, f3, hlen, hl0, f8, f5, b02, b12, hps, hpa, hzs, blit_whole]
        exact fin (x := (s, p, 0)) ht ok h2 (cu2.mono fun _ _ e => e.elim)
      · rw [if_neg hL0] at ht
        have hl0 : L.length ≠ 0 := fun e => hL0 (List.eq_nil_of_length_eq_zero e)
        have hl0i : ((L.length : Int) == 0) = false := beq_false_of_ne (by omega)
        have c3 := (Ch.refl Nw w2).alloc (.cells #[.iface bt bv, .int .u16 obj] 126)
        have bs3 := hp_alloc w2 (.cells #[.iface bt bv, .int .u16 obj] 126)
        have b03' := c3.obj b02 id
        have b13' := c3.obj b12 id
        have cu3 := cu2.trans c3
        have env3 := env2.ch c3 fun _ _ e => e
        have h3 := (hH _).ch h1 cu3 fun _ _ e => e
        have s3 : (w2.alloc (.cells #[.iface bt bv, .int .u16 obj] 126)).heap.size = w2.heap.size + 1 := by simp
        have s2 := cu2.size
        simp [go_sem, f0, f2, f3, hlen, hl0, hl0i, hL0, f5, b02, b03', hps, hpa]
        obtain ⟨gs, hgs2⟩ : ∃ gs, w2.heap.size = gs := ⟨_, rfl⟩
        rw [hgs2] at bs3 s3 ⊢
        generalize w2.alloc (.cells #[.iface bt bv, .int .u16 obj] 126) = w3 at *
        have hm4 := tread_m hs.rd s p
        have hm16 : 16 ≤ m s := Nat.le_trans (by omega) hm
        refine (tread_any hs.rd hm16 hH h3 p ok env3 hg).mono ?_
        rintro _ w4 ⟨rfl, h4, c4⟩
        have okn := tread_ok rd s p
        obtain ⟨⟨s4, N4, e4⟩, hT4⟩ : ∃ T, tread rd s p = T := ⟨_, rfl⟩
        rw [hT4] at okn h4 ht hm4 ⊢
        simp only at okn h4 ht hm4 ⊢
        have hns := nd_size okn
        have hna := nd_all okn
        have s4' := c4.size
        have b04 := c4.obj b03' (nO _ (by omega))
        have b14 := c4.obj b13' (nO _ (by omega))
        have bs4 := c4.obj bs3 (nO _ (by omega))
        have env4 := hg.env env3 c4 ⟨_, h4⟩ fun _ _ e => e
        have c5 := (Ch.refl Nw w4).alloc (.cells (nd N4) 128)
        have b5 := hp_alloc w4 (.cells (nd N4) 128)
        have s5 : (w4.alloc (.cells (nd N4) 128)).heap.size = w4.heap.size + 1 := by simp
        simp [go_sem, hz_nd, zc_nd, hns, hna, nd_size ndz_ok, blit_whole]
        obtain ⟨gw, hgw⟩ : ∃ gw, w4.heap.size = gw := ⟨_, rfl⟩
        rw [hgw] at b5 s5 ⊢
        generalize w4.alloc (.cells (nd N4) 128) = w5 at *
        have b05 := c5.obj b04 id
        have b15 := c5.obj b14 id
        have bs5 := c5.obj bs4 id
        have env5 := env4.ch c5 fun _ _ e => e
        have s5' := c5.size
        have h5 : H s4 w5 (Gr O W1 w5) := (hH _).weak ((hH _).ch h4 c5 fun _ _ e => e) (fun k hk => hk.imp id fun e => ⟨by omega, by omega⟩) (Gr.lt hl1 (by omega))
        have cw5 : Ch O W1 w5 := ((cu3.mono fun _ _ e => e.elim).trans c4).trans (c5.mono fun _ _ e => e.elim)
        obtain ⟨cs5, T5, fr5, hh5, hx5, hz5⟩ := id env5.lh
        by_cases he : e4 = 0
        · subst he
          rw [if_neg (by simp)] at ht
          have c6 := (Ch.refl Nw w5).alloc (.cells (nd N4) 128)
          have b6 := hp_alloc w5 (.cells (nd N4) 128)
          have s6 : (w5.alloc (.cells (nd N4) 128)).heap.size = w5.heap.size + 1 := by simp
          simp [go_sem, b5, hns, hna, hz_nd, zc_nd, nd_size ndz_ok, blit_whole]
          obtain ⟨gn, hgn⟩ : ∃ gn, w5.heap.size = gn := ⟨_, rfl⟩
          rw [hgn] at b6 s6 ⊢
          generalize w5.alloc (.cells (nd N4) 128) = w6 at *
          have b06 := c6.obj b05 id
          have b16 := c6.obj b15 id
          have bs6 := c6.obj bs5 id
          have bw6 := c6.obj b5 id
          have env6 := env5.ch c6 fun _ _ e => e
          have s6' := c6.size
          obtain ⟨G4, hG4⟩ : ∃ G4, Gr O w3 w4 = G4 := ⟨_, rfl⟩
          have h6 : H s4 w6 G4 := by rw [← hG4]; exact (hH _).ch ((hH _).ch h4 c5 fun _ _ e => e) c6 fun _ _ e => e
          have hl6 := (hH _).lt h6
          have gnG : ¬ G4 gn := fun e => by rw [← hG4] at e; exact e.elim (nO _ (by omega)) fun e => by omega
          have hlt64 := lvGood_lt L none hlv
          refine v_loop (fun r f u => ∃ (i fuel : Nat) (s' : σ) (n' : List Pt), r = L.length - i ∧ i ≤ L.length ∧ L.length - i ≤ fuel ∧ f 0 = .iface bt bv ∧ f 3 = v ∧ f 5 = .pointer (some ⟨g, 0, none⟩) ∧ f 8 = .pointer (some ⟨g + 1, 0, none⟩) ∧ f 12 = .pointer (some ⟨gs, 0, none⟩) ∧ f 13 = .pointer (some ⟨gw, 0, none⟩) ∧ f 15 = .pointer (some ⟨gn, 0, none⟩) ∧ f 16 = .int .i64 i
              ∧ NdOk n' ∧ tgrps rd nw od obj L.length s4 N4 L = tgrps rd nw od obj fuel s' n' (L.drop i) ∧ u.heap[gn]? = some (.cells (nd n') 128 (0, 0)) ∧ H s' u (Gr G4 w6 u) ∧ Ch (fun k => G4 k ∨ k = gn) w6 u ∧ 16 * (4 * (L.length - i) + 2) ≤ m s') L.length
            ⟨0, L.length, s4, N4, rfl, Nat.zero_le _, by omega, by simp [f0], by simp [f3], by simp [f5], by simp [f8], by simp, by simp, by simp, by simp, okn, rfl, b6, (hH _).weak h6 (fun k hk => .inl hk) (Gr.lt hl6 (Nat.le_refl _)), Ch.refl _ _, by clear hlen hlt64; omega⟩ ?_
          clear hJ
          rintro J hJ _ f u ⟨i, fuel, s', n', rfl, hi, hfu, f0, f3, f5, f8, f12, f13, f15, f16, okk, htg, bu, hu, cu, hmu⟩
          have nG : ∀ j, g ≤ j → j < w3.heap.size → ¬ G4 j := fun j h1 h2 e => by rw [← hG4] at e; exact e.elim (nO _ h1) fun e => by omega
          have wG : ¬ G4 gw := fun e => by rw [← hG4] at e; exact e.elim (nO _ (by omega)) fun e => by omega
          have nU : ∀ j, g ≤ j → j < w3.heap.size → ¬ (G4 j ∨ j = gn) := fun j h1 h2 e => e.elim (nG j h1 h2) fun e => by omega
          have b0u := cu.obj b06 (nU _ (by omega) (by omega))
          have b1u := cu.obj b16 (nU _ (by omega) (by omega))
          have bsu := cu.obj bs6 (nU _ (by omega) (by omega))
          have bwu := cu.obj bw6 fun e => e.elim wG fun e => by omega
          have hgG : GlOk H G4 := by rw [← hG4]; exact hg.gr env3
          have hgu : GlOk H (Gr G4 w6 u) := hgG.gr env6
          have envu := hgG.env env6 cu ⟨_, hu⟩ fun k hk e => e.elim id fun e => by
            have h9 := env5.lt k hk
            have e : k = gn := e
            rw [e, hgn] at h9
            exact (Nat.lt_irrefl _ h9).elim
          have hsu := cu.size
          have hks := nd_size okk
          have hka := nd_all okk
          have fin2 : ∀ {W : World} {y : σ × Pt × Int}, tset rd nw od obj s p L = y → PtOk y.2.1 → H y.1 W (Gr G4 w6 W) → Ch (fun k => G4 k ∨ k = gn) w6 W → R' (.tuple #[.agg (pt y.2.1), .int .i64 y.2.2]) (W.setRow (g + 1) (pt y.2.1)) := fun {W y} e oky a c => by
            have hsW := c.size
            refine fin e oky ((hH _).weak a (fun k hk => ?_) (Gr.lt hl1 (by omega))) ((cw5.trans (c6.mono fun _ _ e => e.elim)).trans' c fun k hk e => ?_)
            · rcases hk with hk | hk
              · rw [← hG4] at hk
                exact hk.imp id fun e => ⟨by omega, by omega⟩
              · exact .inr ⟨by omega, hk.2⟩
            · rcases e with e | e
              · rw [← hG4] at e
                exact e.elim id fun e => by omega
              · omega
          by_cases hlt : i < L.length
          · have hlti : (i : Int) < L.length := by omega
            obtain ⟨A, c, hve, hmc, hmx, hcl⟩ := id hL
            obtain ⟨b, of', hA, hbl, hr⟩ := hcl (by omega)
            subst hA
            have hb : ¬ O b := (hvO b (by rw [hve]; rfl)).1
            have hbG : ¬ (G4 b ∨ b = gn) := fun e => e.elim (fun e => by rw [← hG4] at e; exact e.elim hb fun e => by omega) fun e => by omega
            have hcell : ∀ j y, L[j]? = some y → u.cell? ⟨b, of' + j * 42, none⟩ = some (.int .u32 y.1) := fun j y hy => by
              have h0 := hr j y 0 _ hy rfl
              exact cu.cell (c6.cell (cw5.cell (ca.cell h0 id) hb) id) hbG
            obtain ⟨x, hx⟩ : ∃ x, L[i]? = some x := ⟨_, List.getElem?_eq_getElem hlt⟩
            have hx64 := hlt64 x (List.mem_of_getElem? hx)
            have hcx := hcell i x hx
            obtain ⟨gi, hgi⟩ : ∃ gi, x.1 / 8 = gi := ⟨_, rfl⟩
            have hgi8 : gi < 8 := by omega
            have hq : ∀ y : Nat, ((y : Int)).tdiv 8 = ((y / 8 : Nat) : Int) := fun y => by rw [Int.tdiv_eq_ediv_of_nonneg (by omega)]; omega
            have hqx : ((x.1 : Int)).tdiv 8 = (gi : Int) := by rw [hq, hgi]
            have hqw : IntKind.u32.wrap (gi : Int) = gi := by simp [IntKind.wrap, IntKind.bits, IntKind.signed]; omega
            subst hve
            simp [go_sem, f3, f16, hlen, hlti, hlt, hcx, hqx, hqw]
            refine v_loop (fun r f' u' => ∃ j, r = L.length - j ∧ i ≤ j ∧ j ≤ L.length ∧ f' 0 = .iface bt bv ∧ f' 3 = .slice (some ⟨b, of', none⟩) L.length c ∧ f' 5 = .pointer (some ⟨g, 0, none⟩) ∧ f' 8 = .pointer (some ⟨g + 1, 0, none⟩) ∧ f' 12 = .pointer (some ⟨gs, 0, none⟩) ∧ f' 13 = .pointer (some ⟨gw, 0, none⟩) ∧ f' 15 = .pointer (some ⟨gn, 0, none⟩) ∧ f' 16 = .int .i64 i ∧ f' 17 = .int .u32 gi ∧ f' 18 = .int .i64 j ∧ u' = u ∧ ∀ m y, i ≤ m → m < j → L[m]? = some y → y.1 / 8 = gi) (L.length - i)
              ⟨i, rfl, Nat.le_refl _, hi, by simp [f0], by simp [f3], by simp [f5], by simp [f8], by simp [f12], by simp [f13], by simp [f15], by simp [f16], by simp, by simp [f16], rfl, fun m y h1 h2 => absurd h2 (by omega)⟩ ?_
            clear f0 f3 f5 f8 f12 f13 f15 f16
            rintro J2 hJ2 _ f u' ⟨j, rfl, hij, hjl, f0, f3, f5, f8, f12, f13, f15, f16, f17, f18, rfl, hall⟩
            by_cases hgo : ∃ y, L[j]? = some y ∧ y.1 / 8 = gi
            · obtain ⟨y, hy, hyg⟩ := hgo
              have hjlt : j < L.length := (List.getElem?_eq_some_iff.1 hy).1
              have hjlti : (j : Int) < L.length := by omega
              have hcy := hcell j y hy
              have hwj : IntKind.i64.wrap ((j : Int) + 1) = ((j + 1 : Nat) : Int) := by
                unfold maxLen at hmx
                rw [IntKind.wrap_i64]; omega
              have hqy : ((y.1 : Int)).tdiv 8 = (gi : Int) := by rw [hq, hyg]
              simp [go_sem, f3, f17, f18, hlen, hjlt, hjlti, hcy, hqy, hqw, hwj]
              exact Rnd.intro (L.length - (j + 1)) (by omega) (hJ2 _ _ _ ⟨j + 1, rfl, by omega, by omega, by simp [f0], by simp [f3], by simp [f5], by simp [f8], by simp [f12], by simp [f13], by simp [f15], by simp [f16], by simp [f17], by simp, rfl, fun m z h1 h2 hz => by
                by_cases hmj : m = j
                · subst hmj
                  rw [hy] at hz
                  cases hz
                  exact hyg
                · exact hall m z h1 (by omega) hz⟩)
            · have hex : (j = L.length) ∨ ∃ y, L[j]? = some y ∧ y.1 / 8 ≠ gi := by
                by_cases hjl2 : j = L.length
                · exact .inl hjl2
                · obtain ⟨y, hy⟩ : ∃ y, L[j]? = some y := ⟨_, List.getElem?_eq_getElem (by omega)⟩
                  exact .inr ⟨y, hy, fun e => hgo ⟨y, hy, e⟩⟩
              have hij2 : i < j := by
                rcases Nat.lt_or_ge i j with h | h
                · exact h
                · exact absurd ⟨x, by rw [show j = i by omega]; exact hx, hgi⟩ hgo
              rcases hex with hjl2 | ⟨y, hy, hyg⟩
              case' inl =>
                simp [go_sem, f3, f17, f18, hlen, hjl2]
              case' inr =>
                have hjlt : j < L.length := (List.getElem?_eq_some_iff.1 hy).1
                have hjlti : (j : Int) < L.length := by omega
                have hcy := hcell j y hy
                obtain ⟨gy, hgy⟩ : ∃ gy, y.1 / 8 = gy := ⟨_, rfl⟩
                have hy64 := hlt64 y (List.mem_of_getElem? hy)
                have hqy : ((y.1 : Int)).tdiv 8 = (gy : Int) := by rw [hq, hgy]
                have hqyw : IntKind.u32.wrap (gy : Int) = gy := by simp [IntKind.wrap, IntKind.bits, IntKind.signed]; omega
                have hne : ((gy : Int) == (gi : Int)) = false := beq_false_of_ne (by omega)
                have hne2 : gy ≠ gi := by omega
                simp [go_sem, f3, f17, f18, hlen, hjlt, hjlti, hcy, hqy, hqyw, hne, hne2]
              all_goals
                have hcut := cutLf b of' L.length c i j hij2 (by omega)
                have hown : ∀ q, (Value.slice (some ⟨b, of', none⟩) L.length c).ownBlock = some q → q = b := fun q e => by simp [Value.ownBlock] at e; exact e.symm
                have hLu : Lst u' (.slice (some ⟨b, of', none⟩) L.length c) lfL 42 L := by
                  have l1 := hL.ch ca fun _ _ _ e => e
                  have l2 := Lst.ch (S := O) l1 cw5 fun q _ e => by rw [hown q e]; exact hb
                  have l3 := l2.ch c6 fun _ _ _ e => e
                  exact Lst.ch (S := fun k => G4 k ∨ k = gn) l3 cu fun q _ e => by rw [hown q e]; exact hbG
                have hLp := Lst.part hLu i j hij hjl
                have hgrp := grp_eq gi L i j hij hjl hall (by first | exact .inl hjl2 | exact .inr ⟨y, hy, by rw [hgy]; exact hne2⟩)
                obtain ⟨old, hold⟩ : ∃ q, n'[gi]? = some q := ⟨_, List.getElem?_eq_getElem (by rw [okk.len]; exact hgi8)⟩
                have oko := okk.all _ (List.mem_of_getElem? hold)
                have hge := nd_get okk hold
                have hod : n'.getD gi ptz = old := by rw [List.getD_eq_getElem?_getD, hold]; rfl
                have hgi8i : (gi : Int) < 8 := by omega
                have hgie : gi * 41 + 41 ≤ 328 := by omega
                have c0u : u'.cell? ⟨gs, 0, none⟩ = some (.iface bt bv) := cell_blk bsu 0
                have c1u : u'.cell? ⟨gs, 1, none⟩ = some (.int .u16 obj) := cell_blk bsu 1
                refine v_draws [[(0, none), (1, none), (2, none), (3, none), (4, none), (5, none), (6, none), (7, none), (8, none), (9, none), (10, some []), (11, none), (12, none), (13, none), (14, some [11, 12, 13]), (15, some [13]), (16, none)], [(0, none), (1, none), (2, none), (3, none), (4, none), (5, none), (6, none), (7, none), (8, none), (9, none), (14, some [0, 1, 2, 3, 4, 5, 6, 7, 8, 9]), (10, some []), (11, none), (12, none), (13, none), (15, some [13]), (16, none)]] (by kernel_rfl) (by kernel_rfl) ?_
                intro plan hplan
                simp only [List.mem_cons, List.not_mem_nil, or_false] at hplan
                obtain ⟨fu, hfu2⟩ : ∃ fu, fuel = fu + 1 := Nat.exists_eq_succ_of_ne_zero fun e => by
                  rw [e] at hfu
                  exact absurd (Nat.sub_eq_zero_iff_le.1 (Nat.le_zero.1 hfu)) (Nat.not_le.2 hlt)
                have hdrop : L.drop i = x :: L.drop (i + 1) := by
                  rw [List.drop_eq_getElem_cons hlt]
                  congr 1
                  exact (List.getElem?_eq_some_iff.1 hx).2
                have hgl : ((L.take j).drop i).length = j - i := by simp; omega
                have htg2 : tgrps rd nw od obj L.length s4 N4 L = if (tlow rd nw od obj s' old gi ((L.take j).drop i)).2.2 ≠ 0 then ((tlow rd nw od obj s' old gi ((L.take j).drop i)).1, n', (tlow rd nw od obj s' old gi ((L.take j).drop i)).2.2) else tgrps rd nw od obj fu (tlow rd nw od obj s' old gi ((L.take j).drop i)).1 (n'.set gi (tlow rd nw od obj s' old gi ((L.take j).drop i)).2.1) (L.drop j) := by
                  have hgrp' := hgrp
                  rw [hdrop] at hgrp'
                  rw [htg, hfu2, hdrop, tgrps]
                  simp only [hgi]
                  rw [hgrp', hod, hgl, ← hdrop, List.drop_drop, show i + (j - i) = j by omega]
                have hudr := (hH _).ch hu (Ch.refl Nw u').drew fun _ _ e => e
                have hlok : ∀ a ∈ (L.take j).drop i, LfOk a := fun a ha => hLok a (List.mem_of_mem_take (List.mem_of_mem_drop ha))
                have hvG : ∀ q, (Value.slice (some ⟨b, of' + i * 42, none⟩) (j - i) (j - i)).ownBlock = some q → ¬ Gr G4 w6 u' q ∧ q < u'.heap.size := fun q hq => by
                  simp [Value.ownBlock] at hq
                  subst hq
                  exact ⟨fun e => e.elim (fun e => hbG (.inl e)) fun e => by omega, by omega⟩
                have hdr : ∀ {α : Type} {w : World} {v : Value} {en : α → List Value} {k : Nat} {l : List α}, Lst w v en k l → Lst w.drew v en k l := fun h => h
                rcases hplan with rfl | rfl
                · simp [go_sem, f3, f12, f15, f16, f17, f18, c0u, c1u, bu, hks, hge, hgi8, hgi8i, hgie, hcut]
                  have hlgd : ((L.take j).drop i).length = j - i := hgl
                  have hmt7 := tlow_m hs s' old obj gi ((L.take j).drop i)
                  refine (tlow_any hs hH hudr old oko obj gi _ ((L.take j).drop i) (by rw [hlgd]; exact (fuel_step (b := 0) hij2 hjl hmu).1) (hdr hLp) hlok hvG (envu.ch (Ch.refl Nw u').drew fun _ _ e => e) hgu hob (by omega)).mono ?_
                  rintro _ w7 ⟨rfl, ok7, h7, c7⟩
                  obtain ⟨⟨s7, q7, e7⟩, hT7⟩ : ∃ T, tlow rd nw od obj s' old gi ((L.take j).drop i) = T := ⟨_, rfl⟩
                  rw [hT7] at ok7 h7 htg2 hmt7 ⊢
                  simp only at ok7 h7 htg2 hmt7 ⊢
                  rw [hgl] at hmt7
                  have hmu7 := (fuel_step (b := m s7) hij2 hjl hmu).2 hmt7
                  have h7s := pt_size ok7
                  have h7a := pt_all ok7
                  have c7 : Ch (Gr G4 w6 u') u' w7 := Ch.of_drew c7
                  have s7' := c7.size
                  have c8 := (Ch.refl Nw w7).alloc (.cells (pt q7) 37)
                  have b8 := hp_alloc w7 (.cells (pt q7) 37)
                  have b18 := c8.obj (c7.obj b1u fun e => e.elim (nG _ (by omega) (by omega)) fun e => by omega) id
                  have bn8 := c8.obj (c7.obj bu fun e => e.elim gnG fun e => by omega) id
                  have env8 := (hgu.env envu c7 ⟨_, h7⟩ fun _ _ e => e).ch c8 fun _ _ e => e
                  obtain ⟨cs8, T8, fr8, hh8, hx8, hz8⟩ := id env8.lh
                  have s8' := c8.size
                  simp [go_sem, hz_pt, zc_pt, hzs, h7s, h7a, blit_whole]
                  obtain ⟨gq, hgq⟩ : ∃ gq, w7.heap.size = gq := ⟨_, rfl⟩
                  rw [hgq] at b8 ⊢
                  have h8 : H s7 (w7.alloc (.cells (pt q7) 37)) (Gr G4 w6 w7) := (hH _).ch ((hH _).weak h7 (fun k hk => gr2' hsu s7' hk) (Gr.lt hl6 (by omega))) c8 fun _ _ e => e
                  have k8 : Ch (fun k => G4 k ∨ k = gn) w6 (w7.alloc (.cells (pt q7) 37)) := (cu.trans' c7 fun k hk e => .inl (e.resolve_right (by omega))).trans (c8.mono fun _ _ e => e.elim)
                  generalize w7.alloc (.cells (pt q7) 37) = w8 at *
                  have h8' : H s7 w8 (Gr G4 w6 w8) := (hH _).weak h8 (fun k hk => hk.imp id fun e => ⟨e.1, by omega⟩) (Gr.lt hl6 (by omega))
                  by_cases he7 : e7 = 0
                  · subst he7
                    rw [if_neg (by simp)] at htg2
                    simp [go_sem, f15, f17, f18, bn8, hks, hka, b8, h7s, h7a, show IntKind.i64.wrap (gi : Int) = gi by rw [IntKind.wrap_i64]; omega]
                    refine (with_any n' gi q7 w8 okk ok7).mono ?_
                    rintro _ w9 ⟨rfl, c9⟩
                    rw [if_pos ⟨by omega, hgi8i⟩]
                    have okn9 : NdOk (n'.set gi q7) := okk.set _ ok7
                    have hn9s := nd_size okn9
                    have bn9 := c9.obj bn8 id
                    have s9 := c9.size
                    simp [go_sem, f15, f18, bn9, hks, hn9s, blit_whole]
                    have c10 : Ch (one gn) w9 (w9.setRow gn (nd (n'.set gi q7))) := (Ch.refl (one gn) w9).setRow (.inl rfl) _
                    have s10 := c10.size
                    have h10 : H s7 (w9.setRow gn (nd (n'.set gi q7))) (Gr G4 w6 (w9.setRow gn (nd (n'.set gi q7)))) := (hH _).weak ((hH _).ch ((hH _).ch h8' c9 fun _ _ e => e) c10 fun k hk e => by simp only [one] at e; subst e; exact hk.elim gnG fun e => by omega) (fun k hk => hk.imp id fun e => ⟨e.1, by omega⟩) (Gr.lt hl6 (by omega))
                    exact Rnd.intro (L.length - j) (Nat.sub_lt_sub_left hlt hij2) (hJ _ _ _ ⟨j, fu, s7, n'.set gi q7, rfl, hjl, by
                      have h1 := Nat.sub_lt_sub_left hlt hij2
                      rw [hfu2] at hfu
                      exact Nat.le_of_lt_succ (Nat.lt_of_lt_of_le h1 hfu), by simp [f0], by simp [f3], by simp [f5], by simp [f8], by simp [f12], by simp [f13], by simp [f15], by simp, okn9, htg2, by rw [hp_setRow, bn9]; rfl, h10, (k8.trans (c9.mono fun _ _ e => e.elim)).trans (c10.mono fun k _ e => by simp only [one] at e; exact .inr e), hmu7⟩)
                  · rw [if_pos he7] at htg2
                    rw [htg2] at ht
                    simp only at ht
                    rw [if_pos he7] at ht
                    have he72 : (e7 == 0) = false := beq_false_of_ne he7
                    simp [go_sem, he7, he72, bne, hh8, hx8, hz8, f8, b18, hzs, hza, blit_whole]
                    exact fin2 (y := (s7, ptz, e7)) ht ptz_ok h8' k8
                · have c1 := (Ch.refl Nw u').alloc (.cells (pt ptz) 37)
                  have bq := hp_alloc u' (.cells (pt ptz) 37)
                  have sq : (u'.alloc (.cells (pt ptz) 37)).heap.size = u'.heap.size + 1 := by simp
                  have bu1 := c1.obj bu id
                  have b11 := c1.obj b1u id
                  have c0u1 := c1.cell c0u id
                  have c1u1 := c1.cell c1u id
                  have env1' := (envu.ch c1 fun _ _ e => e).ch (Ch.refl Nw _).drew fun _ _ e => e
                  have hu1 := (hH _).ch ((hH _).ch hu c1 fun _ _ e => e) (Ch.refl Nw _).drew fun _ _ e => e
                  have hLp1 := hdr (hLp.ch c1 fun _ _ _ e => e)
                  simp [go_sem, f3, f12, f15, f16, f17, f18, c0u, c1u, bu, hks, hge, hgi8, hgi8i, hgie, hcut, hz_pt, zc_pt, c0u1, c1u1, bu1]
                  have hsz1 : u'.heap.size ≤ (u'.alloc (.cells (pt ptz) 37)).drew.heap.size := c1.drew.size
                  have hmt7 := tlow_m hs s' old obj gi ((L.take j).drop i)
                  refine (tlow_any hs hH hu1 old oko obj gi _ ((L.take j).drop i) (by rw [hgl]; exact (fuel_step (b := 0) hij2 hjl hmu).1) hLp1 hlok (fun q hq => ⟨(hvG q hq).1, Nat.lt_of_lt_of_le (hvG q hq).2 hsz1⟩) env1' hgu hob (Nat.lt_of_lt_of_le hgi8 (by decide))).mono ?_
                  rintro _ w7 ⟨rfl, ok7, h7, c7⟩
                  obtain ⟨⟨s7, q7, e7⟩, hT7⟩ : ∃ T, tlow rd nw od obj s' old gi ((L.take j).drop i) = T := ⟨_, rfl⟩
                  rw [hT7] at ok7 h7 htg2 hmt7 ⊢
                  simp only at ok7 h7 htg2 hmt7 ⊢
                  rw [hgl] at hmt7
                  have hmu7 := (fuel_step (b := m s7) hij2 hjl hmu).2 hmt7
                  have h7s := pt_size ok7
                  have h7a := pt_all ok7
                  have c7 : Ch (Gr G4 w6 u') (u'.alloc (.cells (pt ptz) 37)) w7 := Ch.of_drew c7
                  have s7' := c7.size
                  have h7 : H s7 w7 (Gr (Gr G4 w6 u') (u'.alloc (.cells (pt ptz) 37)) w7) := h7
                  obtain ⟨gq, hgq⟩ : ∃ gq, u'.heap.size = gq := ⟨_, rfl⟩
                  rw [hgq] at bq sq ⊢
                  have hlu : ∀ k, Gr G4 w6 u' k → k < gq := fun k hk => by rw [← hgq]; exact (hH _).lt hu k hk
                  have bq7 := c7.obj bq fun e => Nat.lt_irrefl _ (hlu _ e)
                  have bn7 := c7.obj bu1 fun e => e.elim gnG fun e => by omega
                  have b17 := c7.obj b11 fun e => e.elim (nG _ (by omega) (by omega)) fun e => by omega
                  have env7 := hgu.env (envu.ch c1 fun _ _ e => e) c7 ⟨_, h7⟩ fun _ _ e => e
                  simp [go_sem, bq7, hzs, h7s, blit_whole]
                  have c8 : Ch (one gq) w7 (w7.setRow gq (pt q7)) := (Ch.refl (one gq) w7).setRow (.inl rfl) _
                  have b8 : (w7.setRow gq (pt q7)).heap[gq]? = some (.cells (pt q7) 37 (0, 0)) := by rw [hp_setRow, bq7]; rfl
                  have b18 := c8.obj b17 fun e => by simp only [one] at e; omega
                  have bn8 := c8.obj bn7 fun e => by simp only [one] at e; omega
                  have env8 := env7.ch c8 fun k hk e => by
                    have h9 := envu.lt k hk
                    simp only [one] at e
                    rw [e, hgq] at h9
                    exact Nat.lt_irrefl _ h9
                  obtain ⟨cs8, T8, fr8, hh8, hx8, hz8⟩ := id env8.lh
                  have s8' := c8.size
                  have h8' : H s7 (w7.setRow gq (pt q7)) (Gr G4 w6 (w7.setRow gq (pt q7))) := (hH _).weak ((hH _).ch h7 c8 fun k hk e => by
                    simp only [one] at e
                    rcases hk with hk | hk
                    · have := hlu k hk; omega
                    · omega) (fun k hk => by
                      rcases hk with (hk | hk) | hk
                      · exact .inl hk
                      · exact .inr ⟨hk.1, by omega⟩
                      · exact .inr ⟨by omega, by omega⟩) (Gr.lt hl6 (by omega))
                  have k8 : Ch (fun k => G4 k ∨ k = gn) w6 (w7.setRow gq (pt q7)) := ((cu.trans (c1.mono fun _ _ e => e.elim)).trans' c7 fun k hk e => .inl (e.resolve_right (by omega))).trans' c8 fun k hk e => by simp only [one] at e; omega
                  generalize w7.setRow gq (pt q7) = w8 at *
                  by_cases he7 : e7 = 0
                  · subst he7
                    rw [if_neg (by simp)] at htg2
                    simp [go_sem, f15, f17, f18, bn8, hks, hka, b8, h7s, h7a, show IntKind.i64.wrap (gi : Int) = gi by rw [IntKind.wrap_i64]; omega]
                    refine (with_any n' gi q7 w8 okk ok7).mono ?_
                    rintro _ w9 ⟨rfl, c9⟩
                    rw [if_pos ⟨by omega, hgi8i⟩]
                    have okn9 : NdOk (n'.set gi q7) := okk.set _ ok7
                    have hn9s := nd_size okn9
                    have bn9 := c9.obj bn8 id
                    have s9 := c9.size
                    simp [go_sem, f15, f18, bn9, hks, hn9s, blit_whole]
                    have c10 : Ch (one gn) w9 (w9.setRow gn (nd (n'.set gi q7))) := (Ch.refl (one gn) w9).setRow (.inl rfl) _
                    have s10 := c10.size
                    have h10 : H s7 (w9.setRow gn (nd (n'.set gi q7))) (Gr G4 w6 (w9.setRow gn (nd (n'.set gi q7)))) := (hH _).weak ((hH _).ch ((hH _).ch h8' c9 fun _ _ e => e) c10 fun k hk e => by simp only [one] at e; subst e; exact hk.elim gnG fun e => by omega) (fun k hk => hk.imp id fun e => ⟨e.1, by omega⟩) (Gr.lt hl6 (by omega))
                    exact Rnd.intro (L.length - j) (Nat.sub_lt_sub_left hlt hij2) (hJ _ _ _ ⟨j, fu, s7, n'.set gi q7, rfl, hjl, by
                      have h1 := Nat.sub_lt_sub_left hlt hij2
                      rw [hfu2] at hfu
                      exact Nat.le_of_lt_succ (Nat.lt_of_lt_of_le h1 hfu), by simp [f0], by simp [f3], by simp [f5], by simp [f8], by simp [f12], by simp [f13], by simp [f15], by simp, okn9, htg2, by rw [hp_setRow, bn9]; rfl, h10, (k8.trans (c9.mono fun _ _ e => e.elim)).trans (c10.mono fun k _ e => by simp only [one] at e; exact .inr e), hmu7⟩)
                  · rw [if_pos he7] at htg2
                    rw [htg2] at ht
                    simp only at ht
                    rw [if_pos he7] at ht
                    have he72 : (e7 == 0) = false := beq_false_of_ne he7
                    simp [go_sem, he7, he72, bne, hh8, hx8, hz8, f8, b18, hzs, hza, blit_whole]
                    exact fin2 (y := (s7, ptz, e7)) ht ptz_ok h8' k8
          · obtain rfl : i = L.length := by omega
            have htg0 : tgrps rd nw od obj L.length s4 N4 L = (s', n', 0) := by
              rw [htg, List.drop_length]
              cases fuel <;> rfl
            rw [htg0, if_neg (by simp)] at ht
            have c0u : u.cell? ⟨gs, 0, none⟩ = some (.iface bt bv) := cell_blk bsu 0
            have c1u : u.cell? ⟨gs, 1, none⟩ = some (.int .u16 obj) := cell_blk bsu 1
            simp [go_sem, f3, f5, f8, f12, f13, f15, f16, hlen, c0u, c1u, b0u, hps, hpa, bwu, hns, hna, bu, hks, hka]
            refine (tmade_any hs (Nat.le_trans (by omega) hmu) hH hu p ok N4 n' okn okk 2 obj 0 envu hgu (by decide) hob (by decide)).mono ?_
            rintro _ w9 ⟨rfl, ok9, h9, c9⟩
            simp only at ht
            rw [← ht] at h9 ok9 ⊢
            have s9 := c9.size
            have b19 := c9.obj b1u fun e => e.elim (nG _ (by omega) (by omega)) fun e => by omega
            simp [go_sem, f8, b19, hzs, pt_size ok9, pt_all ok9, blit_whole]
            exact fin2 rfl ok9 ((hH _).weak h9 (fun k hk => gr2' hsu s9 hk) (Gr.lt hl6 (by omega))) (cu.trans' c9 fun k hk e => e.elim .inl fun e => by omega)
        · rw [if_pos he] at ht
          have he2 : (e4 == 0) = false := beq_false_of_ne he
          simp [go_sem, he, he2, bne, hh5, hx5, hz5, f8, b15, hzs, hza, blit_whole]
          exact fin (x := (s4, ptz, e4)) ht ptz_ok h5 cw5
theorem tset_any (hs : SnkOk H m rd nw od (.iface bt bv)) (hH : ∀ s, HOk (H s)) (h : H s w O) (p : Pt) (ok : PtOk p) (obj : Nat) (v : Value) (L : List (Nat × Pt)) (hm : 16 * (4 * L.length + 3) ≤ m s) (hL : Lst w v lfL 42 L) (hLok : ∀ a ∈ L, LfOk a) (hvO : ∀ j, v.ownBlock = some j → ¬ O j ∧ j < w.heap.size) (env : TEnv w) (hg : ∀ k, glT k → ¬ O k) (hob : obj < 65536) :
    Ret Tryz.prog 30 #[.iface bt bv, .agg (pt p), .int .u16 obj, v] w fun v' w' => v' = .tuple #[.agg (pt (tset rd nw od obj s p L).2.1), .int .i64 (tset rd nw od obj s p L).2.2] ∧ PtOk (tset rd nw od obj s p L).2.1 ∧ H (tset rd nw od obj s p L).1 w' (Gr O w w') ∧ Ch O w w' :=
  tset_gl hs hH h p ok obj v L hm hL hLok hvO env (.inl hg) hob
end
end Go.Proofs.YtnefdmbdkljifaaGreatDoor
