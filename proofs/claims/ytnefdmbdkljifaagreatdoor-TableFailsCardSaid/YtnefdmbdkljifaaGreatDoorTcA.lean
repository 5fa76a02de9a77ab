/- TableFails, walked. Conditions: the variables ptr.wide and tree.hole hold what the text lays; the arguments lie in the world. -/
import Derived.Test.YtnefdmbdkljifaaGreatDoorTbZ
set_option linter.unusedSimpArgs false
set_option linter.unusedVariables false

namespace Go.Proofs.YtnefdmbdkljifaaGreatDoor
open Go.RowKit Go.Kin

theorem kget_nil (p : Pt) (n : Nat) (w : World) (ok : PtOk p) : Ret Tryz.prog 13 #[.nilIface, .agg (pt p), .int .u16 n] w fun v' w' => v' = .tuple #[.agg (ino inz), .int .i64 2] ∧ Ch Nw w w' := by
  refine v_enter Tryz.func13 Tryz.ntmps13 rfl (by simp) fun R' hR => ?_
  have hps := pt_size ok
  have hpa := pt_all ok
  have hzs := ino_size inz_ok
  have hza := ino_all inz_ok
  have ca := ((Ch.refl Nw w).alloc (.cells (pt p) 37)).alloc (.cells (ino inz) 56)
  have b1 := al2_1 w (.cells (pt p) 37) (.cells (ino inz) 56)
  have sa : ((w.alloc (.cells (pt p) 37)).alloc (.cells (ino inz) 56)).heap.size = w.heap.size + 2 := by simp
  obtain ⟨w1, hw1⟩ : ∃ w1, (w.alloc (.cells (pt p) 37)).alloc (.cells (ino inz) 56) = w1 := ⟨_, rfl⟩
  rw [hw1] at ca b1 sa
  simp [go_sem, hps, hpa, hz_ino, zc_ino, hw1, bld_ino0, b1, hzs, hza, blit_whole]
  exact hR _ _ ⟨rfl, ca.setRow (.inr (by omega)) _⟩
theorem tall_nilT (p : Pt) (w : World) (ok : PtOk p) : Ret Tryz.prog 34 #[.nilIface, .agg (pt p)] w fun v' w' => v' = .tuple #[.slice none 0 0, .slice none 0 0, .int .i64 2] ∧ Ch Nw w w' := by
  refine v_enter Tryz.func34 Tryz.ntmps34 rfl (by simp) fun R' hR => ?_
  have hps := pt_size ok
  have hpa := pt_all ok
  have ca := (Ch.refl Nw w).alloc (.cells (pt p) 37)
  simp [go_sem, hps, hpa]
  exact hR _ _ ⟨rfl, ca⟩
theorem kall_nil (p : Pt) (w : World) (ok : PtOk p) : Ret Tryz.prog 14 #[.nilIface, .agg (pt p)] w fun v' w' => v' = .tuple #[.slice none 0 0, .slice none 0 0, .int .i64 2] ∧ Ch Nw w w' := by
  refine v_enter Tryz.func14 Tryz.ntmps14 rfl (by simp) fun R' hR => ?_
  have hps := pt_size ok
  have hpa := pt_all ok
  have ca := (Ch.refl Nw w).alloc (.cells (pt p) 37)
  have b0 := hp_alloc w (.cells (pt p) 37)
  obtain ⟨w1, hw1⟩ : ∃ w1, w.alloc (.cells (pt p) 37) = w1 := ⟨_, rfl⟩
  rw [hw1] at ca b0
  simp [go_sem, hps, hpa, hw1, b0]
  refine (tall_nilT p w1 ok).mono ?_
  rintro _ w2 ⟨rfl, c2⟩
  simp [go_sem]
  exact hR _ _ ⟨rfl, ca.trans c2⟩
theorem kset_nil (p : Pt) (v : Value) (w : World) (ok : PtOk p) : Ret Tryz.prog 8 #[.nilIface, .agg (pt p), v] w fun v' w' => v' = .tuple #[.agg (pt ptz), .int .i64 2] ∧ Ch Nw w w' := by
  refine v_enter Tryz.func8 Tryz.ntmps8 rfl (by simp) fun R' hR => ?_
  have hps := pt_size ok
  have hpa := pt_all ok
  have hzs := pt_size ptz_ok
  have hza := pt_all ptz_ok
  have ca := ((Ch.refl Nw w).alloc (.cells (pt p) 37)).alloc (.cells (pt ptz) 37)
  have b1 := al2_1 w (.cells (pt p) 37) (.cells (pt ptz) 37)
  have sa : ((w.alloc (.cells (pt p) 37)).alloc (.cells (pt ptz) 37)).heap.size = w.heap.size + 2 := by simp
  obtain ⟨w1, hw1⟩ : ∃ w1, (w.alloc (.cells (pt p) 37)).alloc (.cells (pt ptz) 37) = w1 := ⟨_, rfl⟩
  rw [hw1] at ca b1 sa
  simp [go_sem, hps, hpa, hz_pt, zc_pt, hw1, bld_pt0, b1, hzs, hza, blit_whole]
  exact hR _ _ ⟨rfl, ca.setRow (.inr (by omega)) _⟩
theorem sl_u16 {w : World} {v : Value} {l : List Nat} (h : Lst w v (fun x : Nat => [.int .u16 x]) 1 l) : Sl w v l.length (u16s l) := by
  obtain ⟨A, c, rfl, h1, h2, h3⟩ := h
  refine ⟨A, c, rfl, h1, h2, fun hp => ?_⟩
  rw [u16s_length] at hp
  obtain ⟨b, off, rfl, _, hr⟩ := h3 hp
  refine ⟨_, rfl, fun j u hj => ?_⟩
  have hjl := (List.getElem?_eq_some_iff.1 hj).1
  rw [u16s_length] at hjl
  obtain ⟨x, hx⟩ : ∃ x, l[j]? = some x := ⟨_, List.getElem?_eq_getElem hjl⟩
  have e : u = .int .u16 x := by
    unfold u16s at hj
    rw [List.getElem?_map, hx] at hj
    exact (Option.some.inj hj).symm
  have := hr j x 0 _ hx rfl
  rw [Addr.add_lit, e, ← this]
  congr 2
  omega
theorem bsl_tq (a : Tq) (w : World) : (Instr.buildSlice 22 1 #[(0, .agg (tqL a).toArray)]).run Tryz.prog w = .ok (.slice (some ⟨w.heap.size, 0, none⟩) 1 1) (w.alloc (.cells (tqL a).toArray 47)) :=
  run_buildSlice1 (z := .agg #[.slice none 0 0]) Tryz.underlying22 Tryz.sizeOf47 (by kernel_rfl) rfl (by decide) (by decide) w
/-- what holds between the acts -/
structure KfI (W : World) (L : List Tq) (last : Tq) (q g i : Nat) (s : Shf) (root : Pt) (top h : List Pt) (v : List In) (K : Nat → Prop) (u : World) : Prop where
  kb : KB g W W (fun _ => False) u u K s
  kq : K q
  k1 : K (g + 1)
  k2 : K (g + 2)
  tp : TabP s.bl root top h v
  bad : s.bad = []
  room : s.room = -1
  bl : s.bl.length ≤ 73 * i
  fuel : 1000000000 - 20000 * i ≤ shM s
  br : u.heap[g + 1]? = some (.cells (pt root) 37 (0, 0))
  lh : InLst u (.slice (some ⟨g + 2, 0, none⟩) 256 256) v
  bh : ∃ cs, u.heap[g + 2]? = some (.cells cs 50 (0, 0))
  b9 : u.heap[q]? = some (.cells (tqL last).toArray 47 (0, 0))
set_option maxRecDepth 100000 in
set_option maxHeartbeats 8000000 in
theorem tableFails_any (va : Value) (L : List Tq) (vd : Value) (bad : List Nat) (rot num : Nat) (last : Tq) (W : World) (ha : Lst W va tqL 1 L) (hin : ∀ a ∈ L, a.In W) (hdL : Lst W vd (fun x : Nat => [.int .u16 x]) 1 bad) (hd16 : ∀ x ∈ bad, x < 65536) (hdk : ∀ k, vd.ownBlock = some k → k < W.heap.size) (hrot : rot < 65536) (hnum : num < 65536) (hlast : last.In W) (env : TEnv W) :
    Ret Tryz.prog 4 #[va, vd, .int .u16 rot, .int .u16 num, .agg (tqL last).toArray] W fun v' w' => v' = .bool true ∧ Ch Nw W w' := by
  refine v_enter Tryz.func4 Tryz.ntmps4 rfl (by simp) fun R' hR => ?_
  have hzs := pt_size ptz_ok
  have hza := pt_all ptz_ok
  have hts : (tqL last).toArray.size = 1 := rfl
  obtain ⟨Al, cl0, hlv, _⟩ := id hlast.sl
  have hd := sl_u16 hdL
  have hlnd := hd.len Tryz.underlying27 3
  have hlA := ha.len Tryz.underlying22 3
  have ca := (Ch.refl Nw W).alloc (.cells (tqL last).toArray 47)
  have b0 := hp_alloc W (.cells (tqL last).toArray 47)
  have sa : (W.alloc (.cells (tqL last).toArray 47)).heap.size = W.heap.size + 1 := by simp
  have wake : ∀ (u : World) {K : Value → World → Prop}, Ch Nw W u → (∀ u', Ch Nw W u' → K (.bool true) u') → Ret Tryz.prog 7 #[] u K := fun u K hc hK => (kwakes_any u (env.ch hc fun _ _ e => e)).mono fun v w' hh => by
    rw [hh.1]
    exact hK _ (hc.trans hh.2)
  simp [go_sem]
  obtain ⟨q, hq⟩ : ∃ q, W.heap.size = q := ⟨_, rfl⟩
  rw [hq] at b0 sa ⊢
  generalize W.alloc (.cells (tqL last).toArray 47) = w1 at *
  refine (tqgreat_any va L w1 (ha.ch ca fun _ _ _ e => e) fun a ha => (hin a ha).ch ca).mono ?_
  rintro _ w0 ⟨gt, rfl, hgt, hw0⟩
  obtain rfl := hw0.symm
  cases gt with
  | true =>
    simp [go_sem]
    refine wake _ ca fun u hu => ?_
    simp [go_sem]
    exact hR _ _ ⟨rfl, hu⟩
  | false =>
  obtain ⟨hL30, hoffs⟩ := hgt rfl
  have k0 : w1.cell? ⟨q, 0, none⟩ = some last.v := cell_blk b0 0
  have c2 := ca.alloc (.cells (tqL last).toArray 47)
  have b12 := hp_alloc w1 (.cells (tqL last).toArray 47)
  have b02 := ((Ch.refl Nw w1).alloc (.cells (tqL last).toArray 47)).obj b0 id
  have sa2 : (w1.alloc (.cells (tqL last).toArray 47)).heap.size = q + 2 := by simp [sa]
  have hta : #[last.v] = (tqL last).toArray := rfl
  rw [hlv] at k0 hta
  simp [↓VX_bsl1, go_sem, k0, hta]
  refine VBs_run (bsl_tq last _) ?_
  simp [go_sem]
  rw [sa] at b12 ⊢
  have in1 := hlast.ch ca
  have in2 := hlast.ch c2
  generalize w1.alloc (.cells (tqL last).toArray 47) = w2 at *
  have own1 : w2.ownsRow 0 47 1 (.slice (some ⟨q + 1, 0, none⟩) 1 1) 1 (rowsL (fun a : Tq => (tqL a).toArray) [last]) := by
    rw [rowsL_one]
    exact ⟨rfl, .inr ⟨q + 1, 1, (tqL last).toArray, rfl, Nat.zero_le _, b12, Nat.le_refl _, by decide, rfl, rfl⟩⟩
  have lst1 : Lst w2 (.slice (some ⟨q + 1, 0, none⟩) 1 1) tqL 1 [last] := Lst.of_own (en := fun a : Tq => (tqL a).toArray) own1 fun x hx => rfl
  refine (tqgreat_any _ [last] w2 lst1 fun a ha => by rw [List.mem_singleton.1 ha]; exact in2).mono ?_
  rintro _ w0 ⟨gt2, rfl, hgt2, hw0'⟩
  subst hw0'
  cases gt2 with
  | true =>
    simp [go_sem]
    refine wake _ c2 fun u hu => ?_
    simp [go_sem]
    exact hR _ _ ⟨rfl, hu⟩
  | false =>
  have hofl : last.l.length ≤ 30 := (hgt2 rfl).2 last (by simp)
  by_cases h20 : 20 < bad.length
  · have h20i : (20 : Int) < bad.length := by omega
    simp [go_sem, hlnd, h20, h20i]
    refine wake _ c2 fun u hu => ?_
    simp [go_sem]
    exact hR _ _ ⟨rfl, hu⟩
  have h20i : ¬ (20 : Int) < bad.length := by omega
  obtain ⟨W3, hW3, b3, b4, b5, sa3, c3⟩ := al3 w0 (.cells #[.slice none 0 0, .slice none 0 0, .slice none 0 0, .slice none 0 0, .int .i64 (-1), .slice none 0 0] 30) (.cells (pt ptz) 37) (.cells (rowsOf ino hv0) 50)
  have hsr := setRow_alloc (w0.alloc (.cells #[.slice none 0 0, .slice none 0 0, .slice none 0 0, .slice none 0 0, .int .i64 (-1), .slice none 0 0] 30)) (pt ptz) (pt ptz) 37 (0, 0)
  rw [show (w0.alloc (.cells #[.slice none 0 0, .slice none 0 0, .slice none 0 0, .slice none 0 0, .int .i64 (-1), .slice none 0 0] 30)).heap.size = w0.heap.size + 1 by simp] at hsr
  simp [go_sem, hlnd, h20, h20i, bld_sh, hz_pt, zc_pt, bld_pt0, hzs, hza, blit_whole, mk256, hsr]
  rw [hW3]
  obtain ⟨g, hg⟩ : ∃ g, w0.heap.size = g := ⟨_, rfl⟩
  rw [hg] at b3 b4 b5 sa3 ⊢
  have hv0l : hv0.length = 256 := List.length_replicate
  have hgq : g = q + 2 := by omega
  have cW3 := c2.trans c3
  have b93 := c3.obj b02 id
  clear hW3 hsr
  have hh0 : InLst W3 (.slice (some ⟨g + 2, 0, none⟩) 256 256) hv0 := by
    have hz : ∀ p ∈ hv0, (ino p).size = 44 := fun p hp => ino_size (hv0_ok p hp)
    have hl : (rowsL ino hv0).length = 256 * 44 := by rw [rowsL_length hv0 hz, hv0l]
    have hs : (rowsOf ino hv0).size = 256 * 44 := by rw [rows_size hz, hv0l]
    have own2 : W3.ownsRow 0 50 44 (.slice (some ⟨g + 2, 0, none⟩) 256 256) hv0.length (rowsL ino hv0) := by
      rw [hv0l]
      exact ⟨hl, .inr ⟨g + 2, 256, rowsOf ino hv0, rfl, Nat.zero_le _, b5, Nat.le_refl _, by decide, hs, List.take_of_length_le (by show (rowsL ino hv0).length ≤ _; omega)⟩⟩
    exact Lst.of_own own2 hz
  have kb0 : KB g W W (fun _ => False) W3 W3 (fun k => k = q ∨ k = g + 1 ∨ k = g + 2) sh0 := ⟨⟨one g, ShH.new W b3, fun k hk => .inl (by simp only [one] at hk; omega), fun k hk e => by simp only [one] at e; omega⟩, .inl fun k _ e => e, fun k e => e.elim, env, fun k hk => by omega, fun k hk => by omega, Ch.refl _ _, cW3⟩
  refine v_loop (fun r f u => ∃ (i : Nat) (s : Shf) (root : Pt) (top h : List Pt) (v : List In) (K : Nat → Prop), r = L.length - i ∧ i ≤ L.length ∧ f 0 = va ∧ f 1 = vd ∧ f 2 = .int .u16 rot ∧ f 3 = .int .u16 num ∧ f 9 = .pointer (some ⟨q, 0, none⟩) ∧ f 11 = .pointer (some ⟨g, 0, none⟩) ∧ f 12 = .pointer (some ⟨g + 1, 0, none⟩) ∧ f 13 = .slice (some ⟨g + 2, 0, none⟩) 256 256 ∧ f 14 = .int .i64 i
      ∧ KfI W L last q g i s root top h v K u) L.length
    ⟨0, sh0, ptz, ndz, List.replicate 64 ptz, hv0, _, rfl, by omega, by simp, by simp, by simp, by simp, by simp, by simp, by simp, by simp, by simp, ⟨kb0, .inl rfl, .inr (.inl rfl), .inr (.inr rfl), TabP.z _, rfl, rfl, by simp [sh0], by simp [shM, sh0], b4, hh0, ⟨_, b5⟩, b93⟩⟩ ?_
  rintro J hJ _ f u ⟨i, s, root, top, h, v, K, rfl, hi, f0, f1, f2, f3, f9, f11, f12, f13, f14, I⟩
  have cu := I.kb.ch
  have okv := I.tp.okv
  have h256 := I.tp.hl
  have okr := I.tp.tp.rs.okp
  have hrs := pt_size okr
  have hra := pt_all okr
  have hbl := I.bl
  have hfu := I.fuel
  by_cases hlt : i < L.length
  case neg =>
    obtain rfl : i = L.length := by omega
    have br := I.br
    have env0 := env.ch cu fun _ _ e => e
    have kb := I.kb
    have lt2 : g + 2 < u.heap.size := kb.lt _ I.k2
    have nz := ino_size inz_ok
    have nza := ino_all inz_ok
    -- no source
    simp [go_sem, f0, f12, f14, hlA, br, hrs, hra, f3]
    refine (kget_nil root num u okr).mono ?_
    rintro _ u1 ⟨rfl, c1⟩
    have s1 := c1.size
    have d1 := c1.alloc (.cells (ino inz) 56)
    have br1 := d1.obj br id
    obtain ⟨x1, hx1⟩ : ∃ x, u1.alloc (.cells (ino inz) 56) = x := ⟨_, rfl⟩
    simp [go_sem, hz_ino, zc_ino, nz, nza, blit_whole]
    rw [hx1] at d1 br1 ⊢
    simp [go_sem, f12, br1, hrs, hra]
    refine (kall_nil root x1 okr).mono ?_
    rintro _ u2 ⟨rfl, c2'⟩
    have d2 := d1.trans c2'
    have br2 := d2.obj br id
    simp [go_sem, f12, br2, hrs, hra]
    refine (kset_nil root _ u2 okr).mono ?_
    rintro _ u3 ⟨rfl, c3'⟩
    have d3 := (d2.trans c3').alloc (.cells (pt ptz) 37)
    simp [go_sem, hz_pt, zc_pt, hzs, hza, blit_whole]
    obtain ⟨x3, hx3⟩ : ∃ x, u3.alloc (.cells (pt ptz) 37) = x := ⟨_, rfl⟩
    rw [hx3] at d3 ⊢
    have br3 := d3.obj br id
    have b93 := d3.obj I.b9 id
    have lh3 := I.lh.ch' d3 fun _ _ e => e
    have kb3 := (kb.stay d3).base
    clear hx1 hx3 d1 d2 br1 br2 c1 c2' c3' s1
    -- bad addresses
    obtain ⟨vB, vD, vM, vG, vR, hbs⟩ := kb3.reads
    obtain ⟨O3, kb4, c4, hO3, hO3g⟩ := kb3.setBad hd (by omega) hdk
    have k1c : x3.cell? ⟨g, 1, none⟩ = some vD := cell_blk hbs 1
    have fz1 := frz_blk hbs 1
    obtain ⟨Ad, cdd, hvd, _⟩ := id hd
    have f1' := f1
    rw [hvd] at f1
    have nK : ∀ k, K k → ¬ O3 k := fun k hk e => (hO3 k e).2 hk
    have br4 := c4.obj br3 (nK _ I.k1)
    have b94 := c4.obj b93 (nK _ I.kq)
    have lh4 := lh3.ch' c4 fun k hk => nK k (by simp [Value.ownBlock] at hk; subst hk; exact I.k2)
    rw [hvd] at br4
    simp [go_sem, f1, f3, f11, f12, k1c, fz1, br3, hrs, hra]
    rw [← hvd] at br4 ⊢
    have kb4 := kb4.base
    obtain ⟨w4, hw4⟩ : ∃ w4, x3.setCell ⟨g, 1, none⟩ vd = w4 := ⟨_, rfl⟩
    rw [hw4] at c4 kb4 br4 b94 lh4 ⊢
    obtain ⟨Bk, hBk⟩ : ∃ Bk : Nat → Prop, (fun k => vd.ownBlock = some k ∨ glT k) = Bk := ⟨_, rfl⟩
    rw [hBk] at kb4
    obtain ⟨sB, hsB⟩ : ∃ sB : Shf, { s with bad := bad } = sB := ⟨_, rfl⟩
    have tpB : TabP sB.bl root top h v := by rw [← hsB]; exact I.tp
    have badB : sB.bad = bad := by rw [← hsB]
    have roomB : sB.room = -1 := by rw [← hsB]; exact I.room
    have blB : sB.bl = s.bl := by rw [← hsB]
    have fuB : 999000000 ≤ shM sB := by
      have : shM s = shM sB := by rw [← hsB]; rfl
      omega
    rw [hsB] at kb4
    clear hbs fz1 k1c hO3 hO3g nK
    refine (kb4.get (by omega) root okr num hnum).mono ?_
    by_cases hn : 1 ≤ num ∧ num ≤ 255
    case neg =>
      have hge : btget shRd sB root num = (sB, inz, 1) := by unfold btget; rw [if_pos hn]
      rw [hge]
      rintro _ w5 ⟨rfl, kb5⟩
      have c5 := (Ch.refl Nw w5).alloc (.cells (ino inz) 56)
      have b5 := hp_alloc w5 (.cells (ino inz) 56)
      have heqz : ∀ w, (Op.equalIn 10000 56 (.agg (ino inz)) (.agg (ino inz))).run Tryz.prog w = .ok true w := fun w => by rw [eq_ino w inz_ok inz_ok, decide_eq_true rfl]
      by_cases h1 : (num : Int) < 1
      · simp [go_sem, hz_ino, zc_ino, nz, nza, blit_whole, f3, h1, b5, bld_ino0, heqz]
        refine wake _ (kb5.ch.trans c5) fun u hu => ?_
        simp [go_sem]
        exact hR _ _ ⟨rfl, hu⟩
      · have h2 : (255 : Int) < num := by omega
        simp [go_sem, hz_ino, zc_ino, nz, nza, blit_whole, f3, h1, h2, b5, bld_ino0, heqz]
        refine wake _ (kb5.ch.trans c5) fun u hu => ?_
        simp [go_sem]
        exact hR _ _ ⟨rfl, hu⟩
    have hn1 : ¬ (num : Int) < 1 := by omega
    have hn2 : ¬ (255 : Int) < num := by omega
    have hn256 : num < 256 := by omega
    have hn256i : (num : Int) < 256 := by omega
    obtain ⟨m, x, e, hge, hml, hxe⟩ : ∃ m x e, btget shRd sB root num = (sB.more m, x, e) ∧ m.length ≤ 3 ∧ ((e = 0 ∧ x = v.getD num inz) ∨ (e = 21 ∧ x = inz ∧ bad ≠ [])) := by
      by_cases hbe : bad = []
      · obtain ⟨m, h1, h2⟩ := TabP.get (s := sB) tpB (by rw [badB, hbe]) hn.1 hn.2
        exact ⟨m, _, _, h2, h1, .inl ⟨rfl, rfl⟩⟩
      · obtain ⟨m, h1, h2⟩ := TabP.getX (Dmg.refl sB) tpB hn.1 hn.2
        rcases h2 with h2 | h2
        · exact ⟨m, _, _, h2, h1, .inl ⟨rfl, rfl⟩⟩
        · exact ⟨m, _, _, h2, h1, .inr ⟨rfl, rfl, hbe⟩⟩
    rw [hge]
    rintro _ w5 ⟨rfl, kb5⟩
    have kb5 : KB g W w4 Bk w4 w5 K (sB.more m) := kb5
    have fu5 : 998000000 ≤ shM (sB.more m) := by have := shM_more sB m; omega
    have br5 := kb5.blk I.k1 br4
    have b95 := kb5.blk I.kq b94
    have lh5 := lh4.ch' kb5.ck fun k hk e => e (by simp [Value.ownBlock] at hk; subst hk; exact I.k2)
    obtain ⟨bv, ofv, cv', csv, Tv, frv, hvv, hbv, hexv, hcsv, okxv, hvvb⟩ := in_at lh5 okv (n := num) (by omega)
    have okx : InOk x := by
      rcases hxe with ⟨_, h2⟩ | ⟨_, h2, _⟩
      · rw [h2]; exact okxv
      · rw [h2]; exact inz_ok
    have hxs := ino_size okx
    have hxa := ino_all okx
    have c6 := (Ch.refl Nw w5).alloc (.cells (ino x) 56)
    have b6 := hp_alloc w5 (.cells (ino x) 56)
    have s6 : (w5.alloc (.cells (ino x) 56)).heap.size = w5.heap.size + 1 := by simp
    simp [go_sem, hz_ino, zc_ino, hxs, hxa, nz, nza, blit_whole, f3, hn1, hn2]
    obtain ⟨g6, hg6⟩ : ∃ g6, w5.heap.size = g6 := ⟨_, rfl⟩
    rw [hg6] at b6 ⊢
    obtain ⟨w6, hw6⟩ : ∃ w6, w5.alloc (.cells (ino x) 56) = w6 := ⟨_, rfl⟩
    rw [hw6] at c6 b6 s6 ⊢
    have kb6 := (kb5.base.stay c6).base
    have br6 := c6.obj br5 id
    have b96 := c6.obj b95 id
    have lh6 := lh5.ch' c6 fun _ _ e => e
    have hbv6 := c6.obj hbv id
    clear hw6
    obtain ⟨I3, hI3⟩ : ∃ I3 : (Nat → Value) → World → Prop, I3 = fun f' W' => f' 2 = .int .u16 rot ∧ f' 3 = .int .u16 num ∧ f' 9 = .pointer (some ⟨q, 0, none⟩) ∧ f' 11 = .pointer (some ⟨g, 0, none⟩) ∧ f' 12 = .pointer (some ⟨g + 1, 0, none⟩) ∧ f' 13 = .slice (some ⟨g + 2, 0, none⟩) 256 256 ∧ f' 193 = .bool false ∧ Ch Nw w6 W' := ⟨_, rfl⟩
    refine v_join I3 [[(0, none), (1, none), (2, none), (3, none), (4, none), (5, none), (6, none), (7, none), (8, some [3]), (9, none), (10, none), (11, none), (12, none), (13, none), (14, none), (15, none), (16, none), (17, none), (18, none), (19, none), (20, none), (21, none), (22, none), (23, none), (24, none), (25, none), (26, none), (27, none), (28, none)]] (by kernel_rfl) (by kernel_rfl) ?_ ?_
    · intro plan hplan
      rw [List.mem_singleton] at hplan
      subst hplan
      have cd : Ch Nw w6 w6.drew := (Ch.refl _ _).drew
      obtain ⟨ud, hud⟩ : ∃ ud, w6.drew = ud := ⟨_, rfl⟩
      rw [hud] at cd ⊢
      have b6d := cd.obj b6 id
      have hbvd := cd.obj hbv6 id
      rcases hxe with ⟨rfl, hx⟩ | ⟨rfl, rfl, hbe⟩
      · subst hx
        obtain ⟨x, hx⟩ : ∃ x, v.getD num inz = x := ⟨_, rfl⟩
        rw [hx] at hxs hxa okx b6d hexv
        have heq : ∀ w, (Op.equalIn 10000 56 (.agg (ino x)) (.agg (ino x))).run Tryz.prog w = .ok true w := fun w => by rw [eq_ino w okx okx, decide_eq_true rfl]
        have e2 := hvv
        injection e2 with e3 _ e4
        injection e3 with e3
        injection e3 with e5 e6
        subst e4 e5 e6
        rw [Nat.zero_add] at hexv hcsv
        simp [go_sem, f13, f3, hn256, hn256i, b6d, hbvd, hexv, hcsv, hxs, hxa]
        refine (lawof_any x ud okx).mono ?_
        rintro _ w7 ⟨rfl, c7⟩
        have b67 := c7.obj b6d id
        simp [go_sem, b67, hxs, hxa, heq]
        rw [hI3]
        exact ⟨by simp [f2], by simp [f3], by simp [f9], by simp [f11], by simp [f12], by simp [f13], by simp, cd.trans c7⟩
      · have heqz : ∀ w, (Op.equalIn 10000 56 (.agg (ino inz)) (.agg (ino inz))).run Tryz.prog w = .ok true w := fun w => by rw [eq_ino w inz_ok inz_ok, decide_eq_true rfl]
        have hb0 : bad.length ≠ 0 := fun e => hbe (List.eq_nil_of_length_eq_zero e)
        have hb0i : ((bad.length : Int) == 0) = false := beq_false_of_ne (by omega)
        simp [go_sem, f1', hlnd, hb0, hb0i, hbe, b6d, nz, nza, bld_ino0, heqz]
        rw [hI3]
        exact ⟨by simp [f2], by simp [f3], by simp [f9], by simp [f11], by simp [f12], by simp [f13], by simp, cd⟩
    rw [hI3]
    clear hI3 I3 f0 f1 f1' f2 f3 f9 f11 f12 f13 f14 hJ hxe
    rintro f w7 ⟨f2, f3, f9, f11, f12, f13, f193, c7⟩
    simp [go_sem, f193]
    have kb7 := (kb6.stay c7).base
    have br7 := c7.obj br6 id
    have b97 := c7.obj b96 id
    have lh7 := lh6.ch' c7 fun _ _ e => e
    obtain ⟨sM, hsM⟩ : ∃ sM, sB.more m = sM := ⟨_, rfl⟩
    have tpM : TabP sM.bl root top h v := by rw [← hsM]; exact tpB
    have roomM : sM.room = -1 := by rw [← hsM]; exact roomB
    have blM : sM.bl = s.bl := by rw [← hsM]; exact blB
    rw [hsM] at fu5 kb7
    have hbm := btset_m (shSnk g w4 Bk) sM root last.l
    obtain ⟨⟨s2, r2, e2⟩, hset⟩ : ∃ x, btset shRd shNw shOd sM root last.l = x := ⟨_, rfl⟩
    have hfacts : (∃ y, s2.bl = s.bl ++ y) ∧ ((btOk none last.l = true ∧ (e2 = 0 ∨ e2 = 21)) ∨ (btOk none last.l = false ∧ e2 = 1)) := by
      by_cases hokl : btOk none last.l = true
      · obtain ⟨s2', r2', e2', h1, h2, h3⟩ := btset_bad tpM roomM (by rw [blM]; omega) hokl hlast.ok
        rw [hset] at h1
        have q1 := Prod.mk.inj h1
        have q2 := Prod.mk.inj q1.2
        rw [q1.1, q2.2]
        rw [blM] at h3
        exact ⟨h3, .inl ⟨hokl, h2⟩⟩
      · have h1 : btset shRd shNw shOd sM root last.l = (sM, ptz, 1) := by unfold btset; rw [if_neg hokl]
        rw [hset] at h1
        have q1 := Prod.mk.inj h1
        have q2 := Prod.mk.inj q1.2
        rw [q1.1, q2.2]
        exact ⟨⟨[], by rw [blM]; simp⟩, .inr ⟨by simpa using hokl, rfl⟩⟩
    obtain ⟨hx2, he2⟩ := hfacts
    rw [hset] at hbm
    simp only at hbm
    have hset' : ∀ {w0 w : World} {K' : Nat → Prop} {lv : Value}, KB g W w4 Bk w0 w K' sM → Lst w lv itL 45 last.l → (∀ j, lv.ownBlock = some j → K' j) →
        Ret Tryz.prog 8 #[shV g, .agg (pt root), lv] w fun v' w' => (v' = .tuple #[.agg (pt r2), .int .i64 e2] ∧ PtOk r2) ∧ KB g W w4 Bk w0 w' K' s2 := fun {w0 w K' lv} kp hl hK => by
      have := kp.set (by omega) root okr lv last.l hl hlast.ok hK (by omega)
      rw [hset] at this
      exact this
    obtain ⟨I2, hI2⟩ : ∃ I2 : (Nat → Value) → World → Prop, I2 = fun f' W' => ∃ K', f' 2 = .int .u16 rot ∧ f' 3 = .int .u16 num ∧ f' 9 = .pointer (some ⟨q, 0, none⟩) ∧ f' 11 = .pointer (some ⟨g, 0, none⟩) ∧ f' 12 = .pointer (some ⟨g + 1, 0, none⟩) ∧ f' 13 = .slice (some ⟨g + 2, 0, none⟩) 256 256 ∧ f' 28 = .int .i64 e2 ∧
        KB g W w4 Bk W' W' K' s2 ∧ (∀ k, K k → K' k) ∧ Ch (fun k => ¬ K k) w7 W' := ⟨_, rfl⟩
    have k97 : w7.cell? ⟨q, 0, none⟩ = some last.v := cell_blk b97 0
    rw [hlv] at k97
    have hal7 : Lst w7 (.slice Al last.l.length cl0) itL 45 last.l := by
      rw [← hlv]
      exact hlast.sl.ch kb7.ch fun _ _ _ e => e
    have lt1 : ∀ k, K k → k < w7.heap.size := fun k hk => kb7.lt k hk
    refine v_join I2 [[(0, none), (1, none), (2, none), (3, none), (4, none), (5, some [0, 1, 2]), (6, some []), (7, none), (8, none), (9, none), (10, some [7, 8, 9]), (11, some [9]), (12, none)],
      [(0, none), (1, none), (2, none), (3, none), (4, none), (5, some [0, 1, 2]), (10, some [0, 1, 2]), (6, some []), (7, none), (8, none), (9, none), (11, some [9]), (12, none)],
      [(0, none), (1, none), (2, none), (3, none), (4, none), (10, some [0, 1, 2, 3, 4]), (5, some [0, 1, 2]), (6, some []), (7, none), (8, none), (9, none), (11, some [9]), (12, none)]] (by kernel_rfl) (by kernel_rfl) ?_ ?_
    · intro plan hplan
      simp only [List.mem_cons, List.not_mem_nil, or_false] at hplan
      have cd : Ch Nw w7 w7.drew := (Ch.refl _ _).drew
      have kd := (kb7.stay cd).base
      have sd : w7.drew.heap.size = w7.heap.size := rfl
      obtain ⟨ud, hud'⟩ : ∃ ud, w7.drew = ud := ⟨_, rfl⟩
      rw [hud'] at cd kd sd ⊢
      clear hud'
      have ka0d := cd.cell k97 id
      have hbrd := cd.obj br7 id
      have haid := hal7.ch cd fun _ _ _ e => e
      rcases hplan with rfl | rfl | rfl
      · simp [go_sem, f9, f11, f12, ka0d, hbrd, hrs, hra]
        refine (items_any _ last.l ud haid hlast.ok (by omega)).mono ?_
        rintro v2 w2 m2
        have kp2 := kd.more m2.ch
        have hbr2 := m2.ch.obj hbrd id
        have hl2 : Lst w2 v2 itL 45 last.l := Lst.of_own m2.own fun x hx => itv_size (hlast.ok x hx)
        have sz2 := m2.ch.size
        simp [go_sem, f11, f12, hbr2, hrs, hra]
        refine (hset' kp2 hl2 fun j hj => .inr ⟨m2.fresh j hj, own_in m2.own j hj⟩).mono ?_
        rintro _ w3 ⟨⟨rfl, okr'⟩, kp3⟩
        have hrs' := pt_size okr'
        have c3 := kp3.ck
        have c4 := (Ch.refl Nw w3).alloc (.cells (pt r2) 37)
        simp [go_sem, hz_pt, zc_pt, hzs, hrs', blit_whole]
        rw [hI2]
        refine ⟨_, by simp [f2], by simp [f3], by simp [f9], by simp [f11], by simp [f12], by simp [f13], by simp, kp3.base.more c4, fun k hk => .inl (.inl hk), ?_⟩
        exact (((cd.trans m2.ch).mono fun _ _ e => e.elim).trans' (c3.mono fun k _ e => e) fun k hk e e2 => e (.inl e2)).trans (c4.mono fun _ _ e => e.elim)
      · simp [go_sem, f9, f11, f12, ka0d, hbrd, hrs, hra]
        refine (items_any _ last.l ud haid hlast.ok (by omega)).mono ?_
        rintro v2 w2 m2
        have kp2 := kd.more m2.ch
        have hbr2 := m2.ch.obj hbrd id
        have hl2 : Lst w2 v2 itL 45 last.l := Lst.of_own m2.own fun x hx => itv_size (hlast.ok x hx)
        have c4 := (Ch.refl Nw w2).alloc (.cells (pt ptz) 37)
        have b4 := hp_alloc w2 (.cells (pt ptz) 37)
        have s4 : (w2.alloc (.cells (pt ptz) 37)).heap.size = w2.heap.size + 1 := by simp
        have sz2 := m2.ch.size
        have hbr4 := c4.obj hbr2 id
        have kp4 := kp2.more c4
        simp [go_sem, f11, f12, hz_pt, zc_pt, hbr2, hbr4, hrs, hra]
        refine (hset' kp4 (hl2.ch c4 fun _ _ _ e => e) fun j hj => .inl (.inr ⟨m2.fresh j hj, own_in m2.own j hj⟩)).mono ?_
        rintro _ w3 ⟨⟨rfl, okr'⟩, kp3⟩
        have hrs' := pt_size okr'
        have b43 := kp3.blk (.inr ⟨Nat.le_refl _, by omega⟩) b4
        have c5 : Ch (Kin.one w2.heap.size) w3 (w3.setRow w2.heap.size (pt r2)) := (Ch.refl (Kin.one w2.heap.size) w3).setRow (.inl rfl) _
        simp [go_sem, b43, hzs, hrs', blit_whole]
        rw [hI2]
        refine ⟨_, by simp [f2], by simp [f3], by simp [f9], by simp [f11], by simp [f12], by simp [f13], by simp, kp3.mine c5 fun k hk => ?_, fun k hk => .inl (.inl hk), ?_⟩
        · simp only [Kin.one] at hk
          subst hk
          exact .inr ⟨Nat.le_refl _, by omega⟩
        · refine ((((cd.trans m2.ch).trans c4).mono fun _ _ e => e.elim).trans' (kp3.ck.mono fun k _ e => e) fun k hk e e2 => e (.inl (.inl e2))).trans' c5 fun k hk e e2 => ?_
          simp only [Kin.one] at e
          omega
      · have c4 := (Ch.refl Nw ud).alloc (.cells (pt ptz) 37)
        have b4 := hp_alloc ud (.cells (pt ptz) 37)
        have s4 : (ud.alloc (.cells (pt ptz) 37)).heap.size = ud.heap.size + 1 := by simp
        have hbr4 := c4.obj hbrd id
        have kp4 := kd.more c4
        have ka04 := c4.cell ka0d id
        have hai4 := haid.ch c4 fun _ _ _ e => e
        simp [go_sem, f9, f11, f12, ka0d, hbrd, hrs, hra, hz_pt, zc_pt, hbr4, ka04]
        obtain ⟨w4', hw4'⟩ : ∃ w4, ud.alloc (.cells (pt ptz) 37) = w4 := ⟨_, rfl⟩
        rw [hw4'] at c4 b4 s4 hbr4 kp4 ka04 hai4 ⊢
        clear hw4'
        refine (items_any _ last.l w4' hai4 hlast.ok (by omega)).mono ?_
        rintro v2 w2 m2
        have kp2 := kp4.more m2.ch
        have hbr2 := m2.ch.obj hbr4 id
        have b42 := m2.ch.obj b4 id
        have hl2 : Lst w2 v2 itL 45 last.l := Lst.of_own m2.own fun x hx => itv_size (hlast.ok x hx)
        simp [go_sem, f11, f12, hbr2, hrs, hra]
        refine (hset' kp2 hl2 fun j hj => .inr ⟨m2.fresh j hj, own_in m2.own j hj⟩).mono ?_
        rintro _ w3 ⟨⟨rfl, okr'⟩, kp3⟩
        have hrs' := pt_size okr'
        have b43 := kp3.blk (.inl (.inr ⟨Nat.le_refl _, by omega⟩)) b42
        have c5 : Ch (Kin.one ud.heap.size) w3 (w3.setRow ud.heap.size (pt r2)) := (Ch.refl (Kin.one ud.heap.size) w3).setRow (.inl rfl) _
        simp [go_sem, b43, hzs, hrs', blit_whole]
        rw [hI2]
        refine ⟨_, by simp [f2], by simp [f3], by simp [f9], by simp [f11], by simp [f12], by simp [f13], by simp, kp3.mine c5 fun k hk => ?_, fun k hk => .inl (.inl hk), ?_⟩
        · simp only [Kin.one] at hk
          subst hk
          exact .inl (.inr ⟨Nat.le_refl _, by omega⟩)
        · refine ((((cd.trans c4).trans m2.ch).mono fun _ _ e => e.elim).trans' (kp3.ck.mono fun k _ e => e) fun k hk e e2 => e (.inl (.inl e2))).trans' c5 fun k hk e e2 => ?_
          simp only [Kin.one] at e
          omega
    rw [hI2]
    clear hI2 I2 hset' f2 f3 f9 f11 f12 f13 f193
    rintro f w8 ⟨K8, f2, f3, f9, f11, f12, f13, f28, kb8, hK8, c8⟩
    have br8 := c8.obj br7 fun e => e I.k1
    have b98 := c8.obj b97 fun e => e I.kq
    have lh8 := lh7.ch' c8 fun k hk e => e (by simp [Value.ownBlock] at hk; subst hk; exact I.k2)
    have k98 : w8.cell? ⟨q, 0, none⟩ = some last.v := cell_blk b98 0
    rw [hlv] at k98
    have hal8 : Lst w8 (.slice Al last.l.length cl0) itL 45 last.l := by
      rw [← hlv]
      exact hlast.sl.ch kb8.ch fun _ _ _ e => e
    have fu8 : 990000000 ≤ shM s2 := by omega
    simp [go_sem, f9, f28, k98]
    refine (wrong_any _ last.l w8 hal8 hlast.ok (by omega)).mono ?_
    rintro _ w9 ⟨rfl, c9⟩
    have kb9 := (kb8.stay c9).base
    have br9 := c9.obj br8 id
    have lh9 := lh8.ch' c9 fun _ _ e => e
    obtain ⟨vB9, vD9, vM9, vG9, vR9, hbs9⟩ := kb9.reads
    have k19 : w9.cell? ⟨g, 1, none⟩ = some vD9 := cell_blk hbs9 1
    have fz9 := frz_blk hbs9 1
    have kbA := kb9.noBad
    have brA := kbA.blk (hK8 _ I.k1) br9
    have lhA := lh9.ch' kbA.ck fun k hk e => e (by simp [Value.ownBlock] at hk; subst hk; exact hK8 _ I.k2)
    rcases he2 with ⟨hokl, rfl | rfl⟩ | ⟨hokl, rfl⟩
    all_goals
      simp [go_sem, hokl, f28, f11, f12, f13, k19, fz9, br9, hrs, hra]
      obtain ⟨wA, hwA⟩ : ∃ wA, w9.setCell ⟨g, 1, none⟩ (.slice none 0 0) = wA := ⟨_, rfl⟩
      rw [hwA] at kbA brA lhA ⊢
      clear hwA k19 fz9 hbs9
      obtain ⟨sC, hsC⟩ : ∃ sC : Shf, { s2 with bad := [] } = sC := ⟨_, rfl⟩
      have tpC : TabP sC.bl root top h v := by rw [← hsC]; exact I.tp.ext hx2
      have badC : sC.bad = [] := by rw [← hsC]
      have fuC : 990000000 ≤ shM sC := by
        have : shM sC = shM s2 := by rw [← hsC]; rfl
        omega
      rw [hsC] at kbA
      have kbA := kbA.base
      have kK2 := hK8 _ I.k2
      refine (kbA.tells tpC badC (by omega) _ lhA fun k hk => by
        simp [Value.ownBlock] at hk
        subst hk
        exact kK2).mono ?_
      rintro _ wD ⟨lD, rfl, hlD, kbD⟩
      have brD := kbD.blk (hK8 _ I.k1) brA
      have lhD := lhA.ch' kbD.ck fun k hk e => e (by simp [Value.ownBlock] at hk; subst hk; exact kK2)
      obtain ⟨sD, hsD⟩ : ∃ sD, sC.more lD = sD := ⟨_, rfl⟩
      have tpD : TabP sD.bl root top h v := by rw [← hsD]; exact tpC
      have badD : sD.bad = [] := by rw [← hsD]; exact badC
      have fuD : 980000000 ≤ shM sD := by
        have := shM_more sC lD
        rw [hsD] at this
        omega
      rw [hsD] at kbD
      have kbD := kbD.base
      obtain ⟨vE, kE, lnE, h0E, hE⟩ := kbD.rowB
      obtain ⟨bln, hbln⟩ : ∃ bln, sD.bl.length = bln := ⟨_, rfl⟩
      by_cases hz : bln = 0
      · obtain ⟨A0, c0', e0⟩ := h0E (by rw [hbln]; exact hz)
        rw [e0] at kE lnE
        rw [hbln, hz] at lnE
        have lnE : ∀ w', (Builtin.len_ #[26] 3 #[.slice A0 0 c0']).run Tryz.prog w' = .ok (.int .i64 0) w' := lnE
        simp [go_sem, f11, kE, lnE]
        refine wake _ kbD.ch fun u hu => ?_
        simp [go_sem]
        exact hR _ _ ⟨rfl, hu⟩
      obtain ⟨bB, cap, cur, e0, hbB, hcur, hWB, hBg, hBK, hb30, hrow, hput⟩ := hE (by omega)
      rw [hbln] at e0 hcur hb30 hrow hput lnE
      rw [e0] at kE lnE
      obtain ⟨k, hk⟩ : ∃ k, rot % bln = k := ⟨_, rfl⟩
      have hkl : k < bln := by rw [← hk]; exact Nat.mod_lt _ (by omega)
      have hkli : (k : Int) < bln := by omega
      have htm : (rot : Int).tmod (bln : Int) = (k : Int) := by rw [← hk]; rw [Int.tmod_eq_emod_of_nonneg (by omega)]; omega
      have hbz : (bln : Int) ≠ 0 := by omega
      have hbzb : ((bln : Int) == 0) = false := beq_false_of_ne hbz
      have hwr : IntKind.i64.wrap (rot : Int) = rot := by rw [IntKind.wrap_i64]; omega
      have hwk : IntKind.i64.wrap (k : Int) = k := by rw [IntKind.wrap_i64]; omega
      obtain ⟨uk, hcuk, Auk, nuk, cuk, euk⟩ := hrow k hkl
      rw [euk] at hcuk
      simp [go_sem, f2, f11, kE, lnE, hz, hbz, hbzb, hwr, htm, hwk, hkl, hkli, hcuk]
      have cdD : Ch Nw wD wD.drew := (Ch.refl _ _).drew
      refine v_draw' [(0, none), (1, none), (2, none), (3, none), (4, none), (5, some [0, 1, 2, 3, 4]), (6, none), (7, some [])] (by kernel_rfl) (by kernel_rfl) ?_
      obtain ⟨uD, huD⟩ : ∃ uD, wD.drew = uD := ⟨_, rfl⟩
      rw [huD] at cdD ⊢
      clear huD
      have kEd := cdD.cell kE id
      have c10 := (Ch.refl Nw uD).alloc (.cells (bvs (zb 9)).toArray 5)
      have b10 := hp_alloc uD (.cells (bvs (zb 9)).toArray 5)
      have s10 : (uD.alloc (.cells (bvs (zb 9)).toArray 5)).heap.size = uD.heap.size + 1 := by simp
      have mk9 := mk_zb 9 uD (by decide)
      have z9 : ((9 : Nat) : Int) = 9 := rfl
      rw [z9] at mk9
      have kEd10 := c10.cell kEd id
      have kb10 := ((kbD.stay cdD).base).more c10
      have hbB10 := c10.obj (cdD.obj hbB id) id
      obtain ⟨gm, hgm⟩ : ∃ gm, uD.heap.size = gm := ⟨_, rfl⟩
      obtain ⟨w10, hw10⟩ : ∃ w10, uD.alloc (.cells (bvs (zb 9)).toArray 5) = w10 := ⟨_, rfl⟩
      rw [hw10] at c10 b10 s10 mk9 kEd10 kb10 hbB10
      rw [hgm] at b10 s10 mk9 kb10
      have hcur' : k < cur.size := by omega
      have fzB := frz_blk hbB10 k
      have cB10 : ∃ u0, w10.cell? ⟨bB, k, none⟩ = some u0 := ⟨_, (cell_blk hbB10 k).trans (Array.getElem?_eq_getElem hcur')⟩
      obtain ⟨u0, cB10⟩ := cB10
      simp [go_sem, f11, kEd, kEd10, mk9, hkl, hkli, cB10, fzB]
      clear hw10 mk9
      obtain ⟨vE', kE', _, _, hE'⟩ := kb10.rowB
      have eV : vE' = .slice (some ⟨bB, 0, none⟩) bln cap := by
        rw [kEd10] at kE'
        exact (Option.some.inj kE').symm
      obtain ⟨bB', cap', cur', e0', hbB', _, hWB', hBg', hBK', _, _, hput'⟩ := hE' (by omega)
      rw [eV] at e0'
      injection e0' with q1 _ _
      injection q1 with q1
      injection q1 with q1 _
      subst q1
      have h9 : Sl w10 (.slice (some ⟨gm, 0, none⟩) 9 9) (zb 9).length (bvs (zb 9)) := by
        rw [zb_length]
        exact Sl.of_blk b10 (n := 9) (c := 9) (off := 0) (xs := bvs (zb 9)) (Nat.le_refl _) (by decide) (by simp only [List.drop_zero]; rw [List.take_of_length_le (by simp [bvs_length, zb_length])])
      have kb11 := hput' k (.slice (some ⟨gm, 0, none⟩) 9 9) (zb 9) (by omega) h9 (by rw [zb_length]; decide) fun j hj => by
        simp [Value.ownBlock] at hj
        subst hj
        exact .inr ⟨Nat.le_refl _, by omega⟩
      obtain ⟨w11, hw11⟩ : ∃ w11, w10.setCell ⟨bB, k, none⟩ (.slice (some ⟨gm, 0, none⟩) 9 9) = w11 := ⟨_, rfl⟩
      have cw11 : Ch (Kin.one bB) w10 w11 := by rw [← hw11]; exact (Ch.refl (Kin.one bB) w10).setCell (p := ⟨bB, k, none⟩) (.inl rfl) _
      rw [hw11] at kb11 ⊢
      clear hw11
      have kb11 := kb11.base
      have sD10 := cdD.size
      have n2B : ∀ j, K8 j → ¬ Kin.one bB j := fun j hj e => by
        simp only [Kin.one] at e
        subst e
        exact hBK hj
      have brD' := cw11.obj (c10.obj (cdD.obj brD id) id) (n2B _ (hK8 _ I.k1))
      have lhD' : InLst w11 (.slice (some ⟨g + 2, 0, none⟩) 256 256) v := ((lhD.ch' cdD fun _ _ e => e).ch' c10 fun _ _ e => e).ch' cw11 fun k hk => n2B k (by simp [Value.ownBlock] at hk; subst hk; exact kK2)
      have kk1 : (fun k => (K8 k ∨ (gm ≤ k ∧ k < w10.heap.size)) ∧ (Value.slice (some ⟨gm, 0, none⟩) 9 9).ownBlock ≠ some k) (g + 1) := ⟨.inl (hK8 _ I.k1), fun e => by
        simp [Value.ownBlock] at e
        have := kbD.lt _ (hK8 _ I.k1)
        omega⟩
      have kk2 : (fun k => (K8 k ∨ (gm ≤ k ∧ k < w10.heap.size)) ∧ (Value.slice (some ⟨gm, 0, none⟩) 9 9).ownBlock ≠ some k) (g + 2) := ⟨.inl kK2, fun e => by
        simp [Value.ownBlock] at e
        have := kbD.lt _ kK2
        omega⟩
      obtain ⟨K11, hK11⟩ : ∃ K11 : Nat → Prop, (fun k => (K8 k ∨ (gm ≤ k ∧ k < w10.heap.size)) ∧ (Value.slice (some ⟨gm, 0, none⟩) 9 9).ownBlock ≠ some k) = K11 := ⟨_, rfl⟩
      rw [hK11] at kb11 kk1 kk2
      obtain ⟨sE, hsE⟩ : ∃ sE : Shf, { sD with bl := sD.bl.set k (zb 9) } = sE := ⟨_, rfl⟩
      have dE : Dmg sE sD.bl := by
        rw [← hsE]
        refine ⟨by simp, fun i b hb => ?_⟩
        by_cases hik : k = i
        · subst hik
          exact .inr ⟨zb 9, by simp [hbln, hkl], by rw [zb_length]; decide⟩
        · exact .inl (by simp only; rw [List.getElem?_set_ne hik]; exact hb)
      have fuE : shM sE = shM sD := by rw [← hsE]; simp [shM]
      rw [hsE] at kb11
      obtain ⟨m4, hm4, hge4⟩ := TabP.getX dE tpD hn.1 hn.2
      simp [go_sem, f3, f11, f12, brD', hrs, hra]
      refine (kb11.get (by omega) root okr num hnum).mono ?_
      obtain ⟨y, ey, hgy, hye⟩ : ∃ y ey, btget shRd sE root num = (sE.more m4, y, ey) ∧ ((ey = 0 ∧ y = v.getD num inz) ∨ (ey = 21 ∧ y = inz)) := by
        rcases hge4 with h1 | h1
        · exact ⟨_, _, h1, .inl ⟨rfl, rfl⟩⟩
        · exact ⟨_, _, h1, .inr ⟨rfl, rfl⟩⟩
      rw [hgy]
      rintro _ w12 ⟨rfl, kb12⟩
      have kb12 : KB g W w4 Bk w11 w12 K11 (sE.more m4) := kb12
      have lh12 := lhD'.ch' kb12.ck fun k hk e => e (by simp [Value.ownBlock] at hk; subst hk; exact kk2)
      obtain ⟨bv, ofv, cv', csv, Tv, frv, hvv, hbv, hexv, hcsv, okxv, hvvb⟩ := in_at lh12 okv (n := num) (by omega)
      have oky : InOk y := by
        rcases hye with ⟨_, h2⟩ | ⟨_, h2⟩
        · rw [h2]; exact okxv
        · rw [h2]; exact inz_ok
      have hys := ino_size oky
      have hya := ino_all oky
      have c13 := (Ch.refl Nw w12).alloc (.cells (ino y) 56)
      have b13 := hp_alloc w12 (.cells (ino y) 56)
      have s13 : (w12.alloc (.cells (ino y) 56)).heap.size = w12.heap.size + 1 := by simp
      simp [go_sem, hz_ino, zc_ino, hys, hya, nz, nza, blit_whole]
      obtain ⟨g13, hg13⟩ : ∃ g13, w12.heap.size = g13 := ⟨_, rfl⟩
      rw [hg13] at b13 ⊢
      obtain ⟨w13, hw13⟩ : ∃ w13, w12.alloc (.cells (ino y) 56) = w13 := ⟨_, rfl⟩
      rw [hw13] at c13 b13 s13 ⊢
      clear hw13
      have kb13 := kb12.stay c13
      have hbv13 := c13.obj hbv id
      obtain ⟨vF, kF, _, _, hF⟩ := kb13.rowB
      have hblF : (sE.more m4).bl.length = bln := by
        rw [← hsE]
        simp [hbln]
      obtain ⟨bF, capF, curF, eF, hbF, hcurF, hWF, hFg, hFK, _⟩ := hF (by omega)
      rw [hblF] at eF hcurF
      rw [eF] at kF
      have hcurF' : k < curF.size := by omega
      have fzF := frz_blk hbF k
      obtain ⟨uF, cF⟩ : ∃ uF, w13.cell? ⟨bF, k, none⟩ = some uF := ⟨_, (cell_blk hbF k).trans (Array.getElem?_eq_getElem hcurF')⟩
      simp [go_sem, f11, kF, hkl, hkli, cF, fzF]
      have c14 : Ch (Kin.one bF) w13 (w13.setCell ⟨bF, k, none⟩ (.slice Auk nuk cuk)) := (Ch.refl (Kin.one bF) w13).setCell (p := ⟨bF, k, none⟩) (.inl rfl) _
      obtain ⟨w14, hw14⟩ : ∃ w14, w13.setCell ⟨bF, k, none⟩ (.slice Auk nuk cuk) = w14 := ⟨_, rfl⟩
      rw [hw14] at c14 ⊢
      clear hw14
      have cW14 : Ch Nw W w14 := kb13.ch.trans' c14 fun k hk e => by simp only [Kin.one] at e; omega
      have nF : ∀ j, K11 j → ¬ Kin.one bF j := fun j hj e => by
        simp only [Kin.one] at e
        subst e
        exact hFK hj
      have hbvK : K11 bv := by
        simp [Value.ownBlock] at hvvb
        rw [← hvvb]
        exact kk2
      have hbv14 := c14.obj hbv13 (nF _ hbvK)
      have b14 := c14.obj b13 fun e => by
        simp only [Kin.one] at e
        subst e
        rw [hbF] at b13
        simp at b13
      have cd14 : Ch Nw w14 w14.drew := (Ch.refl _ _).drew
      refine v_draw' [(0, none), (1, none), (2, none), (3, none), (4, none), (5, none), (6, none), (7, none), (8, some [3]), (9, none), (10, none), (11, none), (12, none), (13, none), (14, none), (15, none), (16, none), (17, none), (18, none), (19, none), (20, none), (21, some []), (22, none), (23, none)] (by kernel_rfl) (by kernel_rfl) ?_
      obtain ⟨ud, hud⟩ : ∃ ud, w14.drew = ud := ⟨_, rfl⟩
      rw [hud] at cd14 ⊢
      clear hud
      have b14d := cd14.obj b14 id
      have hbvd := cd14.obj hbv14 id
      rcases hye with ⟨rfl, hx⟩ | ⟨rfl, rfl⟩
      · subst hx
        obtain ⟨x, hx⟩ : ∃ x, v.getD num inz = x := ⟨_, rfl⟩
        rw [hx] at hys hya oky b14d hexv
        have heq : ∀ w, (Op.equalIn 10000 56 (.agg (ino x)) (.agg (ino x))).run Tryz.prog w = .ok true w := fun w => by rw [eq_ino w oky oky, decide_eq_true rfl]
        have e2 := hvv
        injection e2 with e3 _ e4
        injection e3 with e3
        injection e3 with e5 e6
        subst e4 e5 e6
        rw [Nat.zero_add] at hexv hcsv
        simp [go_sem, f13, f3, hn256, hn256i, b14d, hbvd, hexv, hcsv, hys, hya]
        refine (lawof_any x ud oky).mono ?_
        rintro _ w15 ⟨rfl, c15⟩
        have b15 := c15.obj b14d id
        simp [go_sem, b15, hys, hya, heq]
        refine wake _ ((cW14.trans cd14).trans c15) fun u hu => ?_
        simp [go_sem]
        exact hR _ _ ⟨rfl, hu⟩
      · have heqz : ∀ w, (Op.equalIn 10000 56 (.agg (ino inz)) (.agg (ino inz))).run Tryz.prog w = .ok true w := fun w => by rw [eq_ino w inz_ok inz_ok, decide_eq_true rfl]
        simp [go_sem, b14d, nz, nza, bld_ino0, heqz]
        refine wake _ (cW14.trans cd14) fun u hu => ?_
        simp [go_sem]
        exact hR _ _ ⟨rfl, hu⟩
  have hii : (i : Int) < L.length := by omega
  have hwi : IntKind.i64.wrap ((i : Int) + 1) = ((i + 1 : Nat) : Int) := by rw [IntKind.wrap_i64]; omega
  obtain ⟨a, hai⟩ : ∃ a, L[i]? = some a := ⟨_, List.getElem?_eq_getElem hlt⟩
  have hain := hin a (List.mem_of_getElem? hai)
  have hla := hoffs a (List.mem_of_getElem? hai)
  obtain ⟨b, off, c, hva, ka0⟩ := tq_cells ha cu hai
  obtain ⟨Av, cv, hav, _⟩ := id hain.sl
  rw [hav] at ka0
  have f0' := f0
  rw [hva] at f0
  have hlA' : ∀ w', (Builtin.len_ #[22] 3 #[.slice (some ⟨b, off, none⟩) L.length c]).run Tryz.prog w' = .ok (.int .i64 L.length) w' := fun w' => by rw [← hva]; exact hlA w'
  have halu : Lst u (.slice Av a.l.length cv) itL 45 a.l := by
    rw [← hav]
    exact hain.sl.ch cu fun _ _ _ e => e
  simp [go_sem, f0, f14, hlA', hii, hlt, ka0]
  refine (wrong_any _ a.l u halu hain.ok (by omega)).mono ?_
  rintro _ u1 ⟨rfl, c1⟩
  have kb1 := (I.kb.stay c1).base
  have br1 := c1.obj I.br id
  have lh1 := I.lh.ch' c1 fun _ _ e => e
  obtain ⟨csh, hbh⟩ := I.bh
  have bh1 := c1.obj hbh id
  have b91 := c1.obj I.b9 id
  have ka1 := c1.cell ka0 id
  have hal1 := halu.ch c1 fun _ _ _ e => e
  by_cases hok : btOk none a.l = true
  case neg =>
    have hok' : btOk none a.l = false := by simpa using hok
    simp [go_sem, hok', f14, hwi]
    exact Rnd.intro (L.length - (i + 1)) (by omega) (hJ _ _ _ ⟨i + 1, s, root, top, h, v, K, rfl, by omega, by simp [f0, hva], by simp [f1], by simp [f2], by simp [f3], by simp [f9], by simp [f11], by simp [f12], by simp [f13], by simp, ⟨kb1, I.kq, I.k1, I.k2, I.tp, I.bad, I.room, by omega, by omega, br1, lh1, ⟨_, bh1⟩, b91⟩⟩)
  have hl := btOk_all hok
  have hrise := (btOk_rise hok).1
  have hbm := btset_m (shSnk g W fun _ => False) s root a.l
  obtain ⟨s', r', n', h', hset, tp', hb', hr', hbl', ⟨ext, hext⟩, _, _⟩ := btset_sh I.tp I.bad I.room (show s.bl.length + 80 < 30000 by omega) hok hain.ok
  rw [hset] at hbm
  simp only at hbm
  have hfs : 1000000000 - 20000 * (i + 1) ≤ shM s' := by omega
  have hset' : ∀ {w0 w : World} {K' : Nat → Prop} {lv : Value}, KB g W W (fun _ => False) w0 w K' s → Lst w lv itL 45 a.l → (∀ j, lv.ownBlock = some j → K' j) →
      Ret Tryz.prog 8 #[shV g, .agg (pt root), lv] w fun v' w' => (v' = .tuple #[.agg (pt r'), .int .i64 0] ∧ PtOk r') ∧ KB g W W (fun _ => False) w0 w' K' s' := fun {w0 w K' lv} kp hl hK => by
    have := kp.set (by omega) root okr lv a.l hl hain.ok hK (by omega)
    rw [hset] at this
    exact this
  obtain ⟨I2, hI2⟩ : ∃ I2 : (Nat → Value) → World → Prop, I2 = fun f' W' => ∃ gq K', f' 0 = .slice (some ⟨b, off, none⟩) L.length c ∧ f' 1 = vd ∧ f' 2 = .int .u16 rot ∧ f' 3 = .int .u16 num ∧ f' 9 = .pointer (some ⟨q, 0, none⟩) ∧ f' 11 = .pointer (some ⟨g, 0, none⟩) ∧ f' 12 = .pointer (some ⟨g + 1, 0, none⟩) ∧ f' 13 = .slice (some ⟨g + 2, 0, none⟩) 256 256 ∧ f' 14 = .int .i64 i ∧ f' 15 = .pointer (some ⟨gq, 0, none⟩) ∧ f' 16 = .int .i64 0 ∧
      PtOk r' ∧ W'.heap[gq]? = some (.cells (pt r') 37 (0, 0)) ∧ KB g W W (fun _ => False) W' W' K' s' ∧ (∀ k, K k → K' k) ∧ K' gq ∧ Ch (fun k => ¬ K k) u1 W' ∧ gq ≠ g + 2 ∧ gq ≠ g + 1 := ⟨_, rfl⟩
  simp [go_sem, hok]
  have lt1 : ∀ k, K k → k < u1.heap.size := fun k hk => kb1.lt k hk
  have lt12 : g + 2 < u1.heap.size := lt1 _ I.k2
  refine v_join I2 [[(0, none), (1, none), (2, none), (3, none), (4, none), (5, none), (6, none), (7, none), (8, some [0, 1, 2]), (9, some []), (10, none), (11, none), (12, none), (13, some [10, 11, 12]), (14, some [12]), (15, none)],
    [(0, none), (1, none), (2, none), (3, none), (4, none), (5, none), (6, none), (7, none), (8, some [0, 1, 2]), (13, some [0, 1, 2]), (9, some []), (10, none), (11, none), (12, none), (14, some [12]), (15, none)],
    [(0, none), (1, none), (2, none), (3, none), (4, none), (5, none), (6, none), (7, none), (13, some [0, 1, 2, 3, 4, 5, 6, 7]), (8, some [0, 1, 2]), (9, some []), (10, none), (11, none), (12, none), (14, some [12]), (15, none)]] (by kernel_rfl) (by kernel_rfl) ?_ ?_
  · intro plan hplan
    simp only [List.mem_cons, List.not_mem_nil, or_false] at hplan
    have cd : Ch Nw u1 u1.drew := (Ch.refl _ _).drew
    have kd := (kb1.stay cd).base
    have sd : u1.drew.heap.size = u1.heap.size := rfl
    obtain ⟨ud, hud'⟩ : ∃ ud, u1.drew = ud := ⟨_, rfl⟩
    rw [hud'] at cd kd sd ⊢
    clear hud'
    have ka0d := cd.cell ka1 id
    have hbrd := cd.obj br1 id
    have haid := hal1.ch cd fun _ _ _ e => e
    rcases hplan with rfl | rfl | rfl
    · simp [go_sem, f0, f11, f12, f14, hlt, ka0d, hbrd, hrs, hra]
      refine (items_any _ a.l ud haid hain.ok (by omega)).mono ?_
      rintro v2 w2 m2
      have kp2 := kd.more m2.ch
      have hbr2 := m2.ch.obj hbrd id
      have hl2 : Lst w2 v2 itL 45 a.l := Lst.of_own m2.own fun x hx => itv_size (hain.ok x hx)
      have sz2 := m2.ch.size
      simp [go_sem, f11, f12, hbr2, hrs, hra]
      refine (hset' kp2 hl2 fun j hj => .inr ⟨m2.fresh j hj, own_in m2.own j hj⟩).mono ?_
      rintro _ w3 ⟨⟨rfl, okr'⟩, kp3⟩
      have hrs' := pt_size okr'
      have c3 := kp3.ck
      have sz3 := c3.size
      have c4 := (Ch.refl Nw w3).alloc (.cells (pt r') 37)
      have b4 := hp_alloc w3 (.cells (pt r') 37)
      have s4 : (w3.alloc (.cells (pt r') 37)).heap.size = w3.heap.size + 1 := by simp
      simp [go_sem, hz_pt, zc_pt, hzs, hrs', blit_whole]
      rw [hI2]
      refine ⟨w3.heap.size, _, by simp [f0], by simp [f1], by simp [f2], by simp [f3], by simp [f9], by simp [f11], by simp [f12], by simp [f13], by simp [f14], by simp, by simp, okr', b4, kp3.base.more c4, fun k hk => .inl (.inl hk), .inr ⟨Nat.le_refl _, by omega⟩, ?_, by omega, by omega⟩
      exact (((cd.trans m2.ch).mono fun _ _ e => e.elim).trans' (c3.mono fun k _ e => e) fun k hk e e2 => e (.inl e2)).trans (c4.mono fun _ _ e => e.elim)
    · simp [go_sem, f0, f11, f12, f14, hlt, ka0d, hbrd, hrs, hra]
      refine (items_any _ a.l ud haid hain.ok (by omega)).mono ?_
      rintro v2 w2 m2
      have kp2 := kd.more m2.ch
      have hbr2 := m2.ch.obj hbrd id
      have hl2 : Lst w2 v2 itL 45 a.l := Lst.of_own m2.own fun x hx => itv_size (hain.ok x hx)
      have c4 := (Ch.refl Nw w2).alloc (.cells (pt ptz) 37)
      have b4 := hp_alloc w2 (.cells (pt ptz) 37)
      have s4 : (w2.alloc (.cells (pt ptz) 37)).heap.size = w2.heap.size + 1 := by simp
      have sz2 := m2.ch.size
      have hbr4 := c4.obj hbr2 id
      have kp4 := kp2.more c4
      simp [go_sem, f11, f12, hz_pt, zc_pt, hbr2, hbr4, hrs, hra]
      refine (hset' kp4 (hl2.ch c4 fun _ _ _ e => e) fun j hj => .inl (.inr ⟨m2.fresh j hj, own_in m2.own j hj⟩)).mono ?_
      rintro _ w3 ⟨⟨rfl, okr'⟩, kp3⟩
      have hrs' := pt_size okr'
      have b43 := kp3.blk (.inr ⟨Nat.le_refl _, by omega⟩) b4
      have c5 : Ch (Kin.one w2.heap.size) w3 (w3.setRow w2.heap.size (pt r')) := (Ch.refl (Kin.one w2.heap.size) w3).setRow (.inl rfl) _
      have b5 : (w3.setRow w2.heap.size (pt r')).heap[w2.heap.size]? = some (.cells (pt r') 37 (0, 0)) := by rw [hp_setRow, b43]; rfl
      simp [go_sem, b43, hzs, hrs', blit_whole]
      rw [hI2]
      refine ⟨w2.heap.size, _, by simp [f0], by simp [f1], by simp [f2], by simp [f3], by simp [f9], by simp [f11], by simp [f12], by simp [f13], by simp [f14], by simp, by simp, okr', b5, kp3.mine c5 fun k hk => ?_, fun k hk => .inl (.inl hk), .inr ⟨Nat.le_refl _, by omega⟩, ?_, by omega, by omega⟩
      · simp only [Kin.one] at hk
        subst hk
        exact .inr ⟨Nat.le_refl _, by omega⟩
      · refine ((((cd.trans m2.ch).trans c4).mono fun _ _ e => e.elim).trans' (kp3.ck.mono fun k _ e => e) fun k hk e e2 => e (.inl (.inl e2))).trans' c5 fun k hk e e2 => ?_
        simp only [Kin.one] at e
        omega
    · have c4 := (Ch.refl Nw ud).alloc (.cells (pt ptz) 37)
      have b4 := hp_alloc ud (.cells (pt ptz) 37)
      have s4 : (ud.alloc (.cells (pt ptz) 37)).heap.size = ud.heap.size + 1 := by simp
      have hbr4 := c4.obj hbrd id
      have kp4 := kd.more c4
      have ka04 := c4.cell ka0d id
      have hai4 := haid.ch c4 fun _ _ _ e => e
      simp [go_sem, f0, f11, f12, f14, hlt, ka0d, hbrd, hrs, hra, hz_pt, zc_pt, hbr4, ka04]
      obtain ⟨w4, hw4⟩ : ∃ w4, ud.alloc (.cells (pt ptz) 37) = w4 := ⟨_, rfl⟩
      rw [hw4] at c4 b4 s4 hbr4 kp4 ka04 hai4 ⊢
      clear hw4
      refine (items_any _ a.l w4 hai4 hain.ok (by omega)).mono ?_
      rintro v2 w2 m2
      have kp2 := kp4.more m2.ch
      have hbr2 := m2.ch.obj hbr4 id
      have b42 := m2.ch.obj b4 id
      have hl2 : Lst w2 v2 itL 45 a.l := Lst.of_own m2.own fun x hx => itv_size (hain.ok x hx)
      simp [go_sem, f11, f12, hbr2, hrs, hra]
      refine (hset' kp2 hl2 fun j hj => .inr ⟨m2.fresh j hj, own_in m2.own j hj⟩).mono ?_
      rintro _ w3 ⟨⟨rfl, okr'⟩, kp3⟩
      have hrs' := pt_size okr'
      have b43 := kp3.blk (.inl (.inr ⟨Nat.le_refl _, by omega⟩)) b42
      have c5 : Ch (Kin.one ud.heap.size) w3 (w3.setRow ud.heap.size (pt r')) := (Ch.refl (Kin.one ud.heap.size) w3).setRow (.inl rfl) _
      have b5 : (w3.setRow ud.heap.size (pt r')).heap[ud.heap.size]? = some (.cells (pt r') 37 (0, 0)) := by rw [hp_setRow, b43]; rfl
      simp [go_sem, b43, hzs, hrs', blit_whole]
      rw [hI2]
      refine ⟨ud.heap.size, _, by simp [f0], by simp [f1], by simp [f2], by simp [f3], by simp [f9], by simp [f11], by simp [f12], by simp [f13], by simp [f14], by simp, by simp, okr', b5, kp3.mine c5 fun k hk => ?_, fun k hk => .inl (.inl hk), .inl (.inr ⟨Nat.le_refl _, by omega⟩), ?_, by omega, by omega⟩
      · simp only [Kin.one] at hk
        subst hk
        exact .inl (.inr ⟨Nat.le_refl _, by omega⟩)
      · refine ((((cd.trans c4).trans m2.ch).mono fun _ _ e => e.elim).trans' (kp3.ck.mono fun k _ e => e) fun k hk e e2 => e (.inl (.inl e2))).trans' c5 fun k hk e e2 => ?_
        simp only [Kin.one] at e
        omega
  rw [hI2]
  clear hI2 I2 hset' f0' f0 f1 f2 f3 f9 f11 f12 f13 f14 ka0 ka1
  rintro f u2 ⟨gq, K2, f0, f1, f2, f3, f9, f11, f12, f13, f14, f15, f16, okr', bq, kb2, hKK, hKq, c2', ngq, ngq1⟩
  have br2 := c2'.obj br1 fun e => e I.k1
  have b92 := c2'.obj b91 fun e => e I.kq
  have bh2 := c2'.obj bh1 fun e => e I.k2
  have lh2 := lh1.ch c2' fun b _ hb e => e (by simp [Value.ownBlock] at hb; subst hb; exact I.k2)
  have hrs' := pt_size okr'
  have hra' := pt_all okr'
  have c5 : Ch (Kin.one (g + 1)) u2 (u2.setRow (g + 1) (pt r')) := (Ch.refl (Kin.one (g + 1)) u2).setRow (.inl rfl) _
  have br5 : (u2.setRow (g + 1) (pt r')).heap[g + 1]? = some (.cells (pt r') 37 (0, 0)) := by rw [hp_setRow, br2]; rfl
  have n1 : ∀ j, j ≠ g + 1 → ¬ Kin.one (g + 1) j := fun j hj e => hj e
  have b95 := c5.obj b92 (n1 _ (by omega))
  have bh5 := c5.obj bh2 (n1 _ (by omega))
  have lh5 := lh2.ch' c5 fun k hk => n1 k (by simp [Value.ownBlock] at hk; omega)
  have kb5 := kb2.mine c5 fun k hk => by simp only [Kin.one] at hk; subst hk; exact hKK _ I.k1
  simp [go_sem, f16, f15, f12, bq, br2, hrs, hrs', hra', blit_whole]
  obtain ⟨w5, hw5⟩ : ∃ w5, u2.setRow (g + 1) (pt r') = w5 := ⟨_, rfl⟩
  rw [hw5] at c5 br5 b95 bh5 lh5 kb5 ⊢
  clear hw5
  have lnx : ∀ l, (nxtI v l).length = 256 := fun l => by rw [setsG_len, h256]
  refine v_loop (fun r f' u' => ∃ (k : Nat) (cs : Array Value), r = a.l.length - k ∧ k ≤ a.l.length ∧ f' 0 = va ∧ f' 1 = vd ∧ f' 2 = .int .u16 rot ∧ f' 3 = .int .u16 num ∧ f' 9 = .pointer (some ⟨q, 0, none⟩) ∧ f' 11 = .pointer (some ⟨g, 0, none⟩) ∧ f' 12 = .pointer (some ⟨g + 1, 0, none⟩) ∧ f' 13 = .slice (some ⟨g + 2, 0, none⟩) 256 256 ∧ f' 14 = .int .i64 i ∧ f' 17 = .int .i64 (k : Nat)
      ∧ InLst u' (.slice (some ⟨g + 2, 0, none⟩) 256 256) (nxtI v (a.l.take k)) ∧ u'.heap[g + 2]? = some (.cells cs 50 (0, 0)) ∧ Ch (Kin.one (g + 2)) w5 u') a.l.length
    ⟨0, csh, rfl, by omega, by simp [f0, hva], by simp [f1], by simp [f2], by simp [f3], by simp [f9], by simp [f11], by simp [f12], by simp [f13], by simp [f14], by simp, by simpa [setsG] using lh5, bh5, Ch.refl _ _⟩ ?_
  clear f0 f1 f2 f3 f9 f11 f12 f13 f14 f15 f16
  rintro J2 hJ2 _ f u' ⟨k, cs, rfl, hk, f0, f1, f2, f3, f9, f11, f12, f13, f14, f17, lx, hbx, cu'⟩
  have cWu : Ch Nw W u' := kb5.ch.trans' cu' fun k hk e => by simp only [Kin.one] at e; omega
  have halu' : Lst u' (.slice Av a.l.length cv) itL 45 a.l := by
    rw [← hav]
    exact hain.sl.ch cWu fun _ _ _ e => e
  obtain ⟨b', off', c', hva', kau⟩ := tq_cells ha cWu hai
  rw [hva'] at f0
  rw [hav] at kau
  have hlen3 := (Lst.len halu' (P := Tryz.prog) Tryz.underlying45 3)
  by_cases hkl : k < a.l.length
  case neg =>
    obtain rfl : k = a.l.length := by omega
    rw [List.take_length] at lx
    have n2 : ∀ j, j ≠ g + 2 → ¬ Kin.one (g + 2) j := fun j hj e => hj e
    have br6 := cu'.obj br5 (n2 _ (by omega))
    have b96 := cu'.obj b95 (n2 _ (by omega))
    have kb6 := kb5.mine cu' fun k hk => by simp only [Kin.one] at hk; subst hk; exact hKK _ I.k2
    simp [go_sem, f0, f14, f17, hlt, kau, hlen3, hwi]
    exact Rnd.intro (L.length - (i + 1)) (by omega) (hJ _ _ _ ⟨i + 1, s', r', n', h', nxtI v a.l, K2, rfl, by omega, by simp [f0, hva'], by simp [f1], by simp [f2], by simp [f3], by simp [f9], by simp [f11], by simp [f12], by simp [f13], by simp, ⟨kb6, hKK _ I.kq, hKK _ I.k1, hKK _ I.k2, tp', hb', hr', by omega, hfs, br6, lx, ⟨_, hbx⟩, b96⟩⟩)
  have hki : (k : Int) < a.l.length := by omega
  have hwk : IntKind.i64.wrap ((k : Int) + 1) = ((k + 1 : Nat) : Int) := by rw [IntKind.wrap_i64]; omega
  obtain ⟨x, hx⟩ : ∃ x, a.l[k]? = some x := ⟨_, List.getElem?_eq_getElem hkl⟩
  have hxm := List.mem_of_getElem? hx
  have okx := hain.ok x hxm
  have hx255 := (hl x hxm).1
  obtain ⟨b3', off3, c3', cs3, T3, fr3, hv3, hb3', h03, h13, h23, h33⟩ := it_at halu' hain.ok hx
  have hxi2 := ino_size okx.i
  have hx256 : x.1 < 256 := by omega
  have hx256i : (x.1 : Int) < 256 := by omega
  have okn : ∀ p ∈ nxtI v (a.l.take k), InOk p := setsG_mem (P := InOk) _ _ (fun x hx => (hain.ok x (List.mem_of_mem_take hx)).i) okv
  have lx' : InLst u' (.slice (some ⟨g + 2, 0, none⟩) (nxtI v (a.l.take k)).length 256) (nxtI v (a.l.take k)) := by rw [lnx]; exact lx
  obtain ⟨hszx, lput⟩ := InLst.put lx' okn hbx (i := x.1) (by rw [lnx]; exact hx256) okx.i
  rw [Nat.zero_add] at hszx lput
  have hnx : (nxtI v (a.l.take k)).set x.1 x.2 = nxtI v (a.l.take (k + 1)) := by
    rw [List.take_add_one, hx]
    unfold nxtI setsG
    rw [List.foldl_append]
    rfl
  rw [hnx, lnx] at lput
  rw [hv3] at kau hlen3
  have kaud : u'.drew.cell? ⟨b', off' + i, none⟩ = some (.slice (some ⟨b3', off3, none⟩) a.l.length c3') := kau
  have h03d : u'.drew.cell? ⟨b3', off3 + k * 45, none⟩ = some (.int .u16 x.1) := h03
  have hb3d : u'.drew.heap[b3']? = some (.cells cs3 T3 fr3) := hb3'
  have hbxd : u'.drew.heap[g + 2]? = some (.cells cs 50 (0, 0)) := hbx
  simp [go_sem, f0, f14, f17, hlt, kau, hlen3, hki]
  refine v_draw' [(0, none), (1, none), (2, none), (3, none), (4, none), (5, none), (6, none), (7, none), (8, none), (9, none), (10, none), (11, none), (12, none), (13, none), (14, none), (15, none), (16, none), (17, none), (18, none), (19, none), (20, some [])] (by kernel_rfl) (by kernel_rfl) ?_
  simp [go_sem, f0, f13, f14, f17, hlt, hkl, kau, kaud, h03, h03d, hb3', hb3d, h13, h23, hx256, hx256i, hbx, hbxd, hxi2, hszx, hwk]
  exact Rnd.intro (a.l.length - (k + 1)) (by omega) (hJ2 _ _ _ ⟨k + 1, blit cs (x.1 * 44) (ino x.2), rfl, by omega, by simp [f0, hva'], by simp [f1], by simp [f2], by simp [f3], by simp [f9], by simp [f11], by simp [f12], by simp [f13], by simp [f14], by simp, lput.ch' (Ch.refl Nw _).drew fun _ _ e => e, by
    show (u'.setRow (g + 2) _).heap[g + 2]? = _
    rw [hp_setRow, hbx]
    rfl, (cu'.setRow (.inl rfl) _).drew⟩)
end Go.Proofs.YtnefdmbdkljifaaGreatDoor
