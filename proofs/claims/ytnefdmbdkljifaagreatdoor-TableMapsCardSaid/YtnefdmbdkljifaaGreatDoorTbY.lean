/- TableMaps answers true. Conditions: the variables ptr.wide and tree.hole hold what the text lays; the arguments lie in the world. -/
import Derived.Test.YtnefdmbdkljifaaGreatDoorTbX
set_option linter.unusedSimpArgs false
set_option linter.unusedVariables false

namespace Go.Proofs.YtnefdmbdkljifaaGreatDoor
open Go.RowKit Go.Kin

structure MqI (W : World) (va : Value) (g gr i : Nat) (s : Shf) (root : Pt) (top h : List Pt) (v : List In) (vh vro vma : Value) (roots : List Pt) (vs : List (List In)) (mv : List Value) (K : Nat → Prop) (u : World) : Prop where
  kp : Keep W u u K (MqH g gr W s root roots vro mv vma)
  tp : TabP s.bl root top h v
  bad : s.bad = []
  room : s.room = -1
  bl : s.bl.length ≤ 73 * i
  fuel : 1000000000 - 20000 * i ≤ shM s
  lh : InLst u vh v
  kh : ∀ k, vh.ownBlock = some k → K k
  ro : RoQ K mv vs u
  lmv : mv.length = vs.length
  lro : roots.length = vs.length
  lvs : vs.length ≤ i + 1
  all : ∀ (j : Nat) (r : Pt) (c : List In), roots[j]? = some r → vs[j]? = some c → ∃ t h, TabP s.bl r t h c
theorem fuelQ {i a b l : Nat} (h1 : 1000000000 - 20000 * i ≤ a + 8400) (h2 : a ≤ b + l) (h3 : l ≤ 900) : 1000000000 - 20000 * (i + 1) ≤ b := by omega
set_option maxRecDepth 100000 in
set_option maxHeartbeats 8000000 in
theorem tableMaps_any (va : Value) (L : List Tq) (W : World) (ha : Lst W va tqL 1 L) (hin : ∀ a ∈ L, a.In W) (env : TEnv W) :
    Ret Tryz.prog 3 #[va] W fun v' w' => v' = .bool true ∧ Ch Nw W w' := by
  refine v_enter Tryz.func3 Tryz.ntmps3 rfl (by simp) fun R' hR => ?_
  have hlA := ha.len Tryz.underlying22 3
  simp [go_sem]
  refine (tqgreat_any va L W ha hin).mono ?_
  rintro _ w0 ⟨gt, rfl, hgt, hw0⟩
  obtain rfl := hw0.symm
  cases gt with
  | true =>
    simp [go_sem]
    refine (kwakes_any W env).mono ?_
    rintro _ u ⟨rfl, hu⟩
    simp [go_sem]
    exact hR _ _ ⟨rfl, hu⟩
  | false =>
  obtain ⟨hL30, hoff⟩ := hgt rfl
  have hzs := pt_size ptz_ok
  have hza := pt_all ptz_ok
  obtain ⟨W5, hW5, b0, b1, b2, b3, b4, sa, ca⟩ := al5 W (.cells #[.slice none 0 0, .slice none 0 0, .slice none 0 0, .slice none 0 0, .int .i64 (-1), .slice none 0 0] 30) (.cells (pt ptz) 37) (.cells (rowsOf ino hv0) 50) (.cells (pt ptz) 37) (.cells #[.slice (some ⟨W.heap.size + 2, 0, none⟩) 256 256] 38)
  have hsr := setRow_alloc (W.alloc (.cells #[.slice none 0 0, .slice none 0 0, .slice none 0 0, .slice none 0 0, .int .i64 (-1), .slice none 0 0] 30)) (pt ptz) (pt ptz) 37 (0, 0)
  rw [show (W.alloc (.cells #[.slice none 0 0, .slice none 0 0, .slice none 0 0, .slice none 0 0, .int .i64 (-1), .slice none 0 0] 30)).heap.size = W.heap.size + 1 by simp] at hsr
  simp [↓VX_bsl1, go_sem, bld_sh, hz_pt, zc_pt, bld_pt0, hzs, hza, blit_whole, mk256, hsr]
  refine VBs_run (bsl_ptr ptz_ok _) ?_
  simp [go_sem]
  rw [hW5]
  have hv0l : hv0.length = 256 := List.length_replicate
  obtain ⟨g, hg⟩ : ∃ g, W.heap.size = g := ⟨_, rfl⟩
  rw [hg] at b0 b1 b2 b3 b4 sa ⊢
  clear hW5 hsr
  have own3 : W5.ownsRow 0 37 41 (.slice (some ⟨g + 3, 0, none⟩) 1 1) 1 (rowsL pt [ptz]) := by
    have hl : (pt ptz).toList.length = 41 := by rw [Array.length_toList, hzs]
    rw [rowsL_one]
    exact ⟨by rw [hl], .inr ⟨g + 3, 1, pt ptz, rfl, Nat.zero_le _, b3, Nat.le_refl _, by decide, by rw [hzs], List.take_of_length_le (by omega)⟩⟩
  have own4 : W5.ownsRow 0 38 1 (.slice (some ⟨g + 4, 0, none⟩) 1 1) 1 [.slice (some ⟨g + 2, 0, none⟩) 256 256] := ⟨rfl, .inr ⟨g + 4, 1, _, rfl, Nat.zero_le _, b4, Nat.le_refl _, by decide, rfl, rfl⟩⟩
  have hh0 : InLst W5 (.slice (some ⟨g + 2, 0, none⟩) 256 256) hv0 := by
    have hz : ∀ p ∈ hv0, (ino p).size = 44 := fun p hp => ino_size (hv0_ok p hp)
    have hl : (rowsL ino hv0).length = 256 * 44 := by rw [rowsL_length hv0 hz, hv0l]
    have hs : (rowsOf ino hv0).size = 256 * 44 := by rw [rows_size hz, hv0l]
    have own2 : W5.ownsRow 0 50 44 (.slice (some ⟨g + 2, 0, none⟩) 256 256) hv0.length (rowsL ino hv0) := by
      rw [hv0l]
      exact ⟨hl, .inr ⟨g + 2, 256, rowsOf ino hv0, rfl, Nat.zero_le _, b2, Nat.le_refl _, by decide, hs, List.take_of_length_le (by show (rowsL ino hv0).length ≤ _; omega)⟩⟩
    exact Lst.of_own own2 hz
  have kp0 : Keep W W5 W5 (one (g + 2)) (MqH g (g + 1) W sh0 ptz [ptz] (.slice (some ⟨g + 3, 0, none⟩) 1 1) [.slice (some ⟨g + 2, 0, none⟩) 256 256] (.slice (some ⟨g + 4, 0, none⟩) 1 1)) := by
    have e1 : ∀ j, j < 5 → ∀ k, one (g + j) k → k < W5.heap.size := fun j hj k hk => by simp only [one] at hk; omega
    have ow : ∀ {j n c : Nat}, ∀ k, (Value.slice (some ⟨g + j, 0, none⟩) n c).ownBlock = some k → one (g + j) k := fun {j n c} k hk => by
      simp [Value.ownBlock] at hk
      simp only [one]
      omega
    refine ⟨⟨fun k => k = g ∨ k = g + 1 ∨ k = g + 3 ∨ k = g + 4, ⟨one g, fun k => k = g + 1 ∨ k = g + 3 ∨ k = g + 4, ShH.new W b0, ⟨one (g + 1), fun k => k = g + 3 ∨ k = g + 4, ⟨b1, rfl, e1 1 (by decide)⟩, ⟨one (g + 3), one (g + 4), ⟨own3, ow, e1 3 (by decide)⟩, ⟨one (g + 4), fun _ => False, ⟨own4, ow, e1 4 (by decide)⟩, fun _ h => h.elim, fun _ _ h => h, fun k h => h.elim id fun h => h.elim, e1 4 (by decide)⟩, ?_, fun _ h => h, ?_⟩, ?_, fun _ h => h, ?_⟩, ?_, fun _ h => h, ?_⟩, ?_, ?_⟩, ?_, Ch.refl _ _, ca⟩
    all_goals
      intro k hk
      simp only [one] at *
      first | omega | (intro h; omega)
  refine v_loop (fun r f u => ∃ (i : Nat) (s : Shf) (root : Pt) (top h : List Pt) (v : List In) (vh vro vma : Value) (roots : List Pt) (vs : List (List In)) (mv : List Value) (K : Nat → Prop), r = L.length - i ∧ i ≤ L.length ∧ f 0 = va ∧ f 3 = .pointer (some ⟨g, 0, none⟩) ∧ f 4 = .pointer (some ⟨g + 1, 0, none⟩) ∧ f 5 = vh ∧ f 6 = vro ∧ f 7 = vma ∧ f 8 = .int .i64 i
      ∧ MqI W va g (g + 1) i s root top h v vh vro vma roots vs mv K u) L.length
    ⟨0, sh0, ptz, ndz, List.replicate 64 ptz, hv0, .slice (some ⟨g + 2, 0, none⟩) 256 256, .slice (some ⟨g + 3, 0, none⟩) 1 1, .slice (some ⟨g + 4, 0, none⟩) 1 1, [ptz], [hv0], [.slice (some ⟨g + 2, 0, none⟩) 256 256], one (g + 2), rfl, by omega, by simp, by simp, by simp, by simp, by simp, by simp, by simp, ?_⟩ ?_
  · refine ⟨kp0, TabP.z _, rfl, rfl, by simp [sh0], by simp [shM, sh0], hh0, fun k hk => ?_, ?_, rfl, rfl, Nat.le_refl _, fun j r c hr hc => ?_⟩
    · simp [Value.ownBlock] at hk
      simp only [one]
      omega
    · intro j v c hv hc
      cases j with
      | zero =>
        simp at hv hc
        subst hv hc
        refine ⟨hh0, fun k hk => ?_⟩
        simp [Value.ownBlock] at hk
        simp only [one]
        omega
      | succ j => simp at hv
    · cases j with
      | zero =>
        simp at hr hc
        subst hr hc
        exact ⟨_, _, TabP.z _⟩
      | succ j => simp at hr
  rintro J hJ _ f u ⟨i, s, root, top, h, v, vh, vro, vma, roots, vs, mv, K, rfl, hi, f0, f3, f4, f5, f6, f7, f8, I⟩
  have cu := I.kp.ch
  by_cases hlt : i < L.length
  case neg =>
    obtain rfl : i = L.length := by omega
    have hlA0 := hlA
    simp [go_sem, f0, f8, hlA]
    have hlr := I.lro
    have hlv := I.lvs
    have hroots : ∀ p ∈ roots, PtOk p := fun p hp => by
      obtain ⟨j, hj⟩ := List.mem_iff_getElem?.1 hp
      have hjl := (List.getElem?_eq_some_iff.1 hj).1
      obtain ⟨t, h', ht⟩ := I.all j p _ hj (List.getElem?_eq_getElem (by omega))
      exact ht.tp.rs.okp
    have hfu := I.fuel
    refine v_loop (fun r f u' => ∃ (j : Nat) (l : List Pt), r = roots.length - j ∧ j ≤ roots.length ∧ f 3 = .pointer (some ⟨g, 0, none⟩) ∧ f 6 = vro ∧ f 7 = vma ∧ f 17 = .int .i64 j ∧ l.length ≤ 900 * j ∧ Keep W u u' K (MqH g (g + 1) W (s.more l) root roots vro mv vma)) roots.length
      ⟨0, [], rfl, by omega, by simp [f3], by simp [f6], by simp [f7], by simp, by simp, by simpa using I.kp⟩ ?_
    clear f0 f3 f4 f5 f6 f7 f8 hJ
    rintro J hJ _ f u' ⟨j, l, rfl, hj, f3, f6, f7, f17, hll, kp⟩
    obtain ⟨ownR, ownM⟩ := MqH.rows kp
    have hlm := I.lmv
    have lR : PtLst u' vro roots := ptLst_own ownR hroots
    have lnR := lR.len Tryz.underlying28 3
    have ro := I.ro.ch kp.ck
    by_cases hjl : j < roots.length
    · have hji : (j : Int) < roots.length := by omega
      have hwj : IntKind.i64.wrap ((j : Int) + 1) = ((j + 1 : Nat) : Int) := by rw [IntKind.wrap_i64]; omega
      obtain ⟨r, hr⟩ : ∃ r, roots[j]? = some r := ⟨_, List.getElem?_eq_getElem hjl⟩
      obtain ⟨c, hc⟩ : ∃ c, vs[j]? = some c := ⟨_, List.getElem?_eq_getElem (by omega)⟩
      obtain ⟨v', hv⟩ : ∃ v, mv[j]? = some v := ⟨_, List.getElem?_eq_getElem (by omega)⟩
      obtain ⟨t, h', ht⟩ := I.all j r c hr hc
      obtain ⟨lc, kc⟩ := ro j v' c hv hc
      have okr := ht.tp.rs.okp
      have hrs := pt_size okr
      obtain ⟨br, of', cr, cs, T, fr, hvr, hbr, hex, hcs⟩ := lR.elem (by decide) (fun q hq => pt_size (hroots q hq)) hr
      obtain ⟨gm, capm, curm, hvm, hbm, _, _, hcm, hexm⟩ := own_blk ownM (by omega)
      have hcv : u'.cell? ⟨gm, j, none⟩ = some v' := by
        rw [cell_blk hbm]
        have := congrArg (fun x => x[j]?) hexm
        simp only [Array.getElem?_extract, List.getElem?_toArray, hv] at this
        rw [if_pos (by omega)] at this
        simpa using this
      obtain ⟨Av, cv, hvv, _⟩ := id lc
      have lnR' : ∀ w', (Builtin.len_ #[28] 3 #[.slice (some ⟨br, of', none⟩) roots.length cr]).run Tryz.prog w' = .ok (.int .i64 roots.length) w' := fun w' => by rw [← hvr]; exact lnR w'
      rw [hvr] at f6
      rw [hvm] at f7
      rw [hvv] at hcv lc kc
      have hjm : j < mv.length := by omega
      have hcvd : u'.drew.cell? ⟨gm, j, none⟩ = some (.slice Av c.length cv) := hcv
      have hbrd : u'.drew.heap[br]? = some (.cells cs T fr) := hbr
      simp [go_sem, f6, f17, lnR', hji]
      refine v_draw' [(0, none), (1, none), (2, none), (3, none), (4, none), (5, none), (6, none), (7, none), (8, none), (9, some []), (10, none), (11, none), (12, none), (13, none), (14, none)] (by kernel_rfl) (by kernel_rfl) ?_
      simp [go_sem, f3, f6, f7, f17, hjl, hjm, hbr, hbrd, hex, hcs, hcv, hcvd]
      have kpd := kp.stay (MqH.ok _ _ _ _ _ _ _ _ _) (Ch.refl Nw u').drew
      have hml := shM_more s l
      refine (MqH.tells kpd env (r := r) (top := t) (c := h') ht I.bad (by omega) _ (lc.ch' (Ch.refl Nw u').drew fun _ _ e => e) kc).mono ?_
      rintro _ w7 ⟨l7, rfl, hl7, kp7⟩
      rw [Shf.more_more] at kp7
      simp [go_sem, f17, hwj]
      exact Rnd.intro (roots.length - (j + 1)) (by omega) (hJ _ _ _ ⟨j + 1, l ++ l7, rfl, by omega, by simp [f3], by simp [f6, hvr], by simp [f7, hvm], by simp, by rw [List.length_append]; omega, kp7⟩)
    · obtain rfl : j = roots.length := by omega
      simp [go_sem, f6, f17, lnR]
      refine (kwakes_any u' (env.ch kp.ch fun _ _ e => e)).mono ?_
      rintro _ w9 ⟨rfl, c9⟩
      simp [go_sem]
      exact hR _ _ ⟨rfl, kp.ch.trans c9⟩
  have hii : (i : Int) < L.length := by omega
  have hwi : IntKind.i64.wrap ((i : Int) + 1) = ((i + 1 : Nat) : Int) := by rw [IntKind.wrap_i64]; omega
  obtain ⟨a, hai⟩ : ∃ a, L[i]? = some a := ⟨_, List.getElem?_eq_getElem hlt⟩
  have hain := hin a (List.mem_of_getElem? hai)
  have hla := hoff a (List.mem_of_getElem? hai)
  obtain ⟨O, hSO, _, _⟩ := MqH.get0 I.kp
  obtain ⟨vB, vD, vM, vG, vR, hb, _, _, _, _, _, _⟩ := hSO.reads
  have k2 : u.cell? ⟨g, 2, none⟩ = some vM := cell_blk hb 2
  have fz2 := frz_blk hb 2
  have kp1 := MqH.noMade I.kp
  obtain ⟨b, off, c, hva, ka0⟩ := tq_cells ha kp1.ch hai
  obtain ⟨Av, cv, hav, _⟩ := id hain.sl
  rw [hav] at ka0
  rw [hva] at f0
  have hlA' : ∀ w', (Builtin.len_ #[22] 3 #[.slice (some ⟨b, off, none⟩) L.length c]).run Tryz.prog w' = .ok (.int .i64 L.length) w' := fun w' => by rw [← hva]; exact hlA w'
  simp [go_sem, f0, f3, f8, hlA', hii, k2, fz2]
  have lh1 := I.lh.ch kp1.ck fun b _ hb e => e (I.kh b hb)
  have ro1 := I.ro.ch kp1.ck
  have kp1 := kp1.base
  generalize u.setCell ⟨g, 2, none⟩ (.slice none 0 0) = w1 at *
  clear k2 fz2 hb hSO
  obtain ⟨s1, hs1⟩ : ∃ s1 : Shf, { s with made := [] } = s1 := ⟨_, rfl⟩
  have tp1 : TabP s1.bl root top h v := by rw [← hs1]; exact I.tp
  have bad1 : s1.bad = [] := by rw [← hs1]; exact I.bad
  have room1 : s1.room = -1 := by rw [← hs1]; exact I.room
  have made1 : s1.made = [] := by rw [← hs1]
  have bl1 : s1.bl = s.bl := by rw [← hs1]
  have fu1 : shM s ≤ shM s1 := by rw [← hs1]; unfold shM; simp; omega
  have hfu := I.fuel
  have hbl := I.bl
  rw [hs1] at kp1
  have hbm := btset_m (shSnk g W fun _ => False) s1 root a.l
  obtain ⟨⟨s', r', e'⟩, hset⟩ : ∃ x, btset shRd shNw shOd s1 root a.l = x := ⟨_, rfl⟩
  rw [hset] at hbm
  simp only at hbm
  have hms' : 10000 ≤ shM s' := by omega
  have hfs : 1000000000 - 20000 * i ≤ shM s' + 8400 := by omega
  have okr := I.tp.tp.rs.okp
  have hrs := pt_size okr
  have hra := pt_all okr
  obtain ⟨hbr1, hgrK, hgrW⟩ := MqH.rootB kp1
  have hset' : ∀ {W0 w : World} {K' : Nat → Prop} {lv : Value}, Keep W W0 w K' (MqH g (g + 1) W s1 root roots vro mv vma) → Lst w lv itL 45 a.l → (∀ j, lv.ownBlock = some j → K' j) →
      Ret Tryz.prog 8 #[shV g, .agg (pt root), lv] w fun v' w' => (v' = .tuple #[.agg (pt r'), .int .i64 e'] ∧ PtOk r') ∧ Keep W W0 w' K' (MqH g (g + 1) W s' root roots vro mv vma) := fun {W0 w K' lv} kp hl hK => by
    have := MqH.set kp env (by omega) root okr lv a.l hl hain.ok hK (by omega)
    rw [hset] at this
    exact this
  obtain ⟨I2, hI2⟩ : ∃ I2 : (Nat → Value) → World → Prop, I2 = fun f' W' => ∃ gq K', f' 0 = .slice (some ⟨b, off, none⟩) L.length c ∧ f' 3 = .pointer (some ⟨g, 0, none⟩) ∧ f' 4 = .pointer (some ⟨g + 1, 0, none⟩) ∧ f' 5 = vh ∧ f' 6 = vro ∧ f' 7 = vma ∧ f' 8 = .int .i64 i ∧ f' 9 = .pointer (some ⟨gq, 0, none⟩) ∧ f' 10 = .int .i64 e' ∧
      PtOk r' ∧ W'.heap[gq]? = some (.cells (pt r') 37 (0, 0)) ∧ Keep W W' W' K' (MqH g (g + 1) W s' root roots vro mv vma) ∧ (∀ k, K k → K' k) ∧ K' gq ∧ Ch (fun k => ¬ K k) w1 W' := ⟨_, rfl⟩
  refine v_join I2 [[(0, none), (1, none), (2, none), (3, none), (4, none), (5, none), (6, none), (7, none), (8, some [0, 1, 2]), (9, some []), (10, none), (11, none), (12, none), (13, some [10, 11, 12]), (14, some [12]), (15, none)],
    [(0, none), (1, none), (2, none), (3, none), (4, none), (5, none), (6, none), (7, none), (8, some [0, 1, 2]), (13, some [0, 1, 2]), (9, some []), (10, none), (11, none), (12, none), (14, some [12]), (15, none)],
    [(0, none), (1, none), (2, none), (3, none), (4, none), (5, none), (6, none), (7, none), (13, some [0, 1, 2, 3, 4, 5, 6, 7]), (8, some [0, 1, 2]), (9, some []), (10, none), (11, none), (12, none), (14, some [12]), (15, none)]] (by kernel_rfl) (by kernel_rfl) ?_ ?_
  · intro plan hplan
    simp only [List.mem_cons, List.not_mem_nil, or_false] at hplan
    have cd : Ch Nw w1 w1.drew := (Ch.refl _ _).drew
    have kd := (kp1.stay (MqH.ok _ _ _ _ _ _ _ _ _) cd).base
    obtain ⟨ud, hud'⟩ : ∃ ud, w1.drew = ud := ⟨_, rfl⟩
    rw [hud'] at cd kd ⊢
    clear hud'
    have ka0d := cd.cell ka0 id
    have hbrd := cd.obj hbr1 id
    have haid : Lst ud (.slice Av a.l.length cv) itL 45 a.l := by
      rw [← hav]
      exact hain.sl.ch (kp1.ch.trans cd) fun _ _ _ e => e
    have szd := kd.ch.size
    -- what was made since is kept
    have mk : ∀ {w w' : World} {K' : Nat → Prop}, Keep W w w K' (MqH g (g + 1) W s1 root roots vro mv vma) → Ch Nw w w' → Keep W w' w' (fun k => K' k ∨ (w.heap.size ≤ k ∧ k < w'.heap.size)) (MqH g (g + 1) W s1 root roots vro mv vma) := fun kp hc => kp.more (MqH.ok _ _ _ _ _ _ _ _ _) hc
    rcases hplan with rfl | rfl | rfl
    · simp [go_sem, f0, f3, f4, f8, hlt, ka0d, hbrd, hrs, hra]
      refine (items_any _ a.l ud haid hain.ok (by omega)).mono ?_
      rintro v2 w2 m2
      have kp2 := mk kd m2.ch
      have hbr2 := m2.ch.obj hbrd id
      have hl2 : Lst w2 v2 itL 45 a.l := Lst.of_own m2.own fun x hx => itv_size (hain.ok x hx)
      simp [go_sem, f3, f4, hbr2, hrs, hra]
      refine (hset' kp2 hl2 fun j hj => .inr ⟨m2.fresh j hj, own_in m2.own j hj⟩).mono ?_
      rintro _ w3 ⟨⟨rfl, okr'⟩, kp3⟩
      have hrs' := pt_size okr'
      have c3 := kp3.ck
      have c4 := (Ch.refl Nw w3).alloc (.cells (pt r') 37)
      have b4 := hp_alloc w3 (.cells (pt r') 37)
      have s4 : (w3.alloc (.cells (pt r') 37)).heap.size = w3.heap.size + 1 := by simp
      simp [go_sem, hz_pt, zc_pt, hzs, hrs', blit_whole]
      rw [hI2]
      refine ⟨w3.heap.size, _, by simp [f0], by simp [f3], by simp [f4], by simp [f5], by simp [f6], by simp [f7], by simp [f8], by simp, by simp, okr', b4, kp3.base.more (MqH.ok _ _ _ _ _ _ _ _ _) c4, fun k hk => .inl (.inl hk), .inr ⟨Nat.le_refl _, by omega⟩, ?_⟩
      exact (((cd.trans m2.ch).mono fun _ _ e => e.elim).trans' (c3.mono fun k _ e => e) fun k hk e e2 => e (.inl e2)).trans (c4.mono fun _ _ e => e.elim)
    · simp [go_sem, f0, f3, f4, f8, hlt, ka0d, hbrd, hrs, hra]
      refine (items_any _ a.l ud haid hain.ok (by omega)).mono ?_
      rintro v2 w2 m2
      have kp2 := mk kd m2.ch
      have hbr2 := m2.ch.obj hbrd id
      have hl2 : Lst w2 v2 itL 45 a.l := Lst.of_own m2.own fun x hx => itv_size (hain.ok x hx)
      have c4 := (Ch.refl Nw w2).alloc (.cells (pt ptz) 37)
      have b4 := hp_alloc w2 (.cells (pt ptz) 37)
      have s4 : (w2.alloc (.cells (pt ptz) 37)).heap.size = w2.heap.size + 1 := by simp
      have sz2 := m2.ch.size
      have hbr4 := c4.obj hbr2 id
      have kp4 := mk kp2 c4
      simp [go_sem, f3, f4, hz_pt, zc_pt, hbr2, hbr4, hrs, hra]
      refine (hset' kp4 (hl2.ch c4 fun _ _ _ e => e) fun j hj => .inl (.inr ⟨m2.fresh j hj, own_in m2.own j hj⟩)).mono ?_
      rintro _ w3 ⟨⟨rfl, okr'⟩, kp3⟩
      have hrs' := pt_size okr'
      have b43 := kp3.blk (.inr ⟨Nat.le_refl _, by omega⟩) b4
      have c5 : Ch (Kin.one w2.heap.size) w3 (w3.setRow w2.heap.size (pt r')) := (Ch.refl (Kin.one w2.heap.size) w3).setRow (.inl rfl) _
      have b5 : (w3.setRow w2.heap.size (pt r')).heap[w2.heap.size]? = some (.cells (pt r') 37 (0, 0)) := by rw [hp_setRow, b43]; rfl
      simp [go_sem, b43, hzs, hrs', blit_whole]
      rw [hI2]
      refine ⟨w2.heap.size, _, by simp [f0], by simp [f3], by simp [f4], by simp [f5], by simp [f6], by simp [f7], by simp [f8], by simp, by simp, okr', b5, kp3.mine (MqH.ok _ _ _ _ _ _ _ _ _) c5 fun k hk => ?_, fun k hk => .inl (.inl hk), .inr ⟨Nat.le_refl _, by omega⟩, ?_⟩
      · simp only [Kin.one] at hk
        subst hk
        exact ⟨.inr ⟨Nat.le_refl _, by omega⟩, by omega⟩
      · refine ((((cd.trans m2.ch).trans c4).mono fun _ _ e => e.elim).trans' (kp3.ck.mono fun k _ e => e) fun k hk e e2 => e (.inl (.inl e2))).trans' c5 fun k hk e e2 => ?_
        simp only [Kin.one] at e
        have := cd.size
        omega
    · have c4 := (Ch.refl Nw ud).alloc (.cells (pt ptz) 37)
      have b4 := hp_alloc ud (.cells (pt ptz) 37)
      have s4 : (ud.alloc (.cells (pt ptz) 37)).heap.size = ud.heap.size + 1 := by simp
      have hbr4 := c4.obj hbrd id
      have kp4 := mk kd c4
      have ka04 := c4.cell ka0d id
      have hai4 := haid.ch c4 fun _ _ _ e => e
      simp [go_sem, f0, f3, f4, f8, hlt, ka0d, hbrd, hrs, hra, hz_pt, zc_pt, hbr4, ka04]
      obtain ⟨w4, hw4⟩ : ∃ w4, ud.alloc (.cells (pt ptz) 37) = w4 := ⟨_, rfl⟩
      rw [hw4] at c4 b4 s4 hbr4 kp4 ka04 hai4 ⊢
      clear hw4
      refine (items_any _ a.l w4 hai4 hain.ok (by omega)).mono ?_
      rintro v2 w2 m2
      have kp2 := mk kp4 m2.ch
      have hbr2 := m2.ch.obj hbr4 id
      have b42 := m2.ch.obj b4 id
      have hl2 : Lst w2 v2 itL 45 a.l := Lst.of_own m2.own fun x hx => itv_size (hain.ok x hx)
      simp [go_sem, f3, f4, hbr2, hrs, hra]
      refine (hset' kp2 hl2 fun j hj => .inr ⟨m2.fresh j hj, own_in m2.own j hj⟩).mono ?_
      rintro _ w3 ⟨⟨rfl, okr'⟩, kp3⟩
      have hrs' := pt_size okr'
      have b43 := kp3.blk (.inl (.inr ⟨Nat.le_refl _, by omega⟩)) b42
      have c5 : Ch (Kin.one ud.heap.size) w3 (w3.setRow ud.heap.size (pt r')) := (Ch.refl (Kin.one ud.heap.size) w3).setRow (.inl rfl) _
      have b5 : (w3.setRow ud.heap.size (pt r')).heap[ud.heap.size]? = some (.cells (pt r') 37 (0, 0)) := by rw [hp_setRow, b43]; rfl
      simp [go_sem, b43, hzs, hrs', blit_whole]
      rw [hI2]
      refine ⟨ud.heap.size, _, by simp [f0], by simp [f3], by simp [f4], by simp [f5], by simp [f6], by simp [f7], by simp [f8], by simp, by simp, okr', b5, kp3.mine (MqH.ok _ _ _ _ _ _ _ _ _) c5 fun k hk => ?_, fun k hk => .inl (.inl hk), .inl (.inr ⟨Nat.le_refl _, by omega⟩), ?_⟩
      · simp only [Kin.one] at hk
        subst hk
        exact ⟨.inl (.inr ⟨Nat.le_refl _, by omega⟩), by omega⟩
      · refine ((((cd.trans c4).trans m2.ch).mono fun _ _ e => e.elim).trans' (kp3.ck.mono fun k _ e => e) fun k hk e e2 => e (.inl (.inl e2))).trans' c5 fun k hk e e2 => ?_
        simp only [Kin.one] at e
        have := cd.size
        omega
  rw [hI2]
  clear hI2 I2 hset' f0 f3 f4 f5 f6 f7 f8 hbr1 ka0
  rintro f u2 ⟨gq, K2, f0, f3, f4, f5, f6, f7, f8, f9, f10, okr', bq, kp2, hKK, hKq, c2⟩
  obtain ⟨b', off', c', hva', ka0⟩ := tq_cells ha kp2.ch hai
  rw [hva] at hva'
  injection hva' with e1 _ e3
  injection e1 with e1
  injection e1 with e1 e2
  subst e1 e2 e3
  rw [hav] at ka0
  have lh2 := lh1.ch c2 fun b _ hb e => e (I.kh b hb)
  have ro2 := (ro1.ch c2).mono hKK
  have hal2 : Lst u2 (.slice Av a.l.length cv) itL 45 a.l := by
    rw [← hav]
    exact hain.sl.ch kp2.ch fun _ _ _ e => e
  simp [go_sem, f0, f8, hlt, ka0]
  refine (wrong_any _ a.l u2 hal2 hain.ok (by omega)).mono ?_
  rintro _ u3 ⟨rfl, c3⟩
  have kp3 := (kp2.stay (MqH.ok _ _ _ _ _ _ _ _ _) c3).base
  have lh3 := lh2.ch' c3 fun _ _ e => e
  have ro3 := ro2.ch (c3.mono fun _ _ e => e.elim)
  have bq3 := c3.obj bq id
  have ka3 := c3.cell ka0 id
  obtain ⟨O3, hSO3, _, _⟩ := MqH.get0 kp3
  obtain ⟨vB3, vD3, vM3, vG3, vR3, hb3, hM3, _, _, _, _, _⟩ := hSO3.reads
  have k23 : u3.cell? ⟨g, 2, none⟩ = some vM3 := cell_blk hb3 2
  have lnM3 := hM3.len Tryz.underlying28 3
  obtain ⟨AM, cM, hvM, _⟩ := id hM3
  rw [hvM] at k23 lnM3
  by_cases hok : btOk none a.l = true
  case neg =>
    have hok' : btOk none a.l = false := by simpa using hok
    have hs2 : btset shRd shNw shOd s1 root a.l = (s1, ptz, 1) := by unfold btset; rw [if_neg hok]
    rw [hs2] at hset
    have q1 := Prod.mk.inj hset
    have q2 := Prod.mk.inj q1.2
    obtain ⟨rfl, rfl, rfl⟩ : s1 = s' ∧ ptz = r' ∧ 1 = e' := ⟨q1.1, q2.1, q2.2⟩
    rw [made1] at k23 lnM3
    have lnM3 : ∀ w', (Builtin.len_ #[28] 3 #[.slice AM 0 cM]).run Tryz.prog w' = .ok (.int .i64 0) w' := lnM3
    have k23 : u3.cell? ⟨g, 2, none⟩ = some (.slice AM 0 cM) := k23
    simp [go_sem, hok', f10, f3, k23, lnM3, f8, hwi]
    exact Rnd.intro (L.length - (i + 1)) (by omega) (hJ _ _ _ ⟨i + 1, s1, root, top, h, v, vh, vro, vma, roots, vs, mv, K2, rfl, by omega, by simp [f0, hva], by simp [f3], by simp [f4], by simp [f5], by simp [f6], by simp [f7], by simp, ⟨kp3, tp1, bad1, room1, by rw [bl1]; omega, by omega, lh3, fun k hk => hKK k (I.kh k hk), ro3, I.lmv, I.lro, by have := I.lvs; omega, fun j r c hr hc => by rw [bl1]; exact I.all j r c hr hc⟩⟩)
  have hl := btOk_all hok
  have hrise := (btOk_rise hok).1
  obtain ⟨s2', r2', n', h', hset2, tp', hb', hr', hbl', ⟨ext, hext⟩, hsame, hdiff⟩ := btset_sh tp1 bad1 room1 (show s1.bl.length + 80 < 30000 by rw [bl1]; omega) hok hain.ok
  rw [hset] at hset2
  have q1 := Prod.mk.inj hset2
  have q2 := Prod.mk.inj q1.2
  obtain ⟨rfl, rfl, rfl⟩ : s' = s2' ∧ r' = r2' ∧ e' = 0 := ⟨q1.1, q2.1, q2.2⟩
  clear q1 q2 hset2
  have okv := I.tp.okv
  have h256 := I.tp.hl
  obtain ⟨Ah, ch, hvh, hch1, hch2, hrh⟩ := id lh3
  obtain ⟨bh, oh, hAh, hbh, hchr⟩ := hrh (by omega)
  subst hAh
  rw [h256] at hvh
  have okvz : ∀ p ∈ v, (ino p).size = 44 := fun p hp => ino_size (okv p hp)
  have hrl : (rowsL ino v).length = 256 * 44 := by rw [rowsL_length v okvz, h256]
  have src : ∀ j u, (rowsL ino v)[j]? = some u → u3.cell? ((⟨bh, oh, none⟩ : Addr).add j) = some u := fun j u hj => by
    have hjl := (List.getElem?_eq_some_iff.1 hj).1
    rw [hrl] at hjl
    obtain ⟨p, hp⟩ : ∃ p, v[j / 44]? = some p := ⟨_, List.getElem?_eq_getElem (by omega)⟩
    obtain ⟨x, hx⟩ : ∃ x, (ino p).toList[j % 44]? = some x := ⟨_, List.getElem?_eq_getElem (by rw [Array.length_toList, okvz p (List.mem_of_getElem? hp)]; omega)⟩
    have e := rowsL_at okvz hp hx
    rw [show j / 44 * 44 + j % 44 = j by omega, hj] at e
    have e2 := hchr (j / 44) p (j % 44) x hp hx
    rw [Addr.add_lit, e, ← e2]
    congr 2
    omega
  have kh3 : ∀ k, vh.ownBlock = some k → K2 k := fun k hk => hKK k (I.kh k hk)
  subst hvh
  simp [go_sem, hok, f5]
  refine VB_appS tyRin (World.ownsRow_nil _ _ _ _) (n := 0) (m := 256) (news := rowsL ino v) hrl src (fun x hx => by
    obtain ⟨p, _, hp⟩ := List.mem_flatMap.1 hx
    exact ones_mem (ino_ones p) x hp) (by decide) (by decide) fun v4 w4 own4 cl4 ff4 => ?_
  have cl4 : Ch Nw u3 w4 := cl4.mono fun k _ e => by simp [Value.ownBlock] at e
  have own4 : w4.ownsRow 0 50 44 v4 v.length (rowsL ino v) := by rw [h256]; simpa using own4
  have f4' : Fresh u3.heap.size v4 := ff4.elim (fun e k hk => by rw [e] at hk; simp [Value.ownBlock] at hk) id
  have lx4 : InLst w4 v4 v := Lst.of_own own4 okvz
  obtain ⟨gn, cap4, cur4, hv4, hcap, hcapm, hb4, _, _⟩ := ownS_blk own4 (by omega)
  rw [h256] at hv4 hcap
  rw [hv4] at lx4
  have gn3 : u3.heap.size ≤ gn ∧ gn < w4.heap.size := ⟨f4' gn (by rw [hv4]; rfl), lt_of_block hb4⟩
  subst hv4
  have kp4 := kp3.more (MqH.ok _ _ _ _ _ _ _ _ _) cl4
  have ka4 := cl4.cell ka3 id
  have hal4 : Lst w4 (.slice Av a.l.length cv) itL 45 a.l := (hal2.ch c3 fun _ _ _ e => e).ch cl4 fun _ _ _ e => e
  have lh4 := lh3.ch' cl4 fun _ _ e => e
  have lnx : ∀ l, (nxtI v l).length = 256 := fun l => by rw [setsG_len, h256]
  simp [go_sem]
  obtain ⟨I3, hI3⟩ : ∃ I3 : (Nat → Value) → World → Prop, I3 = fun f' u' => ∃ cs, f' 0 = .slice (some ⟨b, off, none⟩) L.length c ∧ f' 3 = .pointer (some ⟨g, 0, none⟩) ∧ f' 4 = .pointer (some ⟨g + 1, 0, none⟩) ∧ f' 5 = .slice (some ⟨bh, oh, none⟩) 256 ch ∧ f' 6 = vro ∧ f' 7 = vma ∧ f' 8 = .int .i64 i ∧ f' 9 = .pointer (some ⟨gq, 0, none⟩) ∧ f' 10 = .int .i64 0 ∧ f' 11 = .slice (some ⟨gn, 0, none⟩) 256 cap4 ∧
      f' 12 = .bool (decide (nxtI v a.l = v)) ∧ InLst u' (.slice (some ⟨gn, 0, none⟩) 256 cap4) (nxtI v a.l) ∧ u'.heap[gn]? = some (.cells cs 50 (0, 0)) ∧ Ch (Kin.one gn) w4 u' := ⟨_, rfl⟩
  refine v_meetL I3 ?_ ?_
  · refine v_loop (fun r f' u' => ∃ (k : Nat) (cs : Array Value), r = a.l.length - k ∧ k ≤ a.l.length ∧ f' 0 = .slice (some ⟨b, off, none⟩) L.length c ∧ f' 3 = .pointer (some ⟨g, 0, none⟩) ∧ f' 4 = .pointer (some ⟨g + 1, 0, none⟩) ∧ f' 5 = .slice (some ⟨bh, oh, none⟩) 256 ch ∧ f' 6 = vro ∧ f' 7 = vma ∧ f' 8 = .int .i64 i ∧ f' 9 = .pointer (some ⟨gq, 0, none⟩) ∧ f' 10 = .int .i64 0 ∧ f' 11 = .slice (some ⟨gn, 0, none⟩) 256 cap4 ∧
      f' 12 = .bool ((a.l.take k).all fun x => decide (v.getD x.1 inz = x.2)) ∧ f' 13 = .int .i64 (k : Nat) ∧ InLst u' (.slice (some ⟨gn, 0, none⟩) 256 cap4) (nxtI v (a.l.take k)) ∧ u'.heap[gn]? = some (.cells cs 50 (0, 0)) ∧ Ch (Kin.one gn) w4 u') a.l.length
      ⟨0, cur4, rfl, by omega, by simp [f0], by simp [f3], by simp [f4], by simp [f5], by simp [f6], by simp [f7], by simp [f8], by simp [f9], by simp [f10], by simp, by simp, by simp, by simpa [setsG] using lx4, hb4, Ch.refl _ _⟩ ?_
    clear f0 f3 f4 f5 f6 f7 f8 f9 f10
    rintro J2 hJ2 _ f u' ⟨k, cs, rfl, hk, f0, f3, f4, f5, f6, f7, f8, f9, f10, f11, f12, f13, lx, hbx, cu'⟩
    have cWu : Ch Nw W u' := kp4.ch.trans' cu' fun k hk e => by
      simp only [Kin.one] at e
      have := kp3.ch.size
      omega
    have halu : Lst u' (.slice Av a.l.length cv) itL 45 a.l := by
      rw [← hav]
      exact hain.sl.ch cWu fun _ _ _ e => e
    obtain ⟨b', off', c', hva', kau⟩ := tq_cells ha cWu hai
    rw [hva] at hva'
    injection hva' with e1 _ e3
    injection e1 with e1
    injection e1 with e1 e2
    subst e1 e2 e3
    rw [hav] at kau
    have lhu : InLst u' (.slice (some ⟨bh, oh, none⟩) 256 ch) v := lh4.ch cu' fun k hk1 hk2 e => by
      simp only [Kin.one] at e
      simp [Value.ownBlock] at hk2
      omega
    by_cases hkl : k < a.l.length
    · have hki : (k : Int) < a.l.length := by omega
      have hwk : IntKind.i64.wrap ((k : Int) + 1) = ((k + 1 : Nat) : Int) := by rw [IntKind.wrap_i64]; omega
      obtain ⟨x, hx⟩ : ∃ x, a.l[k]? = some x := ⟨_, List.getElem?_eq_getElem hkl⟩
      have hxm := List.mem_of_getElem? hx
      have okx := hain.ok x hxm
      have hx255 := (hl x hxm).1
      obtain ⟨b3, off3, c3', cs3, T3, fr3, hv3, hb3', h03, h13, h23, h33⟩ := it_at halu hain.ok hx
      have hcs3 : off3 + k * 45 + 45 ≤ cs3.size := by omega
      have hxs := itv_size okx
      have hxa := itv_all okx
      have hxi := itv_i okx
      have hxi2 := ino_size okx.i
      have hzt := itv_size itz_ok
      have hon := itv_ones (x := x)
      have c5 := (Ch.refl Nw u').alloc (.cells (itv x) 52)
      have b5 := hp_alloc u' (.cells (itv x) 52)
      have s5 : (u'.alloc (.cells (itv x) 52)).heap.size = u'.heap.size + 1 := by simp
      obtain ⟨w5, hw5⟩ : ∃ w5, u'.alloc (.cells (itv x) 52) = w5 := ⟨_, rfl⟩
      rw [hw5] at c5 b5 s5
      have hlen3 := (Lst.len halu (P := Tryz.prog) Tryz.underlying45 3)
      rw [hv3] at kau hlen3
      simp [go_sem, f0, f8, f13, hlt, kau, hki, hlen3, hkl, hb3', h33, hcs3, hz_lit, zc_lit, hon, hzt, hxs, hxa, blit_whole, hw5]
      clear hw5
      obtain ⟨gx, hgx⟩ : ∃ gx, u'.heap.size = gx := ⟨_, rfl⟩
      rw [hgx] at b5 s5 ⊢
      have hgnu : gn < gx := by have := lt_of_block hbx; omega
      refine v_draw' [(0, none), (1, none), (2, none), (3, none), (4, none), (5, none), (6, none), (7, none), (8, none), (9, none), (10, none), (11, none)] (by kernel_rfl) (by kernel_rfl) ?_
      have c5d := c5.drew
      obtain ⟨w6, hw6⟩ : ∃ w6, w5.drew = w6 := ⟨_, rfl⟩
      have b6 : w6.heap[gx]? = some (.cells (itv x) 52 (0, 0)) := by rw [← hw6]; exact b5
      have s6 : w6.heap.size = gx + 1 := by rw [← hw6]; exact s5
      rw [hw6] at c5d ⊢
      clear hw6
      have cx0 := (cell_blk b6 0).trans (itv_0 (x := x))
      obtain ⟨bv, ofv, cv', csv, Tv, frv, hvv, hbv, hexv, hcsv, okxv, hvvb⟩ := in_at (lhu.ch c5d fun _ _ _ e => e) okv (n := x.1) (by omega)
      obtain ⟨y, hy⟩ : ∃ y, v.getD x.1 inz = y := ⟨_, rfl⟩
      rw [hy] at hexv okxv
      have hys := ino_size okxv
      rw [hvv] at f5
      have hvc : v.length = 256 := h256
      rw [hvc] at f5 hvv
      have hx256 : x.1 < 256 := by omega
      have hx256i : (x.1 : Int) < 256 := by omega
      have hbx6 := c5d.obj hbx id
      have lx6 : InLst w6 (.slice (some ⟨gn, 0, none⟩) 256 cap4) (nxtI v (a.l.take k)) := lx.ch c5d fun _ _ _ e => e
      have okn : ∀ p ∈ nxtI v (a.l.take k), InOk p := setsG_mem (P := InOk) _ _ (fun x hx => (hain.ok x (List.mem_of_mem_take hx)).i) okv
      have lx6' : InLst w6 (.slice (some ⟨gn, 0, none⟩) (nxtI v (a.l.take k)).length cap4) (nxtI v (a.l.take k)) := by rw [lnx]; exact lx6
      obtain ⟨hsz, lput⟩ := InLst.put lx6' okn hbx6 (i := x.1) (by rw [lnx]; exact hx256) okx.i
      rw [Nat.zero_add] at hsz lput
      have hnx : (nxtI v (a.l.take k)).set x.1 x.2 = nxtI v (a.l.take (k + 1)) := by
        rw [List.take_add_one, hx]
        unfold nxtI setsG
        rw [List.foldl_append]
        rfl
      rw [hnx, lnx] at lput
      have htk : ((a.l.take (k + 1)).all fun x => decide (v.getD x.1 inz = x.2)) = (((a.l.take k).all fun x => decide (v.getD x.1 inz = x.2)) && decide (y = x.2)) := by
        rw [List.take_add_one, hx, Option.toList_some, List.all_append, ← hy]
        simp
      have hb6g : (w6.setRow gn (blit cs (x.1 * 44) (ino x.2))).heap[gn]? = some (.cells (blit cs (x.1 * 44) (ino x.2)) 50 (0, 0)) := by rw [hp_setRow, hbx6]; rfl
      have cS : Ch (Kin.one gn) u' (w6.setRow gn (blit cs (x.1 * 44) (ino x.2))) := (c5d.mono (S' := Kin.one gn) fun _ _ e => e.elim).setRow (.inl rfl) _
      have heq : ∀ w, (Op.equalIn 10000 50 (.agg (ino y)) (.agg (ino x.2))).run Tryz.prog w = .ok (decide (y = x.2)) w := fun w => eq_rino w okxv okx.i
      cases hq : ((a.l.take k).all fun x => decide (v.getD x.1 inz = x.2)) with
      | true =>
        rw [hq] at f12 htk
        simp [go_sem, f12, f5, f11, cx0, hx256, hx256i, hbv, hexv, hcsv, hys, b6, hxs, hxi, heq, hbx6, hxi2, hsz, f13, hwk]
        refine Rnd.intro (a.l.length - (k + 1)) (by omega) (hJ2 _ _ _ ⟨k + 1, _, rfl, by omega, by simp [f0], by simp [f3], by simp [f4], by simp [f5, hvv], by simp [f6], by simp [f7], by simp [f8], by simp [f9], by simp [f10], by simp [f11], ?_, by simp, lput, hb6g, cu'.trans cS⟩)
        rw [htk]
        simp
      | false =>
        rw [hq] at f12 htk
        simp [go_sem, f12, f5, f11, cx0, hx256, hx256i, b6, hxs, hxi, hbx6, hxi2, hsz, f13, hwk]
        refine Rnd.intro (a.l.length - (k + 1)) (by omega) (hJ2 _ _ _ ⟨k + 1, _, rfl, by omega, by simp [f0], by simp [f3], by simp [f4], by simp [f5, hvv], by simp [f6], by simp [f7], by simp [f8], by simp [f9], by simp [f10], by simp [f11], ?_, by simp, lput, hb6g, cu'.trans cS⟩)
        rw [htk]
        simp
    · obtain rfl : k = a.l.length := by omega
      rw [List.take_length] at lx f12
      have hsm : (a.l.all fun x => decide (v.getD x.1 inz = x.2)) = decide (nxtI v a.l = v) := by
        rw [Bool.eq_iff_iff, List.all_eq_true, decide_eq_true_eq, setsG_same inz hrise fun x hx => by have := (hl x hx).1; omega]
        exact ⟨fun h x hx => of_decide_eq_true (h x hx), fun h x hx => decide_eq_true (h x hx)⟩
      rw [hsm] at f12
      simp [go_sem, f0, f8, f13, hlt, kau]
      rw [hI3]
      exact ⟨cs, by simp [f0], by simp [f3], by simp [f4], by simp [f5], by simp [f6], by simp [f7], by simp [f8], by simp [f9], by simp [f10], by simp [f11], by simp [f12], lx, hbx, cu'⟩
  rw [hI3]
  clear hI3 I3 f0 f3 f4 f5 f6 f7 f8 f9 f10
  rintro f u' ⟨cs, f0, f3, f4, f5, f6, f7, f8, f9, f10, f11, f12, lx, hbx, cu'⟩
  have szW := kp3.ch.size
  obtain ⟨K4, hK4⟩ : ∃ K4 : Nat → Prop, (fun k => K2 k ∨ (u3.heap.size ≤ k ∧ k < w4.heap.size)) = K4 := ⟨_, rfl⟩
  rw [hK4] at kp4
  have k24 : ∀ k, K2 k → K4 k := fun k hk => by rw [← hK4]; exact .inl hk
  have kgn : K4 gn := by rw [← hK4]; exact .inr gn3
  have n2gn : ∀ k, K2 k → k ≠ gn := fun k hk e => by
    have := kp3.lt k hk
    omega
  have kp5 := kp4.mine (MqH.ok _ _ _ _ _ _ _ _ _) cu' fun k hk => by
    simp only [Kin.one] at hk
    subst hk
    exact ⟨kgn, by omega⟩
  have bq5 := cu'.obj (cl4.obj bq3 id) fun e => n2gn gq hKq e
  have ro5 := (((ro3.ch (cl4.mono fun _ _ e => e.elim)).ch (cu'.mono fun k _ e e2 => n2gn k e2 e))).mono k24
  obtain ⟨hbr5, _, _⟩ := MqH.rootB kp5
  obtain ⟨O5, hSO5, _, _⟩ := MqH.get0 kp5
  obtain ⟨vB5, vD5, vM5, vG5, vR5, hb5, hM5, _, _, _, _, _⟩ := hSO5.reads
  have k25 : u'.cell? ⟨g, 2, none⟩ = some vM5 := cell_blk hb5 2
  have lnM5 := hM5.len Tryz.underlying28 3
  obtain ⟨AM5, cM5, hvM5, _⟩ := id hM5
  rw [hvM5] at k25 lnM5
  have cWu : Ch Nw W u' := kp5.ch
  obtain ⟨b', off', c', hva', kau⟩ := tq_cells ha cWu hai
  rw [hva] at hva'
  injection hva' with e1 _ e3
  injection e1 with e1
  injection e1 with e1 e2
  subst e1 e2 e3
  rw [hav] at kau
  have halu : Lst u' (.slice Av a.l.length cv) itL 45 a.l := by
    rw [← hav]
    exact hain.sl.ch cWu fun _ _ _ e => e
  have hlenu := (Lst.len halu (P := Tryz.prog) Tryz.underlying45 3)
  have hrs' := pt_size okr'
  have hra' := pt_all okr'
  have heqr : ∀ w, (Op.equalIn 10000 37 (.agg (pt r')) (.agg (pt root))).run Tryz.prog w = .ok (decide (r' = root)) w := fun w => eq_pt w okr' okr
  have okn : ∀ p ∈ nxtI v a.l, InOk p := setsG_mem (P := InOk) _ _ (fun x hx => (hain.ok x hx).i) okv
  have hn256 : (nxtI v a.l).length = 256 := lnx _
  obtain ⟨V, hV⟩ : ∃ V, nxtI v a.l = V := ⟨_, rfl⟩
  rw [hV] at f12 lx okn hn256 tp' hsame hdiff
  have hr'root : decide (V = v) = decide (r' = root) := by
    by_cases hn : V = v
    · rw [decide_eq_true hn, decide_eq_true (hsame hn).1]
    · rw [decide_eq_false hn, decide_eq_false (hdiff hn)]
  rw [hr'root] at f12
  have hmade : r' = root → s'.made = [] := fun e => by
    have hn : V = v := by
      rw [decide_eq_true e] at hr'root
      exact of_decide_eq_true hr'root
    rw [(hsame hn).2, made1]
  have tl := fun (w : World) (kp : Keep W w w K4 (MqH g (g + 1) W s' root roots vro mv vma)) (hx : InLst w (.slice (some ⟨gn, 0, none⟩) 256 cap4) V) => MqH.tells kp env (r := r') (top := n') (c := h') tp' hb' hms' _ hx fun k hk => by
    simp [Value.ownBlock] at hk
    subst hk
    exact kgn
  by_cases hrr : r' = root
  case' pos =>
    have hm0 := hmade hrr
    rw [hm0] at lnM5 k25
    have lnM5 : ∀ w', (Builtin.len_ #[28] 3 #[.slice AM5 0 cM5]).run Tryz.prog w' = .ok (.int .i64 0) w' := lnM5
    have k25 : u'.cell? ⟨g, 2, none⟩ = some (.slice AM5 0 cM5) := k25
    rw [decide_eq_true hrr] at f12
    have heqt : ∀ w, (Op.equalIn 10000 37 (.agg (pt r')) (.agg (pt root))).run Tryz.prog w = .ok true w := fun w => by rw [heqr, decide_eq_true hrr]
    simp [go_sem, f10, f12, f9, f4, bq5, hbr5, hrs', hra', hrs, hra, heqt, f3, k25, lnM5, f11]
  case' neg =>
    rw [decide_eq_false hrr] at f12
    simp [go_sem, f10, f12, f9, f4, bq5, hbr5, hrs', hra', hrs, hra, heqr, hrr, f3, f11]
  all_goals
    refine (tl u' kp5 lx).mono ?_
    rintro _ u7 ⟨l7, rfl, hl7, kp7⟩
    have ro7 := ro5.ch kp7.ck
    have lx7 := lx.ch kp7.ck fun b _ hb e => e (by
      simp [Value.ownBlock] at hb
      subst hb
      exact kgn)
    have bq7 := kp7.blk (k24 _ hKq) bq5
    have kp7 := kp7.base
    simp [go_sem, f11]
    refine (blocks_any _ V u7 lx7 okn hn256).mono ?_
    rintro _ u8 ⟨rfl, hu8⟩
    obtain rfl := hu8.symm
    obtain ⟨hbr7, _, _⟩ := MqH.rootB kp7
    have kp9 := MqH.setRoot kp7 r'
    have b79 := kp9.ck.obj bq7 fun e => e (k24 _ hKq)
    obtain ⟨hbr9, _, _⟩ := MqH.rootB kp9
    have lx9 := lx7.ch kp9.ck fun b _ hb e => e (by
      simp [Value.ownBlock] at hb
      subst hb
      exact kgn)
    have ro9 := ro7.ch kp9.ck
    have kp9 := kp9.base
    simp [↓VX_bsl1, go_sem, f4, f6, f9, f11, bq7, hbr7, hrs, hrs', hra', blit_whole, hbr9]
    generalize u7.setRow (g + 1) (pt r') = w9 at *
    refine VBs_run (bsl_ptr okr' _) ?_
    obtain ⟨ownR, ownM⟩ := MqH.rows kp9
    have hlr := I.lro
    have hlm := I.lmv
    have hlv := I.lvs
    simp [go_sem, f6]
    refine VB_app1S (us := (pt r').toList) tyPtr ownR (by rw [Array.length_toList, hrs']) (ones_mem (pt_ones r')) (by unfold maxLen; omega) (by omega) fun v10 w10 own10 cl10 ff10 => ?_
    have kp10 := MqH.pushRoot kp9 own10 cl10 ff10
    have lx10 := lx9.ch kp10.ck fun b _ hb e => e (by
      simp [Value.ownBlock] at hb
      subst hb
      exact kgn)
    have ro10 := ro9.ch kp10.ck
    have kp10 := kp10.base
    obtain ⟨_, ownM10⟩ := MqH.rows kp10
    simp [go_sem, f7, f11]
    refine VB_app1 tyIs (w := w10) (u := .slice (some ⟨gn, 0, none⟩) 256 cap4) ownM10 rfl (by unfold maxLen; omega) (by omega) fun v11 w11 own11 cl11 ff11 => ?_
    have kp11 := MqH.pushMap kp10 own11 cl11 ff11
    have lx11 := lx10.ch kp11.ck fun b _ hb e => e (by
      simp [Value.ownBlock] at hb
      subst hb
      exact kgn)
    have kgn' : ∀ k, (Value.slice (some ⟨gn, 0, none⟩) 256 cap4).ownBlock = some k → K4 k := fun k hb => by
      simp [Value.ownBlock] at hb
      subst hb
      exact kgn
    have ro11 := (ro10.ch kp11.ck).push hlm lx11 kgn'
    have kp11 := kp11.base
    have hml := shM_more s' l7
    simp [go_sem, f8, hwi]
    refine Rnd.intro (L.length - (i + 1)) (by omega) (hJ _ _ _ ⟨i + 1, s'.more l7, r', n', h', V, .slice (some ⟨gn, 0, none⟩) 256 cap4, v10, v11, roots ++ [r'], vs ++ [V], mv ++ [.slice (some ⟨gn, 0, none⟩) 256 cap4], K4, rfl, by omega, by simp [f0, hva], by simp [f3], by simp [f4], by simp, by simp, by simp, by simp, ?_⟩)
    refine ⟨kp11, tp', hb', hr', ?_, fuelQ hfs hml hl7, lx11, kgn', ro11, by simp [hlm], by simp [hlr], by simp; omega, fun j r c hr hc => ?_⟩
    · have h1 : s'.bl.length ≤ s1.bl.length + 73 := hbl'
      rw [bl1] at h1
      show s'.bl.length ≤ 73 * (i + 1)
      omega
    · have hext' : ∃ l, s'.bl = s.bl ++ l := ⟨ext, by rw [hext, bl1]⟩
      by_cases hj : j < roots.length
      · rw [List.getElem?_append_left hj] at hr
        rw [List.getElem?_append_left (by omega)] at hc
        obtain ⟨t, th, ht⟩ := I.all j r c hr hc
        exact ⟨t, th, ht.ext hext'⟩
      · have e : j = roots.length := by
          have := (List.getElem?_eq_some_iff.1 hr).1
          simp at this
          omega
        subst e
        rw [List.getElem?_append_right (Nat.le_refl _), Nat.sub_self] at hr
        rw [hlr, List.getElem?_append_right (Nat.le_refl _), Nat.sub_self] at hc
        cases hr
        cases hc
        exact ⟨n', h', tp'⟩
end Go.Proofs.YtnefdmbdkljifaaGreatDoor
