/- A tree that is known. Conditions: the variables ptr.wide and tree.hole hold what the text lays. -/
import Derived.Test.YtppilgkgnofkpaaDoorTrV
set_option linter.unusedSimpArgs false
set_option linter.unusedVariables false

namespace Go.Proofs.YtppilgkgnofkpaaDoor
open Go.RowKit Go.Kin

def sh0 : Shf := ⟨[], [], [], [], -1, []⟩
def wkp : Pt := lfp 1 9
def wkn1 : List Pt := ndz.set 1 wkp
def wkq1 : Pt := shp 1 (nwp 1 9 1) (bytesN wkn1)
def wkn2 : List Pt := ndz.set 1 wkq1
def wkr : Pt := shp 2 (nwp 2 9 0) (bytesN wkn2)
def wks1 : Shf := ⟨[bytesN wkn1, bytesN wkn2], [], [wkq1, wkr], [], -1, []⟩
theorem wkp_ok : PtOk wkp := lfp_ok (by decide) (by decide)
theorem wkp_ne : wkp ≠ ptz := lfp_ne _ _
theorem wkp_good : okP wkp = true := okP_iff.2 (.inr (lfp_may _ _))
theorem wkq1_ok : PtOk wkq1 := shp_ok (by decide) (by decide) (by decide) (by decide) _
theorem wkq1_ne : wkq1 ≠ ptz := fun e => by
  have := congrArg Pt.b e
  cases this
theorem wkq1_good : okP wkq1 = true := okP_iff.2 (.inr (shp_may (by decide) (.inl rfl) _))
theorem wkr_ok : PtOk wkr := shp_ok (by decide) (by decide) (by decide) (by decide) _
theorem wkr_ne : wkr ≠ ptz := fun e => by
  have := congrArg Pt.b e
  cases this
theorem wkr_may : mayT wkr = true := by
  have h : mayP wkr = true := shp_may (by decide) (.inr rfl) _
  unfold mayT
  rw [h]
  simp [wkr, shp, shq, nwp]
theorem one_ne {p : Pt} (h : p ≠ ptz) : ndz.set 1 p ≠ ndz := fun e => by
  have := congrArg (fun l => l.getD 1 ptz) e
  simp only [getD_set_self (show 1 < ndz.length by decide), ndz_get] at this
  exact h this
theorem one_all {p : Pt} (h : okP p = true) : (ndz.set 1 p).all okP = true := by
  rw [List.all_eq_true]
  intro x hx
  rcases List.mem_or_eq_of_mem_set hx with h1 | rfl
  · rw [(List.mem_replicate.1 h1).2]; rfl
  · exact h
theorem wkn1_ne : wkn1 ≠ ndz := one_ne wkp_ne
theorem wkn2_ne : wkn2 ≠ ndz := one_ne wkq1_ne
theorem wkn1_all : wkn1.all okP = true := one_all wkp_good
theorem wkn2_all : wkn2.all okP = true := one_all wkq1_good
theorem grp_one (p : Pt) : grp 1 [(9, p)] = [(9, p)] := by
  unfold grp
  rw [List.takeWhile_cons, if_pos (by simp)]
  rfl
theorem wk_set1 : tset shRd shNw shOd 9 sh0 ptz [(9, wkp)] = (wks1, wkr, 0) := by
  have hlv : lvGood none [(9, wkp)] = true := by rw [lvGood_cons, wkp_good]; rfl
  have hl : tlow shRd shNw shOd 9 sh0 ptz 1 [(9, wkp)] = (⟨[bytesN wkn1], [], [wkq1], [], -1, []⟩, wkq1, 0) := by
    unfold tlow
    rw [show tread shRd sh0 ptz = (sh0, ndz, 0) by unfold tread; rw [if_pos rfl]]
    have hf : [(9, wkp)].foldl (tput shOd) (sh0, ndz) = (sh0, wkn1) := by
      rw [List.foldl_cons, List.foldl_nil]
      unfold tput
      rw [if_neg (fun e => e.2 (ndz_get _))]
      rfl
    simp only [ne_eq, not_true_eq_false, if_false]
    rw [hf]
    unfold tmade
    dsimp only
    rw [if_neg wkn1_ne, if_neg wkn1_ne, if_neg (by rw [wkn1_all]; simp), if_pos rfl]
    rfl
  unfold tset
  rw [hlv, show mayT ptz = true by decide, show tread shRd sh0 ptz = (sh0, ndz, 0) by unfold tread; rw [if_pos rfl]]
  simp only [Bool.and_self, if_true, List.length_singleton, ne_eq, not_true_eq_false, if_false, List.cons_ne_nil]
  have hg : tgrps shRd shNw shOd 9 1 sh0 ndz [(9, wkp)] = (⟨[bytesN wkn1], [], [wkq1], [], -1, []⟩, wkn2, 0) := by
    rw [tgrps]
    simp only [show 9 / 8 = 1 from rfl]
    rw [grp_one, ndz_get, hl]
    rfl
  rw [hg]
  simp only [not_true_eq_false, if_false]
  unfold tmade
  rw [if_neg wkn2_ne, if_neg wkn2_ne, if_neg (by rw [wkn2_all]; simp), if_pos rfl]
  rfl
theorem wk_rs1 {bl : List (List UInt8)} (h : bl[0]? = some (bytesN wkn1)) : RsT bl wkq1 wkn1 := ⟨ndz_ok.set _ wkp_ok, one_all wkp_good, wkq1_ok, .inr ⟨wkq1_ne, one_ne wkp_ne, 0, rfl, h⟩⟩
theorem wk_rs2 {bl : List (List UInt8)} (h : bl[1]? = some (bytesN wkn2)) : RsT bl wkr wkn2 := ⟨ndz_ok.set _ wkq1_ok, one_all wkq1_good, wkr_ok, .inr ⟨wkr_ne, one_ne wkq1_ne, 1, rfl, h⟩⟩
theorem wk_map : nxtT (List.replicate 64 ptz) [(9, wkp)] = (List.replicate 64 ptz).set 9 wkp := rfl
theorem wk_tree : ∃ n, TreeP wks1.bl wkr n ((List.replicate 64 ptz).set 9 wkp) := by
  obtain ⟨s', r, n, h1, h2, _⟩ := tset_sh (s := sh0) (root := ptz) (t := ndz) (h := List.replicate 64 ptz) (TreeP.z _) rfl rfl rfl rfl (by decide) (obj := 9) (by decide) (l := [(9, wkp)]) (by simp) (by simp) (fun x hx => by
    simp at hx
    subst hx
    exact ⟨⟨wkp_ok, wkp_good⟩, .inr rfl⟩)
  rw [wk_set1] at h1
  injection h1 with e1 e2
  injection e2 with e3 e4
  subst e1 e3
  exact ⟨n, by rw [wk_map] at h2; exact h2⟩
theorem wk_set3 (l : List Pt) : ∃ s3, tset shRd shNw shOd 9 (wks1.more l) wkr [(9, ptz)] = (s3, ptz, 0) ∧ s3.gone = [wkp, wkq1, wkr] := by
  have hlv : lvGood none [(9, ptz)] = true := by decide
  have e1 := RsT.read (s := wks1.more l) (wk_rs2 rfl) rfl
  rw [if_neg wkr_ne, Shf.more_more] at e1
  obtain ⟨m, hm⟩ : ∃ m, l ++ [wkr] = m := ⟨_, rfl⟩
  rw [hm] at e1
  have e2 := RsT.read (s := wks1.more m) (wk_rs1 rfl) rfl
  rw [if_neg wkq1_ne, Shf.more_more] at e2
  obtain ⟨m2, hm2⟩ : ∃ m2, m ++ [wkq1] = m2 := ⟨_, rfl⟩
  rw [hm2] at e2
  have hl : tlow shRd shNw shOd 9 (wks1.more m) wkq1 1 [(9, ptz)] = ({ wks1.more m2 with gone := [wkp, wkq1] }, ptz, 0) := by
    unfold tlow
    rw [e2]
    have hf : [(9, ptz)].foldl (tput shOd) (wks1.more m2, wkn1) = ({ wks1.more m2 with gone := [wkp] }, ndz) := by
      rw [List.foldl_cons, List.foldl_nil]
      unfold tput
      have hg : wkn1.getD (9 % 8) ptz = wkp := getD_set_self (by decide)
      simp only [hg]
      rw [if_pos ⟨wkp_ne, wkp_ne⟩]
      rfl
    simp only [ne_eq, not_true_eq_false, if_false]
    rw [hf]
    unfold tmade
    dsimp only
    rw [if_neg (show ¬ ndz = wkn1 from fun e => wkn1_ne e.symm), if_pos rfl, if_neg wkq1_ne]
    rfl
  refine ⟨{ wks1.more m2 with gone := [wkp, wkq1, wkr] }, ?_, rfl⟩
  unfold tset
  rw [hlv, wkr_may, e1]
  simp only [Bool.and_self, if_true, List.length_singleton, ne_eq, not_true_eq_false, if_false, List.cons_ne_nil]
  have hg : tgrps shRd shNw shOd 9 1 (wks1.more m) wkn2 [(9, ptz)] = ({ wks1.more m2 with gone := [wkp, wkq1] }, ndz, 0) := by
    rw [tgrps]
    simp only [show 9 / 8 = 1 from rfl]
    have hq : wkn2.getD 1 ptz = wkq1 := getD_set_self (by decide)
    rw [grp_one, hq, hl]
    rfl
  rw [hg]
  simp only [not_true_eq_false, if_false]
  unfold tmade
  rw [if_neg (show ¬ ndz = wkn2 from fun e => wkn2_ne e.symm), if_pos rfl, if_neg wkr_ne]
  rfl
theorem bld_sh {w : World} {K : Value → World → Prop} : VBld Tryd.prog 62 [(4, .int .i64 (-1))] w K = K (.agg #[.slice none 0 0, .slice none 0 0, .slice none 0 0, .slice none 0 0, .int .i64 (-1), .slice none 0 0]) w := by
  simp [go_sem]
theorem ShH.new {w : World} {g : Nat} (W0 : World) (hb : w.heap[g]? = some (.cells #[.slice none 0 0, .slice none 0 0, .slice none 0 0, .slice none 0 0, .int .i64 (-1), .slice none 0 0] 62 (0, 0))) : ShH g W0 (fun _ => False) sh0 w (one g) := by
  have hgl := lt_of_block hb
  have nl : ∀ {e n : Nat}, RowH e n (.slice none 0 0) 0 [] w (fun _ => False) := fun {e n} => ⟨World.ownsRow_nil _ _ _ _, fun k hk => by simp [Value.ownBlock] at hk, fun k hk => hk.elim⟩
  have st : ∀ {H : HP} {l : List HP}, H w (fun _ => False) → SepL l w (fun _ => False) → SepL (H :: l) w (fun _ => False) := fun {H l} a b => ⟨_, _, a, b, fun _ h => h.elim, fun _ h => h.elim id id, fun _ h => h.elim⟩
  refine ⟨.slice none 0 0, .slice none 0 0, .slice none 0 0, .slice none 0 0, .slice none 0 0, [], ⟨fun p hp => (by cases hp), fun p hp => (by cases hp), fun p hp => (by cases hp), fun p hp => (by cases hp), by decide, by decide, by decide, by decide⟩, rfl, ?_⟩
  refine ⟨one g, fun _ => False, ⟨hb, rfl, fun k hk => by simp only [one] at hk; omega⟩, ?_, fun _ _ h => h, fun k hk => hk.elim id fun h => h.elim, fun k hk => by simp only [one] at hk; omega⟩
  refine st nl (st nl (st nl (st nl (st ?_ fun _ h => h.elim))))
  exact ⟨fun i v b h => by simp at h, Sl.nil w, fun k hk => by simp [Value.ownBlock] at hk, fun k hk => hk.elim, fun k hk => hk.elim⟩
theorem ptLst_set {w : World} {v : Value} {l : List Pt} (h : PtLst w v l) (hin : ∀ p ∈ l, PtOk p) {i : Nat} {p : Pt} (hi : l[i]? = some p) : ∃ b off c cs T fr, v = .slice (some ⟨b, off, none⟩) l.length c ∧ w.heap[b]? = some (.cells cs T fr) ∧ cs.extract (off + i * 41) (off + i * 41 + 41) = pt p ∧ off + i * 41 + 41 ≤ cs.size ∧ v.ownBlock = some b := by
  obtain ⟨b, off, c, cs, T, fr, h1, h2, h3, h4⟩ := h.elem (by decide) (fun q hq => pt_size (hin q hq)) hi
  exact ⟨b, off, c, cs, T, fr, h1, h2, h3, h4, by rw [h1]; rfl⟩
set_option maxRecDepth 100000 in
set_option maxHeartbeats 8000000 in
theorem twakes_any (w : World) (env : TEnv w) : Ret Tryd.prog 20 #[] w fun v' w' => v' = .bool true ∧ Ch Nw w w' := by
  refine v_enter Tryd.func20 Tryd.ntmps20 rfl (by simp) fun R' hR => ?_
  have ca := (Ch.refl Nw w).alloc (.cells #[.slice none 0 0, .slice none 0 0, .slice none 0 0, .slice none 0 0, .int .i64 (-1), .slice none 0 0] 62)
  have b0 := hp_alloc w (.cells #[.slice none 0 0, .slice none 0 0, .slice none 0 0, .slice none 0 0, .int .i64 (-1), .slice none 0 0] 62)
  have env1 := env.ch ca fun _ _ e => e
  simp [go_sem, bld_sh]
  obtain ⟨g, hg⟩ : ∃ g, w.heap.size = g := ⟨_, rfl⟩
  rw [hg] at b0 ⊢
  have sa : (w.alloc (.cells #[.slice none 0 0, .slice none 0 0, .slice none 0 0, .slice none 0 0, .int .i64 (-1), .slice none 0 0] 62)).heap.size = g + 1 := by simp [hg]
  generalize w.alloc (.cells #[.slice none 0 0, .slice none 0 0, .slice none 0 0, .slice none 0 0, .int .i64 (-1), .slice none 0 0] 62) = w1 at *
  have hS1 := ShH.new w1 b0
  refine (tleaf_any 1 9 w1 (by decide) (by decide)).mono ?_
  rintro _ w2 ⟨rfl, c2⟩
  rw [show lfp 1 9 = wkp from rfl]
  have okp := wkp_ok
  have hps := pt_size okp
  have hpa := pt_all okp
  have hzs := pt_size ptz_ok
  have hza := pt_all ptz_ok
  obtain ⟨P, hP⟩ : ∃ P, wkp = P := ⟨_, rfl⟩
  have hPz : P ≠ ptz := by rw [← hP]; exact wkp_ne
  have set1 := wk_set1
  rw [hP] at okp hps hpa set1 ⊢
  have okl : LfOk (9, P) := ⟨by show 9 < 4294967296; decide, okp⟩
  have hbl : ∀ {w : World} {K : Value → World → Prop}, VBld Tryd.prog 69 [(0, .int .u32 9), (1, .agg (pt P))] w K = K (.agg (lfv (9, P))) w := fun {w K} => bld_lf (x := (9, P)) okl
  have c3 := ((Ch.refl Nw w2).alloc (.cells (pt P) 28))
  have b3 := hp_alloc w2 (.cells (pt P) 28)
  simp [↓VX_bsl1, go_sem, hz_pt, zc_pt, hps, hpa, hzs, blit_whole, bld_pt0, hbl]
  obtain ⟨g2, hg2⟩ : ∃ g2, w2.heap.size = g2 := ⟨_, rfl⟩
  rw [hg2] at b3 ⊢
  have sa3 : (w2.alloc (.cells (pt P) 28)).heap.size = g2 + 1 := by simp [hg2]
  have sa2 := c2.size
  generalize w2.alloc (.cells (pt P) 28) = w3 at *
  have cw3 := ca.trans (c2.trans c3)
  have hS3 := (ShH.ok _ _ _ _).ch hS1 (c2.trans c3) fun _ _ e => e
  have env3 := env1.ch (c2.trans c3) fun _ _ e => e
  refine VBs_run (bsl_lf okl _) ?_
  have c4 := (Ch.refl Nw w3).alloc (.cells (lfv (9, P)) 69)
  have b4 := hp_alloc w3 (.cells (lfv (9, P)) 69)
  have hL4 : Lst (w3.alloc (.cells (lfv (9, P)) 69)) (.slice (some ⟨w3.heap.size, 0, none⟩) 1 1) lfL 42 [(9, P)] := by
    refine ⟨_, _, rfl, by simp, by decide, fun _ => ⟨_, _, rfl, by simp, fun j a i u hj hu => ?_⟩⟩
    cases j with
    | zero =>
      simp at hj
      subst hj
      rw [cell_blk b4]
      simp [lfv, hu]
    | succ j => simp at hj
  simp [go_sem]
  have sa4 : (w3.alloc (.cells (lfv (9, P)) 69)).heap.size = g2 + 2 := by simp [sa3]
  rw [sa3] at hL4 ⊢
  have b34 := c4.obj b3 id
  have hS4 := (ShH.ok _ _ _ _).ch hS3 c4 fun _ _ e => e
  have env4 := env3.ch c4 fun _ _ e => e
  have cw4 := cw3.trans c4
  generalize w3.alloc (.cells (lfv (9, P)) 69) = w4 at *
  have hgl : ∀ k, glT k → ¬ one g k := fun k hk e => by
    have := env.lt k hk
    simp only [one] at e
    omega
  refine (tset_any (shSnk g w1 fun _ => False) (ShH.ok _ _ _) hS4 ptz ptz_ok 9 _ [(9, P)] (by simp [shM, sh0]) hL4 (fun a ha => by simp at ha; subst ha; exact okl) (fun j hj => by simp [Value.ownBlock] at hj; subst hj; exact ⟨fun e => by simp only [one] at e; omega, by omega⟩) env4 hgl (by decide)).mono ?_
  rw [set1]
  rintro _ w5 ⟨rfl, ok5, h5, c5⟩
  simp only
  have h5 : ShH g w1 (fun _ => False) wks1 w5 (Gr (one g) w4 w5) := h5
  have okr := wkr_ok
  have hrs := pt_size okr
  have hra := pt_all okr
  obtain ⟨vB, vD, vM, vG, vR, hb5, hM5, hG5, _, hMG, _, _⟩ := h5.reads
  have lnM := hM5.len Tryd.underlying48 3
  have lnG := hG5.len Tryd.underlying48 3
  obtain ⟨AM, cM, hvM, _, _, hrM⟩ := id hM5
  obtain ⟨AG, cG, hvG, _⟩ := id hG5
  obtain ⟨bM, oM, hAM, _, hcM⟩ := hrM (by decide)
  subst hAM
  have c01 : w5.cell? ⟨bM, oM + 1, none⟩ = some (.int .u8 1) := hcM 0 wkq1 1 _ rfl rfl
  have c03 : w5.cell? ⟨bM, oM + 3, none⟩ = some (.int .u32 1) := hcM 0 wkq1 3 _ rfl rfl
  obtain ⟨b1, o1, k1, cs1, T1, fr1, hv1, hb1, hx1, hz1, _⟩ := ptLst_set hM5 (fun p hp => by simp [wks1] at hp; rcases hp with rfl | rfl; exact wkq1_ok; exact wkr_ok) (i := 1) (p := wkr) rfl
  rw [hvM] at hv1 lnM
  injection hv1 with hv1a _ _
  injection hv1a with hv1a
  injection hv1a with hv1b hv1c
  subst hv1b hv1c
  have k2 : w5.cell? ⟨g, 2, none⟩ = some (.slice (some ⟨bM, oM, none⟩) 2 cM) := by rw [show (.slice (some ⟨bM, oM, none⟩) 2 cM : Value) = vM from hvM.symm]; exact cell_blk hb5 2
  have k3 : w5.cell? ⟨g, 3, none⟩ = some (.slice AG 0 cG) := by rw [show (.slice AG 0 cG : Value) = vG from hvG.symm]; exact cell_blk hb5 3
  rw [hvG] at lnG
  have lnM : ∀ w', (Builtin.len_ #[48] 3 #[.slice (some ⟨bM, oM, none⟩) 2 cM]).run Tryd.prog w' = .ok (.int .i64 2) w' := lnM
  have lnG : ∀ w', (Builtin.len_ #[48] 3 #[.slice AG 0 cG]).run Tryd.prog w' = .ok (.int .i64 0) w' := lnG
  have sa5 := c5.size
  have b35 := c5.obj b34 fun e => by simp only [one] at e; omega
  have env5 := env4.ch c5 hgl
  obtain ⟨r, hr⟩ : ∃ r, wkr = r := ⟨_, rfl⟩
  rw [hr] at okr hrs hra hx1 ⊢
  have heqr : ∀ w, (Op.equalIn 10000 28 (.agg (pt r)) (.agg (pt r))).run Tryd.prog w = .ok true w := fun w => by rw [eq_pt w okr okr, decide_eq_true rfl]
  have c6 := (Ch.refl Nw w5).alloc (.cells (pt r) 28)
  have b6 := hp_alloc w5 (.cells (pt r) 28)
  have b36 := c6.obj b35 id
  have h6 := (ShH.ok _ _ _ _).ch h5 c6 fun _ _ e => e
  have env6 := env5.ch c6 fun _ _ e => e
  have c01 := c6.cell c01 id
  have c03 := c6.cell c03 id
  have hb1 := c6.obj hb1 id
  have k2 := c6.cell k2 id
  have k3 := c6.cell k3 id
  simp [go_sem, hz_pt, zc_pt, hrs, hra, hzs, blit_whole]
  obtain ⟨g5, hg5⟩ : ∃ g5, w5.heap.size = g5 := ⟨_, rfl⟩
  rw [hg5] at b6 ⊢
  have sa6 : (w5.alloc (.cells (pt r) 28)).heap.size = g5 + 1 := by simp [hg5]
  have cw5 : Ch (one g) w4 (w5.alloc (.cells (pt r) 28)) := c5.trans (c6.mono fun _ _ e => e.elim)
  generalize w5.alloc (.cells (pt r) 28) = w6 at *
  have c01 : w6.cell? ⟨bM, oM + 1, none⟩ = some (.int .u8 1) := c01
  have c03 : w6.cell? ⟨bM, oM + 3, none⟩ = some (.int .u32 1) := c03
  refine v_draw' [(0, none), (1, none), (2, none), (3, none), (4, none), (5, none), (6, none), (7, none), (8, none), (9, none), (10, none), (11, none), (12, none), (13, none), (14, none), (15, none), (16, none), (17, none), (18, none), (19, none), (20, none), (21, none), (22, none), (23, none), (24, none), (25, none), (26, none), (27, none), (28, none), (29, none), (30, none), (31, none), (32, none), (33, none), (34, none), (35, none), (36, none), (37, none), (38, none), (39, none), (40, none), (41, none), (42, none), (43, none), (44, none), (45, none), (46, none), (47, none)] (by kernel_rfl) (by kernel_rfl) ?_
  have b6d : w6.drew.heap[g5]? = some (.cells (pt r) 28 (0, 0)) := b6
  have hb1d : w6.drew.heap[bM]? = some (.cells cs1 T1 fr1) := hb1
  simp [go_sem, k2, k3, lnM, lnG, c01, c03, hb1, hb1d, hx1, hz1, b6, b6d, hrs, hra, heqr]
  have G0 : ∀ k, Gr (one g) w4 w5 k → k < w6.drew.heap.size := fun k hk => (ShH.ok _ _ _ _).lt ((ShH.ok _ _ _ _).ch h6 (Ch.refl Nw w6).drew fun _ _ e => e) k hk
  obtain ⟨GG, hGG⟩ : ∃ GG, Gr (one g) w4 w5 = GG := ⟨_, rfl⟩
  have h7 : ShH g w1 (fun _ => False) wks1 w6.drew GG := by rw [← hGG]; exact (ShH.ok _ _ _ _).ch h6 (Ch.refl Nw w6).drew fun _ _ e => e
  have nG : ∀ k, g2 ≤ k → k < g2 + 2 → ¬ GG k := fun k h1 h2 e => by
    rw [← hGG] at e
    rcases e with e | e
    · simp only [one] at e; omega
    · omega
  have nG5 : ∀ k, g5 ≤ k → ¬ GG k := fun k h1 e => by
    rw [← hGG] at e
    rcases e with e | e
    · simp only [one] at e; omega
    · omega
  have hgG : ∀ k, glT k → ¬ GG k := fun k hk e => by
    rw [← hGG] at e
    rcases e with e | e
    · exact hgl k hk e
    · have := env4.lt k hk; omega
  obtain ⟨n, tp⟩ := wk_tree
  rw [hr] at tp
  have cwd : Ch Nw w1 w6.drew ∨ True := .inr trivial
  have b37 : w6.drew.heap[g2]? = some (.cells (pt P) 28 (0, 0)) := b36
  have env7 := env6.ch (Ch.refl Nw w6).drew fun _ _ e => e
  have sa7 : w6.drew.heap.size = g5 + 1 := sa6
  have cw7 : Ch (one g) w4 w6.drew := cw5.drew
  generalize w6.drew = w7 at *
  -- the first leaf
  refine (tget_any (shSnk g w1 fun _ => False).rd (by simp [shM, wks1]) (ShH.ok _ _ _) h7 r okr 9 (by decide) env7 hgG).mono ?_
  obtain ⟨l1, hl1, hget1⟩ := TreeP.get (s := wks1) tp rfl (off := 9) (by decide)
  rw [hget1, getD_set_self (by rw [List.length_replicate]; decide), hP]
  rintro _ w8 ⟨rfl, h8, c8⟩
  simp only
  have h8 : ShH g w1 (fun _ => False) (wks1.more l1) w8 (Gr GG w7 w8) := h8
  have sa8 := c8.size
  have b68 := c8.obj b6d (nG5 _ (Nat.le_refl _))
  have b38 := c8.obj b37 (nG _ (Nat.le_refl _) (by omega))
  have env8 := env7.ch c8 hgG
  have c9 := (Ch.refl Nw w8).alloc (.cells (pt P) 28)
  have b9 := hp_alloc w8 (.cells (pt P) 28)
  have h9 := (ShH.ok _ _ _ _).ch h8 c9 fun _ _ e => e
  have env9 := env8.ch c9 fun _ _ e => e
  have b69 := c9.obj b68 id
  have b39 := c9.obj b38 id
  simp [go_sem, hz_pt, zc_pt, hps, hpa, hzs, blit_whole, b69, hrs, hra]
  obtain ⟨g8, hg8⟩ : ∃ g8, w8.heap.size = g8 := ⟨_, rfl⟩
  rw [hg8] at b9 ⊢
  have sa9 : (w8.alloc (.cells (pt P) 28)).heap.size = g8 + 1 := by simp [hg8]
  have cw9 : Ch GG w7 (w8.alloc (.cells (pt P) 28)) := c8.trans (c9.mono fun _ _ e => e.elim)
  generalize w8.alloc (.cells (pt P) 28) = w9 at *
  have n8 : ∀ k, (k = g8 ∨ k = g5 ∨ k = g2) → ¬ Gr GG w7 w8 k := fun k hk e => by
    rcases e with e | e
    · rcases hk with rfl | rfl | rfl
      · exact nG5 _ (by omega) e
      · exact nG5 _ (Nat.le_refl _) e
      · exact nG _ (Nat.le_refl _) (by omega) e
    · omega
  have hg8' : ∀ k, glT k → ¬ Gr GG w7 w8 k := fun k hk e => e.elim (hgG k hk) fun e => by have := env7.lt k hk; omega
  -- the second
  have hm9 := shM_more wks1 l1
  have hm0 : shM wks1 = 999999996 := by rfl
  refine (tget_any (shSnk g w1 fun _ => False).rd (by omega) (ShH.ok _ _ _) h9 r okr 8 (by decide) env9 hg8').mono ?_
  obtain ⟨l2, hl2, hget2⟩ := TreeP.get (s := wks1.more l1) tp rfl (off := 8) (by decide)
  have hz8 : ((List.replicate 64 ptz).set 9 wkp).getD 8 ptz = ptz := by rw [getD_set_ne (by decide)]; rfl
  rw [hget2, hz8]
  rintro _ w10 ⟨rfl, h10, c10⟩
  simp only
  have h10 : ShH g w1 (fun _ => False) ((wks1.more l1).more l2) w10 (Gr (Gr GG w7 w8) w9 w10) := h10
  rw [Shf.more_more] at h10
  have sa10 := c10.size
  have b610 := c10.obj b69 (n8 _ (.inr (.inl rfl)))
  have b310 := c10.obj b39 (n8 _ (.inr (.inr rfl)))
  have b910 := c10.obj b9 (n8 _ (.inl rfl))
  have env10 := env9.ch c10 hg8'
  have okz : LfOk (9, ptz) := ⟨by show 9 < 4294967296; decide, ptz_ok⟩
  have hbz : ∀ {w : World} {K : Value → World → Prop}, VBld Tryd.prog 69 [(0, .int .u32 9)] w K = K (.agg (lfv (9, ptz))) w := fun {w K} => by
    refine VBld_struct Tryd.underlying69 hz_lf (places := #[(0, 1), (1, 41)]) (by simp [go_sem]) ?_
    simp [fillB, zc_lf, Value.cells, lfv_size lfz_ok]
    unfold blit
    apply Array.ext'
    simp [lfv, lfL]
  have c11 := (Ch.refl Nw w10).alloc (.cells (pt ptz) 28)
  have b11 := hp_alloc w10 (.cells (pt ptz) 28)
  have h11 := (ShH.ok _ _ _ _).ch h10 c11 fun _ _ e => e
  have env11 := env10.ch c11 fun _ _ e => e
  have b611 := c11.obj b610 id
  have b311 := c11.obj b310 id
  have b911 := c11.obj b910 id
  simp [↓VX_bsl1, go_sem, hz_pt, zc_pt, hzs, hza, blit_whole, b611, hrs, hra, hbz]
  obtain ⟨g10, hg10⟩ : ∃ g10, w10.heap.size = g10 := ⟨_, rfl⟩
  rw [hg10] at b11 ⊢
  have sa11 : (w10.alloc (.cells (pt ptz) 28)).heap.size = g10 + 1 := by simp [hg10]
  generalize w10.alloc (.cells (pt ptz) 28) = w11 at *
  refine VBs_run (bsl_lf okz _) ?_
  have c12 := (Ch.refl Nw w11).alloc (.cells (lfv (9, ptz)) 69)
  have b12 := hp_alloc w11 (.cells (lfv (9, ptz)) 69)
  have hL12 : Lst (w11.alloc (.cells (lfv (9, ptz)) 69)) (.slice (some ⟨w11.heap.size, 0, none⟩) 1 1) lfL 42 [(9, ptz)] := by
    refine ⟨_, _, rfl, by simp, by decide, fun _ => ⟨_, _, rfl, by simp, fun j a i u hj hu => ?_⟩⟩
    cases j with
    | zero =>
      simp at hj
      subst hj
      rw [cell_blk b12]
      simp [lfv, hu]
    | succ j => simp at hj
  simp [go_sem]
  have sa12 : (w11.alloc (.cells (lfv (9, ptz)) 69)).heap.size = g10 + 2 := by simp [sa11]
  rw [sa11] at hL12 ⊢
  have b612 := c12.obj b611 id
  have b312 := c12.obj b311 id
  have b912 := c12.obj b911 id
  have b1112 := c12.obj b11 id
  have h12 := (ShH.ok _ _ _ _).ch h11 c12 fun _ _ e => e
  have env12 := env11.ch c12 fun _ _ e => e
  generalize w11.alloc (.cells (lfv (9, ptz)) 69) = w12 at *
  have n10 : ∀ k, (k = g10 ∨ k = g10 + 1 ∨ k = g8 ∨ k = g5 ∨ k = g2) → ¬ Gr (Gr GG w7 w8) w9 w10 k := fun k hk e => by
    rcases e with e | e
    · rcases hk with rfl | rfl | rfl | rfl | rfl
      · rcases e with e | e
        · exact nG5 _ (by omega) e
        · omega
      · rcases e with e | e
        · exact nG5 _ (by omega) e
        · omega
      · exact n8 _ (.inl rfl) e
      · exact n8 _ (.inr (.inl rfl)) e
      · exact n8 _ (.inr (.inr rfl)) e
    · omega
  have hg10' : ∀ k, glT k → ¬ Gr (Gr GG w7 w8) w9 w10 k := fun k hk e => e.elim (hg8' k hk) fun e => by have := env9.lt k hk; omega
  have hm12 := shM_more wks1 (l1 ++ l2)
  rw [List.length_append] at hm12
  obtain ⟨s3, set3, gone3⟩ := wk_set3 (l1 ++ l2)
  rw [hr] at set3
  refine (tset_any (shSnk g w1 fun _ => False) (ShH.ok _ _ _) h12 r okr 9 _ [(9, ptz)] (by simp; omega) hL12 (fun a ha => by simp at ha; subst ha; exact okz) (fun j hj => by simp [Value.ownBlock] at hj; subst hj; exact ⟨n10 _ (.inr (.inl rfl)), by omega⟩) env12 hg10' (by decide)).mono ?_
  rw [set3]
  rintro _ w13 ⟨rfl, ok13, h13, c13⟩
  simp only
  have h13 : ShH g w1 (fun _ => False) s3 w13 (Gr (Gr (Gr GG w7 w8) w9 w10) w12 w13) := h13
  have b313 := c13.obj b312 (n10 _ (.inr (.inr (.inr (.inr rfl)))))
  have b913 := c13.obj b912 (n10 _ (.inr (.inr (.inl rfl))))
  have b1113 := c13.obj b1112 (n10 _ (.inl rfl))
  obtain ⟨vB', vD', vM', vG', vR', hb13, _, hG13, _, _, _, _⟩ := h13.reads
  rw [gone3] at hG13
  have lnG' := hG13.len Tryd.underlying48 3
  obtain ⟨bg, og, kg, csg, Tg, frg, hvg, hbg, hxg, hzg, _⟩ := ptLst_set hG13 (fun p hp => by simp at hp; rcases hp with rfl | rfl | rfl; exact wkp_ok; exact wkq1_ok; exact wkr_ok) (i := 0) (p := wkp) rfl
  rw [hP] at hxg
  rw [hvg] at lnG'
  have k13 : w13.cell? ⟨g, 3, none⟩ = some (.slice (some ⟨bg, og, none⟩) 3 kg) := by rw [show (.slice (some ⟨bg, og, none⟩) 3 kg : Value) = vG' from hvg.symm]; exact cell_blk hb13 3
  have lnG' : ∀ w', (Builtin.len_ #[48] 3 #[.slice (some ⟨bg, og, none⟩) 3 kg]).run Tryd.prog w' = .ok (.int .i64 3) w' := lnG'
  have hxg : csg.extract og (og + 41) = pt P := by simpa using hxg
  have hzg : og + 41 ≤ csg.size := by simpa using hzg
  have c14 := (Ch.refl Nw w13).alloc (.cells (pt ptz) 28)
  have b14 := hp_alloc w13 (.cells (pt ptz) 28)
  have b314 := c14.obj b313 id
  have b914 := c14.obj b913 id
  have b1114 := c14.obj b1113 id
  have hbg14 := c14.obj hbg id
  have k14 := c14.cell k13 id
  simp [go_sem, hz_pt, zc_pt, hzs, hza, blit_whole]
  obtain ⟨g13, hg13⟩ : ∃ g13, w13.heap.size = g13 := ⟨_, rfl⟩
  rw [hg13] at b14 ⊢
  have sa13 := c13.size
  have sa14 : (w13.alloc (.cells (pt ptz) 28)).heap.size = g13 + 1 := by simp [hg13]
  have fin : Ch Nw w (w13.alloc (.cells (pt ptz) 28)).drew := by
    have a1 : Ch Nw w w7 := cw4.trans' cw7 fun k hk e => by simp only [one] at e; omega
    have a2 : Ch Nw w w9 := a1.trans' cw9 fun k hk e => by
      rw [← hGG] at e
      rcases e with e | e
      · simp only [one] at e; omega
      · omega
    have e1 : ∀ k, k < w.heap.size → ¬ GG k := fun k hk e => by
      rw [← hGG] at e
      rcases e with e | e
      · simp only [one] at e; omega
      · omega
    have a3 : Ch Nw w w10 := a2.trans' c10 fun k hk e => e.elim (e1 k hk) fun e => by omega
    have a4 : Ch Nw w w12 := (a3.trans c11).trans c12
    have a5 : Ch Nw w w13 := a4.trans' c13 fun k hk e => e.elim (fun e => e.elim (e1 k hk) fun e => by omega) fun e => by omega
    exact (a5.trans c14).drew
  generalize w13.alloc (.cells (pt ptz) 28) = w14 at *
  have b314d : w14.drew.heap[g2]? = some (.cells (pt P) 28 (0, 0)) := b314
  have b914d : w14.drew.heap[g8]? = some (.cells (pt P) 28 (0, 0)) := b914
  have b1114d : w14.drew.heap[g10]? = some (.cells (pt ptz) 28 (0, 0)) := b1114
  have b14d : w14.drew.heap[g13]? = some (.cells (pt ptz) 28 (0, 0)) := b14
  have hbg14d : w14.drew.heap[bg]? = some (.cells csg Tg frg) := hbg14
  have heqP : ∀ w, (Op.equalIn 10000 28 (.agg (pt P)) (.agg (pt P))).run Tryd.prog w = .ok true w := fun w => by rw [eq_pt w okp okp, decide_eq_true rfl]
  have heqZ : ∀ w, (Op.equalIn 10000 28 (.agg (pt ptz)) (.agg (pt ptz))).run Tryd.prog w = .ok true w := fun w => by rw [eq_pt w ptz_ok ptz_ok, decide_eq_true rfl]
  refine v_draw' [(0, none), (1, none), (2, none), (3, none), (4, none), (5, none), (6, none), (7, none), (8, none), (9, none), (10, none), (11, none), (12, none), (13, none), (14, none), (15, none), (16, none), (17, none), (18, none), (19, none), (20, none), (21, none), (22, none), (23, none), (24, none), (25, none), (26, none), (27, none), (28, none), (29, none), (30, none), (31, none), (32, none), (33, none), (34, none), (35, none), (36, none), (37, none), (38, none), (39, none), (40, none), (41, none), (42, none), (43, none)] (by kernel_rfl) (by kernel_rfl) ?_
  simp [go_sem, b914, b914d, b314, b314d, b1114, b1114d, b14, b14d, hps, hpa, hzs, hza, heqP, heqZ, bld_pt0, k14, lnG', hbg14, hbg14d, hxg, hzg]
  exact hR _ _ ⟨rfl, fin⟩
end Go.Proofs.YtppilgkgnofkpaaDoor
