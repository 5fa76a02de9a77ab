/- A table that is known, walked; steps of a shelf that is kept. Conditions: the variables ptr.wide and tree.hole hold what the text lays. -/
import Derived.Test.YtnefdmbdkljifaaGreatDoorTrV
import Derived.Test.YtnefdmbdkljifaaGreatDoorTbU
import Derived.Test.YtnefdmbdkljifaaGreatDoorKep
set_option linter.unusedSimpArgs false
set_option linter.unusedVariables false

/- A tree that is known. Conditions: the variables ptr.wide and tree.hole hold what the text lays. -/
namespace Go.Proofs.YtnefdmbdkljifaaGreatDoor
open Go.RowKit Go.Kin

def sh0 : Shf := ⟨[], [], [], [], -1, []⟩
def wkp : Pt := lfp 1 9
def wkn1 : List Pt := ndz.set 1 wkp
def wkq1 : Pt := shp 1 (nwp 1 9 1) (bytesN wkn1)
def wkn2 : List Pt := ndz.set 1 wkq1
def wkr : Pt := shp 2 (nwp 2 9 0) (bytesN wkn2)
def wks1 : Shf := ⟨[bytesN wkn1, bytesN wkn2], [], [wkq1, wkr], [], -1, []⟩
theorem wkp_ok : PtOk wkp := lfp_ok (by decide) (by decide)
theorem wkp_ne : wkp ≠ ptz := lfp_ne _ _
theorem wkp_good : okP wkp = true := okP_iff.2 (.inr (lfp_may _ _))
theorem wkq1_ok : PtOk wkq1 := shp_ok (by decide) (by decide) (by decide) (by decide) _
theorem wkq1_ne : wkq1 ≠ ptz := fun e => by
  have := congrArg Pt.b e
  cases this
theorem wkq1_good : okP wkq1 = true := okP_iff.2 (.inr (shp_may (by decide) (.inl rfl) _))
theorem wkr_ok : PtOk wkr := shp_ok (by decide) (by decide) (by decide) (by decide) _
theorem wkr_ne : wkr ≠ ptz := fun e => by
  have := congrArg Pt.b e
  cases this
theorem wkr_may : mayT wkr = true := by
  have h : mayP wkr = true := shp_may (by decide) (.inr rfl) _
  unfold mayT
  rw [h]
  simp [wkr, shp, shq, nwp]
theorem one_ne {p : Pt} (h : p ≠ ptz) : ndz.set 1 p ≠ ndz := fun e => by
  have := congrArg (fun l => l.getD 1 ptz) e
  simp only [getD_set_self (show 1 < ndz.length by decide), ndz_get] at this
  exact h this
theorem one_all {p : Pt} (h : okP p = true) : (ndz.set 1 p).all okP = true := by
  rw [List.all_eq_true]
  intro x hx
  rcases List.mem_or_eq_of_mem_set hx with h1 | rfl
  · rw [(List.mem_replicate.1 h1).2]; rfl
  · exact h
theorem wkn1_ne : wkn1 ≠ ndz := one_ne wkp_ne
theorem wkn2_ne : wkn2 ≠ ndz := one_ne wkq1_ne
theorem wkn1_all : wkn1.all okP = true := one_all wkp_good
theorem wkn2_all : wkn2.all okP = true := one_all wkq1_good
theorem grp_one (p : Pt) : grp 1 [(9, p)] = [(9, p)] := by
  unfold grp
  rw [List.takeWhile_cons, if_pos (by simp)]
  rfl
theorem wk_set1 : tset shRd shNw shOd 9 sh0 ptz [(9, wkp)] = (wks1, wkr, 0) := by
  have hlv : lvGood none [(9, wkp)] = true := by rw [lvGood_cons, wkp_good]; rfl
  have hl : tlow shRd shNw shOd 9 sh0 ptz 1 [(9, wkp)] = (⟨[bytesN wkn1], [], [wkq1], [], -1, []⟩, wkq1, 0) := by
    unfold tlow
    rw [show tread shRd sh0 ptz = (sh0, ndz, 0) by unfold tread; rw [if_pos rfl]]
    have hf : [(9, wkp)].foldl (tput shOd) (sh0, ndz) = (sh0, wkn1) := by
      rw [List.foldl_cons, List.foldl_nil]
      unfold tput
      rw [if_neg (fun e => e.2 (ndz_get _))]
      rfl
    simp only [ne_eq, not_true_eq_false, if_false]
    rw [hf]
    unfold tmade
    dsimp only
    rw [if_neg wkn1_ne, if_neg wkn1_ne, if_neg (by rw [wkn1_all]; simp), if_pos rfl]
    rfl
  unfold tset
  rw [hlv, show mayT ptz = true by decide, show tread shRd sh0 ptz = (sh0, ndz, 0) by unfold tread; rw [if_pos rfl]]
  simp only [Bool.and_self, if_true, List.length_singleton, ne_eq, not_true_eq_false, if_false, List.cons_ne_nil]
  have hg : tgrps shRd shNw shOd 9 1 sh0 ndz [(9, wkp)] = (⟨[bytesN wkn1], [], [wkq1], [], -1, []⟩, wkn2, 0) := by
    rw [tgrps]
    simp only [show 9 / 8 = 1 from rfl]
    rw [grp_one, ndz_get, hl]
    rfl
  rw [hg]
  simp only [not_true_eq_false, if_false]
  unfold tmade
  rw [if_neg wkn2_ne, if_neg wkn2_ne, if_neg (by rw [wkn2_all]; simp), if_pos rfl]
  rfl
theorem wk_rs1 {bl : List (List UInt8)} (h : bl[0]? = some (bytesN wkn1)) : RsT bl wkq1 wkn1 := ⟨ndz_ok.set _ wkp_ok, one_all wkp_good, wkq1_ok, .inr ⟨wkq1_ne, one_ne wkp_ne, 0, rfl, h⟩⟩
theorem wk_rs2 {bl : List (List UInt8)} (h : bl[1]? = some (bytesN wkn2)) : RsT bl wkr wkn2 := ⟨ndz_ok.set _ wkq1_ok, one_all wkq1_good, wkr_ok, .inr ⟨wkr_ne, one_ne wkq1_ne, 1, rfl, h⟩⟩
theorem wk_map : nxtT (List.replicate 64 ptz) [(9, wkp)] = (List.replicate 64 ptz).set 9 wkp := rfl
theorem wk_tree : ∃ n, TreeP wks1.bl wkr n ((List.replicate 64 ptz).set 9 wkp) := by
  obtain ⟨s', r, n, h1, h2, _⟩ := tset_sh (s := sh0) (root := ptz) (t := ndz) (h := List.replicate 64 ptz) (TreeP.z _) rfl rfl rfl rfl (by decide) (obj := 9) (by decide) (l := [(9, wkp)]) (by simp) (by simp) (fun x hx => by
    simp at hx
    subst hx
    exact ⟨⟨wkp_ok, wkp_good⟩, .inr (show (1 : Nat) ≠ 3 by decide)⟩)
  rw [wk_set1] at h1
  injection h1 with e1 e2
  injection e2 with e3 e4
  subst e1 e3
  exact ⟨n, by rw [wk_map] at h2; exact h2⟩
theorem wk_set3 (l : List Pt) : ∃ s3, tset shRd shNw shOd 9 (wks1.more l) wkr [(9, ptz)] = (s3, ptz, 0) ∧ s3.gone = [wkp, wkq1, wkr] := by
  have hlv : lvGood none [(9, ptz)] = true := by decide
  have e1 := RsT.read (s := wks1.more l) (wk_rs2 rfl) rfl
  rw [if_neg wkr_ne, Shf.more_more] at e1
  obtain ⟨m, hm⟩ : ∃ m, l ++ [wkr] = m := ⟨_, rfl⟩
  rw [hm] at e1
  have e2 := RsT.read (s := wks1.more m) (wk_rs1 rfl) rfl
  rw [if_neg wkq1_ne, Shf.more_more] at e2
  obtain ⟨m2, hm2⟩ : ∃ m2, m ++ [wkq1] = m2 := ⟨_, rfl⟩
  rw [hm2] at e2
  have hl : tlow shRd shNw shOd 9 (wks1.more m) wkq1 1 [(9, ptz)] = ({ wks1.more m2 with gone := [wkp, wkq1] }, ptz, 0) := by
    unfold tlow
    rw [e2]
    have hf : [(9, ptz)].foldl (tput shOd) (wks1.more m2, wkn1) = ({ wks1.more m2 with gone := [wkp] }, ndz) := by
      rw [List.foldl_cons, List.foldl_nil]
      unfold tput
      have hg : wkn1.getD (9 % 8) ptz = wkp := getD_set_self (by decide)
      simp only [hg]
      rw [if_pos ⟨wkp_ne, wkp_ne⟩]
      rfl
    simp only [ne_eq, not_true_eq_false, if_false]
    rw [hf]
    unfold tmade
    dsimp only
    rw [if_neg (show ¬ ndz = wkn1 from fun e => wkn1_ne e.symm), if_pos rfl, if_neg wkq1_ne]
    rfl
  refine ⟨{ wks1.more m2 with gone := [wkp, wkq1, wkr] }, ?_, rfl⟩
  unfold tset
  rw [hlv, wkr_may, e1]
  simp only [Bool.and_self, if_true, List.length_singleton, ne_eq, not_true_eq_false, if_false, List.cons_ne_nil]
  have hg : tgrps shRd shNw shOd 9 1 (wks1.more m) wkn2 [(9, ptz)] = ({ wks1.more m2 with gone := [wkp, wkq1] }, ndz, 0) := by
    rw [tgrps]
    simp only [show 9 / 8 = 1 from rfl]
    have hq : wkn2.getD 1 ptz = wkq1 := getD_set_self (by decide)
    rw [grp_one, hq, hl]
    rfl
  rw [hg]
  simp only [not_true_eq_false, if_false]
  unfold tmade
  rw [if_neg (show ¬ ndz = wkn2 from fun e => wkn2_ne e.symm), if_pos rfl, if_neg wkr_ne]
  rfl
theorem bld_sh {w : World} {K : Value → World → Prop} : VBld Tryz.prog 30 [(4, .int .i64 (-1))] w K = K (.agg #[.slice none 0 0, .slice none 0 0, .slice none 0 0, .slice none 0 0, .int .i64 (-1), .slice none 0 0]) w := by
  simp [go_sem]
theorem ShH.new {w : World} {g : Nat} (W0 : World) (hb : w.heap[g]? = some (.cells #[.slice none 0 0, .slice none 0 0, .slice none 0 0, .slice none 0 0, .int .i64 (-1), .slice none 0 0] 30 (0, 0))) : ShH g W0 (fun _ => False) sh0 w (one g) := by
  have hgl := lt_of_block hb
  have nl : ∀ {e n : Nat}, RowH e n (.slice none 0 0) 0 [] w (fun _ => False) := fun {e n} => ⟨World.ownsRow_nil _ _ _ _, fun k hk => by simp [Value.ownBlock] at hk, fun k hk => hk.elim⟩
  have st : ∀ {H : HP} {l : List HP}, H w (fun _ => False) → SepL l w (fun _ => False) → SepL (H :: l) w (fun _ => False) := fun {H l} a b => ⟨_, _, a, b, fun _ h => h.elim, fun _ h => h.elim id id, fun _ h => h.elim⟩
  refine ⟨.slice none 0 0, .slice none 0 0, .slice none 0 0, .slice none 0 0, .slice none 0 0, [], ⟨fun p hp => (by cases hp), fun p hp => (by cases hp), fun p hp => (by cases hp), fun p hp => (by cases hp), by decide, by decide, by decide, by decide⟩, rfl, ?_⟩
  refine ⟨one g, fun _ => False, ⟨hb, rfl, fun k hk => by simp only [one] at hk; omega⟩, ?_, fun _ _ h => h, fun k hk => hk.elim id fun h => h.elim, fun k hk => by simp only [one] at hk; omega⟩
  refine st nl (st nl (st nl (st nl (st ?_ fun _ h => h.elim))))
  exact ⟨fun i v b h => by simp at h, Sl.nil w, fun k hk => by simp [Value.ownBlock] at hk, fun k hk => hk.elim, fun k hk => hk.elim⟩
theorem ptLst_set {w : World} {v : Value} {l : List Pt} (h : PtLst w v l) (hin : ∀ p ∈ l, PtOk p) {i : Nat} {p : Pt} (hi : l[i]? = some p) : ∃ b off c cs T fr, v = .slice (some ⟨b, off, none⟩) l.length c ∧ w.heap[b]? = some (.cells cs T fr) ∧ cs.extract (off + i * 41) (off + i * 41 + 41) = pt p ∧ off + i * 41 + 41 ≤ cs.size ∧ v.ownBlock = some b := by
  obtain ⟨b, off, c, cs, T, fr, h1, h2, h3, h4⟩ := h.elem (by decide) (fun q hq => pt_size (hin q hq)) hi
  exact ⟨b, off, c, cs, T, fr, h1, h2, h3, h4, by rw [h1]; rfl⟩
end Go.Proofs.YtnefdmbdkljifaaGreatDoor

/- A table that is known, in plain Lean. No condition. -/
namespace Go.Proofs.YtnefdmbdkljifaaGreatDoor
open Go.RowKit Go.Kin

def wti : In := ⟨1, 1, 0, ptz⟩
def wtI : List (Nat × In) := [(1, wti), (5, wti)]
def wtL : List In := ibz.set 1 wti
def wtp0 : Pt := shp 1 (tbp 0) (bytesI wtL)
def wtp1 : Pt := shp 2 (tbp 1) (bytesI wtL)
def wtn1 : List Pt := (ndz.set 0 wtp0).set 1 wtp1
def wtq : Pt := shp 3 (nwp 1 0 0) (bytesN wtn1)
def wtn2 : List Pt := ndz.set 0 wtq
def wtr : Pt := shp 4 (nwp 2 0 0) (bytesN wtn2)
def wts : Shf := ⟨[bytesI wtL, bytesI wtL, bytesN wtn1, bytesN wtn2], [], [wtp0, wtp1, wtq, wtr], [], -1, []⟩
theorem wti_ok : InOk wti := ⟨by decide, by decide, by decide, ptz_ok⟩
theorem wtI_ok : ∀ x ∈ wtI, ItOk x := fun x hx => by
  simp [wtI] at hx
  rcases hx with rfl | rfl
  · exact ⟨by decide, wti_ok⟩
  · exact ⟨by decide, wti_ok⟩
theorem wtL_ne : wtL ≠ ibz := by decide
theorem wtL_may : wtL.all mayI = true := by decide +kernel
theorem wtI_good : btOk none wtI = true := by decide +kernel
theorem wtp0_ok : PtOk wtp0 := tbp_shp (by decide) (by decide) _
theorem wtp1_ok : PtOk wtp1 := tbp_shp (by decide) (by decide) _
theorem wtp0_good : okP wtp0 = true := okP_iff.2 (.inr (tbp_may (by decide) _))
theorem wtp1_good : okP wtp1 = true := okP_iff.2 (.inr (tbp_may (by decide) _))
theorem wtq_ok : PtOk wtq := shp_ok (by decide) (by decide) (by decide) (by decide) _
theorem wtq_good : okP wtq = true := okP_iff.2 (.inr (shp_may (by decide) (.inl rfl) _))
theorem wtr_ok : PtOk wtr := shp_ok (by decide) (by decide) (by decide) (by decide) _
theorem wtp0_ne : wtp0 ≠ ptz := fun e => by
  have := congrArg Pt.b e
  cases this
theorem wtp1_ne : wtp1 ≠ ptz := fun e => by
  have := congrArg Pt.b e
  cases this
theorem wtq_ne : wtq ≠ ptz := fun e => by
  have := congrArg Pt.b e
  cases this
theorem set_all {n : List Pt} {k : Nat} {p : Pt} (hn : n.all okP = true) (h : okP p = true) : (n.set k p).all okP = true := by
  rw [List.all_eq_true] at *
  intro x hx
  rcases List.mem_or_eq_of_mem_set hx with h1 | rfl
  · exact hn x h1
  · exact h
theorem wtn1_all : wtn1.all okP = true := set_all (set_all (by decide) wtp0_good) wtp1_good
theorem wtn2_all : wtn2.all okP = true := set_all (by decide) wtq_good
theorem wtn1_ne : wtn1 ≠ ndz := fun e => by
  have h : wtn1.getD 1 ptz = wtp1 := getD_set_self (by decide)
  rw [e, ndz_get] at h
  exact wtp1_ne h.symm
theorem wtn2_ne : wtn2 ≠ ndz := fun e => by
  have h : wtn2.getD 0 ptz = wtq := getD_set_self (by decide)
  rw [e, ndz_get] at h
  exact wtq_ne h.symm
theorem tget_z (s : Shf) {o : Nat} (ho : o < 64) : tget shRd s ptz o = (s, ptz, 0) := by
  have h1 : tread shRd s ptz = (s, ndz, 0) := by unfold tread; rw [if_pos rfl]
  unfold tget
  rw [show mayT ptz = true by decide, decide_eq_true ho]
  simp only [Bool.and_self, if_true]
  unfold tgo
  rw [h1]
  simp only [ne_eq, not_true_eq_false, if_false, ndz_get]
  unfold tgo
  rw [h1]
  simp only [ne_eq, not_true_eq_false, if_false, ndz_get]
  unfold tgo
  rfl
theorem bread_z (s : Shf) : bread shRd s ptz = (s, ibz, 0) := by unfold bread; rw [if_pos rfl]
def wts1 : Shf := ⟨[bytesI wtL], [], [wtp0], [], -1, []⟩
def wts2 : Shf := ⟨[bytesI wtL, bytesI wtL], [], [wtp0, wtp1], [], -1, []⟩
theorem wt_b0 : bmade shRd shNw sh0 ptz 0 (btgrp wtI 0) = (wts1, wtp0, true, 0) := by
  have e : bset ibz (btgrp wtI 0) = wtL := by decide +kernel
  unfold bmade
  rw [tget_z sh0 (by decide)]
  simp only [ne_eq, not_true_eq_false, if_false]
  rw [bread_z]
  simp only [not_true_eq_false, if_false]
  rw [e, if_neg wtL_ne, if_neg wtL_ne, if_neg (by rw [wtL_may]; simp)]
  rfl
theorem wt_b1 : bmade shRd shNw wts1 ptz 1 (btgrp wtI 1) = (wts2, wtp1, true, 0) := by
  have e : bset ibz (btgrp wtI 1) = wtL := by decide +kernel
  unfold bmade
  rw [tget_z wts1 (by decide)]
  simp only [ne_eq, not_true_eq_false, if_false]
  rw [bread_z]
  simp only [not_true_eq_false, if_false]
  rw [e, if_neg wtL_ne, if_neg wtL_ne, if_neg (by rw [wtL_may]; simp)]
  rfl
def wts3 : Shf := ⟨[bytesI wtL, bytesI wtL, bytesN wtn1], [], [wtp0, wtp1, wtq], [], -1, []⟩
theorem wt_tset : tset shRd shNw shOd 0 wts2 ptz [(0, wtp0), (1, wtp1)] = (wts, wtr, 0) := by
  have hlv : lvGood none [(0, wtp0), (1, wtp1)] = true := by
    rw [lvGood_cons, lvGood_cons, wtp0_good, wtp1_good]
    rfl
  have h1 : tread shRd wts2 ptz = (wts2, ndz, 0) := by unfold tread; rw [if_pos rfl]
  have hl : tlow shRd shNw shOd 0 wts2 ptz 0 [(0, wtp0), (1, wtp1)] = (wts3, wtq, 0) := by
    unfold tlow
    rw [h1]
    have hf : [(0, wtp0), (1, wtp1)].foldl (tput shOd) (wts2, ndz) = (wts2, wtn1) := by
      rw [List.foldl_cons, List.foldl_cons, List.foldl_nil]
      have e1 : tput shOd (wts2, ndz) (0, wtp0) = (wts2, ndz.set 0 wtp0) := by
        unfold tput
        rw [if_neg (fun e => e.2 (ndz_get _))]
        rfl
      have e2 : tput shOd (wts2, ndz.set 0 wtp0) (1, wtp1) = (wts2, wtn1) := by
        unfold tput
        rw [if_neg (fun e => e.2 (by
          show (ndz.set 0 wtp0).getD 1 ptz = ptz
          rw [getD_set_ne (by decide), ndz_get]))]
        rfl
      rw [e1, e2]
    simp only [ne_eq, not_true_eq_false, if_false]
    rw [hf]
    unfold tmade
    dsimp only
    rw [if_neg wtn1_ne, if_neg wtn1_ne, if_neg (by rw [wtn1_all]; simp), if_pos rfl]
    rfl
  unfold tset
  rw [hlv, show mayT ptz = true by decide, h1]
  simp only [Bool.and_self, if_true, ne_eq, not_true_eq_false, if_false, List.cons_ne_nil, List.length_cons, List.length_nil]
  have hg : tgrps shRd shNw shOd 0 2 wts2 ndz [(0, wtp0), (1, wtp1)] = (wts3, wtn2, 0) := by
    rw [tgrps]
    simp only [show 0 / 8 = 0 from rfl]
    have hgr : grp 0 [(0, wtp0), (1, wtp1)] = [(0, wtp0), (1, wtp1)] := by
      unfold grp
      rw [List.takeWhile_cons, if_pos (by simp), List.takeWhile_cons, if_pos (by simp)]
      rfl
    rw [hgr, ndz_get, hl]
    rfl
  rw [hg]
  simp only [not_true_eq_false, if_false]
  unfold tmade
  rw [if_neg wtn2_ne, if_neg wtn2_ne, if_neg (by rw [wtn2_all]; simp), if_pos rfl]
  rfl
theorem wt_set : btset shRd shNw shOd sh0 ptz wtI = (wts, wtr, 0) := by
  have ho : offsL wtI = [0, 1] := by decide +kernel
  have hg : btgs shRd shNw ptz wtI [0, 1] sh0 [] = (wts2, [(0, wtp0), (1, wtp1)], 0) := by
    rw [btgs, wt_b0]
    simp only [ne_eq, not_true_eq_false, if_false, if_true, List.nil_append]
    rw [btgs, wt_b1]
    simp only [ne_eq, not_true_eq_false, if_false, if_true]
    rw [btgs]
    rfl
  unfold btset
  rw [if_pos wtI_good, ho, hg]
  simp only [ne_eq, not_true_eq_false, if_false]
  exact wt_tset
def wtv : List In := nxtI (List.replicate 256 inz) wtI
theorem wt_tab : ∃ n h, TabP wts.bl wtr n h wtv := by
  obtain ⟨s', r, n, h', e, t, _⟩ := btset_sh (s := sh0) (root := ptz) (top := ndz) (h := List.replicate 64 ptz) (v := List.replicate 256 inz) (l := wtI) (TabP.z _) rfl rfl (by decide) wtI_good wtI_ok
  rw [wt_set] at e
  have e1 := Prod.mk.inj e
  have e2 := Prod.mk.inj e1.2
  refine ⟨n, h', ?_⟩
  rw [e1.1, e2.1]
  exact t
theorem wtv_5 : wtv.getD 5 inz = wti := by decide +kernel
theorem wtv_2 : wtv.getD 2 inz = inz := by decide +kernel
theorem wtv_its : itsOf wtv 256 = wtI := by decide +kernel
theorem wtv_blk : blkN wtv = 4 := by decide +kernel
end Go.Proofs.YtnefdmbdkljifaaGreatDoor

namespace Go.Kin
open Go Go.RowKit
theorem blit2 {Z cs ds : Array Value} (hZ : Z.size = cs.size + ds.size) : blit (blit Z 0 cs) cs.size ds = cs ++ ds := by
  apply Array.ext'
  simp [blit]
  omega
theorem run_buildSlice2 {P : Program} {t e size : Nat} {cs ds : Array Value} {z : Value} (ht : P.underlying t = some (.slice e)) (hs : ∀ w, (sizeOf e).run P w = .ok size w) (hz : (P.info? e).bind (·.zero) = some z) (hc : cs.size = size) (hd : ds.size = size) (h0 : 0 < size) (h24 : size ≤ 8388608) (w : World) :
    (Instr.buildSlice t 2 #[(0, .agg cs), (1, .agg ds)]).run P w = .ok (.slice (some ⟨w.heap.size, 0, none⟩) 2 2) (w.alloc (.cells (cs ++ ds) e)) := by
  cases hi : P.info? e with
  | none => simp [hi] at hz
  | some i =>
    simp [hi] at hz
    have hf : ∀ Z : Array Value, Z.size = 2 * size → fillB (fun i => some (i * size, size)) Z [(0, .agg cs), (1, .agg ds)] = some (cs ++ ds) := fun Z hZ => by
      have e1 : (blit Z 0 cs).size = 2 * size := by rw [blit_size (by omega), hZ]
      have e2 := blit2 (Z := Z) (cs := cs) (ds := ds) (by omega)
      rw [hc] at e2
      have g1 : size ≤ Z.size := by omega
      have g2 : size + size ≤ (blit Z 0 cs).size := by omega
      simp [fillB, Value.cells, hc, hd, g1, g2, e2]
    have hf := hf ((Array.range (2 * size)).map fun x => z.cells[x % z.cells.size]!) (by simp)
    rw [← fill_eq] at hf
    have q1 : ¬ 2 * size = 0 := by omega
    have q2 : ¬ 16777216 < 2 * size := by omega
    simp [Instr.buildSlice, run_underlying ht, hs, zeroValue, typeInfo, hi, hz, q1, q2, newRow, show ¬ size = 0 by omega]
    simp only [hf]
    simp
/-- a slice of two values, built: as a constant -/
def VBs2 (P : Program) (t : TypeId) (v v2 : Value) (w : World) (K : Value → World → Prop) : Prop := VR ((Instr.buildSlice t 2 #[(0, v), (1, v2)]).run P w) K
theorem VX_bsl2 (P : Program) (ρ : Operand → Value) (w : World) (K : Value → World → Prop) (d : Option Tmp) (ty : TypeId) (pos : String) (aft : Array Edge) (g : Option (Nat × Bool)) (t : TypeId) (x y : Operand) :
    VX P ρ ⟨d, .buildSlice t 2 [(0, x), (1, y)].toArray, ty, pos, aft, g⟩ w K = VBs2 P t (ρ x) (ρ y) w K := by
  rw [VX_buildSlice]
  rfl
theorem VBs2_run {P : Program} {t : TypeId} {v v2 v' : Value} {w w' : World} {K : Value → World → Prop} (h : (Instr.buildSlice t 2 #[(0, v), (1, v2)]).run P w = .ok v' w') (hk : K v' w') : VBs2 P t v v2 w K := by
  unfold VBs2 VR
  rw [h]
  exact hk
attribute [irreducible] VBs2
end Go.Kin
namespace Go.Proofs.YtnefdmbdkljifaaGreatDoor
open Go.RowKit Go.Kin

theorem bld_ino2 (k n : Nat) {w : World} {K : Value → World → Prop} : VBld Tryz.prog 56 [(0, .int .u8 k), (1, .int .u16 n)] w K = K (.agg (ino ⟨k, n, 0, ptz⟩)) w := by
  refine VBld_struct Tryz.underlying56 hz_ino (places := #[(0, 1), (1, 1), (2, 1), (3, 41)]) (by simp [go_sem]) ?_
  have hz : (ino inz).size = 44 := ino_size inz_ok
  simp [fillB, zc_ino, Value.cells, hz, blit_size, blit_ino2]
section
variable {g : Nat} {W W0 w w0 : World} {K Bk : Nat → Prop} {s : Shf}
theorem kept_gl {O : Nat → Prop} (envW : TEnv W) (hW : ∀ k, O k → W.heap.size ≤ k) : GlOk (ShH g W0 Bk) O := .inl fun k hk e => by
  have := hW k e
  have := envW.lt k hk
  omega
theorem kset (kp : Keep W w0 w K (ShH g W0 Bk s)) (envW : TEnv W) (hm : 9000 ≤ shM s) (p : Pt) (ok : PtOk p) (lv : Value) (l : List (Nat × In)) (hl : Lst w lv itL 45 l) (hin : ∀ x ∈ l, ItOk x) (hlK : ∀ j, lv.ownBlock = some j → K j) (hll : l.length ≤ 1000) :
    Ret Tryz.prog 8 #[shV g, .agg (pt p), lv] w fun v' w' => (v' = .tuple #[.agg (pt (btset shRd shNw shOd s p l).2.1), .int .i64 (btset shRd shNw shOd s p l).2.2] ∧ PtOk (btset shRd shNw shOd s p l).2.1) ∧ Keep W w0 w' K (ShH g W0 Bk (btset shRd shNw shOd s p l).1) :=
  kp.step fun O hS hW hK => (btset_any (shSnk g W0 Bk) hm (ShH.ok _ _ _) hS p ok lv l hl hin (fun j hj => ⟨hK j (hlK j hj), Nat.lt_of_lt_of_le (kp.lt j (hlK j hj)) kp.ck.size⟩) hll (envW.ch kp.ch fun _ _ e => e) (kept_gl envW hW)).mono fun v' w' ⟨h1, h2, h3, h4⟩ => ⟨⟨h1, h2⟩, h3, h4⟩
theorem kget (kp : Keep W w0 w K (ShH g W0 Bk s)) (envW : TEnv W) (hm : 48 ≤ shM s) (p : Pt) (ok : PtOk p) (n : Nat) (hn : n < 65536) :
    Ret Tryz.prog 13 #[shV g, .agg (pt p), .int .u16 n] w fun v' w' => v' = .tuple #[.agg (ino (btget shRd s p n).2.1), .int .i64 (btget shRd s p n).2.2] ∧ Keep W w0 w' K (ShH g W0 Bk (btget shRd s p n).1) :=
  kp.step fun O hS hW hK => btget_any (shSnk g W0 Bk).rd hm (ShH.ok _ _ _) hS p ok n hn (envW.ch kp.ch fun _ _ e => e) (kept_gl envW hW)
theorem kall (kp : Keep W w0 w K (ShH g W0 Bk s)) (envW : TEnv W) (hm : 1200 ≤ shM s) (p : Pt) (ok : PtOk p) :
    Ret Tryz.prog 14 #[shV g, .agg (pt p)] w fun v' w' => ∃ vi vn, v' = .tuple #[vi, vn, .int .i64 (btall shRd s p).2.2.2] ∧ w'.ownsRow 0 76 45 vi (btall shRd s p).2.1.length (rowsL itv (btall shRd s p).2.1) ∧ w'.ownsRow 0 37 41 vn (btall shRd s p).2.2.1.length (rowsL pt (btall shRd s p).2.2.1) ∧
      Keep W w' w' (fun k => K k ∨ vi.ownBlock = some k ∨ vn.ownBlock = some k) (ShH g W0 Bk (btall shRd s p).1) ∧ Ch (fun k => ¬ K k) w0 w' := by
  have h := kp.stepO (R := fun v' w' O' => ∃ vi vn, v' = .tuple #[vi, vn, .int .i64 (btall shRd s p).2.2.2] ∧ w'.ownsRow 0 76 45 vi (btall shRd s p).2.1.length (rowsL itv (btall shRd s p).2.1) ∧ w'.ownsRow 0 37 41 vn (btall shRd s p).2.2.1.length (rowsL pt (btall shRd s p).2.2.1) ∧ (∀ k, vi.ownBlock = some k → ¬ O' k) ∧ ∀ k, vn.ownBlock = some k → ¬ O' k) (H' := ShH g W0 Bk (btall shRd s p).1) fun O hS hW hK =>
    (btall_any (shSnk g W0 Bk).rd hm (ShH.ok _ _ _) hS p ok (envW.ch kp.ch fun _ _ e => e) (kept_gl envW hW)).mono fun v' w' ⟨vi, vn, O', h1, h2, h3, h4, h5, h6, h7, h8⟩ => ⟨O', ⟨vi, vn, h1, h2, h3, fun k hk => (h6 k hk).1, fun k hk => (h7 k hk).1⟩, h4, h5, h8⟩
  refine h.mono ?_
  rintro v' w' ⟨O', ⟨vi, vn, h1, h2, h3, h4, h5⟩, h6, h7, h8⟩
  exact ⟨vi, vn, h1, h2, h3, h6 _ fun k hk => by
    rcases hk with hk | hk | hk
    · exact h7 k hk
    · exact ⟨h4 k hk, own_in h2 k hk⟩
    · exact ⟨h5 k hk, own_in h3 k hk⟩, h8⟩
end
set_option maxRecDepth 100000 in
set_option maxHeartbeats 8000000 in
theorem kwakes_any (w : World) (env : TEnv w) : Ret Tryz.prog 7 #[] w fun v' w' => v' = .bool true ∧ Ch Nw w w' := by
  refine v_enter Tryz.func7 Tryz.ntmps7 rfl (by simp) fun R' hR => ?_
  have hns := ino_size wti_ok
  have hna := ino_all wti_ok
  have hnz := ino_size inz_ok
  have hzs := pt_size ptz_ok
  have hza := pt_all ptz_ok
  have hi1 : ItOk (1, wti) := ⟨by decide, wti_ok⟩
  have hi5 : ItOk (5, wti) := ⟨by decide, wti_ok⟩
  have bi1 : ∀ {w : World} {K : Value → World → Prop}, VBld Tryz.prog 76 [(0, .int .u16 1), (1, .agg (ino wti))] w K = K (.agg (itv (1, wti))) w := fun {w K} => bld_it (1, wti) hi1
  have bi5 : ∀ {w : World} {K : Value → World → Prop}, VBld Tryz.prog 76 [(0, .int .u16 5), (1, .agg (ino wti))] w K = K (.agg (itv (5, wti))) w := fun {w K} => bld_it (5, wti) hi5
  have bn : ∀ {w : World} {K : Value → World → Prop}, VBld Tryz.prog 56 [(0, .int .u8 1), (1, .int .u16 1)] w K = K (.agg (ino wti)) w := fun {w K} => bld_ino2 1 1
  obtain ⟨n12, hn12⟩ : ∃ x, wti = x := ⟨_, rfl⟩
  rw [hn12] at hns hna hi1 hi5 bi1 bi5 bn
  have b0 := al2_0 w (.cells #[.slice none 0 0, .slice none 0 0, .slice none 0 0, .slice none 0 0, .int .i64 (-1), .slice none 0 0] 30) (.cells (ino n12) 56)
  have b1 := al2_1 w (.cells #[.slice none 0 0, .slice none 0 0, .slice none 0 0, .slice none 0 0, .int .i64 (-1), .slice none 0 0] 30) (.cells (ino n12) 56)
  have ca := ((Ch.refl Nw w).alloc (.cells #[.slice none 0 0, .slice none 0 0, .slice none 0 0, .slice none 0 0, .int .i64 (-1), .slice none 0 0] 30)).alloc (.cells (ino n12) 56)
  have sa : ((w.alloc (.cells #[.slice none 0 0, .slice none 0 0, .slice none 0 0, .slice none 0 0, .int .i64 (-1), .slice none 0 0] 30)).alloc (.cells (ino n12) 56)).heap.size = w.heap.size + 2 := by simp
  obtain ⟨w1, hw1⟩ : ∃ w1, (w.alloc (.cells #[.slice none 0 0, .slice none 0 0, .slice none 0 0, .slice none 0 0, .int .i64 (-1), .slice none 0 0] 30)).alloc (.cells (ino n12) 56) = w1 := ⟨_, rfl⟩
  rw [hw1] at b0 b1 ca sa
  have hsr := setRow_alloc (w.alloc (.cells #[.slice none 0 0, .slice none 0 0, .slice none 0 0, .slice none 0 0, .int .i64 (-1), .slice none 0 0] 30)) (ino inz) (ino n12) 56 (0, 0)
  rw [show (w.alloc (.cells #[.slice none 0 0, .slice none 0 0, .slice none 0 0, .slice none 0 0, .int .i64 (-1), .slice none 0 0] 30)).heap.size = w.heap.size + 1 by simp, hw1] at hsr
  simp [↓VX_bsl2, go_sem, bld_sh, bn, hz_ino, zc_ino, hns, hna, hnz, blit_whole, hsr, b1, bld_pt0, bi1, bi5]
  clear hsr hw1
  obtain ⟨g, hg⟩ : ∃ g, w.heap.size = g := ⟨_, rfl⟩
  rw [hg] at b0 b1 sa ⊢
  have hgl : ∀ k, glT k → k < g := fun k hk => by have := env.lt k hk; omega
  have kp1 : Keep w w1 w1 (Kin.one (g + 1)) (ShH g w (fun _ => False) sh0) := ⟨⟨Kin.one g, ShH.new w b0, fun k hk => by simp only [Kin.one] at hk; omega, fun k hk e => by simp only [Kin.one] at hk e; omega⟩, fun k hk => by simp only [Kin.one] at hk; omega, Ch.refl _ _, ca⟩
  refine VBs2_run (run_buildSlice2 (size := 45) (z := .agg (itv (0, inz))) Tryz.underlying43 Tryz.sizeOf76 (by kernel_rfl) (itv_size hi1) (itv_size hi5) (by decide) (by decide) _) ?_
  have c2 := (Ch.refl Nw w1).alloc (.cells (itv (1, n12) ++ itv (5, n12)) 76)
  have b2 := hp_alloc w1 (.cells (itv (1, n12) ++ itv (5, n12)) 76)
  have s2 : (w1.alloc (.cells (itv (1, n12) ++ itv (5, n12)) 76)).heap.size = g + 3 := by simp [sa]
  rw [sa] at b2 ⊢
  have hin2 : ∀ x ∈ [(1, n12), (5, n12)], ItOk x := fun x hx => by
    simp at hx
    rcases hx with rfl | rfl
    · exact hi1
    · exact hi5
  have hsz : ∀ x ∈ [(1, n12), (5, n12)], (itv x).size = 45 := fun x hx => itv_size (hin2 x hx)
  have own2 : (w1.alloc (.cells (itv (1, n12) ++ itv (5, n12)) 76)).ownsRow 0 76 45 (.slice (some ⟨g + 2, 0, none⟩) 2 2) [(1, n12), (5, n12)].length (rowsL itv [(1, n12), (5, n12)]) := by
    have e : (itv (1, n12) ++ itv (5, n12)).toList = rowsL itv [(1, n12), (5, n12)] := by simp [rowsL]
    have e2 : (itv (1, n12) ++ itv (5, n12)).size = 2 * 45 := by rw [Array.size_append, itv_size hi1, itv_size hi5]
    have e3 := rowsL_length [(1, n12), (5, n12)] hsz
    exact ⟨e3, .inr ⟨g + 2, 2, _, rfl, Nat.zero_le _, b2, Nat.le_refl _, by decide, e2, by rw [e]; exact List.take_of_length_le (by rw [e3]; exact Nat.le_refl _)⟩⟩
  have kp2 := kp1.more (ShH.ok _ _ _ _) c2
  have b12 := c2.obj b1 id
  generalize w1.alloc (.cells (itv (1, n12) ++ itv (5, n12)) 76) = w2 at *
  have hl2 : Lst w2 (.slice (some ⟨g + 2, 0, none⟩) 2 2) itL 45 [(1, n12), (5, n12)] := Lst.of_own own2 hsz
  obtain ⟨K2, hK2⟩ : ∃ K2 : Nat → Prop, (fun k => Kin.one (g + 1) k ∨ (w1.heap.size ≤ k ∧ k < w2.heap.size)) = K2 := ⟨_, rfl⟩
  rw [hK2] at kp2
  have k21 : K2 (g + 1) := by rw [← hK2]; exact .inl rfl
  have k22 : K2 (g + 2) := by rw [← hK2]; exact .inr ⟨by omega, by omega⟩
  have hset := wt_set
  rw [wtI, hn12] at hset
  simp [go_sem]
  refine (kset kp2 env (by simp [shM, sh0]) ptz ptz_ok _ _ hl2 hin2 (fun j hj => by simp [Value.ownBlock] at hj; subst hj; exact k22) (by simp)).mono ?_
  rw [hset]
  rintro _ w3 ⟨⟨rfl, okr⟩, kp3⟩
  have kp3 : Keep w w2 w3 K2 (ShH g w (fun _ => False) wts) := kp3
  have okr : PtOk wtr := okr
  have b13 := kp3.blk k21 b12
  obtain ⟨O3, hS3, _, _⟩ := kp3.ex
  obtain ⟨vB, vD, vM, vG, vR, hb3, hM3, _, _, hMO, hgO, _⟩ := hS3.reads
  have lnM := hM3.len Tryz.underlying28 3
  have okm : ∀ p ∈ wts.made, PtOk p := fun p hp => by
    simp [wts] at hp
    rcases hp with rfl | rfl | rfl | rfl
    · exact wtp0_ok
    · exact wtp1_ok
    · exact wtq_ok
    · exact wtr_ok
  obtain ⟨bM, oM, cM, csM, TM, frM, hvM, hbM, hx3, hz3, _⟩ := ptLst_set hM3 okm (i := 3) (p := wtr) rfl
  obtain ⟨A0, c0, hv0, _, _, hrM⟩ := id hM3
  rw [hvM] at hv0
  injection hv0 with e1 _ e3
  subst e1 e3
  obtain ⟨bM', oM', hAM, _, hcM⟩ := hrM (by decide)
  injection hAM with hAM
  injection hAM with h1a h1b
  subst h1a h1b
  have c00 : w3.cell? ⟨bM, oM, none⟩ = some (.int .u8 4) := hcM 0 wtp0 0 _ rfl rfl
  rw [hvM] at hb3
  have k2c : w3.cell? ⟨g, 2, none⟩ = some (.slice (some ⟨bM, oM, none⟩) 4 cM) := cell_blk hb3 2
  have lnM : ∀ w', (Builtin.len_ #[28] 3 #[.slice (some ⟨bM, oM, none⟩) 4 cM]).run Tryz.prog w' = .ok (.int .i64 4) w' := fun w' => by
    rw [show (.slice (some ⟨bM, oM, none⟩) 4 cM : Value) = vM from hvM.symm]
    exact lnM w'
  obtain ⟨n3, h3, tab⟩ := wt_tab
  obtain ⟨r, hr⟩ : ∃ r, wtr = r := ⟨_, rfl⟩
  rw [hr] at okr hx3 tab ⊢
  have hrs := pt_size okr
  have hra := pt_all okr
  have heqr : ∀ w, (Op.equalIn 10000 37 (.agg (pt r)) (.agg (pt r))).run Tryz.prog w = .ok true w := fun w => by rw [eq_pt w okr okr, decide_eq_true rfl]
  have c4 := (Ch.refl Nw w3).alloc (.cells (pt r) 37)
  have b4 := hp_alloc w3 (.cells (pt r) 37)
  have s4 : (w3.alloc (.cells (pt r) 37)).heap.size = w3.heap.size + 1 := by simp
  obtain ⟨w4, hw4⟩ : ∃ w4, w3.alloc (.cells (pt r) 37) = w4 := ⟨_, rfl⟩
  rw [hw4] at c4 b4 s4
  have kp4 := kp3.base.more (ShH.ok _ _ _ _) c4
  have b14 := c4.obj b13 id
  have c00 := c4.cell c00 id
  have hbM := c4.obj hbM id
  have k2c := c4.cell k2c id
  simp [go_sem, hz_pt, zc_pt, hrs, hra, hzs, blit_whole, hw4]
  obtain ⟨g4, hg4⟩ : ∃ g4, w3.heap.size = g4 := ⟨_, rfl⟩
  obtain ⟨K4, hK4⟩ : ∃ K4 : Nat → Prop, (fun k => K2 k ∨ (w3.heap.size ≤ k ∧ k < w4.heap.size)) = K4 := ⟨_, rfl⟩
  rw [hK4] at kp4
  have k41 : K4 (g + 1) := by rw [← hK4]; exact .inl k21
  have k4r : K4 g4 := by rw [← hK4, ← hg4]; exact .inr ⟨Nat.le_refl _, by omega⟩
  rw [hg4] at b4 ⊢
  clear hw4
  refine v_draw' [(0, none), (1, none), (2, none), (3, none), (4, none), (5, none), (6, none), (7, none), (8, none), (9, none), (10, none), (11, none), (12, none), (13, none), (14, none), (15, none), (16, none), (17, none), (18, none), (19, none), (20, none), (21, none), (22, none), (23, none), (24, none), (25, none), (26, none), (27, none), (28, none), (29, none)] (by kernel_rfl) (by kernel_rfl) ?_
  have cd4 : Ch Nw w4 w4.drew := (Ch.refl _ _).drew
  have kp5 := kp4.stay (ShH.ok _ _ _ _) cd4
  obtain ⟨w5, hw5⟩ : ∃ w5, w4.drew = w5 := ⟨_, rfl⟩
  rw [hw5] at cd4 kp5 ⊢
  have b15 := cd4.obj b14 id
  have b45 := cd4.obj b4 id
  have c005 := cd4.cell c00 id
  have hbM5 := cd4.obj hbM id
  have k2c5 := cd4.cell k2c id
  simp [go_sem, k2c5, lnM, c005, hbM5, hx3, hz3, b45, hrs, hra, heqr]
  have kp5 := kp5.base
  have hm0 : shM wts = 999999992 := rfl
  obtain ⟨l1, hl1, hget1⟩ := TabP.get (s := wts) tab rfl (n := 5) (by decide) (by decide)
  rw [wtv_5, hn12] at hget1
  refine (kget kp5 env (by omega) r okr 5 (by decide)).mono ?_
  rw [hget1]
  rintro _ w6 ⟨rfl, kp6⟩
  have kp6 : Keep w w5 w6 K4 (ShH g w (fun _ => False) (wts.more l1)) := kp6
  have b16 := kp6.blk k41 b15
  have b46 := kp6.blk k4r b45
  have c7 := (Ch.refl Nw w6).alloc (.cells (ino n12) 56)
  have b7 := hp_alloc w6 (.cells (ino n12) 56)
  have s7 : (w6.alloc (.cells (ino n12) 56)).heap.size = w6.heap.size + 1 := by simp
  obtain ⟨w7, hw7⟩ : ∃ w7, w6.alloc (.cells (ino n12) 56) = w7 := ⟨_, rfl⟩
  rw [hw7] at c7 b7 s7
  have kp7 := kp6.base.more (ShH.ok _ _ _ _) c7
  have b17 := c7.obj b16 id
  have b47 := c7.obj b46 id
  simp [go_sem, hz_ino, zc_ino, hns, hna, hnz, blit_whole, hw7, b47, hrs, hra]
  clear hw7
  obtain ⟨g7, hg7⟩ : ∃ g7, w6.heap.size = g7 := ⟨_, rfl⟩
  obtain ⟨K7, hK7⟩ : ∃ K7 : Nat → Prop, (fun k => K4 k ∨ (w6.heap.size ≤ k ∧ k < w7.heap.size)) = K7 := ⟨_, rfl⟩
  rw [hK7] at kp7
  have k71 : K7 (g + 1) := by rw [← hK7]; exact .inl k41
  have k74 : K7 g4 := by rw [← hK7]; exact .inl k4r
  have k77 : K7 g7 := by rw [← hK7, ← hg7]; exact .inr ⟨Nat.le_refl _, by omega⟩
  rw [hg7] at b7 ⊢
  have hm1 := shM_more wts l1
  obtain ⟨l2, hl2', hget2⟩ := TabP.get (s := wts.more l1) tab rfl (n := 2) (by decide) (by decide)
  rw [wtv_2, Shf.more_more] at hget2
  refine (kget kp7 env (by omega) r okr 2 (by decide)).mono ?_
  rw [hget2]
  rintro _ w8 ⟨rfl, kp8⟩
  have kp8 : Keep w w7 w8 K7 (ShH g w (fun _ => False) (wts.more (l1 ++ l2))) := kp8
  have b18 := kp8.blk k71 b17
  have b48 := kp8.blk k74 b47
  have b78 := kp8.blk k77 b7
  have c9 := (Ch.refl Nw w8).alloc (.cells (ino inz) 56)
  have b9 := hp_alloc w8 (.cells (ino inz) 56)
  have s9 : (w8.alloc (.cells (ino inz) 56)).heap.size = w8.heap.size + 1 := by simp
  obtain ⟨w9, hw9⟩ : ∃ w9, w8.alloc (.cells (ino inz) 56) = w9 := ⟨_, rfl⟩
  rw [hw9] at c9 b9 s9
  have kp9 := kp8.base.more (ShH.ok _ _ _ _) c9
  have b19 := c9.obj b18 id
  have b49 := c9.obj b48 id
  have b79 := c9.obj b78 id
  have hnza := ino_all inz_ok
  simp [go_sem, hz_ino, zc_ino, hnz, hnza, blit_whole]
  rw [hw9]
  clear hw9
  simp [go_sem, b49, hrs, hra]
  obtain ⟨g9, hg9⟩ : ∃ g9, w8.heap.size = g9 := ⟨_, rfl⟩
  obtain ⟨K9, hK9⟩ : ∃ K9 : Nat → Prop, (fun k => K7 k ∨ (w8.heap.size ≤ k ∧ k < w9.heap.size)) = K9 := ⟨_, rfl⟩
  rw [hK9] at kp9
  have k91 : K9 (g + 1) := by rw [← hK9]; exact .inl k71
  have k97 : K9 g7 := by rw [← hK9]; exact .inl k77
  have k99 : K9 g9 := by rw [← hK9, ← hg9]; exact .inr ⟨Nat.le_refl _, by omega⟩
  rw [hg9] at b9 ⊢
  have hm2 := shM_more wts (l1 ++ l2)
  rw [List.length_append] at hm2
  obtain ⟨l3, hl3, hall⟩ := TabP.all (s := wts.more (l1 ++ l2)) tab rfl
  have hblk := tab.blocks
  rw [wtv_blk] at hblk
  rw [wtv_its, wtI, hn12] at hall
  obtain ⟨ps, hps⟩ : ∃ ps, nodesOf r n3 ++ (lvsOf h3 64).map (·.2) = ps := ⟨_, rfl⟩
  rw [hps] at hall hblk
  refine (kall kp9 env (by omega) r okr).mono ?_
  rw [hall]
  rintro _ w10 ⟨vi, vn, rfl, own_i, own_n, kp10, c10⟩
  have b110 := c10.obj b19 fun e => e k91
  have b710 := c10.obj b79 fun e => e k97
  have b910 := c10.obj b9 fun e => e k99
  have own_i : w10.ownsRow 0 76 45 vi [(1, n12), (5, n12)].length (rowsL itv [(1, n12), (5, n12)]) := own_i
  have own_n : w10.ownsRow 0 37 41 vn ps.length (rowsL pt ps) := own_n
  have hLi : Lst w10 vi (fun x => (itv x).toList) 45 [(1, n12), (5, n12)] := Lst.of_own own_i hsz
  have lni := hLi.len Tryz.underlying43 3
  obtain ⟨bl, ofl, cl, csl, Tl, frl, hvel, hbwl, hexl, hcsl⟩ := hLi.elem (by decide) hsz (i := 1) (a := (5, n12)) rfl
  rw [hvel] at lni
  have lni : ∀ w', (Builtin.len_ #[43] 3 #[.slice (some ⟨bl, ofl, none⟩) 2 cl]).run Tryz.prog w' = .ok (.int .i64 2) w' := lni
  have hvel : vi = .slice (some ⟨bl, ofl, none⟩) 2 cl := hvel
  have lnn : ∀ w', (Builtin.len_ #[28] 3 #[vn]).run Tryz.prog w' = .ok (.int .i64 4) w' := fun w' => by
    have := (Sl.of_own own_n).len Tryz.underlying28 3 w'
    rw [hblk] at this
    exact this
  subst hvel
  have heq5 : ∀ w, (Op.equalIn 10000 76 (.agg (itv (5, n12))) (.agg (itv (5, n12)))).run Tryz.prog w = .ok true w := fun w => by rw [eq_it w hi5 hi5, decide_eq_true rfl]
  have heqn : ∀ w, (Op.equalIn 10000 56 (.agg (ino n12)) (.agg (ino n12))).run Tryz.prog w = .ok true w := fun w => by rw [eq_ino w hi5.i hi5.i, decide_eq_true rfl]
  have heqz : ∀ w, (Op.equalIn 10000 56 (.agg (ino inz)) (.agg (ino inz))).run Tryz.prog w = .ok true w := fun w => by rw [eq_ino w inz_ok inz_ok, decide_eq_true rfl]
  have h5s := itv_size hi5
  have h5o := itv_ones (x := (5, n12))
  have cW := kp10.ch
  simp [go_sem]
  refine v_draw' [(0, none), (1, none), (2, none), (3, none), (4, none), (5, none), (6, none), (7, none), (8, none), (9, none), (10, none), (11, none), (12, none), (13, none), (14, none), (15, none), (16, none), (17, none), (18, none), (19, none), (20, none), (21, none), (22, none), (23, none), (24, none), (25, none), (26, none), (27, none), (28, none), (29, none), (30, none), (31, none), (32, none), (33, none), (34, none), (35, none), (36, none), (37, none), (38, none)] (by kernel_rfl) (by kernel_rfl) ?_
  have cd : Ch Nw w10 w10.drew := (Ch.refl _ _).drew
  obtain ⟨w11, hw11⟩ : ∃ w11, w10.drew = w11 := ⟨_, rfl⟩
  rw [hw11] at cd ⊢
  have b111 := cd.obj b110 id
  have b711 := cd.obj b710 id
  have b911 := cd.obj b910 id
  have hbl11 := cd.obj hbwl id
  simp [go_sem, b711, b111, b911, hns, hna, hnz, hnza, heqn, heqz, bld_ino0, lni, lnn, hbl11, hexl, hcsl, h5s, h5o, bi5, heq5]
  exact hR _ _ ⟨rfl, cW.trans cd⟩
end Go.Proofs.YtnefdmbdkljifaaGreatDoor
