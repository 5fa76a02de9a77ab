/- A table that is known, in plain Lean. No condition. -/
import Derived.Test.YtnefdmbdkljifaaGreatDoorTrV
import Derived.Test.YtnefdmbdkljifaaGreatDoorTbU
set_option linter.unusedSimpArgs false
set_option linter.unusedVariables false

/- A tree that is known. Conditions: the variables ptr.wide and tree.hole hold what the text lays. -/
namespace Go.Proofs.YtnefdmbdkljifaaGreatDoor
open Go.RowKit Go.Kin

def sh0 : Shf := ⟨[], [], [], [], -1, []⟩
def wkp : Pt := lfp 1 9
def wkn1 : List Pt := ndz.set 1 wkp
def wkq1 : Pt := shp 1 (nwp 1 9 1) (bytesN wkn1)
def wkn2 : List Pt := ndz.set 1 wkq1
def wkr : Pt := shp 2 (nwp 2 9 0) (bytesN wkn2)
def wks1 : Shf := ⟨[bytesN wkn1, bytesN wkn2], [], [wkq1, wkr], [], -1, []⟩
theorem wkp_ok : PtOk wkp := lfp_ok (by decide) (by decide)
theorem wkp_ne : wkp ≠ ptz := lfp_ne _ _
theorem wkp_good : okP wkp = true := okP_iff.2 (.inr (lfp_may _ _))
theorem wkq1_ok : PtOk wkq1 := shp_ok (by decide) (by decide) (by decide) (by decide) _
theorem wkq1_ne : wkq1 ≠ ptz := fun e => by
  have := congrArg Pt.b e
  cases this
theorem wkq1_good : okP wkq1 = true := okP_iff.2 (.inr (shp_may (by decide) (.inl rfl) _))
theorem wkr_ok : PtOk wkr := shp_ok (by decide) (by decide) (by decide) (by decide) _
theorem wkr_ne : wkr ≠ ptz := fun e => by
  have := congrArg Pt.b e
  cases this
theorem wkr_may : mayT wkr = true := by
  have h : mayP wkr = true := shp_may (by decide) (.inr rfl) _
  unfold mayT
  rw [h]
  simp [wkr, shp, shq, nwp]
theorem one_ne {p : Pt} (h : p ≠ ptz) : ndz.set 1 p ≠ ndz := fun e => by
  have := congrArg (fun l => l.getD 1 ptz) e
  simp only [getD_set_self (show 1 < ndz.length by decide), ndz_get] at this
  exact h this
theorem one_all {p : Pt} (h : okP p = true) : (ndz.set 1 p).all okP = true := by
  rw [List.all_eq_true]
  intro x hx
  rcases List.mem_or_eq_of_mem_set hx with h1 | rfl
  · rw [(List.mem_replicate.1 h1).2]; rfl
  · exact h
theorem wkn1_ne : wkn1 ≠ ndz := one_ne wkp_ne
theorem wkn2_ne : wkn2 ≠ ndz := one_ne wkq1_ne
theorem wkn1_all : wkn1.all okP = true := one_all wkp_good
theorem wkn2_all : wkn2.all okP = true := one_all wkq1_good
theorem grp_one (p : Pt) : grp 1 [(9, p)] = [(9, p)] := by
  unfold grp
  rw [List.takeWhile_cons, if_pos (by simp)]
  rfl
theorem wk_set1 : tset shRd shNw shOd 9 sh0 ptz [(9, wkp)] = (wks1, wkr, 0) := by
  have hlv : lvGood none [(9, wkp)] = true := by rw [lvGood_cons, wkp_good]; rfl
  have hl : tlow shRd shNw shOd 9 sh0 ptz 1 [(9, wkp)] = (⟨[bytesN wkn1], [], [wkq1], [], -1, []⟩, wkq1, 0) := by
    unfold tlow
    rw [show tread shRd sh0 ptz = (sh0, ndz, 0) by unfold tread; rw [if_pos rfl]]
    have hf : [(9, wkp)].foldl (tput shOd) (sh0, ndz) = (sh0, wkn1) := by
      rw [List.foldl_cons, List.foldl_nil]
      unfold tput
      rw [if_neg (fun e => e.2 (ndz_get _))]
      rfl
    simp only [ne_eq, not_true_eq_false, if_false]
    rw [hf]
    unfold tmade
    dsimp only
    rw [if_neg wkn1_ne, if_neg wkn1_ne, if_neg (by rw [wkn1_all]; simp), if_pos rfl]
    rfl
  unfold tset
  rw [hlv, show mayT ptz = true by decide, show tread shRd sh0 ptz = (sh0, ndz, 0) by unfold tread; rw [if_pos rfl]]
  simp only [Bool.and_self, if_true, List.length_singleton, ne_eq, not_true_eq_false, if_false, List.cons_ne_nil]
  have hg : tgrps shRd shNw shOd 9 1 sh0 ndz [(9, wkp)] = (⟨[bytesN wkn1], [], [wkq1], [], -1, []⟩, wkn2, 0) := by
    rw [tgrps]
    simp only [show 9 / 8 = 1 from rfl]
    rw [grp_one, ndz_get, hl]
    rfl
  rw [hg]
  simp only [not_true_eq_false, if_false]
  unfold tmade
  rw [if_neg wkn2_ne, if_neg wkn2_ne, if_neg (by rw [wkn2_all]; simp), if_pos rfl]
  rfl
theorem wk_rs1 {bl : List (List UInt8)} (h : bl[0]? = some (bytesN wkn1)) : RsT bl wkq1 wkn1 := ⟨ndz_ok.set _ wkp_ok, one_all wkp_good, wkq1_ok, .inr ⟨wkq1_ne, one_ne wkp_ne, 0, rfl, h⟩⟩
theorem wk_rs2 {bl : List (List UInt8)} (h : bl[1]? = some (bytesN wkn2)) : RsT bl wkr wkn2 := ⟨ndz_ok.set _ wkq1_ok, one_all wkq1_good, wkr_ok, .inr ⟨wkr_ne, one_ne wkq1_ne, 1, rfl, h⟩⟩
theorem wk_map : nxtT (List.replicate 64 ptz) [(9, wkp)] = (List.replicate 64 ptz).set 9 wkp := rfl
theorem wk_tree : ∃ n, TreeP wks1.bl wkr n ((List.replicate 64 ptz).set 9 wkp) := by
  obtain ⟨s', r, n, h1, h2, _⟩ := tset_sh (s := sh0) (root := ptz) (t := ndz) (h := List.replicate 64 ptz) (TreeP.z _) rfl rfl rfl rfl (by decide) (obj := 9) (by decide) (l := [(9, wkp)]) (by simp) (by simp) (fun x hx => by
    simp at hx
    subst hx
    exact ⟨⟨wkp_ok, wkp_good⟩, .inr (show (1 : Nat) ≠ 3 by decide)⟩)
  rw [wk_set1] at h1
  injection h1 with e1 e2
  injection e2 with e3 e4
  subst e1 e3
  exact ⟨n, by rw [wk_map] at h2; exact h2⟩
theorem wk_set3 (l : List Pt) : ∃ s3, tset shRd shNw shOd 9 (wks1.more l) wkr [(9, ptz)] = (s3, ptz, 0) ∧ s3.gone = [wkp, wkq1, wkr] := by
  have hlv : lvGood none [(9, ptz)] = true := by decide
  have e1 := RsT.read (s := wks1.more l) (wk_rs2 rfl) rfl
  rw [if_neg wkr_ne, Shf.more_more] at e1
  obtain ⟨m, hm⟩ : ∃ m, l ++ [wkr] = m := ⟨_, rfl⟩
  rw [hm] at e1
  have e2 := RsT.read (s := wks1.more m) (wk_rs1 rfl) rfl
  rw [if_neg wkq1_ne, Shf.more_more] at e2
  obtain ⟨m2, hm2⟩ : ∃ m2, m ++ [wkq1] = m2 := ⟨_, rfl⟩
  rw [hm2] at e2
  have hl : tlow shRd shNw shOd 9 (wks1.more m) wkq1 1 [(9, ptz)] = ({ wks1.more m2 with gone := [wkp, wkq1] }, ptz, 0) := by
    unfold tlow
    rw [e2]
    have hf : [(9, ptz)].foldl (tput shOd) (wks1.more m2, wkn1) = ({ wks1.more m2 with gone := [wkp] }, ndz) := by
      rw [List.foldl_cons, List.foldl_nil]
      unfold tput
      have hg : wkn1.getD (9 % 8) ptz = wkp := getD_set_self (by decide)
      simp only [hg]
      rw [if_pos ⟨wkp_ne, wkp_ne⟩]
      rfl
    simp only [ne_eq, not_true_eq_false, if_false]
    rw [hf]
    unfold tmade
    dsimp only
    rw [if_neg (show ¬ ndz = wkn1 from fun e => wkn1_ne e.symm), if_pos rfl, if_neg wkq1_ne]
    rfl
  refine ⟨{ wks1.more m2 with gone := [wkp, wkq1, wkr] }, ?_, rfl⟩
  unfold tset
  rw [hlv, wkr_may, e1]
  simp only [Bool.and_self, if_true, List.length_singleton, ne_eq, not_true_eq_false, if_false, List.cons_ne_nil]
  have hg : tgrps shRd shNw shOd 9 1 (wks1.more m) wkn2 [(9, ptz)] = ({ wks1.more m2 with gone := [wkp, wkq1] }, ndz, 0) := by
    rw [tgrps]
    simp only [show 9 / 8 = 1 from rfl]
    have hq : wkn2.getD 1 ptz = wkq1 := getD_set_self (by decide)
    rw [grp_one, hq, hl]
    rfl
  rw [hg]
  simp only [not_true_eq_false, if_false]
  unfold tmade
  rw [if_neg (show ¬ ndz = wkn2 from fun e => wkn2_ne e.symm), if_pos rfl, if_neg wkr_ne]
  rfl
theorem bld_sh {w : World} {K : Value → World → Prop} : VBld Tryz.prog 30 [(4, .int .i64 (-1))] w K = K (.agg #[.slice none 0 0, .slice none 0 0, .slice none 0 0, .slice none 0 0, .int .i64 (-1), .slice none 0 0]) w := by
  simp [go_sem]
theorem ShH.new {w : World} {g : Nat} (W0 : World) (hb : w.heap[g]? = some (.cells #[.slice none 0 0, .slice none 0 0, .slice none 0 0, .slice none 0 0, .int .i64 (-1), .slice none 0 0] 30 (0, 0))) : ShH g W0 (fun _ => False) sh0 w (one g) := by
  have hgl := lt_of_block hb
  have nl : ∀ {e n : Nat}, RowH e n (.slice none 0 0) 0 [] w (fun _ => False) := fun {e n} => ⟨World.ownsRow_nil _ _ _ _, fun k hk => by simp [Value.ownBlock] at hk, fun k hk => hk.elim⟩
  have st : ∀ {H : HP} {l : List HP}, H w (fun _ => False) → SepL l w (fun _ => False) → SepL (H :: l) w (fun _ => False) := fun {H l} a b => ⟨_, _, a, b, fun _ h => h.elim, fun _ h => h.elim id id, fun _ h => h.elim⟩
  refine ⟨.slice none 0 0, .slice none 0 0, .slice none 0 0, .slice none 0 0, .slice none 0 0, [], ⟨fun p hp => (by cases hp), fun p hp => (by cases hp), fun p hp => (by cases hp), fun p hp => (by cases hp), by decide, by decide, by decide, by decide⟩, rfl, ?_⟩
  refine ⟨one g, fun _ => False, ⟨hb, rfl, fun k hk => by simp only [one] at hk; omega⟩, ?_, fun _ _ h => h, fun k hk => hk.elim id fun h => h.elim, fun k hk => by simp only [one] at hk; omega⟩
  refine st nl (st nl (st nl (st nl (st ?_ fun _ h => h.elim))))
  exact ⟨fun i v b h => by simp at h, Sl.nil w, fun k hk => by simp [Value.ownBlock] at hk, fun k hk => hk.elim, fun k hk => hk.elim⟩
theorem ptLst_set {w : World} {v : Value} {l : List Pt} (h : PtLst w v l) (hin : ∀ p ∈ l, PtOk p) {i : Nat} {p : Pt} (hi : l[i]? = some p) : ∃ b off c cs T fr, v = .slice (some ⟨b, off, none⟩) l.length c ∧ w.heap[b]? = some (.cells cs T fr) ∧ cs.extract (off + i * 41) (off + i * 41 + 41) = pt p ∧ off + i * 41 + 41 ≤ cs.size ∧ v.ownBlock = some b := by
  obtain ⟨b, off, c, cs, T, fr, h1, h2, h3, h4⟩ := h.elem (by decide) (fun q hq => pt_size (hin q hq)) hi
  exact ⟨b, off, c, cs, T, fr, h1, h2, h3, h4, by rw [h1]; rfl⟩
end Go.Proofs.YtnefdmbdkljifaaGreatDoor

namespace Go.Proofs.YtnefdmbdkljifaaGreatDoor
open Go.RowKit Go.Kin

def wti : In := ⟨1, 1, 0, ptz⟩
def wtI : List (Nat × In) := [(1, wti), (5, wti)]
def wtL : List In := ibz.set 1 wti
def wtp0 : Pt := shp 1 (tbp 0) (bytesI wtL)
def wtp1 : Pt := shp 2 (tbp 1) (bytesI wtL)
def wtn1 : List Pt := (ndz.set 0 wtp0).set 1 wtp1
def wtq : Pt := shp 3 (nwp 1 0 0) (bytesN wtn1)
def wtn2 : List Pt := ndz.set 0 wtq
def wtr : Pt := shp 4 (nwp 2 0 0) (bytesN wtn2)
def wts : Shf := ⟨[bytesI wtL, bytesI wtL, bytesN wtn1, bytesN wtn2], [], [wtp0, wtp1, wtq, wtr], [], -1, []⟩
theorem wti_ok : InOk wti := ⟨by decide, by decide, by decide, ptz_ok⟩
theorem wtI_ok : ∀ x ∈ wtI, ItOk x := fun x hx => by
  simp [wtI] at hx
  rcases hx with rfl | rfl
  · exact ⟨by decide, wti_ok⟩
  · exact ⟨by decide, wti_ok⟩
theorem wtL_ne : wtL ≠ ibz := by decide
theorem wtL_may : wtL.all mayI = true := by decide +kernel
theorem wtI_good : btOk none wtI = true := by decide +kernel
theorem wtp0_ok : PtOk wtp0 := tbp_shp (by decide) (by decide) _
theorem wtp1_ok : PtOk wtp1 := tbp_shp (by decide) (by decide) _
theorem wtp0_good : okP wtp0 = true := okP_iff.2 (.inr (tbp_may (by decide) _))
theorem wtp1_good : okP wtp1 = true := okP_iff.2 (.inr (tbp_may (by decide) _))
theorem wtq_ok : PtOk wtq := shp_ok (by decide) (by decide) (by decide) (by decide) _
theorem wtq_good : okP wtq = true := okP_iff.2 (.inr (shp_may (by decide) (.inl rfl) _))
theorem wtr_ok : PtOk wtr := shp_ok (by decide) (by decide) (by decide) (by decide) _
theorem wtp0_ne : wtp0 ≠ ptz := fun e => by
  have := congrArg Pt.b e
  cases this
theorem wtp1_ne : wtp1 ≠ ptz := fun e => by
  have := congrArg Pt.b e
  cases this
theorem wtq_ne : wtq ≠ ptz := fun e => by
  have := congrArg Pt.b e
  cases this
theorem set_all {n : List Pt} {k : Nat} {p : Pt} (hn : n.all okP = true) (h : okP p = true) : (n.set k p).all okP = true := by
  rw [List.all_eq_true] at *
  intro x hx
  rcases List.mem_or_eq_of_mem_set hx with h1 | rfl
  · exact hn x h1
  · exact h
theorem wtn1_all : wtn1.all okP = true := set_all (set_all (by decide) wtp0_good) wtp1_good
theorem wtn2_all : wtn2.all okP = true := set_all (by decide) wtq_good
theorem wtn1_ne : wtn1 ≠ ndz := fun e => by
  have h : wtn1.getD 1 ptz = wtp1 := getD_set_self (by decide)
  rw [e, ndz_get] at h
  exact wtp1_ne h.symm
theorem wtn2_ne : wtn2 ≠ ndz := fun e => by
  have h : wtn2.getD 0 ptz = wtq := getD_set_self (by decide)
  rw [e, ndz_get] at h
  exact wtq_ne h.symm
theorem tget_z (s : Shf) {o : Nat} (ho : o < 64) : tget shRd s ptz o = (s, ptz, 0) := by
  have h1 : tread shRd s ptz = (s, ndz, 0) := by unfold tread; rw [if_pos rfl]
  unfold tget
  rw [show mayT ptz = true by decide, decide_eq_true ho]
  simp only [Bool.and_self, if_true]
  unfold tgo
  rw [h1]
  simp only [ne_eq, not_true_eq_false, if_false, ndz_get]
  unfold tgo
  rw [h1]
  simp only [ne_eq, not_true_eq_false, if_false, ndz_get]
  unfold tgo
  rfl
theorem bread_z (s : Shf) : bread shRd s ptz = (s, ibz, 0) := by unfold bread; rw [if_pos rfl]
def wts1 : Shf := ⟨[bytesI wtL], [], [wtp0], [], -1, []⟩
def wts2 : Shf := ⟨[bytesI wtL, bytesI wtL], [], [wtp0, wtp1], [], -1, []⟩
theorem wt_b0 : bmade shRd shNw sh0 ptz 0 (btgrp wtI 0) = (wts1, wtp0, true, 0) := by
  have e : bset ibz (btgrp wtI 0) = wtL := by decide +kernel
  unfold bmade
  rw [tget_z sh0 (by decide)]
  simp only [ne_eq, not_true_eq_false, if_false]
  rw [bread_z]
  simp only [not_true_eq_false, if_false]
  rw [e, if_neg wtL_ne, if_neg wtL_ne, if_neg (by rw [wtL_may]; simp)]
  rfl
theorem wt_b1 : bmade shRd shNw wts1 ptz 1 (btgrp wtI 1) = (wts2, wtp1, true, 0) := by
  have e : bset ibz (btgrp wtI 1) = wtL := by decide +kernel
  unfold bmade
  rw [tget_z wts1 (by decide)]
  simp only [ne_eq, not_true_eq_false, if_false]
  rw [bread_z]
  simp only [not_true_eq_false, if_false]
  rw [e, if_neg wtL_ne, if_neg wtL_ne, if_neg (by rw [wtL_may]; simp)]
  rfl
def wts3 : Shf := ⟨[bytesI wtL, bytesI wtL, bytesN wtn1], [], [wtp0, wtp1, wtq], [], -1, []⟩
theorem wt_tset : tset shRd shNw shOd 0 wts2 ptz [(0, wtp0), (1, wtp1)] = (wts, wtr, 0) := by
  have hlv : lvGood none [(0, wtp0), (1, wtp1)] = true := by
    rw [lvGood_cons, lvGood_cons, wtp0_good, wtp1_good]
    rfl
  have h1 : tread shRd wts2 ptz = (wts2, ndz, 0) := by unfold tread; rw [if_pos rfl]
  have hl : tlow shRd shNw shOd 0 wts2 ptz 0 [(0, wtp0), (1, wtp1)] = (wts3, wtq, 0) := by
    unfold tlow
    rw [h1]
    have hf : [(0, wtp0), (1, wtp1)].foldl (tput shOd) (wts2, ndz) = (wts2, wtn1) := by
      rw [List.foldl_cons, List.foldl_cons, List.foldl_nil]
      have e1 : tput shOd (wts2, ndz) (0, wtp0) = (wts2, ndz.set 0 wtp0) := by
        unfold tput
        rw [if_neg (fun e => e.2 (ndz_get _))]
        rfl
      have e2 : tput shOd (wts2, ndz.set 0 wtp0) (1, wtp1) = (wts2, wtn1) := by
        unfold tput
        rw [if_neg (fun e => e.2 (by
          show (ndz.set 0 wtp0).getD 1 ptz = ptz
          rw [getD_set_ne (by decide), ndz_get]))]
        rfl
      rw [e1, e2]
    simp only [ne_eq, not_true_eq_false, if_false]
    rw [hf]
    unfold tmade
    dsimp only
    rw [if_neg wtn1_ne, if_neg wtn1_ne, if_neg (by rw [wtn1_all]; simp), if_pos rfl]
    rfl
  unfold tset
  rw [hlv, show mayT ptz = true by decide, h1]
  simp only [Bool.and_self, if_true, ne_eq, not_true_eq_false, if_false, List.cons_ne_nil, List.length_cons, List.length_nil]
  have hg : tgrps shRd shNw shOd 0 2 wts2 ndz [(0, wtp0), (1, wtp1)] = (wts3, wtn2, 0) := by
    rw [tgrps]
    simp only [show 0 / 8 = 0 from rfl]
    have hgr : grp 0 [(0, wtp0), (1, wtp1)] = [(0, wtp0), (1, wtp1)] := by
      unfold grp
      rw [List.takeWhile_cons, if_pos (by simp), List.takeWhile_cons, if_pos (by simp)]
      rfl
    rw [hgr, ndz_get, hl]
    rfl
  rw [hg]
  simp only [not_true_eq_false, if_false]
  unfold tmade
  rw [if_neg wtn2_ne, if_neg wtn2_ne, if_neg (by rw [wtn2_all]; simp), if_pos rfl]
  rfl
theorem wt_set : btset shRd shNw shOd sh0 ptz wtI = (wts, wtr, 0) := by
  have ho : offsL wtI = [0, 1] := by decide +kernel
  have hg : btgs shRd shNw ptz wtI [0, 1] sh0 [] = (wts2, [(0, wtp0), (1, wtp1)], 0) := by
    rw [btgs, wt_b0]
    simp only [ne_eq, not_true_eq_false, if_false, if_true, List.nil_append]
    rw [btgs, wt_b1]
    simp only [ne_eq, not_true_eq_false, if_false, if_true]
    rw [btgs]
    rfl
  unfold btset
  rw [if_pos wtI_good, ho, hg]
  simp only [ne_eq, not_true_eq_false, if_false]
  exact wt_tset
def wtv : List In := nxtI (List.replicate 256 inz) wtI
theorem wt_tab : ∃ n h, TabP wts.bl wtr n h wtv := by
  obtain ⟨s', r, n, h', e, t, _⟩ := btset_sh (s := sh0) (root := ptz) (top := ndz) (h := List.replicate 64 ptz) (v := List.replicate 256 inz) (l := wtI) (TabP.z _) rfl rfl (by decide) wtI_good wtI_ok
  rw [wt_set] at e
  have e1 := Prod.mk.inj e
  have e2 := Prod.mk.inj e1.2
  refine ⟨n, h', ?_⟩
  rw [e1.1, e2.1]
  exact t
theorem wtv_5 : wtv.getD 5 inz = wti := by decide +kernel
theorem wtv_2 : wtv.getD 2 inz = inz := by decide +kernel
theorem wtv_its : itsOf wtv 256 = wtI := by decide +kernel
theorem wtv_blk : blkN wtv = 4 := by decide +kernel
end Go.Proofs.YtnefdmbdkljifaaGreatDoor
