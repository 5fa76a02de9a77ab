/- A Set of a table on a shelf, in plain Lean. No condition but that the values are of their types. -/
import Derived.Test.YtnefdmbdkljifaaGreatDoorTbL
set_option linter.unusedSimpArgs false
set_option linter.unusedVariables false

namespace Go.Proofs.YtnefdmbdkljifaaGreatDoor
open Go.RowKit Go.Kin

section
variable {α : Type} (d : α)
def setsG (c : List α) (l : List (Nat × α)) : List α := l.foldl (fun c x => c.set x.1 x.2) c
theorem setsG_len : ∀ (l : List (Nat × α)) (c : List α), (setsG c l).length = c.length
  | [], c => rfl
  | x :: l, c => by
    show (setsG (c.set x.1 x.2) l).length = _
    rw [setsG_len l, List.length_set]
theorem setsG_out : ∀ (l : List (Nat × α)) (c : List α) (o : Nat), (∀ x ∈ l, x.1 ≠ o) → (setsG c l).getD o d = c.getD o d
  | [], c, o, _ => rfl
  | x :: l, c, o, h => by
    show (setsG (c.set x.1 x.2) l).getD o d = _
    rw [setsG_out l _ o fun y hy => h y (by simp [hy]), getD_set_ne (h x (by simp))]
theorem setsG_in : ∀ (l : List (Nat × α)) (c : List α), l.Pairwise (fun x y => x.1 < y.1) → ∀ x ∈ l, x.1 < c.length → (setsG c l).getD x.1 d = x.2
  | [], c, _, x, hx, _ => by cases hx
  | y :: l, c, hp, x, hx, hlt => by
    have hp1 := List.pairwise_cons.1 hp
    show (setsG (c.set y.1 y.2) l).getD x.1 d = x.2
    rcases List.mem_cons.1 hx with rfl | hx
    · rw [setsG_out d l _ x.1 fun z hz => by have := hp1.1 z hz; omega, getD_set_self hlt]
    · exact setsG_in l _ hp1.2 x hx (by rw [List.length_set]; exact hlt)
theorem ext_gD {a b : List α} (hl : a.length = b.length) (h : ∀ i, i < a.length → a.getD i d = b.getD i d) : a = b := by
  apply List.ext_getElem hl
  intro i h1 h2
  have := h i h1
  rw [List.getD_eq_getElem?_getD, List.getD_eq_getElem?_getD, List.getElem?_eq_getElem h1, List.getElem?_eq_getElem h2] at this
  exact this
theorem setsG_same {l : List (Nat × α)} {c : List α} (hp : l.Pairwise fun x y => x.1 < y.1) (hl : ∀ x ∈ l, x.1 < c.length) : setsG c l = c ↔ ∀ x ∈ l, c.getD x.1 d = x.2 := by
  constructor
  · intro h x hx
    rw [← h]
    exact setsG_in d l c hp x hx (hl x hx)
  · intro h
    refine ext_gD d (setsG_len l c) fun i _ => ?_
    by_cases hi : ∃ x ∈ l, x.1 = i
    · obtain ⟨x, hx, rfl⟩ := hi
      rw [setsG_in d l c hp x hx (hl x hx), h x hx]
    · exact setsG_out d l c i fun x hx e => hi ⟨x, hx, e⟩
end
/-- a map with other inodes -/
abbrev nxtI (v : List In) (l : List (Nat × In)) : List In := setsG v l
theorem nxtT_eq (c : List Pt) (l : List (Nat × Pt)) : nxtT c l = setsG c l := rfl
theorem slI_set {o k : Nat} {v : List In} {x : In} : slI o (v.set (4 * o + k) x) = (slI o v).set k x := by
  unfold slI
  rw [List.drop_set, if_neg (by omega), List.take_set, show 4 * o + k - 4 * o = k by omega]
theorem slI_set_ne {o i : Nat} {v : List In} {x : In} (h : i / 4 ≠ o) : slI o (v.set i x) = slI o v := by
  unfold slI
  rw [List.drop_set]
  split
  · rfl
  · rw [List.take_set, List.set_eq_of_length_le]
    simp
    omega
theorem slI_nxt (o : Nat) : ∀ (l : List (Nat × In)) (v : List In), slI o (nxtI v l) = bset (slI o v) (btgrp l o)
  | [], v => rfl
  | x :: l, v => by
    show slI o (nxtI (v.set x.1 x.2) l) = _
    rw [slI_nxt o l]
    by_cases h : x.1 / 4 = o
    · have e : btgrp (x :: l) o = x :: btgrp l o := by
        unfold btgrp
        rw [List.filter_cons, if_pos (decide_eq_true h)]
      rw [e, show x.1 = 4 * o + x.1 % 4 by omega, slI_set]
      rfl
    · have e : btgrp (x :: l) o = btgrp l o := by
        unfold btgrp
        rw [List.filter_cons, if_neg (by simp [h])]
      rw [e, slI_set_ne h]
theorem bset_may : ∀ (g : List (Nat × In)) (L : List In), L.all mayI = true → (∀ x ∈ g, mayI x.2 = true) → (bset L g).all mayI = true
  | [], L, h, _ => h
  | x :: g, L, h, hg => bset_may g _ (by
      rw [List.all_eq_true] at *
      intro y hy
      rcases List.mem_or_eq_of_mem_set hy with h1 | rfl
      · exact h y h1
      · exact hg x (by simp)) fun y hy => hg y (by simp [hy])
theorem tbp_may {n off : Nat} (h0 : 0 < n) (b : List UInt8) : mayP (shp n (tbp off) b) = true := by
  rw [mayP_eq (p := shp n (tbp off) b) (a0 := n) (a1 := 0) (a2 := 0) (a3 := 0) (n := 2) rfl rfl]
  have hn : ¬ n = 0 := by omega
  have e : levB (shp n (tbp off) b) = true := rfl
  rw [e]
  simp [badP, shp, shq, hn]
theorem tbp_shp {n off : Nat} (hn : n < 65536) (hf : off < 4294967296) (b : List UInt8) : PtOk (shp n (tbp off) b) :=
  ⟨by show 4 < 256; omega, by show 0 < 256; omega, by show 0 < 65536; omega, hf, by show n < _; omega, digS_length _ _, rfl, by intro x hx; simp [shp, shq] at hx; omega⟩
section
variable {s : Shf} {bl : List (List UInt8)} {root : Pt} {top h : List Pt} {v : List In}
/-- a leaf is made -/
theorem shNw_tb (s : Shf) (hr : s.room = -1) (h0 : s.bl.length < 30000) {o : Nat} (ho : o < 64) {L : List In} (okL : IbOk L) (may : L.all mayI = true) (hz : L ≠ ibz) :
    ∃ p, shNw s (tbp o) (bytesI L) = ({ s with bl := s.bl ++ [bytesI L], made := s.made ++ [p] }, p, 0) ∧ LfT (s.bl ++ [bytesI L]) p L ∧ p.b = s.bl.length + 1 := by
  refine ⟨shp (s.bl.length + 1) (tbp o) (bytesI L), ?_, ⟨okL, may, tbp_shp (by omega) (by omega) _, okP_iff.2 (.inr (tbp_may (by omega) _)), .inr (by show (4 : Nat) ≠ 3; decide), ?_, .inr ⟨fun e => ?_, hz, s.bl.length, rfl, by simp⟩⟩, rfl⟩
  · unfold shNw
    rw [if_neg (by omega), hr]
    have e : max ((-1 : Int) - 1) (-1) = -1 := by decide
    rw [e, ← hr]
  · show s.bl.length + 1 ≤ _
    simp
  · have : (shp (s.bl.length + 1) (tbp o) (bytesI L)).b = ptz.b := by rw [e]
    change s.bl.length + 1 = 0 at this
    omega
theorem bmade_sh (t : TabP s.bl root top h v) (hb : s.bad = []) (hr : s.room = -1) (h0 : s.bl.length < 30000) {o : Nat} (ho : o < 64) {g : List (Nat × In)} (hg : ∀ x ∈ g, ItOk x ∧ mayI x.2 = true) :
    (bset (slI o v) g = slI o v ∧ ∃ m, bmade shRd shNw s root o g = (s.more m, h.getD o ptz, false, 0)) ∨
    (bset (slI o v) g ≠ slI o v ∧ ∃ s' p, bmade shRd shNw s root o g = (s', p, true, 0) ∧ LfT s'.bl p (bset (slI o v) g) ∧ p ≠ h.getD o ptz ∧ s'.bad = [] ∧ s'.room = -1 ∧ (∃ e, s'.bl = s.bl ++ e) ∧ s'.bl.length ≤ s.bl.length + 1) := by
  obtain ⟨m1, l1, e1⟩ := t.tp.get hb ho
  have lf := t.lf o ho
  obtain ⟨m2, l2, e2⟩ := LfT.read (s := s.more m1) lf hb
  have okB := bset_ok g lf.ok fun x hx => (hg x hx).1
  have mayB := bset_may g _ lf.all fun x hx => (hg x hx).2
  unfold bmade
  rw [e1]
  simp only [ne_eq, not_true_eq_false, if_false]
  rw [e2]
  simp only [not_true_eq_false, if_false]
  by_cases hB : bset (slI o v) g = slI o v
  · rw [if_pos hB]
    exact .inl ⟨hB, m1 ++ m2, by rw [← Shf.more_more]⟩
  rw [if_neg hB]
  refine .inr ⟨hB, ?_⟩
  by_cases hz : bset (slI o v) g = ibz
  · rw [if_pos hz]
    refine ⟨_, _, rfl, by rw [hz]; exact LfT.z _, fun e => ?_, hb, hr, ⟨[], by simp⟩, by simp⟩
    exact hB (by rw [hz, lf.iff.1 e.symm])
  rw [if_neg hz, if_neg (by rw [mayB]; decide)]
  obtain ⟨p, e3, lp, hpb⟩ := shNw_tb ((s.more m1).more m2) hr h0 ho okB mayB hz
  rw [e3]
  refine ⟨_, _, rfl, lp, fun e => ?_, hb, hr, ⟨_, rfl⟩, by simp⟩
  have h1 := lf.bb
  rw [← e, hpb] at h1
  simp at h1
  omega
/-- group for group -/
theorem btgs_sh {l : List (Nat × In)} (hl : ∀ x ∈ l, ItOk x ∧ mayI x.2 = true) : ∀ (os : List Nat) (s : Shf) (acc : List (Nat × Pt)), os.Pairwise (· < ·) → (∀ o ∈ os, o < 64) → TabP s.bl root top h v → s.bad = [] → s.room = -1 → s.bl.length + os.length < 30000 →
    ∃ s' acc', btgs shRd shNw root l os s acc = (s', acc ++ acc', 0) ∧ s'.bad = [] ∧ s'.room = -1 ∧ (∃ e, s'.bl = s.bl ++ e) ∧ s'.bl.length ≤ s.bl.length + os.length ∧ acc'.Pairwise (fun x y => x.1 < y.1) ∧ (∀ x ∈ acc', x.1 ∈ os) ∧
      (∀ x ∈ acc', LfT s'.bl x.2 (bset (slI x.1 v) (btgrp l x.1)) ∧ x.2 ≠ h.getD x.1 ptz) ∧ (∀ o ∈ os, (∀ x ∈ acc', x.1 ≠ o) → bset (slI o v) (btgrp l o) = slI o v) ∧
      ((∀ o ∈ os, bset (slI o v) (btgrp l o) = slI o v) → acc' = [] ∧ s'.made = s.made)
  | [], s, acc, _, _, t, hb, hr, h0 => ⟨s, [], by unfold btgs; simp, hb, hr, ⟨[], by simp⟩, by simp, List.Pairwise.nil, by simp, by simp, by simp, fun _ => ⟨rfl, rfl⟩⟩
  | o :: os, s, acc, hp, ho, t, hb, hr, h0 => by
    have hp1 := List.pairwise_cons.1 hp
    rw [List.length_cons] at h0
    have hgr : ∀ x ∈ btgrp l o, ItOk x ∧ mayI x.2 = true := fun x hx => hl x (btgrp_mem.1 hx).1
    rcases bmade_sh t hb hr (by omega) (ho o (by simp)) hgr with ⟨hs, m, e⟩ | ⟨hs, s1, p, e, lp, np, b1, r1, x1, len1⟩
    · obtain ⟨s', acc', e', b', r', ex', len', pw', mem', all', out', same'⟩ := btgs_sh hl os (s.more m) acc hp1.2 (fun x hx => ho x (by simp [hx])) t hb hr (by show s.bl.length + _ < _; omega)
      refine ⟨s', acc', ?_, b', r', ex', by rw [List.length_cons]; simp only [Shf.more_bl] at len'; omega, pw', fun x hx => by simp [mem' x hx], all', fun o' ho' hn => ?_, fun hall => same' fun x hx => hall x (by simp [hx])⟩
      · rw [btgs, e]
        simpa using e'
      · rcases List.mem_cons.1 ho' with rfl | ho'
        · exact hs
        · exact out' o' ho' hn
    · obtain ⟨s', acc', e', b', r', ex', len', pw', mem', all', out', same'⟩ := btgs_sh hl os s1 (acc ++ [(o, p)]) hp1.2 (fun x hx => ho x (by simp [hx])) (t.ext x1) b1 r1 (by omega)
      obtain ⟨y1, hy1⟩ := x1
      obtain ⟨y2, hy2⟩ := ex'
      refine ⟨s', (o, p) :: acc', ?_, b', r', ⟨y1 ++ y2, by rw [hy2, hy1, List.append_assoc]⟩, by rw [List.length_cons]; omega, ?_, ?_, ?_, ?_, ?_⟩
      · rw [btgs, e]
        simp only [ne_eq, not_true_eq_false, if_false, if_true]
        rw [e', List.append_assoc]
        rfl
      · exact List.pairwise_cons.2 ⟨fun x hx => hp1.1 _ (mem' x hx), pw'⟩
      · intro x hx
        rcases List.mem_cons.1 hx with rfl | hx
        · simp
        · simp [mem' x hx]
      · intro x hx
        rcases List.mem_cons.1 hx with rfl | hx
        · exact ⟨lp.ext ⟨y2, hy2⟩, np⟩
        · exact all' x hx
      · intro o' ho' hn
        rcases List.mem_cons.1 ho' with rfl | ho'
        · exact absurd rfl (hn (o', p) (by simp))
        · exact out' o' ho' fun x hx => hn x (by simp [hx])
      · intro hall
        exact absurd (hall o (by simp)) hs
theorem tset_shq {s : Shf} {root : Pt} {t h : List Pt} (tp : TreeP s.bl root t h) (hb : s.bad = []) (hr : s.room = -1) (h0 : s.bl.length + 9 < 30000) {obj : Nat} (hobj : obj < 65536)
    {l : List (Nat × Pt)} (hp : l.Pairwise fun x y => x.1 < y.1) (hl : ∀ x ∈ l, x.1 < 64) (hok : ∀ x ∈ l, (PtOk x.2 ∧ okP x.2 = true) ∧ (x.2 = ptz ∨ x.2.k ≠ 3)) :
    ∃ s' r n, tset shRd shNw shOd obj s root l = (s', r, 0) ∧ TreeP s'.bl r n (nxtT h l) ∧ s'.bad = [] ∧ s'.room = -1 ∧ s'.bl.length ≤ s.bl.length + 9 ∧ ∃ e, s'.bl = s.bl ++ e := by
  have e : s = Shf.pre s.made s.gone { s with made := [], gone := [] } := by simp [Shf.pre]
  obtain ⟨s', r, n, h1, h2, _, h4, h5, h6, h7⟩ := tset_sh (s := { s with made := [], gone := [] }) tp hb hr rfl rfl h0 hobj hp hl hok
  refine ⟨s'.pre s.made s.gone, r, n, ?_, h2, h4, h5, h7, h6⟩
  rw [e, tset_sim (pre_rd _ _) (pre_nw _ _) (pre_od _ _), h1]
  simp [Shf.pre]
theorem tset_nil' (tp : TreeP bl root top h) (obj : Nat) : tset shRd shNw shOd obj s root [] = (s, root, 0) := by
  unfold tset
  rw [tp.may]
  rfl
theorem bytesI_inj {a b : List In} (ha : IbOk a) (hb : IbOk b) (h1 : a.all mayI = true) (h2 : b.all mayI = true) (h : bytesI a = bytesI b) : a = b := by
  have e1 := ib4_put ha h1
  rw [h, ib4_put hb h2] at e1
  exact (Prod.mk.inj e1).1.symm
theorem LfT.uniq {p : Pt} {a b : List In} (h1 : LfT bl p a) (h2 : LfT bl p b) : a = b := by
  rcases h1.at' with ⟨e1, e2⟩ | ⟨e1, e2, i, e3, e4⟩
  · rw [e2, h2.iff.1 e1]
  · rcases h2.at' with ⟨f1, f2⟩ | ⟨f1, f2, j, f3, f4⟩
    · exact absurd f1 e1
    · have : i = j := by omega
      subst this
      rw [e4] at f4
      exact bytesI_inj h1.ok h2.ok h1.all h2.all (Option.some.inj f4)
theorem slI_ext {a b : List In} (ha : a.length = 256) (hb : b.length = 256) (h : ∀ o, o < 64 → slI o a = slI o b) : a = b := by
  refine ext_gD inz (by rw [ha, hb]) fun n hn => ?_
  rw [ha] at hn
  have e1 := slI_get (o := n / 4) (v := a) (show n % 4 < 4 by omega)
  have e2 := slI_get (o := n / 4) (v := b) (show n % 4 < 4 by omega)
  rw [show 4 * (n / 4) + n % 4 = n by omega] at e1 e2
  rw [← e1, ← e2, h (n / 4) (by omega)]
theorem TabP.uniq {top' h' : List Pt} {v' : List In} (t : TabP bl root top h v) (t' : TabP bl root top' h' v') : v = v' := by
  have e := t.tp.uniq t'.tp
  subst e
  exact slI_ext t.hl t'.hl fun o ho => (t.lf o ho).uniq (t'.lf o ho)
/-- a Set of a table -/
theorem btset_sh {l : List (Nat × In)} (t : TabP s.bl root top h v) (hb : s.bad = []) (hr : s.room = -1) (h0 : s.bl.length + 80 < 30000) (hok : btOk none l = true) (hin : ∀ x ∈ l, ItOk x) :
    ∃ s' r n h', btset shRd shNw shOd s root l = (s', r, 0) ∧ TabP s'.bl r n h' (nxtI v l) ∧ s'.bad = [] ∧ s'.room = -1 ∧ s'.bl.length ≤ s.bl.length + 73 ∧ (∃ e, s'.bl = s.bl ++ e) ∧ (nxtI v l = v → r = root ∧ s'.made = s.made) ∧ (nxtI v l ≠ v → r ≠ root) := by
  have hl := btOk_all hok
  have hrise := (btOk_rise hok).1
  have h64 := offsL_len l
  obtain ⟨s1, acc, e1, b1, r1, ⟨x1, hx1⟩, len1, pw, mem, all, out, same⟩ := btgs_sh (root := root) (h := h) (v := v) (top := top) (l := l) (fun x hx => ⟨hin x hx, (hl x hx).2⟩) (offsL l) s [] (offsL_rise l) (fun o ho => (offsL_mem.1 ho).1) t hb hr (by omega)
  have hacc : ∀ x ∈ acc, x.1 < 64 := fun x hx => (offsL_mem.1 (mem x hx)).1
  obtain ⟨s2, r, n, e2, tp2, b2, r2, len2, x2, hx2⟩ := tset_shq (s := s1) (t.tp.ext ⟨x1, hx1⟩) b1 r1 (by omega) (obj := 0) (by decide) pw hacc fun x hx => ⟨⟨(all x hx).1.okp, (all x hx).1.okq⟩, (all x hx).1.kd⟩
  have hv256 : ∀ x ∈ l, x.1 < v.length := fun x hx => by have := (hl x hx).1; rw [t.hl]; omega
  have hbs : btset shRd shNw shOd s root l = (s2, r, 0) := by
    unfold btset
    rw [if_pos hok, e1]
    simpa using e2
  -- the new leaves
  have hlf : ∀ o, o < 64 → LfT s2.bl ((nxtT h acc).getD o ptz) (slI o (nxtI v l)) := fun o ho => by
    rw [slI_nxt, nxtT_eq]
    by_cases hi : ∃ x ∈ acc, x.1 = o
    · obtain ⟨x, hx, rfl⟩ := hi
      rw [setsG_in ptz acc h pw x hx (by rw [t.tp.hl]; exact hacc x hx)]
      exact (all x hx).1.ext ⟨x2, hx2⟩
    · have hn : ∀ x ∈ acc, x.1 ≠ o := fun x hx e => hi ⟨x, hx, e⟩
      rw [setsG_out ptz acc h o hn]
      have e : bset (slI o v) (btgrp l o) = slI o v := by
        by_cases hm : o ∈ offsL l
        · exact out o hm hn
        · have : btgrp l o = [] := by
            apply Classical.byContradiction
            intro hg
            exact hm (offsL_mem.2 ⟨ho, hg⟩)
          rw [this]
          rfl
      rw [e]
      exact (t.lf o ho).ext ⟨x1 ++ x2, by rw [hx2, hx1, List.append_assoc]⟩
  have tab : TabP s2.bl r n (nxtT h acc) (nxtI v l) := ⟨tp2, hlf, by rw [setsG_len, t.hl], by
    rw [setsG_out inz l v 0 fun x hx => by have := (hl x hx).1; omega]
    exact t.v0⟩
  refine ⟨s2, r, n, nxtT h acc, hbs, tab, b2, r2, by omega, ⟨x1 ++ x2, by rw [hx2, hx1, List.append_assoc]⟩, fun hsame => ?_, fun hne e => ?_⟩
  · obtain ⟨ha, hm⟩ := same fun o _ => by rw [← slI_nxt, hsame]
    subst ha
    rw [tset_nil' (t.tp.ext ⟨x1, hx1⟩)] at e2
    have e3 := Prod.mk.inj e2
    have e4 := Prod.mk.inj e3.2
    exact ⟨e4.1.symm, by rw [← e3.1]; exact hm⟩
  · subst e
    exact hne ((t.ext ⟨x1 ++ x2, by rw [hx2, hx1, List.append_assoc]⟩).uniq tab).symm
end
/-- so many blocks a table of such inodes has -/
def lfN (v : List In) : Nat := (List.range 64).countP fun o => decide (slI o v ≠ ibz)
def gpN (v : List In) : Nat := (List.range 8).countP fun g => (List.range 8).any fun k => decide (slI (8 * g + k) v ≠ ibz)
def blkN (v : List In) : Nat := if gpN v = 0 then 0 else lfN v + gpN v + 1
theorem lvsOf_count (h : List Pt) : ∀ k, (lvsOf h k).length = (List.range k).countP fun o => decide (h.getD o ptz ≠ ptz)
  | 0 => rfl
  | k + 1 => by
    rw [lvsOf_step, List.length_append, lvsOf_count h k, List.range_succ, List.countP_append]
    congr 1
    by_cases hz : h.getD k ptz = ptz
    · rw [if_pos hz, List.countP_cons, decide_eq_false (not_not_intro hz)]
      rfl
    · rw [if_neg hz, List.countP_cons, decide_eq_true hz]
      rfl
theorem TabP.blocks {bl : List (List UInt8)} {root : Pt} {top h : List Pt} {v : List In} (t : TabP bl root top h v) : (nodesOf root top ++ (lvsOf h 64).map (·.2)).length = blkN v := by
  have hn : ∀ o, o < 64 → (h.getD o ptz ≠ ptz ↔ slI o v ≠ ibz) := fun o ho => not_congr (t.lf o ho).iff
  have e1 : (lvsOf h 64).length = lfN v := by
    rw [lvsOf_count]
    exact countP_same fun o ho => by rw [decide_eq_decide]; exact hn o ho
  have e2 : grpN h = gpN v := by
    refine countP_same fun g hg => ?_
    rw [Bool.eq_iff_iff, decide_eq_true_eq, slT_nz t.tp.hl hg, List.any_eq_true]
    constructor
    · rintro ⟨k, hk, h1⟩
      exact ⟨k, List.mem_range.2 hk, decide_eq_true ((hn _ (by omega)).1 h1)⟩
    · rintro ⟨k, hk, h1⟩
      have hk := List.mem_range.1 hk
      exact ⟨k, hk, (hn _ (by omega)).2 (of_decide_eq_true h1)⟩
  rw [List.length_append, List.length_map, e1, t.tp.len, e2]
  unfold blkN
  by_cases hz : gpN v = 0
  · rw [if_pos hz, if_pos hz]
    have : lfN v = 0 := by
      unfold lfN
      rw [List.countP_eq_zero]
      intro o ho
      have ho := List.mem_range.1 ho
      unfold gpN at hz
      rw [List.countP_eq_zero] at hz
      have h1 := hz (o / 8) (List.mem_range.2 (by omega))
      intro hc
      apply h1
      rw [List.any_eq_true]
      exact ⟨o % 8, List.mem_range.2 (by omega), by rw [show 8 * (o / 8) + o % 8 = o by omega]; exact hc⟩
    omega
  · rw [if_neg hz, if_neg hz]
    omega
end Go.Proofs.YtnefdmbdkljifaaGreatDoor
