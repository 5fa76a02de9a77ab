/- A Set on a shelf: what it makes, what is old. In plain Lean. No condition but that the values are of their types. -/
import Derived.Test.YtnefdmbdkljifaaGreatDoorTrM
set_option linter.unusedSimpArgs false
set_option linter.unusedVariables false

namespace Go.Proofs.YtnefdmbdkljifaaGreatDoor
open Go.RowKit Go.Kin

theorem drop_grp (g : Nat) (l : List (Nat × Pt)) : l.drop (grp g l).length = l.dropWhile fun x => x.1 / 8 == g := by
  have e : l = grp g l ++ l.dropWhile fun x => x.1 / 8 == g := (List.takeWhile_append_dropWhile).symm
  conv => lhs; rw [e]
  have e2 : grp g (grp g l ++ l.dropWhile fun x => x.1 / 8 == g) = grp g l := by rw [← e]
  rw [e2, List.drop_left]
theorem grp_mem {g : Nat} {l : List (Nat × Pt)} {x : Nat × Pt} (h : x ∈ grp g l) : x ∈ l ∧ x.1 / 8 = g := by
  unfold grp at h
  refine ⟨List.Sublist.subset (List.takeWhile_sublist _) h, ?_⟩
  induction l with
  | nil => cases h
  | cons y l ih =>
    rw [List.takeWhile_cons] at h
    split at h
    · rename_i hy
      rcases List.mem_cons.1 h with rfl | h
      · simpa using hy
      · exact ih h
    · cases h
theorem rest_mem {g : Nat} : ∀ {l : List (Nat × Pt)}, l.Pairwise (fun x y => x.1 < y.1) → (∀ x ∈ l, g ≤ x.1 / 8) → ∀ x ∈ l.dropWhile (fun x => x.1 / 8 == g), x ∈ l ∧ g + 1 ≤ x.1 / 8
  | [], _, _, x, hx => by cases hx
  | y :: l, hp, hl, x, hx => by
    have hp1 := List.pairwise_cons.1 hp
    rw [List.dropWhile_cons] at hx
    split at hx
    · obtain ⟨h1, h2⟩ := rest_mem hp1.2 (fun z hz => hl z (by simp [hz])) x hx
      exact ⟨by simp [h1], h2⟩
    · rename_i hy
      have hy : y.1 / 8 ≠ g := by simpa using hy
      have hy2 := hl y (by simp)
      refine ⟨hx, ?_⟩
      rcases List.mem_cons.1 hx with rfl | h
      · omega
      · have := hp1.1 x h
        omega
/-- group for group -/
theorem MidT.grps {b0 : Nat} {t h : List Pt} (tb : ∀ g, g < 8 → (t.getD g ptz).b ≤ b0) (hh : h.length = 64) (h0 : b0 + 8 < 30000) {obj : Nat} (hobj : obj < 65536) : ∀ (fuel : Nat) (l : List (Nat × Pt)) (lo : Nat) (s : Shf) (n c : List Pt), MidT b0 t h s n c → l.length ≤ fuel → l.Pairwise (fun x y => x.1 < y.1) → (∀ x ∈ l, x.1 < 64 ∧ lo ≤ x.1 / 8) →
    (∀ x ∈ l, (PtOk x.2 ∧ okP x.2 = true) ∧ (x.2 = ptz ∨ x.2.k ≠ 3)) → (∀ o, lo ≤ o / 8 → c.getD o ptz = h.getD o ptz) →
    ∃ s' n', tgrps shRd shNw shOd obj fuel s n l = (s', n', 0) ∧ MidT b0 t h s' n' (nxtT c l) ∧ ∃ e, s'.bl = s.bl ++ e
  | 0, l, lo, s, n, c, M, hf, _, _, _, _ => by
    obtain rfl : l = [] := List.eq_nil_of_length_eq_zero (by omega)
    exact ⟨s, n, rfl, M, [], by simp⟩
  | fuel + 1, [], lo, s, n, c, M, hf, _, _, _, _ => ⟨s, n, rfl, M, [], by simp⟩
  | fuel + 1, x :: l, lo, s, n, c, M, hf, hp, hl, hok, hc => by
    obtain ⟨g, hg⟩ : ∃ g, x.1 / 8 = g := ⟨_, rfl⟩
    have hx := hl x (by simp)
    have hg8 : g < 8 := by omega
    have hge : ∀ y ∈ x :: l, g ≤ y.1 / 8 := fun y hy => by
      rcases List.mem_cons.1 hy with rfl | h
      · omega
      · have := (List.pairwise_cons.1 hp).1 y h
        omega
    have hun : slT g c = slT g h := by
      apply ext_getD (by rw [slT_len M.cl hg8, slT_len hh hg8])
      intro k hk
      rw [slT_len M.cl hg8] at hk
      rw [slT_get hk, slT_get hk]
      exact hc _ (by omega)
    have hsub : (grp g (x :: l)).Sublist (x :: l) := List.takeWhile_sublist _
    have hm8 : s.made.length ≤ 8 := by
      rw [M.madeL]
      exact Nat.le_trans List.countP_le_length (by simp)
    obtain ⟨s1, q, e1, M1, x1, hx1⟩ := M.low tb hg8 hh hun (l := grp g (x :: l)) (fun y hy => (grp_mem hy).2) (hp.sublist hsub) (fun y hy => hok y (grp_mem hy).1) (by rw [M.bl]; omega) hobj
    have hgr0 : 1 ≤ (grp g (x :: l)).length := by
      unfold grp
      rw [List.takeWhile_cons, if_pos (by simp [hg])]
      simp
    obtain ⟨s2, n2, e2, M2, x2, hx2⟩ := MidT.grps tb hh h0 hobj fuel ((x :: l).drop (grp g (x :: l)).length) (g + 1) s1 (n.set g q) _ M1 (by rw [List.length_drop]; simp at hf ⊢; omega) (hp.sublist (List.drop_sublist _ _)) (fun y hy => by
      rw [drop_grp] at hy
      obtain ⟨h1, h2⟩ := rest_mem hp hge y hy
      exact ⟨(hl y h1).1, h2⟩) (fun y hy => hok y (List.mem_of_mem_drop hy)) (fun o ho => by
      rw [nxtT_get_ne (g := g) _ _ (fun y hy => (grp_mem hy).2) o (by omega)]
      exact hc o (by omega))
    refine ⟨s2, n2, ?_, ?_, x1 ++ x2, by rw [hx2, hx1, List.append_assoc]⟩
    · rw [tgrps]
      simp only [hg]
      rw [e1]
      simp only [ne_eq, not_true_eq_false, if_false]
      exact e2
    · rw [← nxtT_app] at M2
      have e : grp g (x :: l) ++ (x :: l).drop (grp g (x :: l)).length = x :: l := by
        rw [drop_grp]
        exact List.takeWhile_append_dropWhile
      rwa [e] at M2
/-- leaves in order, good -/
theorem lvGood_of : ∀ (l : List (Nat × Pt)) (b : Option Nat), (∀ x ∈ l, x.1 < 64 ∧ okP x.2 = true) → l.Pairwise (fun x y => x.1 < y.1) → (∀ y, b = some y → ∀ x ∈ l, y < x.1) → lvGood b l = true
  | [], b, _, _, _ => rfl
  | x :: l, b, h, hp, hb => by
    rw [lvGood_cons, decide_eq_true (h x (by simp)).1, (h x (by simp)).2, lvGood_of l (some x.1) (fun y hy => h y (by simp [hy])) (List.pairwise_cons.1 hp).2 (fun y hy z hz => by cases hy; exact (List.pairwise_cons.1 hp).1 z hz)]
    cases b with
    | none => rfl
    | some y => simp [hb y rfl x (by simp)]
theorem nodes_mem {r : Pt} {t : List Pt} (ht : t.length = 8) (hr : r = ptz → t = ndz) (x : Pt) : x ∈ nodesOf r t ↔ (r ≠ ptz ∧ x = r) ∨ ∃ g, g < 8 ∧ x = t.getD g ptz ∧ t.getD g ptz ≠ ptz := by
  unfold nodesOf
  by_cases h : r = ptz
  · rw [if_pos h]
    constructor
    · intro h; cases h
    · rintro (⟨h1, _⟩ | ⟨g, _, _, h3⟩)
      · exact absurd h h1
      · rw [hr h, ndz_get] at h3; exact absurd rfl h3
  · rw [if_neg h, List.mem_cons, List.mem_filter]
    constructor
    · rintro (rfl | ⟨h1, h2⟩)
      · exact .inl ⟨h, rfl⟩
      · obtain ⟨i, hi⟩ := List.mem_iff_getElem?.1 h1
        have hlt := (List.getElem?_eq_some_iff.1 hi).1
        have e : t.getD i ptz = x := by rw [List.getD_eq_getElem?_getD, hi]; rfl
        exact .inr ⟨i, by omega, e.symm, by rw [e]; exact of_decide_eq_true h2⟩
    · rintro (⟨_, rfl⟩ | ⟨g, h1, rfl, h3⟩)
      · exact .inl rfl
      · refine .inr ⟨?_, decide_eq_true h3⟩
        rw [List.getD_eq_getElem?_getD, List.getElem?_eq_getElem (by omega)]
        exact List.getElem_mem _
theorem nodes_count {r : Pt} {t : List Pt} (ht : t.length = 8) (hr : r = ptz → t = ndz) (P : Pt → Bool) : (nodesOf r t).countP P = (if r ≠ ptz ∧ P r = true then 1 else 0) + (List.range 8).countP fun g => decide (t.getD g ptz ≠ ptz) && P (t.getD g ptz) := by
  unfold nodesOf
  by_cases h : r = ptz
  · rw [if_pos h, if_neg (fun e => e.1 h)]
    have e : (List.range 8).countP (fun g => decide (t.getD g ptz ≠ ptz) && P (t.getD g ptz)) = 0 := by
      rw [List.countP_eq_zero]
      intro g _
      rw [hr h, ndz_get]
      simp
    rw [e]
    rfl
  · rw [if_neg h, List.countP_cons, List.countP_filter]
    have e : t.countP (fun a => P a && decide (a ≠ ptz)) = (List.range 8).countP fun g => decide (t.getD g ptz ≠ ptz) && P (t.getD g ptz) := by
      conv => lhs; rw [top_list ht]
      rw [List.countP_map]
      apply List.countP_congr
      intro g _
      simp only [Function.comp_apply, Bool.and_comm]
    rw [e]
    by_cases hP : P r = true
    · rw [if_pos hP, if_pos ⟨h, hP⟩]; omega
    · rw [if_neg hP, if_neg (fun e => hP e.2)]; omega
/-- what a Set did: the tree ahead of it, and behind it -/
structure SetF (s' : Shf) (was now h c : List Pt) : Prop where
  nm : ∀ x ∈ now, (x ∈ was ↔ ¬ x ∈ s'.made)
  nc : now.countP (fun x => !was.contains x) = s'.made.length
  gm : ∀ x ∈ was, (x ∈ now ↔ ¬ x ∈ s'.gone)
  gc : was.countP (fun x => !now.contains x) + (List.range 64).countP (dfT h c) = s'.gone.length
  gl : ∀ o, o < 64 → dfT h c o = true → h.getD o ptz ∈ s'.gone
theorem contains_dec (l : List Pt) (x : Pt) : l.contains x = decide (x ∈ l) := by
  by_cases h : x ∈ l <;> simp [h]
theorem tset_sh {s : Shf} {root : Pt} {t h : List Pt} (tp : TreeP s.bl root t h) (hb : s.bad = []) (hr : s.room = -1) (hm : s.made = []) (hgo : s.gone = []) (h0 : s.bl.length + 9 < 30000) {obj : Nat} (hobj : obj < 65536)
    {l : List (Nat × Pt)} (hp : l.Pairwise fun x y => x.1 < y.1) (hl : ∀ x ∈ l, x.1 < 64) (hok : ∀ x ∈ l, (PtOk x.2 ∧ okP x.2 = true) ∧ (x.2 = ptz ∨ x.2.k ≠ 3)) :
    ∃ s' r n, tset shRd shNw shOd obj s root l = (s', r, 0) ∧ TreeP s'.bl r n (nxtT h l) ∧ SetF s' (nodesOf root t) (nodesOf r n) h (nxtT h l) ∧ s'.bad = [] ∧ s'.room = -1 ∧ (∃ e, s'.bl = s.bl ++ e) ∧ s'.bl.length ≤ s.bl.length + 9 := by
  have hlv := lvGood_of l none (fun x hx => ⟨hl x hx, (hok x hx).1.2⟩) hp (fun y hy => by cases hy)
  unfold tset
  rw [hlv, tp.may]
  simp only [Bool.and_self, if_true]
  have tb : ∀ g, g < 8 → (t.getD g ptz).b ≤ s.bl.length := fun g hg => (tp.gr g hg).bb
  have tl := tp.rs.okn.len
  have same : ∀ s' : Shf, s'.made = [] → s'.gone = [] → SetF s' (nodesOf root t) (nodesOf root t) h h := fun s' h1 h2 => by
    refine ⟨fun x hx => by simp [h1, hx], ?_, fun x hx => by simp [h2, hx], ?_, fun o _ e => by rw [dfT_self] at e; cases e⟩
    · rw [h1, List.length_nil, List.countP_eq_zero]
      intro x hx
      simp [hx]
    · rw [h2, List.length_nil]
      have e1 : (nodesOf root t).countP (fun x => !(nodesOf root t).contains x) = 0 := by
        rw [List.countP_eq_zero]
        intro x hx
        simp [hx]
      have e2 : (List.range 64).countP (dfT h h) = 0 := by
        rw [List.countP_eq_zero]
        intro x _
        simp [dfT_self]
      omega
  by_cases hl0 : l = []
  · subst hl0
    exact ⟨s, root, t, rfl, tp, same s hm hgo, hb, hr, ⟨[], by simp⟩, by omega⟩
  rw [if_neg hl0]
  have e1 := tp.rs.read (s := s) (by rw [hb]; rfl)
  obtain ⟨m, hme⟩ : ∃ m, (if root = ptz then [] else [root]) = m := ⟨_, rfl⟩
  rw [hme] at e1
  rw [e1]
  simp only [ne_eq, not_true_eq_false, if_false]
  have M0 : MidT s.bl.length t h (s.more m) t h := MidT.begin (s := s.more m) (root := root) tp hb hr hm hgo
  obtain ⟨s2, n, e2, M, x2, hx2⟩ := MidT.grps tb tp.hl (by omega) hobj l.length l 0 (s.more m) t h M0 (Nat.le_refl _) hp (fun x hx => ⟨hl x hx, Nat.zero_le _⟩) hok (fun _ _ => rfl)
  rw [e2]
  simp only [not_true_eq_false, if_false]
  obtain ⟨c, hc⟩ : ∃ c, nxtT h l = c := ⟨_, rfl⟩
  rw [hc] at M ⊢
  have hx2 : s2.bl = s.bl ++ x2 := hx2
  have hm8 : s2.made.length ≤ 8 := by
    rw [M.madeL]
    exact Nat.le_trans List.countP_le_length (by simp)
  have hb2 := M.bl
  have okn : NdOk n := ⟨M.nl, fun p hp => by
    obtain ⟨i, hi⟩ := List.mem_iff_getElem?.1 hp
    have hlt := (List.getElem?_eq_some_iff.1 hi).1
    have e : n.getD i ptz = p := by rw [List.getD_eq_getElem?_getD, hi]; rfl
    rw [← e]
    exact (M.gr i (by rw [← M.nl]; exact hlt)).rs.okp⟩
  have alln : n.all okP = true := by
    rw [List.all_eq_true]
    intro p hp
    obtain ⟨i, hi⟩ := List.mem_iff_getElem?.1 hp
    have hlt := (List.getElem?_eq_some_iff.1 hi).1
    have e : n.getD i ptz = p := by rw [List.getD_eq_getElem?_getD, hi]; rfl
    have g := M.gr i (by rw [← M.nl]; exact hlt)
    rw [← e]
    exact g.ok
  by_cases hnt : n = t
  · have e : tmade shNw shOd s2 root t n 2 obj 0 = (s2, root, 0) := by unfold tmade; rw [if_pos hnt]
    have hch : c = h := ext_getD (by rw [M.cl, tp.hl]) fun o ho => by
      rw [M.cl] at ho
      have h1 := (M.kp (o / 8) (by omega)).1 (by rw [hnt])
      have a := slT_get (g := o / 8) (h := c) (show o % 8 < 8 by omega)
      have b := slT_get (g := o / 8) (h := h) (show o % 8 < 8 by omega)
      rw [show 8 * (o / 8) + o % 8 = o by omega] at a b
      rw [← a, ← b, h1]
    have hmd : s2.made = [] := List.eq_nil_of_length_eq_zero (by
      rw [M.madeL, List.countP_eq_zero]
      intro g _
      rw [hnt]
      simp)
    have hgn : s2.gone = [] := List.eq_nil_of_length_eq_zero (by
      have e1 : (List.range 8).countP (dfT t n) = 0 := by
        rw [List.countP_eq_zero]
        intro g _
        rw [hnt, dfT_self]
        simp
      have e2 : (List.range 64).countP (dfT h c) = 0 := by
        rw [List.countP_eq_zero]
        intro g _
        rw [hch, dfT_self]
        simp
      rw [M.goneL, e1, e2])
    rw [e, hch]
    exact ⟨s2, root, t, rfl, tp.ext ⟨x2, hx2⟩, same s2 hmd hgn, M.bad, M.room, ⟨x2, hx2⟩, by omega⟩
  have fin : ∀ (s' : Shf) (r : Pt), s'.made = s2.made ++ (if r ≠ ptz then [r] else []) → s'.gone = s2.gone ++ (if root ≠ ptz then [root] else []) → TreeP s'.bl r n c → (r ≠ ptz → s.bl.length < r.b) → SetF s' (nodesOf root t) (nodesOf r n) h c := by
    intro s' r hmd hgn tp' hrb
    have was := nodes_mem tl tp.rs.iff.1
    have now := nodes_mem M.nl tp'.rs.iff.1
    have hA : r ≠ ptz → ¬ r ∈ nodesOf root t := fun h1 h2 => by
      have hb := hrb h1
      rcases (was r).1 h2 with ⟨_, h3⟩ | ⟨g, h3, h4, _⟩
      · have := tp.bb
        rw [← h3] at this
        omega
      · have := tb g h3
        rw [← h4] at this
        omega
    have hB : ∀ g, g < 8 → n.getD g ptz ≠ ptz → (n.getD g ptz ∈ nodesOf root t ↔ n.getD g ptz = t.getD g ptz) := fun g hg hz => by
      have tg := (M.gr g hg).tag hz
      constructor
      · intro h2
        rcases (was _).1 h2 with ⟨h3, h4⟩ | ⟨j, h3, h4, h5⟩
        · have := (tp.tag h3).2
          rw [← h4, tg.2.1] at this
          cases this
        · have tj := (tp.gr j h3).tag h5
          rw [← h4] at tj
          have : j = g := by rw [← tj.2.2, tg.2.2]
          rw [this] at h4
          exact h4
      · intro h2
        exact (was _).2 (.inr ⟨g, hg, h2, by rw [← h2]; exact hz⟩)
    have hC : ∀ g, g < 8 → t.getD g ptz ≠ ptz → (t.getD g ptz ∈ nodesOf r n ↔ n.getD g ptz = t.getD g ptz) := fun g hg hz => by
      have tg := (tp.gr g hg).tag hz
      constructor
      · intro h2
        rcases (now _).1 h2 with ⟨h3, h4⟩ | ⟨j, h3, h4, h5⟩
        · have := (tp'.tag h3).2
          rw [← h4, tg.2.1] at this
          cases this
        · have tj := (M.gr j h3).tag h5
          rw [← h4] at tj
          have : j = g := by rw [← tj.2.2, tg.2.2]
          rw [this] at h4
          exact h4.symm
      · intro h2
        exact (now _).2 (.inr ⟨g, hg, h2.symm, by rw [h2]; exact hz⟩)
    have hD : root ≠ ptz → ¬ root ∈ nodesOf r n := fun h1 h2 => by
      rcases (now _).1 h2 with ⟨h3, h4⟩ | ⟨j, h3, h4, h5⟩
      · have h6 := hrb h3
        have := tp.bb
        rw [h4] at this
        omega
      · have tj := (M.gr j h3).tag h5
        have := (tp.tag h1).2
        rw [h4, tj.2.1] at this
        cases this
    have hmg : ∀ x, x ∈ s'.made ↔ x ∈ s2.made ∨ (r ≠ ptz ∧ x = r) := fun x => by
      rw [hmd, List.mem_append]
      by_cases hz : r = ptz <;> simp [hz]
    have hgg : ∀ x, x ∈ s'.gone ↔ x ∈ s2.gone ∨ (root ≠ ptz ∧ x = root) := fun x => by
      rw [hgn, List.mem_append]
      by_cases hz : root = ptz <;> simp [hz]
    refine ⟨fun x hx => ?_, ?_, fun x hx => ?_, ?_, fun o ho hd => (hgg _).2 (.inl ((M.goneE _).2 (.inr ⟨o, ho, rfl, hd⟩)))⟩
    · rcases (now x).1 hx with ⟨h1, rfl⟩ | ⟨g, hg, rfl, h3⟩
      · exact ⟨fun h => absurd h (hA h1), fun h => absurd ((hmg _).2 (.inr ⟨h1, rfl⟩)) h⟩
      · rw [hB g hg h3, hmg, M.madeE]
        constructor
        · rintro h4 (⟨j, h5, h6, h7, h8⟩ | ⟨h5, h6⟩)
          · have tg := (M.gr g hg).tag h3
            have tj := (M.gr j h5).tag h8
            rw [← h6] at tj
            have : j = g := by rw [← tj.2.2, tg.2.2]
            subst this
            exact h7 h4
          · have tg := (M.gr g hg).tag h3
            have := (tp'.tag h5).2
            rw [← h6, tg.2.1] at this
            cases this
        · intro h4
          apply Classical.byContradiction
          intro h5
          exact h4 (.inl ⟨g, hg, rfl, h5, h3⟩)
    · rw [nodes_count M.nl tp'.rs.iff.1, hmd, List.length_append, M.madeL]
      have e1 : (List.range 8).countP (fun g => decide (n.getD g ptz ≠ ptz) && !(nodesOf root t).contains (n.getD g ptz)) = (List.range 8).countP fun g => decide (n.getD g ptz ≠ t.getD g ptz ∧ n.getD g ptz ≠ ptz) := countP_same fun g hg => by
        by_cases hz : n.getD g ptz = ptz
        · rw [hz]; simp
        · rw [contains_dec]
          by_cases he : n.getD g ptz = t.getD g ptz
          · have := (hB g hg hz).2 he
            rw [decide_eq_true this, decide_eq_false (show ¬ (n.getD g ptz ≠ t.getD g ptz ∧ n.getD g ptz ≠ ptz) from fun e => e.1 he)]
            simp
          · have : ¬ n.getD g ptz ∈ nodesOf root t := fun e => he ((hB g hg hz).1 e)
            rw [decide_eq_false this, decide_eq_true hz, decide_eq_true ⟨he, hz⟩]
            rfl
      rw [e1]
      by_cases hz : r = ptz
      · rw [if_neg (fun e => e.1 hz), if_neg (by simp [hz])]
        simp
      · have := hA hz
        rw [if_pos ⟨hz, by rw [contains_dec, decide_eq_false this]; rfl⟩, if_pos hz]
        simp
        omega
    · rcases (was x).1 hx with ⟨h1, rfl⟩ | ⟨g, hg, rfl, h3⟩
      · exact ⟨fun h => absurd h (hD h1), fun h => absurd ((hgg _).2 (.inr ⟨h1, rfl⟩)) h⟩
      · rw [hC g hg h3, hgg, M.goneE]
        have tg := (tp.gr g hg).tag h3
        constructor
        · rintro h4 ((⟨j, h5, h6, h7⟩ | ⟨o, h5, h6, h7⟩) | ⟨h5, h6⟩)
          · have hj : t.getD j ptz ≠ ptz := by rw [← h6]; exact h3
            have tj := (tp.gr j h5).tag hj
            rw [← h6] at tj
            have : j = g := by rw [← tj.2.2, tg.2.2]
            subst this
            unfold dfT at h7
            exact (of_decide_eq_true h7).1 h4
          · have ho : h.getD o ptz ∈ h := by
              rw [List.getD_eq_getElem?_getD, List.getElem?_eq_getElem (by rw [tp.hl]; exact h5)]
              exact List.getElem_mem _
            rcases tp.lf _ ho with h8 | h8
            · rw [← h6] at h8; exact h3 h8
            · rw [← h6, tg.1] at h8; exact h8 rfl
          · have := (tp.tag h5).2
            rw [← h6, tg.2.1] at this
            cases this
        · intro h4
          apply Classical.byContradiction
          intro h5
          exact h4 (.inl (.inl ⟨g, hg, rfl, by unfold dfT; exact decide_eq_true ⟨h5, h3⟩⟩))
    · rw [nodes_count tl tp.rs.iff.1, hgn, List.length_append, M.goneL]
      have e1 : (List.range 8).countP (fun g => decide (t.getD g ptz ≠ ptz) && !(nodesOf r n).contains (t.getD g ptz)) = (List.range 8).countP (dfT t n) := countP_same fun g hg => by
        unfold dfT
        by_cases hz : t.getD g ptz = ptz
        · rw [hz]; simp
        · rw [contains_dec]
          by_cases he : n.getD g ptz = t.getD g ptz
          · have := (hC g hg hz).2 he
            rw [decide_eq_true this, decide_eq_false (show ¬ (n.getD g ptz ≠ t.getD g ptz ∧ t.getD g ptz ≠ ptz) from fun e => e.1 he)]
            simp
          · have : ¬ t.getD g ptz ∈ nodesOf r n := fun e => he ((hC g hg hz).1 e)
            rw [decide_eq_false this, decide_eq_true hz, decide_eq_true ⟨he, hz⟩]
            rfl
      rw [e1]
      by_cases hz : root = ptz
      · rw [if_neg (fun e => e.1 hz), if_neg (by simp [hz])]
        simp
      · have := hD hz
        rw [if_pos ⟨hz, by rw [contains_dec, decide_eq_false this]; rfl⟩, if_pos hz]
        simp
        omega
  obtain ⟨s3, hs3⟩ : ∃ s3 : Shf, (if root = ptz then s2 else shOd s2 root) = s3 := ⟨_, rfl⟩
  have hs3g : s3.gone = s2.gone ++ (if root ≠ ptz then [root] else []) ∧ s3.bl = s2.bl ∧ s3.made = s2.made ∧ s3.bad = [] ∧ s3.room = -1 := by
    rw [← hs3]
    by_cases hz : root = ptz
    · rw [if_pos hz, if_neg (by simp [hz])]
      exact ⟨by simp, rfl, rfl, M.bad, M.room⟩
    · rw [if_neg hz, if_pos hz]
      exact ⟨rfl, rfl, rfl, M.bad, M.room⟩
  obtain ⟨g1, g2, g3, g4, g5⟩ := hs3g
  unfold tmade
  rw [if_neg hnt, hs3]
  by_cases hnz : n = ndz
  · rw [if_pos hnz]
    have tp' : TreeP s3.bl ptz n c := by
      refine ⟨by rw [hnz]; exact RsT.z _, fun h => absurd rfl h, Nat.zero_le _, by decide, fun g hg => ?_, M.cl, M.lf⟩
      rw [g2]; exact M.gr g hg
    exact ⟨s3, ptz, n, rfl, tp', fin s3 ptz (by rw [g3]; simp) g1 tp' (fun h => absurd rfl h), g4, g5, ⟨x2, by rw [g2, hx2]⟩, by rw [g2]; omega⟩
  · rw [if_neg hnz, if_neg (by rw [alln]; simp)]
    have hsz : s3.bl.length = s2.bl.length := by rw [g2]
    unfold shNw
    rw [if_neg (by rw [g5, hsz]; omega)]
    obtain ⟨q, hq⟩ : ∃ q, shp (s3.bl.length + 1) (nwp 2 obj 0) (bytesN n) = q := ⟨_, rfl⟩
    rw [hq]
    have hqb : q.b = s2.bl.length + 1 := by rw [← hq, hsz]; rfl
    have hqm : mayP q = true := by rw [← hq]; exact shp_may (by omega) (.inr rfl) _
    have hqz : q ≠ ptz := by
      intro e
      rw [e] at hqb
      cases hqb
    have hqkl : q.k = 3 ∧ q.l = 2 := by rw [← hq]; exact ⟨rfl, rfl⟩
    have tp' : TreeP (s3.bl ++ [bytesN n]) q n c := by
      refine ⟨⟨okn, alln, ?_, .inr ⟨hqz, hnz, s2.bl.length, ?_, ?_⟩⟩, fun _ => hqkl, ?_, ?_, fun g hg => ?_, M.cl, M.lf⟩
      · rw [← hq]; exact shp_ok (by omega) hobj (by decide) (by decide) _
      · rw [← hq, hsz]; rfl
      · simp [g2]
      · simp [hqb, g2]
      · unfold mayT
        rw [hqm, hqkl.1, hqkl.2]
        simp
      · rw [g2]; exact (M.gr g hg).ext ⟨_, rfl⟩
    refine ⟨_, q, n, rfl, tp', fin _ q ?_ g1 tp' (fun _ => by omega), g4, by simp only [g5]; decide, ⟨x2 ++ [bytesN n], by simp [g2, hx2]⟩, by simp [g2]; omega⟩
    simp only
    rw [g3, if_pos hqz]
/-- groups with a leaf -/
def grpN (c : List Pt) : Nat := (List.range 8).countP fun g => decide (slT g c ≠ ndz)
theorem slT_nz {c : List Pt} {g : Nat} (hc : c.length = 64) (hg : g < 8) : (slT g c ≠ ndz) ↔ ∃ k, k < 8 ∧ c.getD (8 * g + k) ptz ≠ ptz := by
  constructor
  · intro h
    apply Classical.byContradiction
    intro hn
    apply h
    apply ext_getD (by rw [slT_len hc hg]; rfl)
    intro k hk
    rw [slT_len hc hg] at hk
    rw [slT_get hk, ndz_get]
    apply Classical.byContradiction
    intro e
    exact hn ⟨k, hk, e⟩
  · rintro ⟨k, hk, h⟩ e
    rw [← slT_get hk, e, ndz_get] at h
    exact h rfl
theorem TreeP.len {bl : List (List UInt8)} {root : Pt} {top c : List Pt} (t : TreeP bl root top c) : (nodesOf root top).length = if grpN c = 0 then 0 else grpN c + 1 := by
  have h1 := nodes_count t.rs.okn.len t.rs.iff.1 fun _ => true
  have e1 : (nodesOf root top).countP (fun _ => true) = (nodesOf root top).length := by simp
  rw [e1] at h1
  have e2 : ((List.range 8).countP fun g => decide (top.getD g ptz ≠ ptz) && true) = grpN c := countP_same fun g hg => by
    have := (t.gr g hg).rs.iff
    by_cases h : top.getD g ptz = ptz
    · rw [decide_eq_false (not_not_intro h), decide_eq_false (not_not_intro (this.1 h))]; rfl
    · rw [decide_eq_true h, decide_eq_true (show slT g c ≠ ndz from fun e => h (this.2 e))]; rfl
  rw [h1, e2]
  by_cases hr : root = ptz
  · have ht := t.rs.iff.1 hr
    have hz : grpN c = 0 := by
      rw [← e2, ht, List.countP_eq_zero]
      intro g _
      rw [ndz_get]
      simp
    rw [hz, if_neg (fun e => e.1 hr), if_pos rfl]
  · have hz : grpN c ≠ 0 := by
      intro hz
      apply hr
      apply t.rs.iff.2
      apply ext_getD (by rw [t.rs.okn.len]; rfl)
      intro g hg
      rw [t.rs.okn.len] at hg
      rw [ndz_get]
      rw [← e2, List.countP_eq_zero] at hz
      have := hz g (List.mem_range.2 hg)
      simpa using this
    rw [if_pos ⟨hr, rfl⟩, if_neg hz]
    omega
end Go.Proofs.YtnefdmbdkljifaaGreatDoor
