/- The tree law's shelf is given blocks, bad addresses, that are another's. No condition but that the values are of their types. -/
import Derived.Test.YtnefdmbdkljifaaGreatDoorTrN
import Derived.Test.YtnefdmbdkljifaaGreatDoorTrS
set_option linter.unusedSimpArgs false
set_option linter.unusedVariables false

/- What trees on a shelf answer where something is wrong, in plain Lean; trees without a source. Conditions: the variables ptr.wide and tree.hole hold what the text lays. -/
namespace Go.Proofs.YtnefdmbdkljifaaGreatDoor
open Go.RowKit Go.Kin

/-- a hole, or a pointer at a block that is -/
def Ad (bl : List (List UInt8)) (p : Pt) : Prop := p = ptz ∨ (p.a.getD 0 0 ≠ 0 ∧ p.a.getD 0 0 ≤ bl.length)
theorem Ad.ext {bl bl' : List (List UInt8)} {p : Pt} (h : Ad bl p) (he : ∃ x, bl' = bl ++ x) : Ad bl' p := by
  obtain ⟨x, rfl⟩ := he
  refine h.imp id fun h => ⟨h.1, ?_⟩
  rw [List.length_append]
  omega
theorem RsT.ad {bl : List (List UInt8)} {p : Pt} {n : List Pt} (h : RsT bl p n) : Ad bl p := by
  rcases h.at' with ⟨h1, _⟩ | ⟨_, _, i, h3, h4⟩
  · exact .inl h1
  · have := (List.getElem?_eq_some_iff.1 h4).1
    exact .inr ⟨by omega, by omega⟩
theorem ndz_all : ndz.all okP = true := by decide
theorem shRd_e (s : Shf) (p : Pt) : ((shRd s p).2.2 = 0 ∨ (shRd s p).2.2 = 6 ∨ (shRd s p).2.2 = 21) ∧ (shRd s p).1 = s.more [p] ∧ (Ad s.bl p → p ≠ ptz → (shRd s p).2.2 ≠ 6) := by
  unfold shRd
  by_cases h1 : s.bad.contains (p.a.getD 0 0) = true
  · rw [if_pos h1]
    exact ⟨by simp, rfl, fun _ _ => by simp⟩
  · rw [if_neg h1]
    by_cases h2 : p.a.getD 0 0 = 0 ∨ s.bl.length < p.a.getD 0 0
    · rw [if_pos h2]
      refine ⟨by simp, rfl, fun h hz => ?_⟩
      rcases h with h | h
      · exact absurd h hz
      · omega
    · rw [if_neg h2]
      exact ⟨by simp, rfl, fun _ _ => by simp⟩
theorem tread_e (s : Shf) (p : Pt) : ((tread shRd s p).2.2 = 0 ∨ (tread shRd s p).2.2 = 6 ∨ (tread shRd s p).2.2 = 21) ∧ (∃ l, (tread shRd s p).1 = s.more l) ∧ (tread shRd s p).2.1.all okP = true ∧ (Ad s.bl p → (tread shRd s p).2.2 ≠ 6) := by
  obtain ⟨h1, h2, h3⟩ := shRd_e s p
  unfold tread
  by_cases hp : p = ptz
  · rw [if_pos hp]
    exact ⟨.inl rfl, ⟨[], by simp⟩, ndz_all, fun _ => by simp⟩
  · rw [if_neg hp]
    by_cases he : (shRd s p).2.2 ≠ 0
    · rw [if_pos he]
      exact ⟨h1, ⟨_, h2⟩, ndz_all, fun h => h3 h hp⟩
    · rw [if_neg he]
      obtain ⟨⟨N8, e8⟩, h8e⟩ : ∃ x, nd8 (shRd s p).2.1 = x := ⟨_, rfl⟩
      have hall := @nd8_e (shRd s p).2.1
      rw [h8e] at hall ⊢
      by_cases h8 : e8 ≠ 0
      · rw [if_pos h8]
        exact ⟨.inr (.inr rfl), ⟨_, h2⟩, ndz_all, fun _ => by simp⟩
      · rw [if_neg h8]
        exact ⟨.inl rfl, ⟨_, h2⟩, (hall (Classical.byContradiction h8)).2.1, fun _ => by simp⟩
theorem tgo_e (off : Nat) : ∀ (k : Nat) (s : Shf) (p : Pt), (tgo shRd off k s p).2.2 ≠ 1
  | 0, s, p => by unfold tgo; simp
  | k + 1, s, p => by
    have h := (tread_e s p).1
    unfold tgo
    split
    · simp only
      omega
    · exact tgo_e off k _ _
theorem tget_e (s : Shf) (p : Pt) (off : Nat) : ((tget shRd s p off).2.2 = 1) ↔ ¬ (mayT p = true ∧ off < 64) := by
  unfold tget
  by_cases h : (mayT p && decide (off < 64)) = true
  · rw [if_pos h]
    simp at h
    exact ⟨fun e => absurd e (tgo_e off 2 s p), fun e => absurd h e⟩
  · rw [if_neg h]
    simp at h
    exact ⟨fun _ e => absurd e.2 (by have := h e.1; omega), fun _ => rfl⟩
theorem twk_e (top : List Pt) : ∀ (L : List Nat) (s : Shf) (ls : List (Nat × Pt)) (ns : List Pt), (twk shRd top L s ls ns).2.2.2 ≠ 1
  | [], s, ls, ns => by unfold twk; simp
  | i :: L, s, ls, ns => by
    have h := (tread_e s (top.getD i ptz)).1
    unfold twk
    split
    · exact twk_e top L _ _ _
    · split
      · simp only
        omega
      · exact twk_e top L _ _ _
theorem tall_e (s : Shf) (p : Pt) : ((tall shRd s p).2.2.2 = 1) ↔ mayT p = false := by
  have h1 : (twalk shRd s p).2.2.2 ≠ 1 := by
    have h := (tread_e s p).1
    unfold twalk
    split
    · simp
    · split
      · simp only
        omega
      · exact twk_e _ _ _ _ _
  unfold tall
  cases hm : mayT p with
  | false => simp
  | true =>
    simp only [if_true]
    split
    · exact ⟨fun e => absurd e h1, fun e => by cases e⟩
    · exact ⟨fun e => absurd e h1, fun e => by cases e⟩
theorem shNw_e (s : Shf) (lev obj off : Nat) (hl : lev = 1 ∨ lev = 2) (b : List UInt8) : ((shNw s (nwp lev obj off) b).2.2 = 0 ∨ (shNw s (nwp lev obj off) b).2.2 = 30) ∧ okP (shNw s (nwp lev obj off) b).2.1 = true ∧ Ad (shNw s (nwp lev obj off) b).1.bl (shNw s (nwp lev obj off) b).2.1 ∧ ∃ x, (shNw s (nwp lev obj off) b).1.bl = s.bl ++ x := by
  unfold shNw
  split
  · exact ⟨.inr rfl, rfl, .inl rfl, [], by simp⟩
  · refine ⟨.inl rfl, okP_iff.2 (.inr (shp_may (by omega) hl _)), .inr ⟨?_, ?_⟩, [b], rfl⟩
    · show s.bl.length + 1 ≠ 0
      omega
    · show s.bl.length + 1 ≤ _
      simp
theorem shOd_bl (s : Shf) (p : Pt) : (if p = ptz then s else shOd s p).bl = s.bl := by split <;> rfl
theorem tmade_e (s : Shf) (p : Pt) (was n : List Pt) (lev obj off : Nat) (hl : lev = 1 ∨ lev = 2) (hn : n.all okP = true) (hp : okP p = true) :
    ((tmade shNw shOd s p was n lev obj off).2.2 = 0 ∨ (tmade shNw shOd s p was n lev obj off).2.2 = 30) ∧ okP (tmade shNw shOd s p was n lev obj off).2.1 = true ∧ (Ad s.bl p → Ad (tmade shNw shOd s p was n lev obj off).1.bl (tmade shNw shOd s p was n lev obj off).2.1) ∧ ∃ x, (tmade shNw shOd s p was n lev obj off).1.bl = s.bl ++ x := by
  unfold tmade
  split
  · exact ⟨.inl rfl, hp, fun h => h, [], by simp⟩
  · split
    · exact ⟨.inl rfl, rfl, fun _ => .inl rfl, [], by simp [shOd_bl]⟩
    · rw [if_neg (by rw [hn]; simp)]
      obtain ⟨h1, h2, h3, x, h4⟩ := shNw_e (if p = ptz then s else shOd s p) lev obj off hl (bytesN n)
      exact ⟨h1, h2, fun _ => h3, x, by rw [h4, shOd_bl]⟩
theorem tputs_e : ∀ (l : List (Nat × Pt)) (t : Shf × List Pt), t.2.all okP = true → (∀ x ∈ l, okP x.2 = true) → (l.foldl (tput shOd) t).2.all okP = true ∧ (l.foldl (tput shOd) t).1.bl = t.1.bl
  | [], t, h, _ => ⟨h, rfl⟩
  | x :: l, t, h, hl => by
    have h1 : (tput shOd t x).2.all okP = true := by
      show (t.2.set (x.1 % 8) x.2).all okP = true
      rw [List.all_eq_true] at *
      intro y hy
      rcases List.mem_or_eq_of_mem_set hy with h2 | rfl
      · exact h y h2
      · exact hl x (by simp)
    have h2 : (tput shOd t x).1.bl = t.1.bl := by
      unfold tput
      split <;> rfl
    obtain ⟨h3, h4⟩ := tputs_e l _ h1 fun y hy => hl y (by simp [hy])
    rw [List.foldl_cons]
    exact ⟨h3, h4.trans h2⟩
theorem tlow_e (obj : Nat) (s : Shf) (p : Pt) (off : Nat) (l : List (Nat × Pt)) (hp : okP p = true) (hl : ∀ x ∈ l, okP x.2 = true) :
    ((tlow shRd shNw shOd obj s p off l).2.2 = 0 ∨ (tlow shRd shNw shOd obj s p off l).2.2 = 6 ∨ (tlow shRd shNw shOd obj s p off l).2.2 = 21 ∨ (tlow shRd shNw shOd obj s p off l).2.2 = 30) ∧ okP (tlow shRd shNw shOd obj s p off l).2.1 = true ∧
      (Ad s.bl p → (tlow shRd shNw shOd obj s p off l).2.2 ≠ 6 ∧ Ad (tlow shRd shNw shOd obj s p off l).1.bl (tlow shRd shNw shOd obj s p off l).2.1) ∧ ∃ x, (tlow shRd shNw shOd obj s p off l).1.bl = s.bl ++ x := by
  obtain ⟨h1, ⟨m, h2⟩, h3, h4⟩ := tread_e s p
  unfold tlow
  by_cases he : (tread shRd s p).2.2 ≠ 0
  · rw [if_pos he]
    refine ⟨by simp only; omega, rfl, fun h => ⟨h4 h, .inl rfl⟩, [], ?_⟩
    rw [h2]
    simp
  · rw [if_neg he]
    obtain ⟨a1, a2⟩ := tputs_e l ((tread shRd s p).1, (tread shRd s p).2.1) h3 hl
    obtain ⟨b1, b2, b3, x, b4⟩ := tmade_e (l.foldl (tput shOd) ((tread shRd s p).1, (tread shRd s p).2.1)).1 p (tread shRd s p).2.1 _ 1 obj off (.inl rfl) a1 hp
    have hbl : (l.foldl (tput shOd) ((tread shRd s p).1, (tread shRd s p).2.1)).1.bl = s.bl := by rw [a2, h2]; rfl
    rw [hbl] at b3 b4
    exact ⟨by omega, b2, fun h => ⟨by omega, b3 h⟩, x, b4⟩
theorem tgrps_e (obj : Nat) : ∀ (fuel : Nat) (s : Shf) (n : List Pt) (l : List (Nat × Pt)), n.all okP = true → (∀ x ∈ l, okP x.2 = true) →
    ((tgrps shRd shNw shOd obj fuel s n l).2.2 = 0 ∨ (tgrps shRd shNw shOd obj fuel s n l).2.2 = 6 ∨ (tgrps shRd shNw shOd obj fuel s n l).2.2 = 21 ∨ (tgrps shRd shNw shOd obj fuel s n l).2.2 = 30) ∧ (tgrps shRd shNw shOd obj fuel s n l).2.1.all okP = true ∧
      ((∀ g, Ad s.bl (n.getD g ptz)) → (tgrps shRd shNw shOd obj fuel s n l).2.2 ≠ 6) ∧ ∃ x, (tgrps shRd shNw shOd obj fuel s n l).1.bl = s.bl ++ x
  | 0, s, n, l, hn, _ => by unfold tgrps; exact ⟨.inl rfl, hn, fun _ => by simp, [], by simp⟩
  | fuel + 1, s, n, [], hn, _ => by unfold tgrps; exact ⟨.inl rfl, hn, fun _ => by simp, [], by simp⟩
  | fuel + 1, s, n, x :: l, hn, hl => by
    have hp : okP (n.getD (x.1 / 8) ptz) = true := by
      rw [List.getD_eq_getElem?_getD]
      by_cases h : x.1 / 8 < n.length
      · rw [List.getElem?_eq_getElem h]
        exact List.all_eq_true.1 hn _ (List.getElem_mem h)
      · rw [List.getElem?_eq_none (by omega)]
        rfl
    obtain ⟨a1, a2, a3, y, a4⟩ := tlow_e obj s (n.getD (x.1 / 8) ptz) (x.1 / 8) (grp (x.1 / 8) (x :: l)) hp fun z hz => hl z (grp_mem hz).1
    rw [tgrps]
    split
    · refine ⟨a1, hn, fun h => (a3 (h _)).1, y, a4⟩
    · have hn' : (n.set (x.1 / 8) (tlow shRd shNw shOd obj s (n.getD (x.1 / 8) ptz) (x.1 / 8) (grp (x.1 / 8) (x :: l))).2.1).all okP = true := by
        rw [List.all_eq_true] at *
        intro z hz
        rcases List.mem_or_eq_of_mem_set hz with h2 | rfl
        · exact hn z h2
        · exact a2
      obtain ⟨b1, b2, b3, z, b4⟩ := tgrps_e obj fuel (tlow shRd shNw shOd obj s (n.getD (x.1 / 8) ptz) (x.1 / 8) (grp (x.1 / 8) (x :: l))).1 _ ((x :: l).drop (grp (x.1 / 8) (x :: l)).length) hn' fun z hz => hl z (List.mem_of_mem_drop hz)
      refine ⟨b1, b2, fun h => b3 fun g => ?_, y ++ z, by rw [b4, a4, List.append_assoc]⟩
      rw [getD_set]
      split
      · exact (a3 (h _)).2
      · exact (h g).ext ⟨y, a4⟩
theorem lvGood_ok : ∀ (l : List (Nat × Pt)) (b : Option Nat), lvGood b l = true → ∀ x ∈ l, okP x.2 = true
  | [], _, _, x, hx => by cases hx
  | y :: l, b, h, x, hx => by
    rw [lvGood_cons] at h
    simp only [Bool.and_eq_true] at h
    rcases List.mem_cons.1 hx with rfl | hx
    · exact h.1.2
    · exact lvGood_ok l _ h.2 x hx
theorem mayT_ok {p : Pt} (h : mayT p = true) : okP p = true := by
  unfold mayT at h
  simp only [Bool.or_eq_true, Bool.and_eq_true] at h
  unfold okP
  rcases h with h | h
  · rw [h]; rfl
  · rw [h.1.1]; simp
theorem tset_e (obj : Nat) (s : Shf) (root : Pt) (l : List (Nat × Pt)) (hg : lvGood none l = true) (hm : mayT root = true) :
    ((tset shRd shNw shOd obj s root l).2.2 = 0 ∨ (tset shRd shNw shOd obj s root l).2.2 = 6 ∨ (tset shRd shNw shOd obj s root l).2.2 = 21 ∨ (tset shRd shNw shOd obj s root l).2.2 = 30) ∧
      (Ad s.bl root → (∀ g, Ad s.bl ((tread shRd s root).2.1.getD g ptz)) → (tset shRd shNw shOd obj s root l).2.2 ≠ 6) ∧ ∃ x, (tset shRd shNw shOd obj s root l).1.bl = s.bl ++ x := by
  obtain ⟨h1, ⟨m, h2⟩, h3, h4⟩ := tread_e s root
  have hlo := lvGood_ok l none hg
  unfold tset
  rw [hg, hm]
  simp only [Bool.and_self, if_true]
  split
  · exact ⟨.inl rfl, fun _ _ => by simp, [], by simp⟩
  · split
    · refine ⟨by simp only; omega, fun h _ => h4 h, [], ?_⟩
      rw [h2]
      simp
    · obtain ⟨a1, a2, a3, x, a4⟩ := tgrps_e obj l.length (tread shRd s root).1 (tread shRd s root).2.1 l h3 hlo
      have hbl : (tread shRd s root).1.bl = s.bl := by rw [h2]; rfl
      rw [hbl] at a3 a4
      split
      · exact ⟨a1, fun _ h => a3 h, x, a4⟩
      · obtain ⟨b1, b2, _, y, b4⟩ := tmade_e (tgrps shRd shNw shOd obj l.length (tread shRd s root).1 (tread shRd s root).2.1 l).1 root (tread shRd s root).2.1 _ 2 obj 0 (.inr rfl) a2 (mayT_ok hm)
        exact ⟨by omega, fun _ _ => by omega, x ++ y, by rw [b4, a4, List.append_assoc]⟩
theorem tset_no (obj : Nat) (s : Shf) (root : Pt) (l : List (Nat × Pt)) (h : (lvGood none l && mayT root) = false) : tset shRd shNw shOd obj s root l = (s, ptz, 1) := by
  unfold tset
  rw [h]
  rfl
end Go.Proofs.YtnefdmbdkljifaaGreatDoor

namespace Go.Proofs.YtnefdmbdkljifaaGreatDoor
open Go.RowKit Go.Kin

section
variable {g : Nat} {W0 : World} {s : Shf} {w : World} {O : Nat → Prop}
/-- what is kept holds the variables -/
theorem ShH.tenv {Bk : Nat → Prop} (h : ShH g W0 Bk s w O) (env : TEnv W0) (hB : ∀ k, glT k → Bk k) : TEnv w := by
  obtain ⟨vB, vD, vM, vG, vR, lB, _, _, hS⟩ := h
  obtain ⟨OY, hY, _⟩ := hS.get (i := 5) rfl
  have e : ∀ k, glT k → w.heap[k]? = W0.heap[k]? := fun k hk => (hY.2.2.2.1 k (hB k hk)).2
  obtain ⟨cs, T, fr, h1, h2, h3⟩ := env.lh
  refine ⟨fun i z hz => ?_, cs, T, fr, (e _ (.inr rfl)).trans h1, h2, h3⟩
  have := env.lw i z hz
  rw [← this]
  unfold World.cell?
  rw [e _ (.inl rfl)]
/-- one block, another's -/
theorem ShH.setBl (h : ShH g W0 (fun _ => False) s w O) {Bk : Nat → Prop} {vb vN : Value} {b : List UInt8} (hv : Sl w vb b.length (bvs b)) (hb : b.length ≤ 600) (hvk : ∀ k, vb.ownBlock = some k → Bk k) (hvb : ∀ k, Bk k → ¬ O k ∧ k < w.heap.size) (own : w.ownsRow 0 62 1 vN 1 [vb]) (hvN : ∀ k, vN.ownBlock = some k → ¬ O k ∧ ¬ Bk k) :
    ShH g w Bk { s with bl := [b] } (w.setCell ⟨g, 0, none⟩ vN) (fun k => O k ∨ vN.ownBlock = some k ∨ Bk k) ∧ O g := by
  obtain ⟨vB, vD, vM, vG, vR, lB, hgd, hlB, hS⟩ := h
  obtain ⟨Og, R1, hg, ⟨OB, R2, hB, ⟨OM, R3, hM, ⟨OG, R4, hG, ⟨OR, R5, hR, ⟨OY, OE, hY, hE, d6, u6, l6⟩, d5, u5, l5⟩, d4, u4, l4⟩, d3, u3, l3⟩, d2, u2, l2⟩, d1, u1, l1⟩ := hS
  have iY : ∀ k, OY k → R5 k := fun k hk => u6 k (.inl hk)
  have i5 : ∀ k, R5 k → R4 k := fun k hk => u5 k (.inr hk)
  have i4 : ∀ k, R4 k → R3 k := fun k hk => u4 k (.inr hk)
  have i3 : ∀ k, R3 k → R2 k := fun k hk => u3 k (.inr hk)
  have i2 : ∀ k, R2 k → R1 k := fun k hk => u2 k (.inr hk)
  have i1 : ∀ k, R1 k → O k := fun k hk => u1 k (.inr hk)
  have ig : ∀ k, Og k → O k := fun k hk => u1 k (.inl hk)
  have hgO : O g := ig g hg.2.1
  have cs : Ch (one g) w (w.setCell ⟨g, 0, none⟩ vN) := (Ch.refl (one g) w).setCell (p := ⟨g, 0, none⟩) (.inl rfl) vN
  have ng : ∀ k, R1 k → ¬ one g k := fun k hk e => by
    simp only [one] at e
    subst e
    exact d1 k hg.2.1 hk
  have nN : ∀ k, vN.ownBlock = some k → ¬ one g k := fun k hk e => by
    simp only [one] at e
    subst e
    exact (hvN k hk).1 hgO
  have nb : ∀ k, Bk k → ¬ one g k := fun k hk e => by
    simp only [one] at e
    subst e
    exact (hvb k hk).1 hgO
  have lN := own_in own
  have sz : (w.setCell ⟨g, 0, none⟩ vN).heap.size = w.heap.size := by simp
  refine ⟨⟨vN, vD, vM, vG, vR, [vb], ⟨hgd.made, hgd.gone, hgd.red, fun x hx => by simp at hx; subst hx; exact hb, by simp, hgd.r0, hgd.r1, hgd.badl⟩, rfl, ?_⟩, hgO⟩
  have hY1 : ShY [vb] [b] vD s.bad w Bk (w.setCell ⟨g, 0, none⟩ vN) (fun k => OY k ∨ Bk k) := by
    refine ⟨fun i v c hv' hc => ?_, hY.2.1.ch cs fun k hk => ng k (i2 k (i3 k (i4 k (i5 k (iY k (hY.2.2.1 k hk)))))), fun k hk => .inl (hY.2.2.1 k hk), fun k hk => ⟨.inr hk, cs.block k (hvb k hk).2 (nb k hk)⟩, fun k hk => ?_⟩
    · cases i with
      | zero =>
        simp at hv' hc
        subst hv' hc
        exact ⟨hv.ch cs fun k hk => nb k (hvk k hk), fun k hk => .inr (hvk k hk)⟩
      | succ i => simp at hv'
    · rw [sz]
      rcases hk with hk | hk
      · exact hY.2.2.2.2 k hk
      · exact (hvb k hk).2
  refine ⟨Og, fun k => vN.ownBlock = some k ∨ R2 k ∨ Bk k, ⟨by rw [hp_setCell, hg.1, setOf_cells]; rfl, hg.2.1, fun k hk => by rw [sz]; exact hg.2.2 k hk⟩, ⟨fun k => vN.ownBlock = some k, fun k => R2 k ∨ Bk k, ⟨own_ch own cs nN, fun k hk => hk, fun k hk => by rw [sz]; exact lN k hk⟩, ⟨OM, fun k => R3 k ∨ Bk k, ?_, ⟨OG, fun k => R4 k ∨ Bk k, ?_, ⟨OR, fun k => R5 k ∨ Bk k, ?_, ⟨fun k => OY k ∨ Bk k, OE, hY1, fun k hk => by rw [sz]; exact hE k hk, ?_, ?_, ?_⟩, ?_, ?_, ?_⟩, ?_, ?_, ?_⟩, ?_, ?_, ?_⟩, ?_, ?_, ?_⟩, ?_, ?_, ?_⟩
  · exact (RowH.ok _ _ _ _ _).ch hM cs fun k hk => ng k (i2 k (u3 k (.inl hk)))
  · exact (RowH.ok _ _ _ _ _).ch hG cs fun k hk => ng k (i2 k (i3 k (u4 k (.inl hk))))
  · exact (RowH.ok _ _ _ _ _).ch hR cs fun k hk => ng k (i2 k (i3 k (i4 k (u5 k (.inl hk)))))
  · intro k hk he
    rcases hk with hk | hk
    · exact d6 k hk he
    · exact (hvb k hk).1 (i1 k (i2 k (i3 k (i4 k (i5 k (u6 k (.inr he)))))))
  · intro k hk
    rcases hk with (hk | hk) | hk
    · exact .inl (iY k hk)
    · exact .inr hk
    · exact .inl (u6 k (.inr hk))
  · intro k hk
    rw [sz]
    rcases hk with hk | hk
    · exact l6 k hk
    · exact (hvb k hk).2
  · intro k hk he
    rcases he with he | he
    · exact d5 k hk he
    · exact (hvb k he).1 (i1 k (i2 k (i3 k (i4 k (u5 k (.inl hk))))))
  · intro k hk
    rcases hk with hk | hk | hk
    · exact .inl (u5 k (.inl hk))
    · exact .inl (i5 k hk)
    · exact .inr hk
  · intro k hk
    rw [sz]
    rcases hk with hk | hk
    · exact l5 k hk
    · exact (hvb k hk).2
  · intro k hk he
    rcases he with he | he
    · exact d4 k hk he
    · exact (hvb k he).1 (i1 k (i2 k (i3 k (u4 k (.inl hk)))))
  · intro k hk
    rcases hk with hk | hk | hk
    · exact .inl (u4 k (.inl hk))
    · exact .inl (i4 k hk)
    · exact .inr hk
  · intro k hk
    rw [sz]
    rcases hk with hk | hk
    · exact l4 k hk
    · exact (hvb k hk).2
  · intro k hk he
    rcases he with he | he
    · exact d3 k hk he
    · exact (hvb k he).1 (i1 k (i2 k (u3 k (.inl hk))))
  · intro k hk
    rcases hk with hk | hk | hk
    · exact .inl (u3 k (.inl hk))
    · exact .inl (i3 k hk)
    · exact .inr hk
  · intro k hk
    rw [sz]
    rcases hk with hk | hk
    · exact l3 k hk
    · exact (hvb k hk).2
  · intro k hk he
    rcases he with he | he
    · exact (hvN k hk).1 (i1 k (i2 k he))
    · exact (hvN k hk).2 he
  · intro k hk
    rcases hk with hk | hk | hk
    · exact .inl hk
    · exact .inr (.inl hk)
    · exact .inr (.inr hk)
  · intro k hk
    rw [sz]
    rcases hk with hk | hk | hk
    · exact lN k hk
    · exact l2 k (i2 k hk)
    · exact (hvb k hk).2
  · intro k hk he
    rcases he with he | he | he
    · exact (hvN k he).1 (ig k hk)
    · exact d1 k hk (i2 k he)
    · exact (hvb k he).1 (ig k hk)
  · intro k hk
    rcases hk with hk | hk | hk | hk
    · exact .inl (ig k hk)
    · exact .inr (.inl hk)
    · exact .inl (i1 k (i2 k hk))
    · exact .inr (.inr hk)
  · intro k hk
    rw [sz]
    rcases hk with hk | hk | hk
    · exact l1 k hk
    · exact lN k hk
    · exact (hvb k hk).2
end
end Go.Proofs.YtnefdmbdkljifaaGreatDoor
