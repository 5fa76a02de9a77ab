/- The tree law's failures: what a Set does does not hang on what was told before; a Get where some blocks do not read. No condition. -/
import Derived.Test.YtnefdmbdkljifaaGreatDoorTwS
set_option linter.unusedSimpArgs false
set_option linter.unusedVariables false

namespace Go.Proofs.YtnefdmbdkljifaaGreatDoor
open Go.RowKit Go.Kin

section
variable {σ : Type} {rd : Src σ} {nw : σ → Pt → List UInt8 → σ × Pt × Int} {od : σ → Pt → σ} {φ : σ → σ}
theorem tread_sim (h1 : ∀ s p, rd (φ s) p = (φ (rd s p).1, (rd s p).2)) (s : σ) (p : Pt) : tread rd (φ s) p = (φ (tread rd s p).1, (tread rd s p).2) := by
  unfold tread
  simp only [h1]
  split
  · rfl
  · split
    · rfl
    · split <;> rfl
theorem tmade_sim (h2 : ∀ s p b, nw (φ s) p b = (φ (nw s p b).1, (nw s p b).2)) (h3 : ∀ s p, od (φ s) p = φ (od s p)) (s : σ) (p : Pt) (was n : List Pt) (level obj off : Nat) : tmade nw od (φ s) p was n level obj off = (φ (tmade nw od s p was n level obj off).1, (tmade nw od s p was n level obj off).2) := by
  have e : (if p = ptz then φ s else od (φ s) p) = φ (if p = ptz then s else od s p) := by
    by_cases h : p = ptz
    · rw [if_pos h, if_pos h]
    · rw [if_neg h, if_neg h, h3]
  unfold tmade
  rw [e]
  split
  · rfl
  · split
    · rfl
    · split
      · rfl
      · rw [h2]
theorem tputs_sim (h3 : ∀ s p, od (φ s) p = φ (od s p)) : ∀ (l : List (Nat × Pt)) (s : σ) (n : List Pt), l.foldl (tput od) (φ s, n) = (φ (l.foldl (tput od) (s, n)).1, (l.foldl (tput od) (s, n)).2)
  | [], s, n => rfl
  | x :: l, s, n => by
    rw [List.foldl_cons, List.foldl_cons]
    have e : tput od (φ s, n) x = (φ (tput od (s, n) x).1, (tput od (s, n) x).2) := by
      unfold tput
      simp only [h3]
      split <;> rfl
    rw [e]
    exact tputs_sim h3 l _ _
theorem tlow_sim (h1 : ∀ s p, rd (φ s) p = (φ (rd s p).1, (rd s p).2)) (h2 : ∀ s p b, nw (φ s) p b = (φ (nw s p b).1, (nw s p b).2)) (h3 : ∀ s p, od (φ s) p = φ (od s p)) (obj : Nat) (s : σ) (p : Pt) (off : Nat) (l : List (Nat × Pt)) :
    tlow rd nw od obj (φ s) p off l = (φ (tlow rd nw od obj s p off l).1, (tlow rd nw od obj s p off l).2) := by
  unfold tlow
  rw [tread_sim h1]
  simp only
  split
  · rfl
  · rw [tputs_sim h3]
    exact tmade_sim h2 h3 _ _ _ _ _ _ _
theorem tgrps_sim (h1 : ∀ s p, rd (φ s) p = (φ (rd s p).1, (rd s p).2)) (h2 : ∀ s p b, nw (φ s) p b = (φ (nw s p b).1, (nw s p b).2)) (h3 : ∀ s p, od (φ s) p = φ (od s p)) (obj : Nat) : ∀ (fuel : Nat) (s : σ) (n : List Pt) (l : List (Nat × Pt)),
    tgrps rd nw od obj fuel (φ s) n l = (φ (tgrps rd nw od obj fuel s n l).1, (tgrps rd nw od obj fuel s n l).2)
  | 0, s, n, l => by unfold tgrps; rfl
  | fuel + 1, s, n, [] => by unfold tgrps; rfl
  | fuel + 1, s, n, x :: l => by
    unfold tgrps
    simp only
    rw [tlow_sim h1 h2 h3]
    simp only
    split
    · rfl
    · exact tgrps_sim h1 h2 h3 obj fuel _ _ _
theorem tset_sim (h1 : ∀ s p, rd (φ s) p = (φ (rd s p).1, (rd s p).2)) (h2 : ∀ s p b, nw (φ s) p b = (φ (nw s p b).1, (nw s p b).2)) (h3 : ∀ s p, od (φ s) p = φ (od s p)) (obj : Nat) (s : σ) (root : Pt) (l : List (Nat × Pt)) :
    tset rd nw od obj (φ s) root l = (φ (tset rd nw od obj s root l).1, (tset rd nw od obj s root l).2) := by
  unfold tset
  simp only
  rw [tread_sim h1]
  simp only
  rw [tgrps_sim h1 h2 h3]
  simp only
  rw [tmade_sim h2 h3]
  split
  · split
    · rfl
    · split
      · rfl
      · split <;> rfl
  · rfl
end
def Shf.pre (m g : List Pt) (s : Shf) : Shf := { s with made := m ++ s.made, gone := g ++ s.gone }
theorem pre_rd (m g : List Pt) (s : Shf) (p : Pt) : shRd (s.pre m g) p = ((shRd s p).1.pre m g, (shRd s p).2) := by
  unfold shRd
  by_cases h1 : s.bad.contains (p.a.getD 0 0) = true
  · rw [if_pos (show (s.pre m g).bad.contains (p.a.getD 0 0) = true from h1), if_pos h1]
    rfl
  · rw [if_neg (show ¬ (s.pre m g).bad.contains (p.a.getD 0 0) = true from h1), if_neg h1]
    by_cases h2 : p.a.getD 0 0 = 0 ∨ s.bl.length < p.a.getD 0 0
    · rw [if_pos (show p.a.getD 0 0 = 0 ∨ (s.pre m g).bl.length < p.a.getD 0 0 from h2), if_pos h2]
      rfl
    · rw [if_neg (show ¬ (p.a.getD 0 0 = 0 ∨ (s.pre m g).bl.length < p.a.getD 0 0) from h2), if_neg h2]
      rfl
theorem pre_nw (m g : List Pt) (s : Shf) (p : Pt) (b : List UInt8) : shNw (s.pre m g) p b = ((shNw s p b).1.pre m g, (shNw s p b).2) := by
  unfold shNw
  by_cases h1 : s.room = 0 ∨ 30000 ≤ s.bl.length
  · rw [if_pos (show (s.pre m g).room = 0 ∨ 30000 ≤ (s.pre m g).bl.length from h1), if_pos h1]
  · rw [if_neg (show ¬ ((s.pre m g).room = 0 ∨ 30000 ≤ (s.pre m g).bl.length) from h1), if_neg h1]
    simp [Shf.pre, List.append_assoc]
theorem pre_od (m g : List Pt) (s : Shf) (p : Pt) : shOd (s.pre m g) p = (shOd s p).pre m g := by
  unfold shOd
  simp [Shf.pre, List.append_assoc]
/-- a Set makes a tree, whatever was told before -/
theorem tset_shp {s : Shf} {root : Pt} {t h : List Pt} (tp : TreeP s.bl root t h) (hb : s.bad = []) (hr : s.room = -1) (h0 : s.bl.length + 9 < 30000) {obj : Nat} (hobj : obj < 65536)
    {l : List (Nat × Pt)} (hp : l.Pairwise fun x y => x.1 < y.1) (hl : ∀ x ∈ l, x.1 < 64) (hok : ∀ x ∈ l, (PtOk x.2 ∧ okP x.2 = true) ∧ (x.2 = ptz ∨ x.2.k ≠ 3)) :
    ∃ s' r n, tset shRd shNw shOd obj s root l = (s', r, 0) ∧ TreeP s'.bl r n (nxtT h l) ∧ s'.bad = [] ∧ s'.room = -1 ∧ s'.bl.length ≤ s.bl.length + 9 := by
  have e : s = Shf.pre s.made s.gone { s with made := [], gone := [] } := by simp [Shf.pre]
  obtain ⟨s', r, n, h1, h2, _, h4, h5, _, h7⟩ := tset_sh (s := { s with made := [], gone := [] }) tp hb hr rfl rfl h0 hobj hp hl hok
  refine ⟨s'.pre s.made s.gone, r, n, ?_, h2, h4, h5, h7⟩
  rw [e, tset_sim (pre_rd _ _) (pre_nw _ _) (pre_od _ _), h1]
  simp [Shf.pre]
theorem RsT.readB {s : Shf} {p : Pt} {n : List Pt} (h : RsT s.bl p n) : tread shRd s p = if p ≠ ptz ∧ s.bad.contains (p.a.getD 0 0) = true then (s.more [p], ndz, 21) else (s.more (if p = ptz then [] else [p]), n, 0) := by
  by_cases hz : p = ptz
  · rw [if_neg fun e => e.1 hz]
    unfold tread
    rw [if_pos hz, if_pos hz, Shf.more_nil, h.iff.1 hz]
  · by_cases hc : s.bad.contains (p.a.getD 0 0) = true
    · rw [if_pos ⟨hz, hc⟩]
      have e : shRd s p = (s.more [p], [], 21) := by
        unfold shRd
        rw [if_pos hc]
      unfold tread
      rw [if_neg hz, e]
      simp
    · rw [if_neg fun e => hc e.2]
      exact h.read (by simpa using hc)
/-- is one of the blocks bad? -/
def hitB (bad : List Nat) (l : List Pt) : Bool := l.any fun p => bad.contains (p.a.getD 0 0)
theorem hitB_app (bad : List Nat) (l l' : List Pt) : hitB bad (l ++ l') = (hitB bad l || hitB bad l') := List.any_append
theorem hitB_one (bad : List Nat) (p : Pt) : hitB bad [p] = bad.contains (p.a.getD 0 0) := by simp [hitB]
theorem TreeP.getB {s : Shf} {root : Pt} {top h : List Pt} (t : TreeP s.bl root top h) {off : Nat} (ho : off < 64) : ∃ l, l.length ≤ 2 ∧ (∀ p ∈ l, p ∈ nodesOf root top) ∧ tget shRd s root off = (s.more l, if hitB s.bad l then ptz else h.getD off ptz, if hitB s.bad l then 21 else 0) := by
  have hn := nodes_mem t.rs.okn.len t.rs.iff.1
  have hgo : tget shRd s root off = tgo shRd off 2 s root := by
    unfold tget
    rw [t.may, decide_eq_true ho]
    rfl
  rw [hgo]
  have e1 := t.rs.readB
  have g := t.gr (off / 8) (by omega)
  unfold tgo
  by_cases h1 : root ≠ ptz ∧ s.bad.contains (root.a.getD 0 0) = true
  · rw [if_pos h1] at e1
    refine ⟨[root], by simp, fun p hp => (hn p).2 (.inl ⟨h1.1, by simpa using hp⟩), ?_⟩
    rw [e1, hitB_one, h1.2]
    simp
  · rw [if_neg h1] at e1
    obtain ⟨L1, hL1⟩ : ∃ L1, (if root = ptz then [] else [root]) = L1 := ⟨_, rfl⟩
    have hit1 : hitB s.bad L1 = false := by
      rw [← hL1]
      by_cases hz : root = ptz
      · rw [if_pos hz]; rfl
      · rw [if_neg hz, hitB_one]
        have : ¬ s.bad.contains (root.a.getD 0 0) = true := fun e => h1 ⟨hz, e⟩
        simpa using this
    have mem1 : ∀ p ∈ L1, p ∈ nodesOf root top := fun p hp => by
      rw [← hL1] at hp
      by_cases hz : root = ptz
      · rw [if_pos hz] at hp; cases hp
      · rw [if_neg hz] at hp
        exact (hn p).2 (.inl ⟨hz, by simpa using hp⟩)
    have len1 : L1.length ≤ 1 := by
      rw [← hL1]
      split <;> simp
    rw [hL1] at e1
    have e2 := RsT.readB (s := s.more L1) g.rs
    rw [e1]
    simp only [ne_eq, not_true_eq_false, if_false, if_true]
    unfold tgo
    obtain ⟨p2, hp2⟩ : ∃ p2, top.getD (off / 8) ptz = p2 := ⟨_, rfl⟩
    rw [hp2] at e2 ⊢
    by_cases h2 : p2 ≠ ptz ∧ (s.more L1).bad.contains (p2.a.getD 0 0) = true
    · rw [if_pos h2] at e2
      refine ⟨L1 ++ [p2], by rw [List.length_append]; simp; omega, fun p hp => ?_, ?_⟩
      · rcases List.mem_append.1 hp with hp | hp
        · exact mem1 p hp
        · exact (hn p).2 (.inr ⟨off / 8, by omega, by rw [hp2]; simpa using hp, by rw [hp2]; exact h2.1⟩)
      · have hc2 : s.bad.contains (p2.a.getD 0 0) = true := h2.2
        rw [e2, hitB_app, hitB_one, hc2, Shf.more_more]
        simp
    · rw [if_neg h2] at e2
      obtain ⟨L2, hL2⟩ : ∃ L2, (if p2 = ptz then [] else [p2]) = L2 := ⟨_, rfl⟩
      have hit2 : hitB s.bad L2 = false := by
        rw [← hL2]
        by_cases hz : p2 = ptz
        · rw [if_pos hz]; rfl
        · rw [if_neg hz, hitB_one]
          have : ¬ s.bad.contains (p2.a.getD 0 0) = true := fun e => h2 ⟨hz, e⟩
          simpa using this
      have len2 : L2.length ≤ 1 := by
        rw [← hL2]
        split <;> simp
      rw [hL2] at e2
      refine ⟨L1 ++ L2, by rw [List.length_append]; omega, fun p hp => ?_, ?_⟩
      · rcases List.mem_append.1 hp with hp | hp
        · exact mem1 p hp
        · rw [← hL2] at hp
          by_cases hz : p2 = ptz
          · rw [if_pos hz] at hp; cases hp
          · rw [if_neg hz] at hp
            exact (hn p).2 (.inr ⟨off / 8, by omega, by rw [hp2]; simpa using hp, by rw [hp2]; exact hz⟩)
      · rw [e2, hitB_app, hit1, hit2]
        simp only [ne_eq, not_true_eq_false, if_false, show ¬ (0 = 1) by decide]
        unfold tgo
        rw [slT_get (by omega), show 8 * (off / 8) + off % 8 = off by omega, Shf.more_more]
        simp
/-- a tree's pointers point at blocks that are -/
theorem TreeP.ads {s : Shf} {root : Pt} {top h : List Pt} (t : TreeP s.bl root top h) : Ad s.bl root ∧ ∀ g, Ad s.bl ((tread shRd s root).2.1.getD g ptz) := by
  refine ⟨t.rs.ad, fun g => ?_⟩
  rw [t.rs.readB]
  split
  · exact .inl (ndz_get g)
  · by_cases hg : g < 8
    · exact (t.gr g hg).rs.ad
    · refine .inl ?_
      show top.getD g ptz = ptz
      rw [List.getD_eq_getElem?_getD, List.getElem?_eq_none (by rw [t.rs.okn.len]; omega)]
      rfl
/-- what else does not change -/
theorem Ch.but {S B : Nat → Prop} {w w' : World} (h : Ch (fun k => S k ∨ B k) w w') (hB : ∀ k, B k → w'.heap[k]? = w.heap[k]?) : Ch S w w' :=
  ⟨h.os, h.tape, h.output, h.size, fun k hk hn => by
    by_cases hb : B k
    · exact hB k hb
    · exact h.block k hk fun e => e.elim hn hb⟩
theorem ShH.kept2 {g : Nat} {W0 : World} {Bk : Nat → Prop} {s : Shf} {w : World} {O : Nat → Prop} (h : ShH g W0 Bk s w O) {k : Nat} (hk : Bk k) : w.heap[k]? = W0.heap[k]? := by
  obtain ⟨vB, vD, vM, vG, vR, lB, _, _, hS⟩ := h
  obtain ⟨OY, hY, _⟩ := hS.get (i := 5) rfl
  exact (hY.2.2.2.1 k hk).2
/-- the last of many takes more -/
theorem SepL.grow {B : Nat → Prop} {w : World} {Y Y' : HP} (hB : ∀ k, B k → k < w.heap.size) : ∀ (l : List HP) (O : Nat → Prop), SepL (l ++ [Y]) w O → (∀ k, B k → ¬ O k) → (∀ O1, Y w O1 → Y' w (fun k => O1 k ∨ B k)) → SepL (l ++ [Y']) w (fun k => O k ∨ B k)
  | [], O, h, hd, hY => by
    obtain ⟨O1, O2, h1, h2, d, u, lt⟩ := h
    exact ⟨fun k => O1 k ∨ B k, O2, hY O1 h1, h2, fun k hk e => hk.elim (fun hk => d k hk e) fun hk => hd k hk (u k (.inr e)), fun k hk => hk.elim (fun hk => hk.imp (fun hk => u k (.inl hk)) id) fun hk => .inl (u k (.inr hk)), fun k hk => hk.elim (lt k) (hB k)⟩
  | H :: l, O, h, hd, hY => by
    obtain ⟨O1, O2, h1, h2, d, u, lt⟩ := h
    have h3 := SepL.grow hB l O2 h2 (fun k hk e => hd k hk (u k (.inr e))) hY
    exact ⟨O1, fun k => O2 k ∨ B k, h1, h3, fun k hk e => e.elim (fun e => d k hk e) fun e => hd k e (u k (.inl hk)), fun k hk => hk.elim (fun hk => .inl (u k (.inl hk))) fun hk => hk.imp (fun hk => u k (.inr hk)) id, fun k hk => hk.elim (lt k) (hB k)⟩
section
variable {g : Nat} {W0 : World} {Bk : Nat → Prop} {s : Shf} {w : World} {O : Nat → Prop}
/-- bad addresses, another's -/
theorem ShH.setBad (h : ShH g W0 (fun _ => False) s w O) {v : Value} {bad : List Nat} (hv : Sl w v bad.length (u16s bad)) (hbl : bad.length ≤ 1000) (hvk : ∀ k, v.ownBlock = some k → Bk k) (hB : ∀ k, Bk k → ¬ O k ∧ k < w.heap.size) :
    ShH g (w.setCell ⟨g, 1, none⟩ v) Bk { s with bad := bad } (w.setCell ⟨g, 1, none⟩ v) (fun k => O k ∨ Bk k) ∧ Ch O w (w.setCell ⟨g, 1, none⟩ v) := by
  obtain ⟨vB, vD, vM, vG, vR, lB, hgd, hlB, hS⟩ := h
  obtain ⟨h3, k3⟩ := hS.move (i := 0) (shL_ok _ _ _ _ _ _ _ _ _ _) rfl fun O1 h1 _ => Blk.set h1 1 v
  have sz : (w.setCell ⟨g, 1, none⟩ v).heap.size = w.heap.size := by simp
  have hlO := hS.lt
  have ok3 : ∀ H ∈ (shL g s vB vD vM vG vR lB W0 fun _ => False).set 0 (Blk g (#[vB, vD, vM, vG, .int .i64 s.room, vR].setIfInBounds 1 v) 30), HOk H := fun H hH => by
    rcases List.mem_or_eq_of_mem_set hH with h | rfl
    · exact shL_ok _ _ _ _ _ _ _ _ _ _ H h
    · exact Blk.ok _ _ _
  have h3 := (SepL.ok ok3).weak (O' := O) h3 (fun k hk => hk.elim id fun e => by omega) fun k hk => by rw [sz]; exact hlO k hk
  have hv' := hv.ch k3 fun k hk => (hB k (hvk k hk)).1
  have h4 : SepL ([Blk g #[vB, v, vM, vG, .int .i64 s.room, vR] 30, RowH 62 1 vB s.bl.length lB, PtR vM s.made, PtR vG s.gone, PtR vR s.red] ++ [ShY lB s.bl vD s.bad W0 fun _ => False]) (w.setCell ⟨g, 1, none⟩ v) O := h3
  refine ⟨⟨vB, v, vM, vG, vR, lB, ⟨hgd.made, hgd.gone, hgd.red, hgd.bl, hgd.bln, hgd.r0, hgd.r1, hbl⟩, hlB, ?_⟩, k3⟩
  exact SepL.grow (B := Bk) (Y' := ShY lB s.bl v bad (w.setCell ⟨g, 1, none⟩ v) Bk) (fun k hk => by rw [sz]; exact (hB k hk).2) _ O h4 (fun k hk => (hB k hk).1) fun O1 ⟨y1, y2, y3, y4, y5⟩ =>
    ⟨fun i u b hu hb => ⟨(y1 i u b hu hb).1, fun k hk => .inl ((y1 i u b hu hb).2 k hk)⟩, hv', fun k hk => .inr (hvk k hk), fun k hk => ⟨.inr hk, rfl⟩, fun k hk => hk.elim (y5 k) fun hk => by rw [sz]; exact (hB k hk).2⟩
/-- no bad addresses -/
theorem ShH.noBad (h : ShH g W0 Bk s w O) : ShH g W0 Bk { s with bad := [] } (w.setCell ⟨g, 1, none⟩ (.slice none 0 0)) O ∧ Ch O w (w.setCell ⟨g, 1, none⟩ (.slice none 0 0)) := by
  obtain ⟨vB, vD, vM, vG, vR, lB, hgd, hlB, hS⟩ := h
  have sz : (w.setCell ⟨g, 1, none⟩ (.slice none 0 0)).heap.size = w.heap.size := by simp
  have hlO := hS.lt
  obtain ⟨h1, _⟩ := hS.move (i := 5) (w' := w) (H' := ShY lB s.bl (.slice none 0 0) [] W0 Bk) (shL_ok _ _ _ _ _ _ _ _ _ _) rfl fun O1 h1 _ => ⟨⟨fun i u b hu hb => ⟨(h1.1 i u b hu hb).1, fun k hk => .inl ((h1.1 i u b hu hb).2 k hk)⟩, Sl.nil w, fun k hk => by simp [Value.ownBlock] at hk, fun k hk => ⟨.inl (h1.2.2.2.1 k hk).1, (h1.2.2.2.1 k hk).2⟩, Gr.lt h1.2.2.2.2 (Nat.le_refl _)⟩, Ch.refl _ _⟩
  have ok1 : ∀ H ∈ (shL g s vB vD vM vG vR lB W0 Bk).set 5 (ShY lB s.bl (.slice none 0 0) [] W0 Bk), HOk H := fun H hH => by
    rcases List.mem_or_eq_of_mem_set hH with h | rfl
    · exact shL_ok _ _ _ _ _ _ _ _ _ _ H h
    · exact ShY.ok _ _ _ _ _ _
  have h1 := (SepL.ok ok1).weak h1 (fun k hk => Gr.refl hk) hlO
  obtain ⟨h3, k3⟩ := h1.move (i := 0) ok1 rfl fun O1 h1 _ => Blk.set h1 1 (.slice none 0 0)
  refine ⟨⟨vB, .slice none 0 0, vM, vG, vR, lB, ⟨hgd.made, hgd.gone, hgd.red, hgd.bl, hgd.bln, hgd.r0, hgd.r1, Nat.zero_le _⟩, hlB, ?_⟩, k3⟩
  exact (SepL.ok (shL_ok g { s with bad := [] } vB (.slice none 0 0) vM vG vR lB W0 Bk)).weak h3 (fun k hk => hk.elim id fun e => by omega) fun k hk => by rw [sz]; exact hlO k hk
/-- nothing read -/
theorem ShH.noRed (h : ShH g W0 Bk s w O) : ShH g W0 Bk { s with red := [] } (w.setCell ⟨g, 5, none⟩ (.slice none 0 0)) O ∧ Ch O w (w.setCell ⟨g, 5, none⟩ (.slice none 0 0)) := by
  obtain ⟨vB, vD, vM, vG, vR, lB, hgd, hlB, hS⟩ := h
  have sz : (w.setCell ⟨g, 5, none⟩ (.slice none 0 0)).heap.size = w.heap.size := by simp
  have hlO := hS.lt
  obtain ⟨h1, _⟩ := hS.move (i := 4) (w' := w) (H' := PtR (.slice none 0 0) []) (shL_ok _ _ _ _ _ _ _ _ _ _) rfl fun O1 h1 _ => ⟨⟨World.ownsRow_nil _ _ _ _, fun k hk => by simp [Value.ownBlock] at hk, Gr.lt h1.2.2 (Nat.le_refl _)⟩, Ch.refl _ _⟩
  have ok1 : ∀ H ∈ (shL g s vB vD vM vG vR lB W0 Bk).set 4 (PtR (.slice none 0 0) []), HOk H := fun H hH => by
    rcases List.mem_or_eq_of_mem_set hH with h | rfl
    · exact shL_ok _ _ _ _ _ _ _ _ _ _ H h
    · exact RowH.ok _ _ _ _ _
  have h1 := (SepL.ok ok1).weak h1 (fun k hk => Gr.refl hk) hlO
  obtain ⟨h3, k3⟩ := h1.move (i := 0) ok1 rfl fun O1 h1 _ => Blk.set h1 5 (.slice none 0 0)
  refine ⟨⟨vB, vD, vM, vG, .slice none 0 0, lB, ⟨hgd.made, hgd.gone, fun p hp => (by cases hp), hgd.bl, hgd.bln, hgd.r0, hgd.r1, hgd.badl⟩, hlB, ?_⟩, k3⟩
  exact (SepL.ok (shL_ok g { s with red := [] } vB vD vM vG (.slice none 0 0) lB W0 Bk)).weak h3 (fun k hk => hk.elim id fun e => by omega) fun k hk => by rw [sz]; exact hlO k hk
/-- so much room -/
theorem ShH.setRoom (h : ShH g W0 Bk s w O) (r : Int) (r0 : -1 ≤ r) (r1 : r ≤ 255) : ShH g W0 Bk { s with room := r } (w.setCell ⟨g, 4, none⟩ (.int .i64 r)) O ∧ Ch O w (w.setCell ⟨g, 4, none⟩ (.int .i64 r)) := by
  obtain ⟨vB, vD, vM, vG, vR, lB, hgd, hlB, hS⟩ := h
  have sz : (w.setCell ⟨g, 4, none⟩ (.int .i64 r)).heap.size = w.heap.size := by simp
  have hlO := hS.lt
  obtain ⟨h3, k3⟩ := hS.move (i := 0) (shL_ok _ _ _ _ _ _ _ _ _ _) rfl fun O1 h1 _ => Blk.set h1 4 (.int .i64 r)
  refine ⟨⟨vB, vD, vM, vG, vR, lB, ⟨hgd.made, hgd.gone, hgd.red, hgd.bl, hgd.bln, r0, r1, hgd.badl⟩, hlB, ?_⟩, k3⟩
  exact (SepL.ok (shL_ok g { s with room := r } vB vD vM vG vR lB W0 Bk)).weak h3 (fun k hk => hk.elim id fun e => by omega) fun k hk => by rw [sz]; exact hlO k hk
end
end Go.Proofs.YtnefdmbdkljifaaGreatDoor
