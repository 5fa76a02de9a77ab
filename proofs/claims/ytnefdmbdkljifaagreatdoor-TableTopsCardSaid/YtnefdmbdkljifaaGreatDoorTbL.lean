/- A table on a shelf as a map of numbers to inodes, in plain Lean; where blocks are bad or damaged. No condition but that the values are of their types. -/
import Derived.Test.YtnefdmbdkljifaaGreatDoorTbE
import Derived.Test.YtnefdmbdkljifaaGreatDoorTrF
import Derived.Test.YtnefdmbdkljifaaGreatDoorTfA
set_option linter.unusedSimpArgs false
set_option linter.unusedVariables false

/- Tables: Set, of any sink, in plain Lean. No condition but that the values are of their types. -/
namespace Go.Proofs.YtnefdmbdkljifaaGreatDoor
open Go.RowKit Go.Kin

/-- numbers that are objects', rising; inodes that may be -/
def btOk (b : Option Nat) : List (Nat × In) → Bool
  | [] => true
  | x :: l => decide (1 ≤ x.1 ∧ x.1 ≤ 255) && mayI x.2 && (match b with | none => true | some z => decide (z < x.1)) && btOk (some x.1) l
theorem btOk_cons (b : Option Nat) (x : Nat × In) (l : List (Nat × In)) : btOk b (x :: l) = (decide (1 ≤ x.1 ∧ x.1 ≤ 255) && mayI x.2 && (match b with | none => true | some z => decide (z < x.1)) && btOk (some x.1) l) := rfl
/-- those of a leaf -/
def btgrp (l : List (Nat × In)) (o : Nat) : List (Nat × In) := l.filter fun x => decide (x.1 / 4 = o)
theorem btgrp_mem {l : List (Nat × In)} {o : Nat} {x : Nat × In} : x ∈ btgrp l o ↔ x ∈ l ∧ x.1 / 4 = o := by
  unfold btgrp
  simp
theorem btgrp_len (l : List (Nat × In)) (o : Nat) : (btgrp l o).length ≤ l.length := List.length_filter_le _ _
theorem btgrp_snoc (l : List (Nat × In)) (x : Nat × In) (o : Nat) : btgrp (l ++ [x]) o = btgrp l o ++ if x.1 / 4 = o then [x] else [] := by
  unfold btgrp
  rw [List.filter_append]
  congr 1
  by_cases h : x.1 / 4 = o
  · rw [if_pos h, List.filter_cons, if_pos (decide_eq_true h)]
    rfl
  · rw [if_neg h, List.filter_cons, if_neg (by simp [h])]
    rfl
/-- the leaves that have some -/
def offsL (l : List (Nat × In)) : List Nat := (List.range 64).filter fun o => decide (btgrp l o ≠ [])
theorem offsL_mem {l : List (Nat × In)} {o : Nat} : o ∈ offsL l ↔ o < 64 ∧ btgrp l o ≠ [] := by
  unfold offsL
  simp
theorem offsL_rise (l : List (Nat × In)) : (offsL l).Pairwise (· < ·) := List.Pairwise.filter _ List.pairwise_lt_range
theorem offsL_len (l : List (Nat × In)) : (offsL l).length ≤ 64 := Nat.le_trans (List.length_filter_le _ _) (by simp)
theorem rise_ext : ∀ {a b : List Nat}, a.Pairwise (· < ·) → b.Pairwise (· < ·) → (∀ x, x ∈ a ↔ x ∈ b) → a = b
  | [], [], _, _, _ => rfl
  | [], y :: b, _, _, h => absurd ((h y).2 (by simp)) (by simp)
  | x :: a, [], _, _, h => absurd ((h x).1 (by simp)) (by simp)
  | x :: a, y :: b, ha, hb, h => by
    have hx := List.pairwise_cons.1 ha
    have hy := List.pairwise_cons.1 hb
    have e : x = y := by
      rcases List.mem_cons.1 ((h x).1 (by simp)) with e | e
      · exact e
      · rcases List.mem_cons.1 ((h y).2 (by simp)) with e2 | e2
        · exact e2.symm
        · have h1 := hy.1 x e
          have h2 := hx.1 y e2
          omega
    subst e
    rw [rise_ext hx.2 hy.2 fun z => ⟨fun hz => ?_, fun hz => ?_⟩]
    · rcases List.mem_cons.1 ((h z).1 (by simp [hz])) with e | e
      · have := hx.1 z hz
        omega
      · exact e
    · rcases List.mem_cons.1 ((h z).2 (by simp [hz])) with e | e
      · have := hy.1 z hz
        omega
      · exact e
theorem btOk_all : ∀ {l : List (Nat × In)} {b : Option Nat}, btOk b l = true → ∀ x ∈ l, (1 ≤ x.1 ∧ x.1 ≤ 255) ∧ mayI x.2 = true
  | [], _, _, x, hx => by cases hx
  | y :: l, b, h, x, hx => by
    rw [btOk_cons] at h
    simp only [Bool.and_eq_true, decide_eq_true_eq] at h
    rcases List.mem_cons.1 hx with rfl | hx
    · exact h.1.1
    · exact btOk_all h.2 x hx
theorem btOk_rise : ∀ {l : List (Nat × In)} {b : Option Nat}, btOk b l = true → l.Pairwise (fun x y => x.1 < y.1) ∧ ∀ z, b = some z → ∀ x ∈ l, z < x.1
  | [], _, _ => ⟨List.Pairwise.nil, fun _ _ x hx => by cases hx⟩
  | y :: l, b, h => by
    rw [btOk_cons] at h
    simp only [Bool.and_eq_true, decide_eq_true_eq] at h
    obtain ⟨h1, h2⟩ := btOk_rise h.2
    refine ⟨List.pairwise_cons.2 ⟨fun x hx => h2 _ rfl x hx, h1⟩, fun z hz x hx => ?_⟩
    subst hz
    have h3 : z < y.1 := by simpa using h.1.2
    rcases List.mem_cons.1 hx with rfl | hx
    · exact h3
    · exact Nat.lt_trans h3 (h2 _ rfl x hx)
/-- one of them, looked at where it stands -/
def btOne (l : List (Nat × In)) (i : Nat) (x : Nat × In) : Bool := decide (1 ≤ x.1 ∧ x.1 ≤ 255) && mayI x.2 && (match (if i = 0 then none else (l[i - 1]?).map (·.1)) with | none => true | some z => decide (z < x.1))
theorem btOk_at (l : List (Nat × In)) {i : Nat} {x : Nat × In} (hx : l[i]? = some x) : btOk (if i = 0 then none else (l[i - 1]?).map (·.1)) (l.drop i) = (btOne l i x && btOk (if i + 1 = 0 then none else (l[i + 1 - 1]?).map (·.1)) (l.drop (i + 1))) := by
  have hlt := (List.getElem?_eq_some_iff.1 hx).1
  have e : l.drop i = x :: l.drop (i + 1) := by
    rw [List.drop_eq_getElem_cons hlt]
    congr 1
    rw [List.getElem?_eq_getElem hlt] at hx
    exact Option.some.inj hx
  rw [e, btOk_cons, if_neg (show ¬ i + 1 = 0 by omega), Nat.add_sub_cancel, hx]
  rfl
/-- group for group -/
def btgs {σ : Type} (rd : Src σ) (nw : σ → Pt → List UInt8 → σ × Pt × Int) (p : Pt) (l : List (Nat × In)) : List Nat → σ → List (Nat × Pt) → σ × List (Nat × Pt) × Int
  | [], s, acc => (s, acc, 0)
  | o :: os, s, acc => if (bmade rd nw s p o (btgrp l o)).2.2.2 ≠ 0 then ((bmade rd nw s p o (btgrp l o)).1, [], (bmade rd nw s p o (btgrp l o)).2.2.2)
    else btgs rd nw p l os (bmade rd nw s p o (btgrp l o)).1 (if (bmade rd nw s p o (btgrp l o)).2.2.1 then acc ++ [(o, (bmade rd nw s p o (btgrp l o)).2.1)] else acc)
/-- a table with other inodes -/
def btset {σ : Type} (rd : Src σ) (nw : σ → Pt → List UInt8 → σ × Pt × Int) (od : σ → Pt → σ) (s : σ) (p : Pt) (l : List (Nat × In)) : σ × Pt × Int :=
  if btOk none l = true then (if (btgs rd nw p l (offsL l) s []).2.2 ≠ 0 then ((btgs rd nw p l (offsL l) s []).1, ptz, (btgs rd nw p l (offsL l) s []).2.2) else tset rd nw od 0 (btgs rd nw p l (offsL l) s []).1 p (btgs rd nw p l (offsL l) s []).2.1)
  else (s, ptz, 1)
section
variable {σ : Type} {H : σ → HP} {m : σ → Nat} {rd : Src σ} {nw : σ → Pt → List UInt8 → σ × Pt × Int} {od : σ → Pt → σ} {sv : Value}
theorem btgs_m (hs : SnkOk H m rd nw od sv) (p : Pt) (l : List (Nat × In)) : ∀ (os : List Nat) (s : σ) (acc : List (Nat × Pt)), m s ≤ m (btgs rd nw p l os s acc).1 + 64 * os.length
  | [], s, acc => by unfold btgs; simp
  | o :: os, s, acc => by
    have h1 := bmade_m hs s p o (btgrp l o)
    have h2 := btgs_m hs p l os (bmade rd nw s p o (btgrp l o)).1 (if (bmade rd nw s p o (btgrp l o)).2.2.1 then acc ++ [(o, (bmade rd nw s p o (btgrp l o)).2.1)] else acc)
    unfold btgs
    rw [List.length_cons]
    split
    · simp only; omega
    · omega
theorem btgs_len (p : Pt) (l : List (Nat × In)) : ∀ (os : List Nat) (s : σ) (acc : List (Nat × Pt)), (btgs rd nw p l os s acc).2.1.length ≤ acc.length + os.length
  | [], s, acc => by unfold btgs; simp
  | o :: os, s, acc => by
    have h2 := btgs_len p l os (bmade rd nw s p o (btgrp l o)).1 (if (bmade rd nw s p o (btgrp l o)).2.2.1 then acc ++ [(o, (bmade rd nw s p o (btgrp l o)).2.1)] else acc)
    unfold btgs
    rw [List.length_cons]
    split
    · simp
    · refine Nat.le_trans h2 ?_
      split
      · rw [List.length_append, List.length_singleton]; omega
      · omega
end
end Go.Proofs.YtnefdmbdkljifaaGreatDoor

namespace Go.Proofs.YtnefdmbdkljifaaGreatDoor
open Go.RowKit Go.Kin

/-- the inodes of a leaf -/
def slI (o : Nat) (v : List In) : List In := (v.drop (4 * o)).take 4
theorem slI_get {o k : Nat} {v : List In} (hk : k < 4) : (slI o v).getD k inz = v.getD (4 * o + k) inz := by
  unfold slI
  rw [List.getD_eq_getElem?_getD, List.getElem?_take, if_pos hk, List.getElem?_drop, ← List.getD_eq_getElem?_getD]
theorem slI_len {o : Nat} {v : List In} (hl : v.length = 256) (ho : o < 64) : (slI o v).length = 4 := by
  unfold slI
  simp [hl]
  omega
/-- what a leaf's block says -/
structure LfT (bl : List (List UInt8)) (p : Pt) (L : List In) : Prop where
  ok : IbOk L
  all : L.all mayI = true
  okp : PtOk p
  okq : okP p = true
  kd : p = ptz ∨ p.k ≠ 3
  bb : p.b ≤ bl.length
  at' : (p = ptz ∧ L = ibz) ∨ (p ≠ ptz ∧ L ≠ ibz ∧ ∃ i, p.a.getD 0 0 = i + 1 ∧ bl[i]? = some (bytesI L))
theorem LfT.z (bl : List (List UInt8)) : LfT bl ptz ibz := ⟨ibz_ok, may_ibz, ptz_ok, rfl, .inl rfl, Nat.zero_le _, .inl ⟨rfl, rfl⟩⟩
theorem LfT.iff {bl : List (List UInt8)} {p : Pt} {L : List In} (h : LfT bl p L) : p = ptz ↔ L = ibz := by
  rcases h.at' with ⟨h1, h2⟩ | ⟨h1, h2, _⟩
  · exact ⟨fun _ => h2, fun _ => h1⟩
  · exact ⟨fun e => absurd e h1, fun e => absurd e h2⟩
theorem LfT.ext {bl bl' : List (List UInt8)} {p : Pt} {L : List In} (h : LfT bl p L) (he : ∃ l, bl' = bl ++ l) : LfT bl' p L := by
  obtain ⟨l, rfl⟩ := he
  refine ⟨h.ok, h.all, h.okp, h.okq, h.kd, by rw [List.length_append]; have := h.bb; omega, h.at'.imp id ?_⟩
  rintro ⟨h1, h2, i, h3, h4⟩
  refine ⟨h1, h2, i, h3, ?_⟩
  rw [List.getElem?_append_left (List.getElem?_eq_some_iff.1 h4).1]
  exact h4
/-- a shelf some of whose blocks may be no blocks any more -/
structure Dmg (s : Shf) (bl : List (List UInt8)) : Prop where
  len : bl.length ≤ s.bl.length
  at' : ∀ (i : Nat) (b : List UInt8), bl[i]? = some b → s.bl[i]? = some b ∨ ∃ z : List UInt8, s.bl[i]? = some z ∧ z.length ≠ 512
theorem Dmg.refl (s : Shf) : Dmg s s.bl := ⟨Nat.le_refl _, fun _ _ h => .inl h⟩
theorem Dmg.more {s : Shf} {bl : List (List UInt8)} (d : Dmg s bl) (m : List Pt) : Dmg (s.more m) bl := ⟨d.len, d.at'⟩
theorem nd8_len {z : List UInt8} (h : z.length ≠ 512) : (nd8 z).2 ≠ 0 := fun e => by
  obtain ⟨h1, _, h3⟩ := nd8_e e
  apply h
  rw [← h3, bytesN_length _ h1.all, h1.len]
theorem ib4_len {z : List UInt8} (h : z.length ≠ 512) : (ib4 z).2 ≠ 0 := fun e => by
  obtain ⟨h1, _, h3⟩ := ib4_e e
  apply h
  rw [← h3, bytesI_length _ h1.all, h1.len]
/-- what is read of a block that there was: itself, or what is none, or an error -/
theorem Dmg.read {s : Shf} {bl : List (List UInt8)} (d : Dmg s bl) {p : Pt} {i : Nat} {b : List UInt8} (h3 : p.a.getD 0 0 = i + 1) (h4 : bl[i]? = some b) : shRd s p = (s.more [p], b, 0) ∨ (∃ z : List UInt8, z.length ≠ 512 ∧ shRd s p = (s.more [p], z, 0)) ∨ (s.bad ≠ [] ∧ shRd s p = (s.more [p], [], 21)) := by
  have hlt := (List.getElem?_eq_some_iff.1 h4).1
  have hl := d.len
  unfold shRd
  by_cases hb : s.bad.contains (p.a.getD 0 0) = true
  · rw [if_pos hb]
    refine .inr (.inr ⟨fun e => ?_, rfl⟩)
    rw [e] at hb
    cases hb
  · rw [if_neg hb, if_neg (by rw [h3]; omega), h3, Nat.add_sub_cancel, List.getD_eq_getElem?_getD]
    rcases d.at' i b h4 with h | ⟨z, h, hz⟩
    · rw [h]
      exact .inl rfl
    · rw [h]
      exact .inr (.inl ⟨z, hz, rfl⟩)
theorem RsT.readX {s : Shf} {bl : List (List UInt8)} (d : Dmg s bl) {p : Pt} {n : List Pt} (h : RsT bl p n) : ∃ m, m.length ≤ 1 ∧ (tread shRd s p = (s.more m, n, 0) ∨ tread shRd s p = (s.more m, ndz, 21)) := by
  unfold tread
  rcases h.at' with ⟨rfl, rfl⟩ | ⟨h1, h2, i, h3, h4⟩
  · exact ⟨[], by simp, .inl (by simp)⟩
  · refine ⟨[p], by simp, ?_⟩
    rw [if_neg h1]
    rcases d.read h3 h4 with e | ⟨z, hz, e⟩ | ⟨_, e⟩
    · rw [e]
      simp [nd8_put h.okn h.all]
    · rw [e]
      simp [nd8_len hz]
    · rw [e]
      simp
theorem LfT.readX {s : Shf} {bl : List (List UInt8)} (d : Dmg s bl) {p : Pt} {L : List In} (h : LfT bl p L) : ∃ m, m.length ≤ 1 ∧ (bread shRd s p = (s.more m, L, 0) ∨ bread shRd s p = (s.more m, ibz, 21)) := by
  unfold bread
  rcases h.at' with ⟨rfl, rfl⟩ | ⟨h1, h2, i, h3, h4⟩
  · exact ⟨[], by simp, .inl (by simp)⟩
  · refine ⟨[p], by simp, ?_⟩
    rw [if_neg h1]
    rcases d.read h3 h4 with e | ⟨z, hz, e⟩ | ⟨_, e⟩
    · rw [e]
      simp [ib4_put h.ok h.all]
    · rw [e]
      simp [ib4_len hz]
    · rw [e]
      simp
theorem LfT.read {s : Shf} {p : Pt} {L : List In} (h : LfT s.bl p L) (hb : s.bad = []) : ∃ m, m.length ≤ 1 ∧ bread shRd s p = (s.more m, L, 0) := by
  unfold bread
  rcases h.at' with ⟨rfl, rfl⟩ | ⟨h1, h2, i, h3, h4⟩
  · exact ⟨[], by simp, by simp⟩
  · refine ⟨[p], by simp, ?_⟩
    have hlt := (List.getElem?_eq_some_iff.1 h4).1
    have e : shRd s p = (s.more [p], bytesI L, 0) := by
      unfold shRd
      rw [hb, if_neg (by simp), if_neg (by rw [h3]; omega), h3, Nat.add_sub_cancel, List.getD_eq_getElem?_getD, h4]
      rfl
    rw [if_neg h1, e]
    simp [ib4_put h.ok h.all]
theorem TreeP.getX {s : Shf} {bl : List (List UInt8)} (d : Dmg s bl) {root : Pt} {top h : List Pt} (t : TreeP bl root top h) {off : Nat} (ho : off < 64) : ∃ m, m.length ≤ 2 ∧ (tget shRd s root off = (s.more m, h.getD off ptz, 0) ∨ tget shRd s root off = (s.more m, ptz, 21)) := by
  unfold tget
  rw [t.may, decide_eq_true ho]
  simp only [Bool.and_self, if_true]
  have g := t.gr (off / 8) (by omega)
  obtain ⟨m1, l1, e1⟩ := t.rs.readX d
  unfold tgo
  rcases e1 with e1 | e1
  · obtain ⟨m2, l2, e2⟩ := RsT.readX (d.more m1) g.rs
    rw [e1]
    simp only [ne_eq, not_true_eq_false, if_false, if_true]
    unfold tgo
    rcases e2 with e2 | e2
    · rw [e2]
      refine ⟨m1 ++ m2, by rw [List.length_append]; omega, .inl ?_⟩
      simp only [ne_eq, not_true_eq_false, if_false, show ¬ (0 = 1) by decide]
      unfold tgo
      rw [slT_get (by omega), show 8 * (off / 8) + off % 8 = off by omega, Shf.more_more]
    · rw [e2]
      exact ⟨m1 ++ m2, by rw [List.length_append]; omega, .inr (by simp)⟩
  · rw [e1]
    exact ⟨m1, by omega, .inr (by simp)⟩
/-- a table tells a map -/
structure TabP (bl : List (List UInt8)) (root : Pt) (top h : List Pt) (v : List In) : Prop where
  tp : TreeP bl root top h
  lf : ∀ o, o < 64 → LfT bl (h.getD o ptz) (slI o v)
  hl : v.length = 256
  v0 : v.getD 0 inz = inz
section
variable {s : Shf} {bl : List (List UInt8)} {root : Pt} {top h : List Pt} {v : List In}
theorem TabP.ext {bl' : List (List UInt8)} (t : TabP bl root top h v) (he : ∃ l, bl' = bl ++ l) : TabP bl' root top h v := ⟨t.tp.ext he, fun o ho => (t.lf o ho).ext he, t.hl, t.v0⟩
theorem TabP.z (bl : List (List UInt8)) : TabP bl ptz ndz (List.replicate 64 ptz) (List.replicate 256 inz) := by
  refine ⟨TreeP.z bl, fun o ho => ?_, List.length_replicate, rfl⟩
  have e : slI o (List.replicate 256 inz) = ibz := by
    unfold slI ibz
    rw [List.drop_replicate, List.take_replicate, Nat.min_eq_left (by omega)]
  have e2 : (List.replicate 64 ptz).getD o ptz = ptz := by
    rw [List.getD_eq_getElem?_getD, List.getElem?_replicate]
    split <;> rfl
  rw [e, e2]
  exact LfT.z bl
theorem TabP.get (t : TabP s.bl root top h v) (hb : s.bad = []) {n : Nat} (h1 : 1 ≤ n) (h2 : n ≤ 255) : ∃ m, m.length ≤ 3 ∧ btget shRd s root n = (s.more m, v.getD n inz, 0) := by
  obtain ⟨m1, l1, e1⟩ := t.tp.get hb (off := n / 4) (by omega)
  obtain ⟨m2, l2, e2⟩ := LfT.read (s := s.more m1) (t.lf (n / 4) (by omega)) hb
  refine ⟨m1 ++ m2, by rw [List.length_append]; omega, ?_⟩
  unfold btget
  rw [if_neg (fun e => e ⟨h1, h2⟩), e1]
  simp only [ne_eq, not_true_eq_false, if_false]
  rw [e2]
  simp only
  rw [slI_get (by omega), show 4 * (n / 4) + n % 4 = n by omega, Shf.more_more]
theorem TabP.getX (d : Dmg s bl) (t : TabP bl root top h v) {n : Nat} (h1 : 1 ≤ n) (h2 : n ≤ 255) : ∃ m, m.length ≤ 3 ∧ (btget shRd s root n = (s.more m, v.getD n inz, 0) ∨ btget shRd s root n = (s.more m, inz, 21)) := by
  obtain ⟨m1, l1, e1⟩ := t.tp.getX d (off := n / 4) (by omega)
  unfold btget
  rw [if_neg (fun e => e ⟨h1, h2⟩)]
  rcases e1 with e1 | e1
  · obtain ⟨m2, l2, e2⟩ := (t.lf (n / 4) (by omega)).readX (d.more m1)
    refine ⟨m1 ++ m2, by rw [List.length_append]; omega, ?_⟩
    rw [e1]
    simp only [ne_eq, not_true_eq_false, if_false]
    rcases e2 with e2 | e2
    · rw [e2]
      simp only
      rw [slI_get (by omega), show 4 * (n / 4) + n % 4 = n by omega, Shf.more_more]
      exact .inl rfl
    · rw [e2]
      simp only
      refine .inr ?_
      rw [Shf.more_more]
      have hz : ibz.getD (n % 4) inz = inz := by
        unfold ibz
        rw [List.getD_eq_getElem?_getD, List.getElem?_replicate]
        split <;> rfl
      rw [hz]
  · rw [e1]
    exact ⟨m1, by omega, .inr (by simp)⟩
/-- the items of a map -/
def itsOf (v : List In) (k : Nat) : List (Nat × In) := (List.range k).filterMap fun n => if v.getD n inz = inz then none else some (n, v.getD n inz)
theorem itsOf_step (v : List In) (k : Nat) : itsOf v (k + 1) = itsOf v k ++ if v.getD k inz = inz then [] else [(k, v.getD k inz)] := by
  unfold itsOf
  rw [List.range_succ, List.filterMap_append]
  congr 1
  simp only [List.filterMap_cons, List.filterMap_nil]
  by_cases h : v.getD k inz = inz
  · simp only [if_pos h]
  · simp only [if_neg h]
theorem itsOf_len (v : List In) (k : Nat) : (itsOf v k).length ≤ k := Nat.le_trans (List.length_filterMap_le _ _) (by simp)
theorem itsOf_pre (v : List In) (k m : Nat) : ∃ l, itsOf v (k + m) = itsOf v k ++ l := by
  induction m with
  | zero => exact ⟨[], by simp⟩
  | succ m ih =>
    obtain ⟨l, hl⟩ := ih
    exact ⟨l ++ if v.getD (k + m) inz = inz then [] else [(k + m, v.getD (k + m) inz)], by rw [← Nat.add_assoc, itsOf_step, hl, List.append_assoc]⟩
theorem itsOf_at {k n : Nat} (hk : k < n) (hz : v.getD k inz ≠ inz) : (itsOf v n)[(itsOf v k).length]? = some (k, v.getD k inz) := by
  obtain ⟨l, hl⟩ := itsOf_pre v (k + 1) (n - (k + 1))
  rw [show k + 1 + (n - (k + 1)) = n by omega, itsOf_step, if_neg hz] at hl
  rw [hl, List.append_assoc, List.getElem?_append_right (Nat.le_refl _), Nat.sub_self]
  rfl
theorem itsOf_four (v : List In) {o : Nat} (ho : o < 64) : itsOf v (4 * (o + 1)) = itsOf v (4 * o) ++ itsK o (slI o v) 4 := by
  have e : ∀ k, k ≤ 4 → itsOf v (4 * o + k) = itsOf v (4 * o) ++ itsK o (slI o v) k := by
    intro k
    induction k with
    | zero => intro _; simp [itsK]
    | succ k ih =>
      intro hk
      rw [← Nat.add_assoc, itsOf_step, ih (by omega), itsK_step, slI_get (by omega), show (o * 4 + k) % 65536 = 4 * o + k by omega, List.append_assoc]
  rw [show 4 * (o + 1) = 4 * o + 4 by omega]
  exact e 4 (Nat.le_refl _)
theorem itsK_z (o : Nat) (k : Nat) : itsK o ibz k = [] := by
  unfold itsK
  rw [List.filterMap_eq_nil_iff]
  intro k _
  have hz : ibz.getD k inz = inz := by
    unfold ibz
    rw [List.getD_eq_getElem?_getD, List.getElem?_replicate]
    split <;> rfl
  rw [if_pos hz]
theorem TabP.go (t : TabP s.bl root top h v) (hb : s.bad = []) : ∀ (j k : Nat), k + j = 64 → ∀ (m : List Pt) (ps : List Pt), ∃ m', m'.length ≤ m.length + j ∧
    btgo shRd ((lvsOf h 64).drop (lvsOf h k).length) (s.more m) (itsOf v (4 * k)) ps = (s.more m', itsOf v 256, ps ++ ((lvsOf h 64).drop (lvsOf h k).length).map (·.2), 0)
  | 0, k, hk, m, ps => by
    obtain rfl : k = 64 := by omega
    refine ⟨m, by omega, ?_⟩
    rw [List.drop_of_length_le (Nat.le_refl _), btgo]
    simp
  | j + 1, k, hk, m, ps => by
    have lk := t.lf k (by omega)
    by_cases hz : h.getD k ptz = ptz
    · have e1 : (lvsOf h k).length = (lvsOf h (k + 1)).length := by rw [lvsOf_step, if_pos hz, List.append_nil]
      have e2 : itsOf v (4 * k) = itsOf v (4 * (k + 1)) := by rw [itsOf_four v (by omega), lk.iff.1 hz, itsK_z, List.append_nil]
      obtain ⟨m', h1, h2⟩ := TabP.go t hb j (k + 1) (by omega) m ps
      rw [e1, e2]
      exact ⟨m', by omega, h2⟩
    · have hat := lvsOf_at (k := k) (n := 64) (h := h) (by omega) hz
      have hlt := (List.getElem?_eq_some_iff.1 hat).1
      have e0 : (lvsOf h 64).drop (lvsOf h k).length = (k, h.getD k ptz) :: (lvsOf h 64).drop ((lvsOf h k).length + 1) := by
        rw [List.drop_eq_getElem_cons hlt]
        congr 1
        rw [List.getElem?_eq_getElem hlt] at hat
        exact Option.some.inj hat
      have e1 : (lvsOf h (k + 1)).length = (lvsOf h k).length + 1 := by rw [lvsOf_step, if_neg hz, List.length_append, List.length_singleton]
      obtain ⟨m1, l1, r1⟩ := LfT.read (s := s.more m) lk hb
      obtain ⟨m', h1, h2⟩ := TabP.go t hb j (k + 1) (by omega) (m ++ m1) (ps ++ [h.getD k ptz])
      rw [e1, itsOf_four v (by omega)] at h2
      refine ⟨m', by rw [List.length_append] at h1; omega, ?_⟩
      rw [e0, btgo, r1]
      simp only [ne_eq, not_true_eq_false, if_false, Shf.more_more]
      rw [h2]
      simp
theorem TabP.all (t : TabP s.bl root top h v) (hb : s.bad = []) : ∃ m, m.length ≤ 73 ∧ btall shRd s root = (s.more m, itsOf v 256, nodesOf root top ++ (lvsOf h 64).map (·.2), 0) := by
  obtain ⟨m1, l1, e1⟩ := t.tp.all hb
  obtain ⟨m2, l2, e2⟩ := t.go hb 64 0 (by omega) m1 (nodesOf root top)
  refine ⟨m2, by omega, ?_⟩
  unfold btall
  rw [e1]
  simp only [ne_eq, not_true_eq_false, if_false]
  exact e2
/-- a table tells one map -/
theorem bytesN_inj {a b : List Pt} (ha : NdOk a) (hb : NdOk b) (h1 : a.all okP = true) (h2 : b.all okP = true) (h : bytesN a = bytesN b) : a = b := by
  have e1 := nd8_put ha h1
  rw [h, nd8_put hb h2] at e1
  exact (Prod.mk.inj e1).1.symm
theorem RsT.uniq {p : Pt} {a b : List Pt} (h1 : RsT bl p a) (h2 : RsT bl p b) : a = b := by
  rcases h1.at' with ⟨e1, e2⟩ | ⟨e1, e2, i, e3, e4⟩
  · rw [e2, h2.iff.1 e1]
  · rcases h2.at' with ⟨f1, f2⟩ | ⟨f1, f2, j, f3, f4⟩
    · exact absurd f1 e1
    · have : i = j := by omega
      subst this
      rw [e4] at f4
      exact bytesN_inj h1.okn h2.okn h1.all h2.all (Option.some.inj f4)
theorem TreeP.uniq {top' h' : List Pt} (t : TreeP bl root top h) (t' : TreeP bl root top' h') : h = h' := by
  have e1 := t.rs.uniq t'.rs
  subst e1
  refine ext_getD (by rw [t.hl, t'.hl]) fun o ho => ?_
  rw [t.hl] at ho
  have e2 := (t.gr (o / 8) (by omega)).rs.uniq (t'.gr (o / 8) (by omega)).rs
  have e3 := slT_get (g := o / 8) (h := h) (show o % 8 < 8 by omega)
  have e4 := slT_get (g := o / 8) (h := h') (show o % 8 < 8 by omega)
  rw [show 8 * (o / 8) + o % 8 = o by omega] at e3 e4
  rw [← e3, ← e4, e2]
end
end Go.Proofs.YtnefdmbdkljifaaGreatDoor
