/- A shelf of blocks, and the tree on it as a map, in plain Lean. No condition but that the values are of their types. -/
import Derived.Test.YtppilgkgnofkpaaDoorTrH
import Derived.Test.YtppilgkgnofkpaaDoorPtI
set_option linter.unusedSimpArgs false
set_option linter.unusedVariables false

namespace Go.Proofs.YtppilgkgnofkpaaDoor
open Go.RowKit Go.Kin

/-- a shelf: blocks, addresses that aren't read, what was made, what is old, the room, what was asked -/
structure Shf where
  bl : List (List UInt8)
  bad : List Nat
  made : List Pt
  gone : List Pt
  room : Int
  red : List Pt
def Shf.more (s : Shf) (l : List Pt) : Shf := { s with red := s.red ++ l }
def shRd (s : Shf) (p : Pt) : Shf × List UInt8 × Int :=
  if s.bad.contains (p.a.getD 0 0) then (s.more [p], [], 21)
  else if p.a.getD 0 0 = 0 ∨ s.bl.length < p.a.getD 0 0 then (s.more [p], [], 6)
  else (s.more [p], s.bl.getD (p.a.getD 0 0 - 1) [], 0)
def shq (n : Nat) (p : Pt) : Pt := { p with b := n, a := [n, 0, 0, 0] }
def shp (n : Nat) (p : Pt) (b : List UInt8) : Pt := { shq n p with h := digS (shq n p) b }
def shNw (s : Shf) (p : Pt) (b : List UInt8) : Shf × Pt × Int :=
  if s.room = 0 ∨ 30000 ≤ s.bl.length then (s, ptz, 30)
  else ({ s with room := max (s.room - 1) (-1), bl := s.bl ++ [b], made := s.made ++ [shp (s.bl.length + 1) p b] }, shp (s.bl.length + 1) p b, 0)
def shOd (s : Shf) (p : Pt) : Shf := { s with gone := s.gone ++ [p] }
@[simp] theorem Shf.more_nil (s : Shf) : s.more [] = s := by simp [Shf.more]
@[simp] theorem Shf.more_more (s : Shf) (a b : List Pt) : (s.more a).more b = s.more (a ++ b) := by simp [Shf.more]
@[simp] theorem Shf.more_bl (s : Shf) (a : List Pt) : (s.more a).bl = s.bl := rfl
@[simp] theorem Shf.more_bad (s : Shf) (a : List Pt) : (s.more a).bad = s.bad := rfl
@[simp] theorem Shf.more_made (s : Shf) (a : List Pt) : (s.more a).made = s.made := rfl
@[simp] theorem Shf.more_gone (s : Shf) (a : List Pt) : (s.more a).gone = s.gone := rfl
@[simp] theorem Shf.more_room (s : Shf) (a : List Pt) : (s.more a).room = s.room := rfl
@[simp] theorem Shf.more_red (s : Shf) (a : List Pt) : (s.more a).red = s.red ++ a := rfl

/-- what a pointer's block says -/
structure RsT (bl : List (List UInt8)) (p : Pt) (n : List Pt) : Prop where
  okn : NdOk n
  all : n.all okP = true
  okp : PtOk p
  at' : (p = ptz ∧ n = ndz) ∨ (p ≠ ptz ∧ n ≠ ndz ∧ ∃ i, p.a.getD 0 0 = i + 1 ∧ bl[i]? = some (bytesN n))
theorem RsT.z (bl : List (List UInt8)) : RsT bl ptz ndz := ⟨ndz_ok, by decide, ptz_ok, .inl ⟨rfl, rfl⟩⟩
theorem RsT.iff {bl : List (List UInt8)} {p : Pt} {n : List Pt} (h : RsT bl p n) : p = ptz ↔ n = ndz := by
  rcases h.at' with ⟨h1, h2⟩ | ⟨h1, h2, _⟩
  · exact ⟨fun _ => h2, fun _ => h1⟩
  · exact ⟨fun e => absurd e h1, fun e => absurd e h2⟩
theorem RsT.ext {bl bl' : List (List UInt8)} {p : Pt} {n : List Pt} (h : RsT bl p n) (he : ∃ l, bl' = bl ++ l) : RsT bl' p n := by
  obtain ⟨l, rfl⟩ := he
  refine ⟨h.okn, h.all, h.okp, h.at'.imp id ?_⟩
  rintro ⟨h1, h2, i, h3, h4⟩
  refine ⟨h1, h2, i, h3, ?_⟩
  rw [List.getElem?_append_left (List.getElem?_eq_some_iff.1 h4).1]
  exact h4
theorem RsT.read {s : Shf} {p : Pt} {n : List Pt} (h : RsT s.bl p n) (hb : s.bad.contains (p.a.getD 0 0) = false) : tread shRd s p = (s.more (if p = ptz then [] else [p]), n, 0) := by
  unfold tread
  rcases h.at' with ⟨rfl, rfl⟩ | ⟨h1, h2, i, h3, h4⟩
  · simp
  · have hlt := (List.getElem?_eq_some_iff.1 h4).1
    have e : shRd s p = (s.more [p], bytesN n, 0) := by
      unfold shRd
      rw [hb, if_neg (by decide), if_neg (by rw [h3]; omega), h3, Nat.add_sub_cancel, List.getD_eq_getElem?_getD, h4]
      rfl
    rw [if_neg h1, e]
    simp [nd8_put h.okn h.all, h1]
/-- the pointers of eight leaves -/
def slT (g : Nat) (h : List Pt) : List Pt := (h.drop (8 * g)).take 8
theorem slT_get {g k : Nat} {h : List Pt} (hk : k < 8) : (slT g h).getD k ptz = h.getD (8 * g + k) ptz := by
  unfold slT
  rw [List.getD_eq_getElem?_getD, List.getElem?_take, if_pos hk, List.getElem?_drop, ← List.getD_eq_getElem?_getD]
theorem slT_len {g : Nat} {h : List Pt} (hl : h.length = 64) (hg : g < 8) : (slT g h).length = 8 := by
  unfold slT
  simp [hl]
  omega
structure GpT (bl : List (List UInt8)) (g : Nat) (p : Pt) (n : List Pt) : Prop where
  rs : RsT bl p n
  tag : p ≠ ptz → p.k = 3 ∧ p.l = 1 ∧ p.f = g
  bb : p.b ≤ bl.length
  ok : okP p = true
theorem GpT.ext {bl bl' : List (List UInt8)} {g : Nat} {p : Pt} {n : List Pt} (h : GpT bl g p n) (he : ∃ l, bl' = bl ++ l) : GpT bl' g p n := by
  refine ⟨h.rs.ext he, h.tag, ?_, h.ok⟩
  obtain ⟨l, rfl⟩ := he
  have := h.bb
  rw [List.length_append]
  omega
/-- a tree tells a map -/
structure TreeP (bl : List (List UInt8)) (root : Pt) (top h : List Pt) : Prop where
  rs : RsT bl root top
  tag : root ≠ ptz → root.k = 3 ∧ root.l = 2
  bb : root.b ≤ bl.length
  may : mayT root = true
  gr : ∀ g, g < 8 → GpT bl g (top.getD g ptz) (slT g h)
  hl : h.length = 64
  lf : ∀ x ∈ h, x = ptz ∨ x.k = 1
theorem TreeP.ext {bl bl' : List (List UInt8)} {root : Pt} {top h : List Pt} (t : TreeP bl root top h) (he : ∃ l, bl' = bl ++ l) : TreeP bl' root top h := by
  refine ⟨t.rs.ext he, t.tag, ?_, t.may, fun g hg => (t.gr g hg).ext he, t.hl, t.lf⟩
  obtain ⟨l, rfl⟩ := he
  have := t.bb
  rw [List.length_append]
  omega
theorem ndz_get (g : Nat) : ndz.getD g ptz = ptz := by
  unfold ndz
  rw [List.getD_eq_getElem?_getD, List.getElem?_replicate]
  split <;> rfl
theorem TreeP.z (bl : List (List UInt8)) : TreeP bl ptz ndz (List.replicate 64 ptz) := by
  refine ⟨RsT.z bl, fun h => absurd rfl h, Nat.zero_le _, by decide, fun g hg => ?_, List.length_replicate, fun x hx => .inl (List.mem_replicate.1 hx).2⟩
  have e : slT g (List.replicate 64 ptz) = ndz := by
    unfold slT ndz
    rw [List.drop_replicate, List.take_replicate, Nat.min_eq_left (by omega)]
  rw [ndz_get, e]
  exact ⟨RsT.z bl, fun h => absurd rfl h, Nat.zero_le _, rfl⟩
/-- a leaf of a tree -/
theorem TreeP.get {s : Shf} {root : Pt} {top h : List Pt} (t : TreeP s.bl root top h) (hb : s.bad = []) {off : Nat} (ho : off < 64) : ∃ l, l.length ≤ 2 ∧ tget shRd s root off = (s.more l, h.getD off ptz, 0) := by
  have hb' : ∀ a, s.bad.contains a = false := fun a => by rw [hb]; rfl
  unfold tget
  rw [t.may, decide_eq_true ho]
  simp only [Bool.and_self, if_true]
  have e1 := t.rs.read (hb' _)
  have g := t.gr (off / 8) (by omega)
  have e2 := RsT.read (s := s.more (if root = ptz then [] else [root])) g.rs (hb' _)
  refine ⟨(if root = ptz then [] else [root]) ++ (if top.getD (off / 8) ptz = ptz then [] else [top.getD (off / 8) ptz]), by split <;> split <;> simp, ?_⟩
  unfold tgo
  rw [e1]
  simp only [ne_eq, not_true_eq_false, if_false, if_true]
  unfold tgo
  rw [e2]
  simp only [ne_eq, not_true_eq_false, if_false, show ¬ (0 = 1) by decide]
  unfold tgo
  rw [slT_get (by omega), show 8 * (off / 8) + off % 8 = off by omega, Shf.more_more]
/-- the leaves of a map, the nodes of a tree -/
def lvsOf (h : List Pt) (k : Nat) : List (Nat × Pt) := (List.range k).filterMap fun off => if h.getD off ptz = ptz then none else some (off, h.getD off ptz)
def nodesOf (root : Pt) (top : List Pt) : List Pt := if root = ptz then [] else root :: top.filter (fun p => decide (p ≠ ptz))
theorem lvsOf_step (h : List Pt) (k : Nat) : lvsOf h (k + 1) = lvsOf h k ++ if h.getD k ptz = ptz then [] else [(k, h.getD k ptz)] := by
  unfold lvsOf
  rw [List.range_succ, List.filterMap_append]
  congr 1
  simp only [List.filterMap_cons, List.filterMap_nil]
  by_cases h : h.getD k ptz = ptz
  · simp only [if_pos h]
  · simp only [if_neg h]
theorem filterMap_cg {α β : Type} {f g : α → Option β} : ∀ {l : List α}, (∀ x ∈ l, f x = g x) → l.filterMap f = l.filterMap g
  | [], _ => rfl
  | x :: l, h => by
    rw [List.filterMap_cons, List.filterMap_cons, h x (by simp), filterMap_cg fun y hy => h y (by simp [hy])]
theorem lvsOf_grp (h : List Pt) : lvsOf h 64 = (List.range 8).flatMap fun g => tlvs g (slT g h) := by
  have e : List.range 64 = (List.range 8).flatMap fun g => (List.range 8).map (8 * g + ·) := by decide
  unfold lvsOf
  rw [e, List.filterMap_flatMap]
  congr 1
  funext g
  unfold tlvs
  rw [List.filterMap_map]
  apply filterMap_cg
  intro k hk
  have hk := List.mem_range.1 hk
  simp only [Function.comp_apply]
  rw [slT_get hk]
theorem lvsOf_len (h : List Pt) (k : Nat) : (lvsOf h k).length ≤ k := Nat.le_trans (List.length_filterMap_le _ _) (by simp)
theorem lvsOf_pre (h : List Pt) (k m : Nat) : ∃ l, lvsOf h (k + m) = lvsOf h k ++ l := by
  induction m with
  | zero => exact ⟨[], by simp⟩
  | succ m ih =>
    obtain ⟨l, hl⟩ := ih
    exact ⟨l ++ if h.getD (k + m) ptz = ptz then [] else [(k + m, h.getD (k + m) ptz)], by rw [← Nat.add_assoc, lvsOf_step, hl, List.append_assoc]⟩
theorem lvsOf_at {h : List Pt} {k n : Nat} (hk : k < n) (hz : h.getD k ptz ≠ ptz) : (lvsOf h n)[(lvsOf h k).length]? = some (k, h.getD k ptz) := by
  obtain ⟨l, hl⟩ := lvsOf_pre h (k + 1) (n - (k + 1))
  rw [show k + 1 + (n - (k + 1)) = n by omega, lvsOf_step, if_neg hz] at hl
  rw [hl, List.append_assoc, List.getElem?_append_right (Nat.le_refl _), Nat.sub_self]
  rfl
theorem TreeP.ok {bl : List (List UInt8)} {root : Pt} {top h : List Pt} (t : TreeP bl root top h) : ∀ p ∈ h, PtOk p := fun p hp => by
  obtain ⟨o, ho⟩ := List.mem_iff_getElem?.1 hp
  have hlt := (List.getElem?_eq_some_iff.1 ho).1
  rw [t.hl] at hlt
  have g := t.gr (o / 8) (by omega)
  have e := slT_get (g := o / 8) (h := h) (show o % 8 < 8 by omega)
  rw [show 8 * (o / 8) + o % 8 = o by omega, List.getD_eq_getElem?_getD, List.getD_eq_getElem?_getD, ho, List.getElem?_eq_getElem (by rw [slT_len t.hl (by omega)]; omega)] at e
  have e : (slT (o / 8) h)[o % 8]'(by rw [slT_len t.hl (by omega)]; omega) = p := e
  rw [← e]
  exact g.rs.okn.all _ (List.getElem_mem _)
theorem top_list {top : List Pt} (h : top.length = 8) : top = (List.range 8).map fun g => top.getD g ptz := by
  apply List.ext_getElem?
  intro i
  rw [List.getElem?_map]
  by_cases hi : i < 8
  · rw [List.getElem?_range hi, List.getElem?_eq_getElem (by omega)]
    simp [List.getElem?_eq_getElem (show i < top.length by omega)]
  · rw [List.getElem?_eq_none (by omega), List.getElem?_eq_none (by simp; omega)]
    rfl
theorem TreeP.all {s : Shf} {root : Pt} {top h : List Pt} (t : TreeP s.bl root top h) (hb : s.bad = []) : ∃ l, l.length ≤ 9 ∧ tall shRd s root = (s.more l, lvsOf h 64, nodesOf root top, 0) := by
  have hb' : ∀ a, s.bad.contains a = false := fun a => by rw [hb]; rfl
  have key : ∀ (L : List Nat), (∀ g ∈ L, g < 8) → ∀ (m : List Pt) (ls : List (Nat × Pt)) (ns : List Pt), ∃ l, l.length ≤ m.length + L.length ∧ twk shRd top L (s.more m) ls ns = (s.more l, ls ++ L.flatMap (fun g => tlvs g (slT g h)), ns ++ (L.map fun g => top.getD g ptz).filter (fun p => decide (p ≠ ptz)), 0) := by
    intro L
    induction L with
    | nil => intro _ m ls ns; exact ⟨m, by simp, by simp [twk]⟩
    | cons g L ih =>
      intro hL m ls ns
      have hg := hL g (by simp)
      have gp := t.gr g hg
      by_cases hp : top.getD g ptz = ptz
      · obtain ⟨l, hll, hl⟩ := ih (fun x hx => hL x (by simp [hx])) m ls ns
        refine ⟨l, by rw [List.length_cons]; omega, ?_⟩
        have e0 : slT g h = ndz := gp.rs.iff.1 hp
        unfold twk
        rw [if_pos hp, hl, List.flatMap_cons, e0, List.map_cons, List.filter_cons, hp]
        have e1 : tlvs g ndz = [] := by
          unfold tlvs
          rw [List.filterMap_eq_nil_iff]
          intro k _
          rw [ndz_get, if_pos rfl]
        rw [e1]
        simp
      · have e := RsT.read (s := s.more m) gp.rs (hb' _)
        rw [if_neg hp] at e
        obtain ⟨l, hll, hl⟩ := ih (fun x hx => hL x (by simp [hx])) (m ++ [top.getD g ptz]) (ls ++ tlvs g (slT g h)) (ns ++ [top.getD g ptz])
        refine ⟨l, by rw [List.length_append, List.length_singleton] at hll; rw [List.length_cons]; omega, ?_⟩
        unfold twk
        rw [if_neg hp, e]
        simp only [ne_eq, not_true_eq_false, if_false, Shf.more_more]
        rw [hl, List.flatMap_cons, List.map_cons, List.filter_cons, if_pos (decide_eq_true hp)]
        simp only [List.append_assoc, List.singleton_append]
  unfold tall
  rw [t.may]
  simp only [if_true]
  unfold twalk nodesOf
  by_cases hr : root = ptz
  · have ht := t.rs.iff.1 hr
    refine ⟨[], by simp, ?_⟩
    rw [if_pos hr, if_pos hr, lvsOf_grp]
    have e0 : (List.range 8).flatMap (fun g => tlvs g (slT g h)) = [] := by
      rw [List.flatMap_eq_nil_iff]
      intro g hg
      have gp := t.gr g (List.mem_range.1 hg)
      rw [ht, ndz_get] at gp
      rw [gp.rs.iff.1 rfl]
      unfold tlvs
      rw [List.filterMap_eq_nil_iff]
      intro k _
      rw [ndz_get, if_pos rfl]
    rw [e0]
    simp
  · have e1 := t.rs.read (hb' _)
    rw [if_neg hr] at e1
    obtain ⟨l, hll, hl⟩ := key (List.range 8) (fun g hg => List.mem_range.1 hg) [root] [] [root]
    refine ⟨l, by simpa using hll, ?_⟩
    rw [if_neg hr, if_neg hr, e1]
    simp only [ne_eq, not_true_eq_false, if_false]
    rw [hl]
    simp only [ne_eq, not_true_eq_false, if_false, List.nil_append, List.singleton_append]
    rw [lvsOf_grp, ← top_list t.rs.okn.len]
end Go.Proofs.YtppilgkgnofkpaaDoor
