/- TreeMaps, walked. Conditions: the variables ptr.wide and tree.hole hold what the text lays; the arguments lie in the world. -/
import Derived.Test.YtppilgkgnofkpaaDoorTrW
import Derived.Test.YtppilgkgnofkpaaDoorBox
set_option linter.unusedSimpArgs false
set_option linter.unusedVariables false

namespace Go.Kin
open Go Go.RowKit
section
variable {P : Program} {f : FuncId} {args : Array Value} {R : Value → World → Prop} {H H' : HP} {W w0 w w' : World} {K : Nat → Prop}
theorem Keep.move (h : Keep W w0 w K H) (hf : ∀ O, H w O → (∀ k, O k → W.heap.size ≤ k) → (∀ k, K k → ¬ O k) → H' w' (Gr O w w') ∧ Ch O w w') : Keep W w0 w' K H' := by
  obtain ⟨O, a, b, c⟩ := h.ex
  obtain ⟨y, z⟩ := hf O a b c
  have hs := h.ch.size
  have hs0 := h.ck.size
  exact ⟨⟨_, y, fun k hk => hk.elim (b k) fun e => by omega, fun k hk e => e.elim (c k hk) fun e => by have := h.lt k hk; omega⟩, h.lt, h.ck.trans' z fun k hk e hK => c k hK e, h.ch.trans' z fun k hk e => by have := b k e; omega⟩
/-- what changes neither what is kept nor what is one's own -/
theorem Keep.other {S : Nat → Prop} (h : Keep W w0 w K H) (hH : HOk H) (hc : Ch S w w') (hS : ∀ O, H w O → ∀ k, S k → ¬ O k ∧ ¬ K k ∧ W.heap.size ≤ k) : Keep W w0 w' K H := by
  obtain ⟨O, a, b, c⟩ := h.ex
  exact ⟨⟨O, hH.ch a hc fun k hk e => (hS O a k e).1 hk, b, c⟩, h.lt, h.ck.trans' hc fun k hk e => (hS O a k e).2.1, h.ch.trans' hc fun k hk e => by have := (hS O a k e).2.2; omega⟩
theorem Keep.base (h : Keep W w0 w K H) : Keep W w w K H := ⟨h.ex, fun k hk => Nat.lt_of_lt_of_le (h.lt k hk) h.ck.size, Ch.refl _ _, h.ch⟩
theorem Keep.less {K' : Nat → Prop} (h : Keep W w w K H) (hK : ∀ k, K' k → K k) : Keep W w w K' H := ⟨by
  obtain ⟨O, a, b, c⟩ := h.ex
  exact ⟨O, a, b, fun k hk => c k (hK k hk)⟩, fun k hk => h.lt k (hK k hk), Ch.refl _ _, h.ch⟩
theorem Keep.lst {α : Type} {en : α → List Value} {n : Nat} {v : Value} {l : List α} (h : Keep W w0 w K H) (hl : Lst w0 v en n l) (hv : ∀ k, v.ownBlock = some k → K k) : Lst w v en n l := hl.ch h.ck fun b _ hb e => e (hv b hb)
end
end Go.Kin
namespace Go.Proofs.YtppilgkgnofkpaaDoor
open Go.RowKit Go.Kin

/-- maps, each read -/
def RoM (K : Nat → Prop) (mv : List Value) (hs : List (List Pt)) (w : World) : Prop := ∀ (i : Nat) (v : Value) (h : List Pt), mv[i]? = some v → hs[i]? = some h → PtLst w v h ∧ ∀ k, v.ownBlock = some k → K k
theorem RoM.ch {K : Nat → Prop} {mv : List Value} {hs : List (List Pt)} {w w' : World} (h : RoM K mv hs w) (hc : Ch (fun k => ¬ K k) w w') : RoM K mv hs w' := fun i v l hv hl => ⟨(h i v l hv hl).1.ch hc fun b _ hb e => e ((h i v l hv hl).2 b hb), (h i v l hv hl).2⟩
theorem RoM.mono {K K' : Nat → Prop} {mv : List Value} {hs : List (List Pt)} {w : World} (h : RoM K mv hs w) (hK : ∀ k, K k → K' k) : RoM K' mv hs w := fun i v l hv hl => ⟨(h i v l hv hl).1, fun k hk => hK k ((h i v l hv hl).2 k hk)⟩
theorem RoM.push {K : Nat → Prop} {mv : List Value} {hs : List (List Pt)} {w : World} (h : RoM K mv hs w) (hl : mv.length = hs.length) {v : Value} {l : List Pt} (hv : PtLst w v l) (hK : ∀ k, v.ownBlock = some k → K k) : RoM K (mv ++ [v]) (hs ++ [l]) w := fun i u m hu hm => by
  by_cases hi : i < mv.length
  · rw [List.getElem?_append_left hi] at hu
    rw [List.getElem?_append_left (by omega)] at hm
    exact h i u m hu hm
  · have e : i = mv.length := by
      have := (List.getElem?_eq_some_iff.1 hu).1
      simp at this
      omega
    subst e
    rw [List.getElem?_append_right (Nat.le_refl _), Nat.sub_self] at hu
    rw [hl, List.getElem?_append_right (Nat.le_refl _), Nat.sub_self] at hm
    cases hu
    cases hm
    exact ⟨hv, hK⟩
theorem tyMs : Ty1 Tryd.prog 63 48 (.slice none 0 0) 24 := ⟨Tryd.underlying63, by kernel_rfl, rfl⟩
def MpH (g gr : Nat) (W : World) (s : Shf) (root : Pt) (roots : List Pt) (vro : Value) (mv : List Value) (vma : Value) : HP :=
  SepL [ShH g W (fun _ => False) s, Blk gr (pt root) 28, PtR vro roots, RowH 48 1 vma mv.length mv]
theorem MpH.ok' (g gr : Nat) (W : World) (s : Shf) (root : Pt) (roots : List Pt) (vro : Value) (mv : List Value) (vma : Value) : ∀ H ∈ [ShH g W (fun _ => False) s, Blk gr (pt root) 28, PtR vro roots, RowH 48 1 vma mv.length mv], HOk H := fun H hH => by
  simp only [List.mem_cons, List.not_mem_nil, or_false] at hH
  rcases hH with rfl | rfl | rfl | rfl
  · exact ShH.ok _ _ _ _
  · exact Blk.ok _ _ _
  · exact RowH.ok _ _ _ _ _
  · exact RowH.ok _ _ _ _ _
theorem MpH.ok (g gr : Nat) (W : World) (s : Shf) (root : Pt) (roots : List Pt) (vro : Value) (mv : List Value) (vma : Value) : HOk (MpH g gr W s root roots vro mv vma) := SepL.ok (MpH.ok' g gr W s root roots vro mv vma)
section
variable {g gr : Nat} {W : World} {s : Shf} {root : Pt} {roots : List Pt} {vro : Value} {mv : List Value} {vma : Value} {w w0 : World} {K : Nat → Prop}
/-- a step of the shelf alone -/
theorem MpH.sh {f : FuncId} {args : Array Value} {R : Value → World → Prop} {s' : Shf} (h : Keep W w0 w K (MpH g gr W s root roots vro mv vma)) (hf : ∀ O, ShH g W (fun _ => False) s w O → (∀ k, O k → W.heap.size ≤ k) → (∀ k, K k → ¬ O k) → Ret Tryd.prog f args w fun v w' => R v w' ∧ ShH g W (fun _ => False) s' w' (Gr O w w') ∧ Ch O w w') :
    Ret Tryd.prog f args w fun v w' => R v w' ∧ Keep W w0 w' K (MpH g gr W s' root roots vro mv vma) :=
  h.step fun O hS hW hK => SepL.step (i := 0) hS (MpH.ok' g gr W s root roots vro mv vma) rfl (ShH.ok _ _ _ _) fun O1 h1 hO => hf O1 h1 (fun k hk => hW k (hO k hk)) fun k hk e => hK k hk (hO k e)
theorem MpH.get0 (h : Keep W w0 w K (MpH g gr W s root roots vro mv vma)) : ∃ O, ShH g W (fun _ => False) s w O ∧ (∀ k, O k → W.heap.size ≤ k) ∧ (∀ k, K k → ¬ O k) := by
  obtain ⟨O, a, b, c⟩ := h.ex
  obtain ⟨O1, h1, i1⟩ := SepL.get (i := 0) a rfl
  exact ⟨O1, h1, fun k hk => b k (i1 k hk), fun k hk e => c k hk (i1 k e)⟩
theorem MpH.rootB (h : Keep W w0 w K (MpH g gr W s root roots vro mv vma)) : w.heap[gr]? = some (.cells (pt root) 28 (0, 0)) ∧ ¬ K gr ∧ W.heap.size ≤ gr := by
  obtain ⟨O, a, b, c⟩ := h.ex
  obtain ⟨O1, h1, i1⟩ := SepL.get (i := 1) a rfl
  exact ⟨h1.1, fun e => c gr e (i1 gr h1.2.1), b gr (i1 gr h1.2.1)⟩
theorem MpH.rows (h : Keep W w0 w K (MpH g gr W s root roots vro mv vma)) : w.ownsRow 0 28 41 vro roots.length (rowsL pt roots) ∧ w.ownsRow 0 48 1 vma mv.length mv := by
  obtain ⟨O, a, b, c⟩ := h.ex
  obtain ⟨O1, h1, _⟩ := SepL.get (i := 2) a rfl
  obtain ⟨O2, h2, _⟩ := SepL.get (i := 3) a rfl
  exact ⟨h1.1, h2.1⟩
theorem MpH.setRoot (h : Keep W w0 w K (MpH g gr W s root roots vro mv vma)) (p : Pt) : Keep W w0 (w.setRow gr (pt p)) K (MpH g gr W s p roots vro mv vma) :=
  h.move fun O hS hW hK => SepL.move (i := 1) hS (MpH.ok' g gr W s root roots vro mv vma) rfl fun O1 h1 _ => by
    have c : Ch O1 w (w.setRow gr (pt p)) := (Ch.refl O1 w).setRow (.inl h1.2.1) _
    exact ⟨⟨by rw [hp_setRow, h1.1]; rfl, .inl h1.2.1, Gr.lt h1.2.2 c.size⟩, c⟩
theorem MpH.pushRoot {w' : World} {p : Pt} {v' : Value} (h : Keep W w0 w K (MpH g gr W s root roots vro mv vma)) (own : w'.ownsRow 0 28 41 v' (roots.length + 1) (rowsL pt roots ++ (pt p).toList)) (cl : Ch (fun k => vro.ownBlock = some k) w w') (ff : v'.ownBlock = vro.ownBlock ∨ Fresh w.heap.size v') :
    Keep W w0 w' K (MpH g gr W s root (roots ++ [p]) v' mv vma) :=
  h.move fun O hS hW hK => SepL.move (i := 2) hS (MpH.ok' g gr W s root roots vro mv vma) rfl fun O1 h1 _ => RowH.grown h1 (by rw [rows_one, List.length_append]; exact own) cl ff
theorem MpH.pushMap {w' : World} {v v' : Value} (h : Keep W w0 w K (MpH g gr W s root roots vro mv vma)) (own : w'.ownsRow 0 48 1 v' (mv.length + 1) (mv ++ [v])) (cl : Ch (fun k => vma.ownBlock = some k) w w') (ff : v'.ownBlock = vma.ownBlock ∨ Fresh w.heap.size v') :
    Keep W w0 w' K (MpH g gr W s root roots vro (mv ++ [v]) v') :=
  h.move fun O hS hW hK => SepL.move (i := 3) hS (MpH.ok' g gr W s root roots vro mv vma) rfl fun O1 h1 _ => RowH.grown h1 (by rw [List.length_append]; exact own) cl ff
/-- the shelf forgets what was made, and is gone -/
theorem shForget {O : Nat → Prop} (h : ShH g W (fun _ => False) s w O) : ShH g W (fun _ => False) { s with made := [], gone := [] } ((w.setCell ⟨g, 2, none⟩ (.slice none 0 0)).setCell ⟨g, 3, none⟩ (.slice none 0 0)) (Gr O w ((w.setCell ⟨g, 2, none⟩ (.slice none 0 0)).setCell ⟨g, 3, none⟩ (.slice none 0 0))) ∧ Ch O w ((w.setCell ⟨g, 2, none⟩ (.slice none 0 0)).setCell ⟨g, 3, none⟩ (.slice none 0 0)) := by
  obtain ⟨vB, vD, vM, vG, vR, lB, hgd, hlB, hS⟩ := h
  have nl : ∀ {e n : Nat} {w : World} {O1 : Nat → Prop}, (∀ k, O1 k → k < w.heap.size) → RowH e n (.slice none 0 0) 0 [] w (Gr O1 w w) := fun {e n w O1} hl => ⟨World.ownsRow_nil _ _ _ _, fun k hk => by simp [Value.ownBlock] at hk, Gr.lt hl (Nat.le_refl _)⟩
  obtain ⟨h1, _⟩ := hS.move (i := 2) (w' := w) (H' := PtR (.slice none 0 0) []) (shL_ok _ _ _ _ _ _ _ _ _ _) rfl fun O1 h1 _ => ⟨nl h1.2.2, Ch.refl _ _⟩
  have ok1 : ∀ H ∈ (shL g s vB vD vM vG vR lB W fun _ => False).set 2 (PtR (.slice none 0 0) []), HOk H := fun H hH => by
    rcases List.mem_or_eq_of_mem_set hH with h | rfl
    · exact shL_ok _ _ _ _ _ _ _ _ _ _ H h
    · exact RowH.ok _ _ _ _ _
  have h1 := (SepL.ok ok1).weak h1 (fun k hk => Gr.refl hk) hS.lt
  obtain ⟨h2, _⟩ := h1.move (i := 3) (w' := w) (H' := PtR (.slice none 0 0) []) ok1 rfl fun O1 h1 _ => ⟨nl h1.2.2, Ch.refl _ _⟩
  have ok2 : ∀ H ∈ ((shL g s vB vD vM vG vR lB W fun _ => False).set 2 (PtR (.slice none 0 0) [])).set 3 (PtR (.slice none 0 0) []), HOk H := fun H hH => by
    rcases List.mem_or_eq_of_mem_set hH with h | rfl
    · exact ok1 H h
    · exact RowH.ok _ _ _ _ _
  have h2 := (SepL.ok ok2).weak h2 (fun k hk => Gr.refl hk) hS.lt
  obtain ⟨h3, k3⟩ := h2.move (i := 0) ok2 rfl fun O1 h1 _ => Blk.set h1 2 (.slice none 0 0)
  have ok3 : ∀ H ∈ (((shL g s vB vD vM vG vR lB W fun _ => False).set 2 (PtR (.slice none 0 0) [])).set 3 (PtR (.slice none 0 0) [])).set 0 (Blk g (#[vB, vD, vM, vG, .int .i64 s.room, vR].setIfInBounds 2 (.slice none 0 0)) 62), HOk H := fun H hH => by
    rcases List.mem_or_eq_of_mem_set hH with h | rfl
    · exact ok2 H h
    · exact Blk.ok _ _ _
  obtain ⟨h4, k4⟩ := h3.move (i := 0) ok3 rfl fun O1 h1 _ => Blk.set h1 3 (.slice none 0 0)
  have hk := ch_gr k3 k4
  exact ⟨⟨vB, vD, _, _, vR, lB, ⟨fun p hp => (by cases hp), fun p hp => (by cases hp), hgd.red, hgd.bl, hgd.bln, hgd.r0, hgd.r1, hgd.badl⟩, hlB, sep_gr (shL_ok g { s with made := [], gone := [] } vB vD _ _ vR lB W _) h4 k3.size k4.size hS.lt⟩, hk⟩
theorem MpH.forget (h : Keep W w0 w K (MpH g gr W s root roots vro mv vma)) : Keep W w0 ((w.setCell ⟨g, 2, none⟩ (.slice none 0 0)).setCell ⟨g, 3, none⟩ (.slice none 0 0)) K (MpH g gr W { s with made := [], gone := [] } root roots vro mv vma) :=
  h.move fun O hS hW hK => SepL.move (i := 0) hS (MpH.ok' g gr W s root roots vro mv vma) rfl fun O1 h1 _ => shForget h1
end
end Go.Proofs.YtppilgkgnofkpaaDoor
