/- A variable that holds a row of one's own. It speaks of no program. No condition. -/
import Derived.Test.YtppilgkgnofkpaaDoorAgg
import Derived.Test.YtppilgkgnofkpaaDoorKeep
set_option linter.unusedSimpArgs false
set_option linter.unusedVariables false

/- Things side by side: one of them moves. They speak of no program. No condition. -/
namespace Go.Kin
open Go Go.RowKit

section
variable {H H' : HP} {w w' : World}
theorem SepL.move : ∀ {l : List HP} {O : Nat → Prop} {i : Nat}, SepL l w O → (∀ H ∈ l, HOk H) → l[i]? = some H → (∀ O1, H w O1 → (∀ k, O1 k → O k) → H' w' (Gr O1 w w') ∧ Ch O1 w w') → SepL (l.set i H') w' (Gr O w w') ∧ Ch O w w'
  | [], _, _, _, _, hi, _ => by simp at hi
  | H0 :: l, O, 0, ⟨O1, O2, a, b, c, d, e⟩, hl, hi, hf => by
    simp at hi
    subst hi
    obtain ⟨y, z⟩ := hf O1 a fun k hk => d k (.inl hk)
    have h2 : HOk (SepL l) := SepL.ok fun H hH => hl H (by simp [hH])
    refine ⟨⟨_, _, y, h2.ch b z fun k hk e => c k e hk, fun k hk hb => ?_, fun k hk => ?_, Gr.lt e z.size⟩, z.mono fun k _ hk => d k (.inl hk)⟩
    · rcases hk with hk | hk
      · exact c k hk hb
      · have := h2.lt b k hb; omega
    · rcases hk with (hk | hk) | hk
      · exact .inl (d k (.inl hk))
      · exact .inr hk
      · exact .inl (d k (.inr hk))
  | H0 :: l, O, i + 1, ⟨O1, O2, a, b, c, d, e⟩, hl, hi, hf => by
    simp at hi
    have h1 := hl H0 (by simp)
    obtain ⟨y, z⟩ := SepL.move b (fun H hH => hl H (by simp [hH])) hi fun O3 h3 hO => hf O3 h3 fun k hk => d k (.inr (hO k hk))
    refine ⟨⟨_, _, h1.ch a z fun k hk e => c k hk e, y, fun k hk hb => ?_, fun k hk => ?_, Gr.lt e z.size⟩, z.mono fun k _ hk => d k (.inr hk)⟩
    · rcases hb with hb | hb
      · exact c k hk hb
      · have := h1.lt a k hk; omega
    · rcases hk with hk | hk | hk
      · exact .inl (d k (.inl hk))
      · exact .inl (d k (.inr hk))
      · exact .inr hk
theorem Blk.set {g : Nat} {cs : Array Value} {T : TypeId} {O : Nat → Prop} (h : Blk g cs T w O) (i : Nat) (v : Value) : Blk g (cs.setIfInBounds i v) T (w.setCell ⟨g, i, none⟩ v) (Gr O w (w.setCell ⟨g, i, none⟩ v)) ∧ Ch O w (w.setCell ⟨g, i, none⟩ v) := by
  have cs' : Ch O w (w.setCell ⟨g, i, none⟩ v) := (Ch.refl O w).setCell (p := ⟨g, i, none⟩) (.inl h.2.1) v
  exact ⟨⟨by rw [hp_setCell, h.1, setOf_cells], .inl h.2.1, Gr.lt h.2.2 cs'.size⟩, cs'⟩
end
end Go.Kin

namespace Go.Kin
open Go Go.RowKit

/-- a box with a row -/
def BoxRow (g : Nat) (T e size : Nat) (n : Nat) (xs : List Value) : HP := fun w O => ∃ v, w.heap[g]? = some (.cells #[v] T (0, 0)) ∧ w.ownsRow 0 e size v n xs ∧ (∀ k, v.ownBlock = some k → g < k) ∧ O g ∧ (∀ k, v.ownBlock = some k → O k) ∧ ∀ k, O k → k < w.heap.size
theorem BoxRow.ok (g T e size n : Nat) (xs : List Value) : HOk (BoxRow g T e size n xs) :=
  ⟨fun ⟨_, _, _, _, _, _, h⟩ => h, fun ⟨v, a, b, c, d, e, f⟩ hc hS => ⟨v, hc.obj a (hS g d), own_ch b hc fun k hk => hS k (e k hk), c, d, e, fun k hk => Nat.lt_of_lt_of_le (f k hk) hc.size⟩, fun ⟨v, a, b, c, d, e, _⟩ h h' => ⟨v, a, b, c, h g d, fun k hk => h k (e k hk), h'⟩⟩
theorem BoxRow.begin {w : World} {g T e size : Nat} {O : Nat → Prop} (hb : w.heap[g]? = some (.cells #[.slice none 0 0] T (0, 0))) (hO : O g) (hl : ∀ k, O k → k < w.heap.size) : BoxRow g T e size 0 [] w O :=
  ⟨_, hb, World.ownsRow_nil _ _ _ _, fun k hk => by simp [Value.ownBlock] at hk, hO, fun k hk => by simp [Value.ownBlock] at hk, hl⟩
/-- behind a growth of the row, and the box set -/
theorem BoxRow.grown {w w1 : World} {g T e size n' : Nat} {xs' : List Value} {v v' : Value} {O : Nat → Prop} (hb : w.heap[g]? = some (.cells #[v] T (0, 0))) (hn : ∀ k, v.ownBlock = some k → g < k) (hO : O g) (hvO : ∀ k, v.ownBlock = some k → O k) (hl : ∀ k, O k → k < w.heap.size)
    (own : w1.ownsRow 0 e size v' n' xs') (hc : Ch (fun k => v.ownBlock = some k) w w1) (hf : v'.ownBlock = v.ownBlock ∨ Fresh w.heap.size v') (hlt : ∀ k, v'.ownBlock = some k → k < w1.heap.size) :
    BoxRow g T e size n' xs' (w1.setCell ⟨g, 0, none⟩ v') (Gr O w (w1.setCell ⟨g, 0, none⟩ v')) ∧ Ch O w (w1.setCell ⟨g, 0, none⟩ v') := by
  have hgl := hl g hO
  have hg1 : ∀ k, v'.ownBlock = some k → g < k := by
    intro k h
    rcases hf with hf | hf
    · rw [hf] at h; exact hn k h
    · have := hf k h; omega
  have c1 : Ch (one g) w1 (w1.setCell ⟨g, 0, none⟩ v') := (Ch.refl (one g) w1).setCell (p := ⟨g, 0, none⟩) (.inl rfl) v'
  have hcO : Ch O w w1 := hc.mono fun k _ hk => hvO k hk
  have hcO' : Ch O w (w1.setCell ⟨g, 0, none⟩ v') := hcO.setCell (p := ⟨g, 0, none⟩) (.inl hO) v'
  refine ⟨⟨v', ?_, own_ch own c1 fun k hk e => ?_, hg1, .inl hO, fun k hk => ?_, Gr.lt hl hcO'.size⟩, hcO'⟩
  · rw [hp_setCell, hc.obj hb (fun e => Nat.lt_irrefl _ (hn _ e)), setOf_cells]
    rfl
  · simp only [one] at e
    subst e
    exact Nat.lt_irrefl _ (hg1 _ hk)
  · rcases hf with hf | hf
    · rw [hf] at hk; exact .inl (hvO k hk)
    · exact .inr ⟨hf k hk, by have := hlt k hk; have := c1.size; omega⟩
end Go.Kin
