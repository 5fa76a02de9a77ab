/- The tree law's shelf is given blocks, bad addresses, that are another's. No condition but that the values are of their types. -/
import Derived.Test.YtppilgkgnofkpaaDoorTwA
set_option linter.unusedSimpArgs false
set_option linter.unusedVariables false

namespace Go.Proofs.YtppilgkgnofkpaaDoor
open Go.RowKit Go.Kin

section
variable {g : Nat} {W0 : World} {s : Shf} {w : World} {O : Nat → Prop}
/-- what is kept holds the variables -/
theorem ShH.tenv {Bk : Nat → Prop} (h : ShH g W0 Bk s w O) (env : TEnv W0) (hB : ∀ k, glT k → Bk k) : TEnv w := by
  obtain ⟨vB, vD, vM, vG, vR, lB, _, _, hS⟩ := h
  obtain ⟨OY, hY, _⟩ := hS.get (i := 5) rfl
  have e : ∀ k, glT k → w.heap[k]? = W0.heap[k]? := fun k hk => (hY.2.2.2.1 k (hB k hk)).2
  obtain ⟨cs, T, fr, h1, h2, h3⟩ := env.lh
  refine ⟨fun i z hz => ?_, cs, T, fr, (e _ (.inr rfl)).trans h1, h2, h3⟩
  have := env.lw i z hz
  rw [← this]
  unfold World.cell?
  rw [e _ (.inl rfl)]
/-- one block, another's -/
theorem ShH.setBl (h : ShH g W0 (fun _ => False) s w O) {Bk : Nat → Prop} {vb vN : Value} {b : List UInt8} (hv : Sl w vb b.length (bvs b)) (hb : b.length ≤ 600) (hvk : ∀ k, vb.ownBlock = some k → Bk k) (hvb : ∀ k, Bk k → ¬ O k ∧ k < w.heap.size) (own : w.ownsRow 0 29 1 vN 1 [vb]) (hvN : ∀ k, vN.ownBlock = some k → ¬ O k ∧ ¬ Bk k) :
    ShH g w Bk { s with bl := [b] } (w.setCell ⟨g, 0, none⟩ vN) (fun k => O k ∨ vN.ownBlock = some k ∨ Bk k) ∧ O g := by
  obtain ⟨vB, vD, vM, vG, vR, lB, hgd, hlB, hS⟩ := h
  obtain ⟨Og, R1, hg, ⟨OB, R2, hB, ⟨OM, R3, hM, ⟨OG, R4, hG, ⟨OR, R5, hR, ⟨OY, OE, hY, hE, d6, u6, l6⟩, d5, u5, l5⟩, d4, u4, l4⟩, d3, u3, l3⟩, d2, u2, l2⟩, d1, u1, l1⟩ := hS
  have iY : ∀ k, OY k → R5 k := fun k hk => u6 k (.inl hk)
  have i5 : ∀ k, R5 k → R4 k := fun k hk => u5 k (.inr hk)
  have i4 : ∀ k, R4 k → R3 k := fun k hk => u4 k (.inr hk)
  have i3 : ∀ k, R3 k → R2 k := fun k hk => u3 k (.inr hk)
  have i2 : ∀ k, R2 k → R1 k := fun k hk => u2 k (.inr hk)
  have i1 : ∀ k, R1 k → O k := fun k hk => u1 k (.inr hk)
  have ig : ∀ k, Og k → O k := fun k hk => u1 k (.inl hk)
  have hgO : O g := ig g hg.2.1
  have cs : Ch (one g) w (w.setCell ⟨g, 0, none⟩ vN) := (Ch.refl (one g) w).setCell (p := ⟨g, 0, none⟩) (.inl rfl) vN
  have ng : ∀ k, R1 k → ¬ one g k := fun k hk e => by
    simp only [one] at e
    subst e
    exact d1 k hg.2.1 hk
  have nN : ∀ k, vN.ownBlock = some k → ¬ one g k := fun k hk e => by
    simp only [one] at e
    subst e
    exact (hvN k hk).1 hgO
  have nb : ∀ k, Bk k → ¬ one g k := fun k hk e => by
    simp only [one] at e
    subst e
    exact (hvb k hk).1 hgO
  have lN := own_in own
  have sz : (w.setCell ⟨g, 0, none⟩ vN).heap.size = w.heap.size := by simp
  refine ⟨⟨vN, vD, vM, vG, vR, [vb], ⟨hgd.made, hgd.gone, hgd.red, fun x hx => by simp at hx; subst hx; exact hb, by simp, hgd.r0, hgd.r1, hgd.badl⟩, rfl, ?_⟩, hgO⟩
  have hY1 : ShY [vb] [b] vD s.bad w Bk (w.setCell ⟨g, 0, none⟩ vN) (fun k => OY k ∨ Bk k) := by
    refine ⟨fun i v c hv' hc => ?_, hY.2.1.ch cs fun k hk => ng k (i2 k (i3 k (i4 k (i5 k (iY k (hY.2.2.1 k hk)))))), fun k hk => .inl (hY.2.2.1 k hk), fun k hk => ⟨.inr hk, cs.block k (hvb k hk).2 (nb k hk)⟩, fun k hk => ?_⟩
    · cases i with
      | zero =>
        simp at hv' hc
        subst hv' hc
        exact ⟨hv.ch cs fun k hk => nb k (hvk k hk), fun k hk => .inr (hvk k hk)⟩
      | succ i => simp at hv'
    · rw [sz]
      rcases hk with hk | hk
      · exact hY.2.2.2.2 k hk
      · exact (hvb k hk).2
  refine ⟨Og, fun k => vN.ownBlock = some k ∨ R2 k ∨ Bk k, ⟨by rw [hp_setCell, hg.1, setOf_cells]; rfl, hg.2.1, fun k hk => by rw [sz]; exact hg.2.2 k hk⟩, ⟨fun k => vN.ownBlock = some k, fun k => R2 k ∨ Bk k, ⟨own_ch own cs nN, fun k hk => hk, fun k hk => by rw [sz]; exact lN k hk⟩, ⟨OM, fun k => R3 k ∨ Bk k, ?_, ⟨OG, fun k => R4 k ∨ Bk k, ?_, ⟨OR, fun k => R5 k ∨ Bk k, ?_, ⟨fun k => OY k ∨ Bk k, OE, hY1, fun k hk => by rw [sz]; exact hE k hk, ?_, ?_, ?_⟩, ?_, ?_, ?_⟩, ?_, ?_, ?_⟩, ?_, ?_, ?_⟩, ?_, ?_, ?_⟩, ?_, ?_, ?_⟩
  · exact (RowH.ok _ _ _ _ _).ch hM cs fun k hk => ng k (i2 k (u3 k (.inl hk)))
  · exact (RowH.ok _ _ _ _ _).ch hG cs fun k hk => ng k (i2 k (i3 k (u4 k (.inl hk))))
  · exact (RowH.ok _ _ _ _ _).ch hR cs fun k hk => ng k (i2 k (i3 k (i4 k (u5 k (.inl hk)))))
  · intro k hk he
    rcases hk with hk | hk
    · exact d6 k hk he
    · exact (hvb k hk).1 (i1 k (i2 k (i3 k (i4 k (i5 k (u6 k (.inr he)))))))
  · intro k hk
    rcases hk with (hk | hk) | hk
    · exact .inl (iY k hk)
    · exact .inr hk
    · exact .inl (u6 k (.inr hk))
  · intro k hk
    rw [sz]
    rcases hk with hk | hk
    · exact l6 k hk
    · exact (hvb k hk).2
  · intro k hk he
    rcases he with he | he
    · exact d5 k hk he
    · exact (hvb k he).1 (i1 k (i2 k (i3 k (i4 k (u5 k (.inl hk))))))
  · intro k hk
    rcases hk with hk | hk | hk
    · exact .inl (u5 k (.inl hk))
    · exact .inl (i5 k hk)
    · exact .inr hk
  · intro k hk
    rw [sz]
    rcases hk with hk | hk
    · exact l5 k hk
    · exact (hvb k hk).2
  · intro k hk he
    rcases he with he | he
    · exact d4 k hk he
    · exact (hvb k he).1 (i1 k (i2 k (i3 k (u4 k (.inl hk)))))
  · intro k hk
    rcases hk with hk | hk | hk
    · exact .inl (u4 k (.inl hk))
    · exact .inl (i4 k hk)
    · exact .inr hk
  · intro k hk
    rw [sz]
    rcases hk with hk | hk
    · exact l4 k hk
    · exact (hvb k hk).2
  · intro k hk he
    rcases he with he | he
    · exact d3 k hk he
    · exact (hvb k he).1 (i1 k (i2 k (u3 k (.inl hk))))
  · intro k hk
    rcases hk with hk | hk | hk
    · exact .inl (u3 k (.inl hk))
    · exact .inl (i3 k hk)
    · exact .inr hk
  · intro k hk
    rw [sz]
    rcases hk with hk | hk
    · exact l3 k hk
    · exact (hvb k hk).2
  · intro k hk he
    rcases he with he | he
    · exact (hvN k hk).1 (i1 k (i2 k he))
    · exact (hvN k hk).2 he
  · intro k hk
    rcases hk with hk | hk | hk
    · exact .inl hk
    · exact .inr (.inl hk)
    · exact .inr (.inr hk)
  · intro k hk
    rw [sz]
    rcases hk with hk | hk | hk
    · exact lN k hk
    · exact l2 k (i2 k hk)
    · exact (hvb k hk).2
  · intro k hk he
    rcases he with he | he | he
    · exact (hvN k he).1 (ig k hk)
    · exact d1 k hk (i2 k he)
    · exact (hvb k he).1 (ig k hk)
  · intro k hk
    rcases hk with hk | hk | hk | hk
    · exact .inl (ig k hk)
    · exact .inr (.inl hk)
    · exact .inl (i1 k (i2 k hk))
    · exact .inr (.inr hk)
  · intro k hk
    rw [sz]
    rcases hk with hk | hk | hk
    · exact l1 k hk
    · exact lN k hk
    · exact (hvb k hk).2
end
end Go.Proofs.YtppilgkgnofkpaaDoor
