/- Package disk's Astray and Write, as contracts on calls. No condition but on sizes. -/
import Derived.Test.YtppilgkgnofkpaaGreatDoorDkD
set_option linter.unusedSimpArgs false
set_option linter.unusedVariables false

namespace Go.Proofs.YtppilgkgnofkpaaGreatDoor
open Go.RowKit Go.Kin

theorem tyWr : TyS Tryz.prog 134 140 (.agg #[.int .u16 0, .slice none 0 0]) 2 32 := ⟨Tryz.underlying134, by kernel_rfl, rfl, by decide⟩
section
variable {w : World} {d p n : Nat} {D : Dk} {O Y : Nat → Prop} {z : Dn} {vs : List (Nat × Value)}
theorem astray_any (a : Nat) (h : DkP w d p n D O z vs Y) : Ret Tryz.prog 58 #[.pointer (some ⟨d, 0, none⟩), .int .u16 a] w fun v' w' => v' = .tuple #[] ∧ DkAt w' d p n { D with astray := some a } (Gr O w w') ∧ Ch (one d) w w' := by
  refine v_enter Tryz.func58 Tryz.ntmps58 rfl (by simp) fun R' hR => ?_
  have hq := (Ch.refl Nw w).alloc (.cells #[.int .u16 a] 52)
  have hb1 := hp_alloc w (.cells #[.int .u16 a] 52)
  have h1 := h.ch hq fun _ _ e => e
  simp [go_sem]
  revert hq hb1 h1
  generalize w.alloc (.cells #[.int .u16 a] 52) = w1
  generalize hg : w.heap.size = g
  intro hq hb1 h1
  have c8 : w1.cell? ⟨d, 8, none⟩ = some z.av := cell_blk h1.blk 8
  have f8 := frz_blk h1.blk 8
  have hdg : d < g := by rw [← hg]; exact h.lt
  have hgl := lt_of_block hb1
  simp [go_sem, c8, f8]
  have cs : Ch (one d) w1 (w1.setCell ⟨d, 8, none⟩ (.pointer (some ⟨g, 0, none⟩))) := (Ch.refl (one d) w1).setCell (p := ⟨d, 8, none⟩) (.inl rfl) _
  have cw : Ch (one d) w (w1.setCell ⟨d, 8, none⟩ (.pointer (some ⟨g, 0, none⟩))) := (hq.mono fun _ _ e => e.elim).trans cs
  have hsz : (w1.setCell ⟨d, 8, none⟩ (.pointer (some ⟨g, 0, none⟩))).heap.size = w1.heap.size := by simp [World.setCell]
  have hyn := h.yne
  refine hR _ _ ⟨rfl, ⟨{ z with av := .pointer (some ⟨g, 0, none⟩) }, vs, fun k => Y k ∨ k = g, ?_⟩, cw⟩
  refine h1.own (D' := { D with astray := some a }) (z' := { z with av := .pointer (some ⟨g, 0, none⟩) }) (Y' := fun k => Y k ∨ k = g) (O' := Gr O w _) ?_ (cs.mono fun _ _ e => .inl e) rfl rfl rfl ⟨rfl, rfl, rfl⟩ ?_ ⟨g, rfl, cs.hp hb1 (by simp only [one]; omega), .inr rfl⟩ ⟨h.ok.m, h.ok.cache⟩ ?_ (fun _ => .inl) (fun _ => .inl) ?_ (Gr.lt h.olt cw.size)
  · rw [hp_setCell, h1.blk, setOf_cells]; rfl
  · exact (h1.cache.ch cs (fun k hk e => by simp only [one] at e; exact (h.dcv k hk).1 e) fun k hk e => by simp only [one] at e; exact (hyn k hk).2.1 e).mono fun _ => .inl
  · intro k hk
    obtain ⟨g1, g2, g3⟩ := h.cvs k hk
    refine ⟨.inl g1, fun e => e.elim g2 fun e => ?_, g3⟩
    have := h.olt k g1
    omega
  · rintro k (hk | rfl)
    · exact ⟨.inl (hyn k hk).1, (hyn k hk).2⟩
    · have hlt : ∀ j, O j → j < k := fun j hj => by rw [← hg]; exact h.olt j hj
      have x1 := hlt _ (h.ox _ (.inr (.inl rfl)))
      have x2 := hlt _ (h.ox _ (.inr (.inr (.inl rfl))))
      have x3 := hlt _ (h.ox _ (.inr (.inr (.inr (.inl rfl)))))
      exact ⟨.inr ⟨by omega, by omega⟩, by omega, by omega, by omega, by omega⟩
/-- the cache, one more -/
theorem DkP.push (h : DkP w d p n D O z vs Y) {w1 w' : World} {a : Nat} {b : Byts} {u cv' : Value} (ha : a < n) (hb : b.length = 512) (hc : Ch Nw w w1) (hu : w1.ownsRow 0 5 1 u 512 (bvs b)) (hf : Fresh w.heap.size u)
    (hown : w'.ownsRow 0 140 2 cv' (D.cache.length + 1) (rowsL wc vs ++ [.int .u16 a, u])) (hc2 : Ch (fun k => z.cv.ownBlock = some k) w1 w') (hcv : cv'.ownBlock = z.cv.ownBlock ∨ Fresh w1.heap.size cv') :
    DkP (w'.setCell ⟨d, 3, none⟩ cv') d p n { D with cache := D.cache ++ [(a, b)] } (Gr O w w') { z with cv := cv' } (vs ++ [(a, u)]) (fun k => Y k ∨ u.ownBlock = some k) := by
  have h1 := h.ch hc fun _ _ e => e
  have hub := own_blt hu
  have hcb := own_blt hown
  have hol : ∀ j, O j → j < w.heap.size := h.olt
  have sz1 := hc.size
  have sz2 := hc2.size
  have hun : ∀ k, u.ownBlock = some k → ¬ z.cv.ownBlock = some k := fun k hk e => by have := hf k hk; have := hol k (h.cvs k e).1; omega
  have hcd : ∀ k, cv'.ownBlock = some k → k ≠ d ∧ ¬ Y k ∧ u.ownBlock ≠ some k ∧ (O k ∨ (w.heap.size ≤ k ∧ k < w'.heap.size)) := fun k hk => by
    rcases hcv with e | e
    · obtain ⟨g1, g2, g3⟩ := h.cvs k (by rw [← e]; exact hk)
      exact ⟨g3, g2, fun e2 => hun k e2 (by rw [← e]; exact hk), .inl g1⟩
    · have hk1 := e k hk
      have hdl := h.lt
      refine ⟨by omega, fun hy => ?_, fun e2 => ?_, .inr ⟨by omega, hcb k hk⟩⟩
      · have := hol k (h.oy k hy); omega
      · have := hub k e2; omega
  have cS : Ch (one d) w' (w'.setCell ⟨d, 3, none⟩ cv') := (Ch.refl (one d) w').setCell (p := ⟨d, 3, none⟩) (.inl rfl) _
  have hsz : (w'.setCell ⟨d, 3, none⟩ cv').heap.size = w'.heap.size := by simp [World.setCell]
  have cAll : Ch (fun k => k = d ∨ z.cv.ownBlock = some k) w1 (w'.setCell ⟨d, 3, none⟩ cv') := (hc2.mono fun _ _ e => .inr e).trans' cS fun j _ e => .inl e
  have hyn := h.yne
  have hyS : ∀ k, Y k → ¬ (k = d ∨ z.cv.ownBlock = some k) := fun k hk e => e.elim (hyn k hk).2.1 fun e => h.yx k hk (.inr (.inr (.inr (.inr e))))
  have hud : ∀ k, u.ownBlock = some k → ¬ (k = d ∨ z.cv.ownBlock = some k) := fun k hk e => e.elim (fun e => by have := hf k hk; have := h.lt; omega) (hun k hk)
  have hb' : w'.heap[d]? = some (.cells (dcs n p z D) 138 (0, 0)) := hc2.hp h1.blk fun e => (h.dcv d e).1 rfl
  refine h1.own (D' := { D with cache := D.cache ++ [(a, b)] }) (z' := { z with cv := cv' }) (Y' := fun k => Y k ∨ u.ownBlock = some k) (O' := Gr O w w') ?_ cAll rfl rfl rfl ⟨rfl, rfl, rfl⟩ ⟨?_, ?_, ?_⟩ ?_ ⟨h.ok.m, ?_⟩ ?_ (fun _ => .inl) (fun _ => .inl) ?_ ?_
  · rw [hp_setCell, hb', setOf_cells]; rfl
  · rw [show (rowsL wc (vs ++ [(a, u)])) = rowsL wc vs ++ [.int .u16 a, u] by rw [rowsL_append, rowsL_one]; rfl, List.length_append]
    exact own_ch hown cS fun k hk e => by simp only [one] at e; exact (hcd k hk).1 e
  · simp [h.cache.len]
  · intro i a2 b2 hi
    rcases Nat.lt_or_ge i D.cache.length with hlt | hge
    · rw [List.getElem?_append_left hlt] at hi
      obtain ⟨u2, e1, e2⟩ := h1.cache.each i a2 b2 hi
      exact ⟨u2, by rw [List.getElem?_append_left (by rw [h.cache.len]; exact hlt)]; exact e1, (e2.ch cAll hyS).mono fun _ => .inl⟩
    · have hi2 : i = D.cache.length := by
        have := (List.getElem?_eq_some_iff.1 hi).1
        simp at this
        omega
      subst hi2
      simp at hi
      obtain ⟨rfl, rfl⟩ := hi
      refine ⟨u, by rw [← h.cache.len]; simp, ?_, fun k hk => ⟨.inr hk, ?_⟩⟩
      · rw [hb]; exact (Sl.of_own hu).ch cAll hud
      · have := hub k hk; omega
  · exact (h1.astray.ch cAll hyS).mono fun _ => .inl
  · intro e he
    simp only [List.mem_append, List.mem_singleton] at he
    rcases he with he | rfl
    · exact h.ok.cache e he
    · exact ⟨hb, ha⟩
  · intro k hk
    obtain ⟨g1, g2, g3, g4⟩ := hcd k hk
    exact ⟨g4, fun e => e.elim g2 g3, g1⟩
  · rintro k (hk | hk)
    · exact ⟨.inl (hyn k hk).1, (hyn k hk).2⟩
    · have hfk := hf k hk
      have x0 := h.lt
      have x1 := hol _ (h.ox _ (.inr (.inl rfl)))
      have x2 := hol _ (h.ox _ (.inr (.inr (.inl rfl))))
      have x3 := hol _ (h.ox _ (.inr (.inr (.inr (.inl rfl)))))
      have := hub k hk
      exact ⟨.inr ⟨hfk, by omega⟩, by omega, by omega, by omega, by omega⟩
  · intro k hk
    rw [hsz]
    exact Gr.lt h.olt (by omega) k hk
end
end Go.Proofs.YtppilgkgnofkpaaGreatDoor
