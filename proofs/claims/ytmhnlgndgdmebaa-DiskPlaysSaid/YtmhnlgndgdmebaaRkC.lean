/- The document's disk: Step, block, comes. No condition but on sizes. -/
import Derived.Test.YtmhnlgndgdmebaaRkB
namespace Go.Proofs.Ytmhnlgndgdmebaa
open Go.RowKit Go.Kin

/-- the document's power -/
def PwR (w : World) (g : Nat) (P : Pwr) : Prop := w.heap[g]? = some (.cells #[.bool P.off, .int .i64 P.fuse] 81 (0, 0))
theorem PwR.ch {S : Nat → Prop} {w w' : World} {g : Nat} {P : Pwr} (h : PwR w g P) (hc : Ch S w w') (hn : ¬ S g) : PwR w' g P := hc.obj h hn
theorem rstep_any (g : Nat) (P : Pwr) (w : World) (h : PwR w g P) (hm : P.fuse ≤ 9223372036854775807) : Ret Try.prog 71 #[.pointer (some ⟨g, 0, none⟩)] w fun v' w' =>
    v' = .bool P.made ∧ PwR w' g P.step ∧ Ch (one g) w w' := by
  obtain ⟨off, fuse⟩ := P
  have h0 := cell_blk h
  have hf := frz_blk h
  refine v_enter Try.func71 Try.ntmps71 rfl (by simp) fun R' hR => ?_
  cases off
  · by_cases hz : fuse = 0
    · subst hz
      have e1 : (w.setCell ⟨g, 0, none⟩ (.bool true)).heap[g]? = some (.cells #[.bool true, .int .i64 0] 81 (0, 0)) := by rw [hp_setCell, h, setOf_cells]; simp
      have h1 := cell_blk e1
      have hf1 := frz_blk e1
      simp [go_sem, h0, hf, h1, hf1]
      refine hR _ _ ⟨by simp [Pwr.made], ?_, ((Ch.refl (one g) _).setCell (p := ⟨g, 0, none⟩) (.inl rfl) _).setCell (p := ⟨g, 1, none⟩) (.inl rfl) _⟩
      unfold PwR
      rw [hp_setCell, e1, setOf_cells]
      simp [Pwr.step]
    · have hz' : (fuse == 0) = false := by simpa using hz
      by_cases hp : 0 < fuse
      · have hm : fuse ≤ 9223372036854775807 := hm
        have hw : IntKind.i64.wrap (fuse - 1) = fuse - 1 := by simp [IntKind.wrap_i64]; omega
        simp [go_sem, h0, hf, hz', hp, hw]
        refine hR _ _ ⟨by simp [Pwr.made, hz], ?_, (Ch.refl (one g) _).setCell (p := ⟨g, 1, none⟩) (.inl rfl) _⟩
        unfold PwR
        rw [hp_setCell, h, setOf_cells]
        simp [Pwr.step, hz, hp]
      · simp [go_sem, h0, hz', hp]
        exact hR _ _ ⟨by simp [Pwr.made, hz], by simpa [Pwr.step, hz, hp] using h, Ch.refl _ _⟩
  · simp [go_sem, h0]
    exact hR _ _ ⟨by simp [Pwr.made], by simpa [Pwr.step] using h, Ch.refl _ _⟩
section
variable {w u u' : World} {r q n : Nat} {D D' : Dk} {O : Nat → Prop} {z z' : Rn} {lm lm' : List (Nat × Byts)} {lb ls lb' ls' : List Nat}
theorem RkP.at (h : RkP w r q n D O z lm lb ls) : RkAt w r q n D O := ⟨z, lm, lb, ls, h⟩
theorem RkAt.mono {O' : Nat → Prop} (h : RkAt w r q n D O) (ho : ∀ k, O k → O' k) (hl : ∀ k, O' k → k < w.heap.size) : RkAt w r q n D O' := by
  obtain ⟨z, lm, lb, ls, h⟩ := h
  exact ⟨z, lm, lb, ls, h.mono ho hl⟩
theorem RkAt.olt (h : RkAt w r q n D O) : ∀ k, O k → k < w.heap.size := by
  obtain ⟨z, lm, lb, ls, h⟩ := h
  exact h.olt
theorem RkAt.grow (h : RkAt w r q n D O) : RkAt w r q n D (Gr O w w) := h.mono (fun _ => .inl) (Gr.lt h.olt (Nat.le_refl _))
theorem RkAt.stay (h : RkAt w r q n D O) (hc : Ch Nw w u) : RkAt u r q n D (Gr O w u) := (h.ch hc fun _ _ e => e).mono (fun _ => .inl) (Gr.lt h.olt hc.size)
/-- two steps -/
theorem RkAt.comp (h1 : Ch O w u) (h2 : Ch (Gr O w u) u u') (h : RkAt u' r q n D (Gr (Gr O w u) u u')) : RkAt u' r q n D (Gr O w u') ∧ Ch O w u' := by
  have s1 := h1.size
  have s2 := h2.size
  refine ⟨h.mono (fun k hk => ?_) fun k hk => ?_, h1.trans' h2 fun j hj e => e.elim id fun e => by omega⟩
  · rcases hk with (hk | hk) | hk
    · exact .inl hk
    · exact .inr ⟨hk.1, by omega⟩
    · exact .inr ⟨by omega, hk.2⟩
  · rcases hk with hk | hk
    · exact h.olt k (.inl (.inl hk))
    · exact hk.2
theorem RkP.rows (h : RkP w r q n D O z lm lb ls) (hc : Ch (fun k => z.cv.ownBlock = some k) w u) : RowB u z.mv lm ∧ RowA u z.bv lb ∧ RowA u z.sv ls ∧ RowA u z.av D.astray.toList ∧ u.heap[r]? = some (.cells (rcs n q z D) 88 (0, 0)) :=
  ⟨h.m.ch hc fun k hk e => h.yx k (.inl hk) (.inr e), h.bad.ch hc fun k hk e => h.yx k (.inr (.inl hk)) (.inr e), h.stuck.ch hc fun k hk e => h.yx k (.inr (.inr (.inl hk))) (.inr e), h.astray.ch hc fun k hk e => h.yx k (.inr (.inr (.inr hk))) (.inr e), hc.obj h.blk h.ne⟩
/-- one of its cells set -/
theorem RkP.set1 (h : RkP w r q n D O z lm lb ls) (hc : Ch (fun k => z.cv.ownBlock = some k) w u) {i : Nat} {x : Value} (hcs : (rcs n q z D).setIfInBounds i x = rcs n q z' D')
    (rm : RowB u z'.mv lm') (rc : RowB u z'.cv D'.cache) (rb : RowA u z'.bv lb') (rs : RowA u z'.sv ls') (ra : RowA u z'.av D'.astray.toList)
    (mem : ∀ x, lastC lm' x = D'.m x) (bads : ∀ x, D'.bad x = decide (x ∈ lb')) (stucks : ∀ x, D'.stuck x = decide (x ∈ ls')) (nd : Nda n (lm'.map (·.1)) ∧ Nda n lb' ∧ Nda n ls') (ok : D'.Ok n)
    (fY : ∀ k, z'.Y k → z.Y k ∨ w.heap.size ≤ k) (fC : ∀ k, z'.cv.ownBlock = some k → z.cv.ownBlock = some k ∨ w.heap.size ≤ k) (dis : ∀ k, z'.Y k → z'.cv.ownBlock ≠ some k) :
    RkAt (u.setCell ⟨r, i, none⟩ x) r q n D' (Gr O w (u.setCell ⟨r, i, none⟩ x)) ∧ Ch O w (u.setCell ⟨r, i, none⟩ x) := by
  have hb := (h.rows hc).2.2.2.2
  have hr := lt_of_block h.blk
  have hsz : (u.setCell ⟨r, i, none⟩ x).heap.size = u.heap.size := by simp [World.setCell]
  have cs : Ch (one r) u (u.setCell ⟨r, i, none⟩ x) := (Ch.refl (one r) u).setCell (p := ⟨r, i, none⟩) (.inl rfl) x
  have nY : ∀ k, z'.Y k → k ≠ r := fun k hk e => by
    subst e
    rcases fY _ hk with e | e
    · exact h.yx _ e (.inl rfl)
    · omega
  have nC : ∀ k, z'.cv.ownBlock = some k → k ≠ r := fun k hk e => by
    subst e
    rcases fC _ hk with e | e
    · exact h.ne e
    · omega
  have lY : ∀ k, z'.Y k → k < u.heap.size := fun k hk => by
    rcases hk with hk | hk | hk | hk
    · exact rm.lt k hk
    · exact rb.lt k hk
    · exact rs.lt k hk
    · exact ra.lt k hk
  refine ⟨⟨z', lm', lb', ls', ?_, rm.ch cs fun k hk e => nY k (.inl hk) e, rc.ch cs fun k hk e => nC k hk e, rb.ch cs fun k hk e => nY k (.inr (.inl hk)) e, rs.ch cs fun k hk e => nY k (.inr (.inr (.inl hk))) e, ra.ch cs fun k hk e => nY k (.inr (.inr (.inr hk))) e,
    mem, bads, stucks, fun k hk => ?_, fun k hk => ?_, fun k hk e => ?_, fun e => nC r e rfl, ok, nd, h.nle, Gr.lt h.olt (by rw [hsz]; exact hc.size)⟩, (hc.mono fun k _ e => h.ox k (.inr e)).trans' cs fun k _ e => by simp only [one] at e; subst e; exact h.ox _ (.inl rfl)⟩
  · rw [hp_setCell, hb, setOf_cells, hcs]
  · rcases hk with rfl | hk
    · exact .inl (h.ox _ (.inl rfl))
    · rcases fC k hk with e | e
      · exact .inl (h.ox k (.inr e))
      · exact .inr ⟨e, by rw [hsz]; exact rc.lt k hk⟩
  · rcases fY k hk with e | e
    · exact .inl (h.oy k e)
    · exact .inr ⟨e, by rw [hsz]; exact lY k hk⟩
  · rcases e with e | e
    · exact nY k hk e
    · exact dis k hk e
/-- what stands in a block -/
theorem block_rk (h : RkP w r q n D O z lm lb ls) (a : Nat) : Ret Try.prog 86 #[.pointer (some ⟨r, 0, none⟩), .int .u16 a] w fun v' w' => v' = .string ⟨(blockM D.m a).toArray⟩ ∧ Ch Nw w w' := by
  refine v_enter Try.func86 Try.ntmps86 rfl (by simp) fun R' hR => ?_
  have c2 : w.cell? ⟨r, 2, none⟩ = some z.mv := cell_blk h.blk 2
  obtain ⟨A, c, hmv⟩ := h.m.lit
  rw [hmv] at c2
  have hl : lm.length ≤ 1000000 := by
    have := h.nd.1.len
    rw [List.length_map] at this
    have := h.nle
    omega
  simp [go_sem, c2]
  refine (last_rk _ lm a w (by rw [← hmv]; exact h.m) hl).mono ?_
  rintro _ w1 ⟨rfl, hw⟩
  subst w1
  rw [h.mem a]
  cases hm : D.m a with
  | some b =>
    simp [go_sem, lastV]
    exact hR _ _ ⟨by simp [blockM, hm], Ch.refl _ _⟩
  | none =>
    have hmk := mkzb w
    have hst := (slzb w).str (P := Try.prog) zb_len Try.underlying60 Try.underlying5 Try.underlying9
    simp [go_sem, lastV, hmk, hst]
    exact hR _ _ ⟨by simp [blockM, hm], (Ch.refl Nw w).alloc _⟩
end
theorem extr (b : Byts) (i j : Nat) : (⟨b.toArray⟩ : ByteArray).extract i j = ⟨((b.take j).drop i).toArray⟩ := by
  ext1
  rw [ByteArray.data_extract]
  simp [List.extract_eq_take_drop, List.drop_take]
end Go.Proofs.Ytmhnlgndgdmebaa
