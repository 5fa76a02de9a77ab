/- Two disks, and the document's two. No condition. -/
import Derived.Test.YtmhnlgndgdmebaaRkJ
namespace Go.Proofs.Ytmhnlgndgdmebaa
open Go.RowKit Go.Kin

/-- two disks that share power, and the document's two; what stays as it was in w0 -/
structure Pl (W w0 w : World) (K : Nat → Prop) (c d r s p q n : Nat) (C D C2 D2 : Dk) (P Q : Pwr) (A B E F : Nat → Prop) : Prop where
  sc : Sd w c p n C P A
  sd : Sd w d p n D P B
  rc : Rd w r q n C2 Q E
  rd : Rd w s q n D2 Q F
  ab : ∀ k, A k → ¬ B k
  ef : ∀ k, E k → ¬ F k
  up : ∀ k, A k ∨ B k ∨ k = p → ¬ (E k ∨ F k ∨ k = q)
  ge : ∀ k, (A k ∨ B k ∨ k = p) ∨ (E k ∨ F k ∨ k = q) → W.heap.size ≤ k
  kp : ∀ k, K k → ¬ (A k ∨ B k ∨ k = p) ∧ ¬ (E k ∨ F k ∨ k = q) ∧ k < w0.heap.size
  ck : Ch (fun k => ¬ K k) w0 w
  ch : Ch Nw W w
section
variable {W w0 w w' : World} {K : Nat → Prop} {c d r s p q n : Nat} {C D C2 D2 C' : Dk} {P Q P' : Pwr} {A B E F S : Nat → Prop}
theorem Pl.sym (h : Pl W w0 w K c d r s p q n C D C2 D2 P Q A B E F) : Pl W w0 w K d c s r p q n D C D2 C2 P Q B A F E :=
  ⟨h.sd, h.sc, h.rd, h.rc, fun k x y => h.ab k y x, fun k x y => h.ef k y x, fun k x y => h.up k (x.elim (fun x => .inr (.inl x)) fun x => x.elim .inl fun x => .inr (.inr x)) (y.elim (fun x => .inr (.inl x)) fun x => x.elim .inl fun x => .inr (.inr x)),
    fun k x => h.ge k (x.imp (fun x => x.elim (fun x => .inr (.inl x)) fun x => x.elim .inl fun x => .inr (.inr x)) (fun x => x.elim (fun x => .inr (.inl x)) fun x => x.elim .inl fun x => .inr (.inr x))),
    fun k hk => ⟨fun x => (h.kp k hk).1 (x.elim (fun x => .inr (.inl x)) fun x => x.elim .inl fun x => .inr (.inr x)), fun x => (h.kp k hk).2.1 (x.elim (fun x => .inr (.inl x)) fun x => x.elim .inl fun x => .inr (.inr x)), (h.kp k hk).2.2⟩, h.ck, h.ch⟩
theorem Pl.ltU (h : Pl W w0 w K c d r s p q n C D C2 D2 P Q A B E F) : ∀ k, A k ∨ B k ∨ k = p → k < w.heap.size := fun k hk => by
  rcases hk with hk | hk | hk
  · exact h.sc.olt k hk
  · exact h.sd.olt k hk
  · have := h.sc.plt; omega
theorem Pl.ltV (h : Pl W w0 w K c d r s p q n C D C2 D2 P Q A B E F) : ∀ k, E k ∨ F k ∨ k = q → k < w.heap.size := fun k hk => by
  rcases hk with hk | hk | hk
  · exact h.rc.olt k hk
  · exact h.rd.olt k hk
  · have := h.rc.plt; omega
/-- a step of the first disk -/
theorem Pl.step1 (h : Pl W w0 w K c d r s p q n C D C2 D2 P Q A B E F) (h1 : Sd w' c p n C' P' (Gr A w w')) (hc : Ch (fun k => A k ∨ k = p) w w') : Pl W w0 w' K c d r s p q n C' D C2 D2 P' Q (Gr A w w') B E F := by
  have hs := h.ch.size
  have hs0 := h.ck.size
  have hU := h.ltU
  have hV := h.ltV
  have inU : ∀ k, A k ∨ k = p → A k ∨ B k ∨ k = p := fun k e => e.imp id .inr
  have nE : ∀ k, E k ∨ F k ∨ k = q → ¬ (A k ∨ k = p) := fun k hk e => h.up k (inU k e) hk
  refine ⟨h1, ⟨h.sd.dk.ch hc fun k hk e => e.elim (fun e => h.ab k e hk) fun e => h.sd.pO (by rw [← e]; exact hk), h1.pw, h.sd.pO⟩, h.rc.ch hc (fun k hk => nE k (.inl hk)) (nE q (.inr (.inr rfl))), h.rd.ch hc (fun k hk => nE k (.inr (.inl hk))) (nE q (.inr (.inr rfl))),
    fun k hk hb => ?_, h.ef, fun k hk hv => ?_, fun k hk => ?_, fun k hk => ?_, h.ck.trans' hc fun k hk e hK => (h.kp k hK).1 (inU k e), h.ch.trans' hc fun k hk e => ?_⟩
  · rcases hk with hk | hk
    · exact h.ab k hk hb
    · have := hU k (.inr (.inl hb)); omega
  · rcases hk with (hk | hk) | hk
    · exact h.up k (.inl hk) hv
    · have := hV k hv; omega
    · exact h.up k (.inr hk) hv
  · rcases hk with ((hk | hk) | hk) | hk
    · exact h.ge k (.inl (.inl hk))
    · omega
    · exact h.ge k (.inl (.inr hk))
    · exact h.ge k (.inr hk)
  · obtain ⟨x, y, z⟩ := h.kp k hk
    refine ⟨fun e => ?_, y, z⟩
    rcases e with (e | e) | e
    · exact x (.inl e)
    · omega
    · exact x (.inr e)
  · have := h.ge k (.inl (inU k e))
    omega
/-- a step of the document's first disk -/
theorem Pl.step2 (h : Pl W w0 w K c d r s p q n C D C2 D2 P Q A B E F) (h1 : Rd w' r q n C' P' (Gr E w w')) (hc : Ch (fun k => E k ∨ k = q) w w') : Pl W w0 w' K c d r s p q n C D C' D2 P P' A B (Gr E w w') F := by
  have hs := h.ch.size
  have hs0 := h.ck.size
  have hU := h.ltU
  have hV := h.ltV
  have inV : ∀ k, E k ∨ k = q → E k ∨ F k ∨ k = q := fun k e => e.imp id .inr
  have nA : ∀ k, A k ∨ B k ∨ k = p → ¬ (E k ∨ k = q) := fun k hk e => h.up k hk (inV k e)
  refine ⟨h.sc.ch hc (fun k hk => nA k (.inl hk)) (nA p (.inr (.inr rfl))), h.sd.ch hc (fun k hk => nA k (.inr (.inl hk))) (nA p (.inr (.inr rfl))), h1, ⟨h.rd.dk.ch hc fun k hk e => e.elim (fun e => h.ef k e hk) fun e => h.rd.qO (by rw [← e]; exact hk), h1.pw, h.rd.qO⟩,
    h.ab, fun k hk hb => ?_, fun k hk hv => ?_, fun k hk => ?_, fun k hk => ?_, h.ck.trans' hc fun k hk e hK => (h.kp k hK).2.1 (inV k e), h.ch.trans' hc fun k hk e => ?_⟩
  · rcases hk with hk | hk
    · exact h.ef k hk hb
    · have := hV k (.inr (.inl hb)); omega
  · rcases hv with (hv | hv) | hv
    · exact h.up k hk (.inl hv)
    · have := hU k hk; omega
    · exact h.up k hk (.inr hv)
  · rcases hk with hk | ((hk | hk) | hk)
    · exact h.ge k (.inl hk)
    · exact h.ge k (.inr (.inl hk))
    · omega
    · exact h.ge k (.inr (.inr hk))
  · obtain ⟨x, y, z⟩ := h.kp k hk
    refine ⟨x, fun e => ?_, z⟩
    rcases e with (e | e) | e
    · exact y (.inl e)
    · omega
    · exact y (.inr e)
  · have := h.ge k (.inr (inV k e))
    omega
/-- what changes other blocks -/
theorem Pl.other (h : Pl W w0 w K c d r s p q n C D C2 D2 P Q A B E F) (hc : Ch S w w') (hS : ∀ k, S k → ¬ (A k ∨ B k ∨ k = p) ∧ ¬ (E k ∨ F k ∨ k = q) ∧ ¬ K k ∧ W.heap.size ≤ k) : Pl W w0 w' K c d r s p q n C D C2 D2 P Q A B E F :=
  ⟨h.sc.ch hc (fun k hk e => (hS k e).1 (.inl hk)) fun e => (hS p e).1 (.inr (.inr rfl)), h.sd.ch hc (fun k hk e => (hS k e).1 (.inr (.inl hk))) fun e => (hS p e).1 (.inr (.inr rfl)), h.rc.ch hc (fun k hk e => (hS k e).2.1 (.inl hk)) fun e => (hS q e).2.1 (.inr (.inr rfl)), h.rd.ch hc (fun k hk e => (hS k e).2.1 (.inr (.inl hk))) fun e => (hS q e).2.1 (.inr (.inr rfl)),
    h.ab, h.ef, h.up, h.ge, h.kp, h.ck.trans' hc fun k _ e => (hS k e).2.2.1, h.ch.trans' hc fun k hk e => by have := (hS k e).2.2.2; omega⟩
theorem Pl.stay (h : Pl W w0 w K c d r s p q n C D C2 D2 P Q A B E F) (hc : Ch Nw w w') : Pl W w0 w' K c d r s p q n C D C2 D2 P Q A B E F := h.other hc fun _ e => e.elim
theorem Pl.cell (h : Pl W w0 w K c d r s p q n C D C2 D2 P Q A B E F) {g i : Nat} {x : Value} (hx : w0.cell? ⟨g, i, none⟩ = some x) (hg : K g) : w.cell? ⟨g, i, none⟩ = some x := h.ck.cell hx fun e => e hg
end
/-- a disk whose cache is of at most so many -/
def Good (D : Dk) (i : Nat) : Prop := D.cache.length ≤ i ∧ ∀ x, D.astray = some x → x < 65536
theorem Good.mono {D : Dk} {i j : Nat} (h : Good D i) (hij : i ≤ j) : Good D j := ⟨Nat.le_trans h.1 hij, h.2⟩
theorem dropC_len (l : List (Nat × Byts)) (a : Nat) : (dropC l a).length ≤ l.length := List.length_filter_le _ _
theorem acD_good {D : Dk} {i n : Nat} (h : Good D i) (a : Ac) (ha : a.addr < 65536) (P : Pwr) : Good (acD n a D P) (i + 1) := by
  have h1 := h.1
  have hm := h.mono (Nat.le_succ i)
  have drop : (dropC D.cache a.addr).length ≤ i + 1 := by have := dropC_len D.cache a.addr; omega
  unfold acD
  split
  · unfold Dk.write
    split
    · unfold Dk.put
      split
      · exact ⟨by simp only; omega, h.2⟩
      · simp only
        split
        · exact ⟨by simp; omega, fun x hx => by cases hx⟩
        · exact ⟨by simp only; omega, fun x hx => by cases hx⟩
    · exact hm
  · exact hm
  · split
    · refine ⟨by simp [Dk.flush], fun x hx => h.2 x ?_⟩
      rw [← foldl_astray D.cache D]
      exact hx
    · exact hm
  · unfold Dk.crash
    split
    · exact hm
    · exact ⟨by simp, fun x hx => by cases hx⟩
  · split
    · exact ⟨drop, h.2⟩
    · exact hm
  · split
    · exact ⟨drop, h.2⟩
    · exact hm
  · split
    · exact ⟨drop, h.2⟩
    · exact hm
  · exact ⟨by simp only; omega, h.2⟩
  · exact ⟨by simp only; omega, fun x hx => by cases hx; exact ha⟩
  · exact ⟨by simp only; omega, h.2⟩
  · exact hm
theorem acP_fuse {D : Dk} {n : Nat} {P : Pwr} (h : P.fuse ≤ 9223372036854775807) (a : Ac) (ha : a.n ≤ 9223372036854775807) : (acP n a D P).fuse ≤ 9223372036854775807 := by
  have hs := Pwr.step_fuse h (by omega)
  unfold acP
  split
  · unfold Dk.wpow
    split
    · exact h
    · split
      · exact h
      · exact hs
  · exact h
  · split
    · exact hs
    · exact h
  · exact h
  · exact h
  · exact h
  · exact h
  · exact h
  · exact h
  · exact h
  · unfold Pwr.fused
    simp only
    split
    · exact h
    · split <;> omega
  · decide
  · exact hs
/-- an act with its bytes elsewhere does the same -/
theorem acD_v (n : Nat) (a : Ac) (v : Value) (D : Dk) (P : Pwr) : acD n { a with v := v } D P = acD n a D P ∧ acP n { a with v := v } D P = acP n a D P ∧ acT n { a with v := v } D P = acT n a D P ∧ acE n { a with v := v } D P = acE n a D P := ⟨rfl, rfl, rfl, rfl⟩
/-- what holds ahead of each act -/
def PlI (W w0 w : World) (K : Nat → Prop) (c d r s p q n i : Nat) : Prop := ∃ C D P A B E F, Pl W w0 w K c d r s p q n C D C D P P A B E F ∧ Good C i ∧ Good D i ∧ P.fuse ≤ 9223372036854775807
end Go.Proofs.Ytmhnlgndgdmebaa
