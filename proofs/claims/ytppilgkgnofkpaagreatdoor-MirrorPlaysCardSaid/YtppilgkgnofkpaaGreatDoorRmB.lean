/- The document's mirror in memory. No condition. -/
import Derived.Test.YtppilgkgnofkpaaGreatDoorRmA
import Derived.Test.YtppilgkgnofkpaaGreatDoorSpm
import Derived.Test.YtppilgkgnofkpaaGreatDoorMrI
set_option linter.unusedSimpArgs false
set_option linter.unusedVariables false

namespace Go.Proofs.YtppilgkgnofkpaaGreatDoor
open Go.RowKit Go.Kin

/-- the document's two disks under one power -/
structure RdP (w : World) (d : Nat → Nat) (q n : Nat) (dk : Nat → Dk) (P : Pwr) (A : Nat → Nat → Prop) (O : Nat → Prop) : Prop where
  rd : ∀ i, i < 2 → Rd w (d i) q n (dk i) P (A i)
  ab : ∀ k, A 0 k → ¬ A 1 k
  oq : O q
  oa : ∀ i, i < 2 → ∀ k, A i k → O k
  lt : ∀ k, O k → k < w.heap.size
def RdT (d : Nat → Nat) (q n : Nat) (dk : Nat → Dk) (P : Pwr) : HP := fun w O => ∃ A, RdP w d q n dk P A O
theorem RdT.ok (d : Nat → Nat) (q n : Nat) (dk : Nat → Dk) (P : Pwr) : HOk (RdT d q n dk P) :=
  ⟨fun ⟨_, h⟩ => h.lt, fun ⟨A, h⟩ hc hS => ⟨A, fun i hi => (h.rd i hi).ch hc (fun k hk => hS k (h.oa i hi k hk)) (hS _ h.oq), h.ab, h.oq, h.oa, fun k hk => Nat.lt_of_lt_of_le (h.lt k hk) hc.size⟩, fun ⟨A, h⟩ a b => ⟨A, h.rd, h.ab, a _ h.oq, fun i hi k hk => a k (h.oa i hi k hk), b⟩⟩
section
variable {w w' : World} {d : Nat → Nat} {q n i : Nat} {dk : Nat → Dk} {P P' : Pwr} {O : Nat → Prop} {D' : Dk} {f : FuncId} {args : Array Value} {R : Value → World → Prop}
theorem RdT.pw (h : RdT d q n dk P w O) : PwR w q P := by
  obtain ⟨A, h⟩ := h
  exact (h.rd 0 (by omega)).pw
/-- a disk's step -/
theorem RdT.move (h : RdT d q n dk P w O) (hi : i < 2) (hd : ∀ B, Rd w (d i) q n (dk i) P B → (∀ k, B k → O k) → Rd w' (d i) q n D' P' (Gr B w w') ∧ Ch (fun k => B k ∨ k = q) w w') :
    RdT d q n (upd1 dk i D') P' w' (Gr O w w') ∧ Ch O w w' := by
  obtain ⟨A, h⟩ := h
  obtain ⟨h1, hc⟩ := hd (A i) (h.rd i hi) (h.oa i hi)
  have hs := hc.size
  have hAi : ∀ j, j < 2 → ∀ k, upd1 A i (Gr (A i) w w') j k → A j k ∨ (j = i ∧ w.heap.size ≤ k ∧ k < w'.heap.size) := fun j hj k hk => by
    by_cases hji : j = i
    · subst hji
      rw [upd1_same] at hk
      exact hk.imp id fun e => ⟨rfl, e⟩
    · rw [upd1_ne _ _ hji] at hk
      exact .inl hk
  refine ⟨⟨upd1 A i (Gr (A i) w w'), fun j hj => ?_, fun k h0 h1 => ?_, .inl h.oq, fun j hj k hk => (hAi j hj k hk).imp (h.oa j hj k) fun e => e.2, Gr.lt h.lt hs⟩, hc.mono fun k _ e => e.elim (h.oa i hi k) fun e => by subst e; exact h.oq⟩
  · by_cases hji : j = i
    · subst hji
      simp only [upd1_same]
      exact h1
    · simp only [upd1_ne _ _ hji]
      have hj' := h.rd j hj
      refine ⟨hj'.dk.ch hc fun k hk e => e.elim (fun e => ?_) fun e => hj'.qO (by rw [← e]; exact hk), h1.pw, hj'.qO⟩
      rcases lt2 hi with rfl | rfl <;> rcases lt2 hj with rfl | rfl
      · exact hji rfl
      · exact h.ab k e hk
      · exact h.ab k hk e
      · exact hji rfl
  · rcases hAi 0 (by omega) k h0 with h0 | ⟨e0, h0⟩
    · rcases hAi 1 (by omega) k h1 with h1 | ⟨_, h1⟩
      · exact h.ab k h0 h1
      · have := h.lt k (h.oa 0 (by omega) k h0); omega
    · rcases hAi 1 (by omega) k h1 with h1 | ⟨e1, h1⟩
      · have := h.lt k (h.oa 1 (by omega) k h1); omega
      · omega
theorem RdT.disk (h : RdT d q n dk P w O) (hi : i < 2) (hd : ∀ B, Rd w (d i) q n (dk i) P B → (∀ k, B k → O k) → Ret Tryz.prog f args w fun v' w' => R v' w' ∧ Rd w' (d i) q n D' P' (Gr B w w') ∧ Ch (fun k => B k ∨ k = q) w w') :
    Ret Tryz.prog f args w fun v' w' => R v' w' ∧ RdT d q n (upd1 dk i D') P' w' (Gr O w w') ∧ Ch O w w' := by
  obtain ⟨A, h0⟩ := id h
  refine (hd (A i) (h0.rd i hi) (h0.oa i hi)).mono ?_
  rintro v w' ⟨a, b, c⟩
  have hs := c.size
  have h1 : RdT d q n dk P w O := h
  refine ⟨a, ?_⟩
  have hAi : ∀ j, j < 2 → ∀ k, upd1 A i (Gr (A i) w w') j k → A j k ∨ (j = i ∧ w.heap.size ≤ k ∧ k < w'.heap.size) := fun j hj k hk => by
    by_cases hji : j = i
    · subst hji
      rw [upd1_same] at hk
      exact hk.imp id fun e => ⟨rfl, e⟩
    · rw [upd1_ne _ _ hji] at hk
      exact .inl hk
  refine ⟨⟨upd1 A i (Gr (A i) w w'), fun j hj => ?_, fun k h2 h3 => ?_, .inl h0.oq, fun j hj k hk => (hAi j hj k hk).imp (h0.oa j hj k) fun e => e.2, Gr.lt h0.lt hs⟩, c.mono fun k _ e => e.elim (h0.oa i hi k) fun e => by subst e; exact h0.oq⟩
  · by_cases hji : j = i
    · subst hji
      simp only [upd1_same]
      exact b
    · simp only [upd1_ne _ _ hji]
      have hj' := h0.rd j hj
      refine ⟨hj'.dk.ch c fun k hk e => e.elim (fun e => ?_) fun e => hj'.qO (by rw [← e]; exact hk), b.pw, hj'.qO⟩
      rcases lt2 hi with rfl | rfl <;> rcases lt2 hj with rfl | rfl
      · exact hji rfl
      · exact h0.ab k e hk
      · exact h0.ab k hk e
      · exact hji rfl
  · rcases hAi 0 (by omega) k h2 with h2 | ⟨e0, h2⟩
    · rcases hAi 1 (by omega) k h3 with h3 | ⟨_, h3⟩
      · exact h0.ab k h2 h3
      · have := h0.lt k (h0.oa 0 (by omega) k h2); omega
    · rcases hAi 1 (by omega) k h3 with h3 | ⟨e1, h3⟩
      · have := h0.lt k (h0.oa 1 (by omega) k h3); omega
      · omega
end
/-- a mirror's own cells, as the document has them -/
def rmcs (s : Mr) (d e : Nat → Nat) (mv : Value) : Array Value := #[.pointer (some ⟨d 0, 0, none⟩), .pointer (some ⟨d 1, 0, none⟩), .pointer (some ⟨e 0, 0, none⟩), .pointer (some ⟨e 1, 0, none⟩), .int .i64 (s.found 0), .int .i64 (s.found 1), .int .i64 (s.mended 0), .int .i64 (s.mended 1), mv]
def RmL (m q n : Nat) (d e : Nat → Nat) (s : Mr) (mv : Value) : List HP := [Blk m (rmcs s d e mv) 45, RdT d q n s.dk s.P, SkH (e 0) n (s.sick 0), SkH (e 1) n (s.sick 1), RowH 58 41 mv s.moves.length (rowsL pt s.moves)]
theorem RmL.ok {m q n : Nat} {d e : Nat → Nat} {s : Mr} {mv : Value} : ∀ H ∈ RmL m q n d e s mv, HOk H := by
  intro H hH
  simp only [RmL, List.mem_cons, List.not_mem_nil, or_false] at hH
  rcases hH with rfl | rfl | rfl | rfl | rfl
  · exact Blk.ok _ _ _
  · exact RdT.ok _ _ _ _ _
  · exact SkH.ok _ _ _
  · exact SkH.ok _ _ _
  · exact RowH.ok _ _ _ _ _
/-- the document's mirror -/
def RmAt (m q n : Nat) (d e : Nat → Nat) (s : Mr) : HP := fun w O => (∃ mv, SepL (RmL m q n d e s mv) w O) ∧ ∀ x ∈ s.moves, PtOk x
theorem RmAt.ok (m q n : Nat) (d e : Nat → Nat) (s : Mr) : HOk (RmAt m q n d e s) :=
  ⟨fun ⟨⟨_, h⟩, _⟩ => h.lt, fun ⟨⟨mv, h⟩, o⟩ hc hS => ⟨⟨mv, (SepL.ok RmL.ok).ch h hc hS⟩, o⟩, fun ⟨⟨mv, h⟩, o⟩ a b => ⟨⟨mv, (SepL.ok RmL.ok).weak h a b⟩, o⟩⟩
section
variable {w w' : World} {m q n i : Nat} {d e : Nat → Nat} {s : Mr} {mv : Value} {O : Nat → Prop} {f : FuncId} {args : Array Value} {R : Value → World → Prop} {D' : Dk} {P' : Pwr}
theorem RmAt.blk (h : RmAt m q n d e s w O) : ∃ mv, w.heap[m]? = some (.cells (rmcs s d e mv) 45 (0, 0)) := by
  obtain ⟨⟨mv, h⟩, _⟩ := h
  obtain ⟨O1, h1, _⟩ := h.get (i := 0) rfl
  exact ⟨mv, h1.1⟩
theorem RmAt.dcell (h : RmAt m q n d e s w O) (hi : i < 2) : w.cell? ⟨m, i, none⟩ = some (.pointer (some ⟨d i, 0, none⟩)) := by
  obtain ⟨mv, h⟩ := h.blk
  rw [cell_blk h]
  rcases lt2 hi with rfl | rfl <;> rfl
theorem RmAt.ecell (h : RmAt m q n d e s w O) (hi : i < 2) : w.cell? ⟨m, 2 + i, none⟩ = some (.pointer (some ⟨e i, 0, none⟩)) := by
  obtain ⟨mv, h⟩ := h.blk
  rw [cell_blk h]
  rcases lt2 hi with rfl | rfl <;> rfl
theorem RmAt.fcell (h : RmAt m q n d e s w O) (hi : i < 2) : w.cell? ⟨m, 4 + i, none⟩ = some (.int .i64 (s.found i)) := by
  obtain ⟨mv, h⟩ := h.blk
  rw [cell_blk h]
  rcases lt2 hi with rfl | rfl <;> rfl
theorem RmAt.mcell (h : RmAt m q n d e s w O) (hi : i < 2) : w.cell? ⟨m, 6 + i, none⟩ = some (.int .i64 (s.mended i)) := by
  obtain ⟨mv, h⟩ := h.blk
  rw [cell_blk h]
  rcases lt2 hi with rfl | rfl <;> rfl
theorem RmAt.get (h : RmAt m q n d e s w O) (hi : i < 2) : ∃ B, Rd w (d i) q n (s.dk i) s.P B := by
  obtain ⟨⟨mv, h⟩, _⟩ := h
  obtain ⟨O1, ⟨A, h1⟩, _⟩ := h.get (i := 1) rfl
  exact ⟨_, h1.rd i hi⟩
theorem RmAt.sk (h : RmAt m q n d e s w O) (hi : i < 2) : ∃ B, SkH (e i) n (s.sick i) w B := by
  obtain ⟨⟨mv, h⟩, _⟩ := h
  rcases lt2 hi with rfl | rfl
  · obtain ⟨O1, h1, _⟩ := h.get (i := 2) rfl
    exact ⟨_, h1⟩
  · obtain ⟨O1, h1, _⟩ := h.get (i := 3) rfl
    exact ⟨_, h1⟩
theorem RmAt.mo (h : RmAt m q n d e s w O) : ∃ mv, w.cell? ⟨m, 8, none⟩ = some mv ∧ w.ownsRow 0 58 41 mv s.moves.length (rowsL pt s.moves) := by
  obtain ⟨⟨mv, h⟩, _⟩ := h
  obtain ⟨O1, h1, _⟩ := h.get (i := 0) rfl
  obtain ⟨O2, h2, _⟩ := h.get (i := 4) rfl
  exact ⟨mv, (cell_blk h1.1 8).trans rfl, h2.1⟩
/-- a disk's step -/
theorem RmAt.disk (h : RmAt m q n d e s w O) (hi : i < 2) (hd : ∀ B, Rd w (d i) q n (s.dk i) s.P B → (∀ k, B k → O k) → Ret Tryz.prog f args w fun v' w' => R v' w' ∧ Rd w' (d i) q n D' P' (Gr B w w') ∧ Ch (fun k => B k ∨ k = q) w w') :
    Ret Tryz.prog f args w fun v' w' => R v' w' ∧ RmAt m q n d e { s with dk := upd1 s.dk i D', P := P' } w' (Gr O w w') ∧ Ch O w w' := by
  obtain ⟨⟨mv, h⟩, o⟩ := h
  refine (h.step (i := 1) (H' := RdT d q n (upd1 s.dk i D') P') (R := R) RmL.ok rfl (RdT.ok ..) fun O1 h1 hO => h1.disk hi fun B hB hBO => hd B hB fun k hk => hO k (hBO k hk)).mono ?_
  rintro v w' ⟨a, b, c⟩
  exact ⟨a, ⟨⟨mv, b⟩, o⟩, c⟩
/-- a space's step -/
theorem RmAt.skstep {sk : Nat → Bool} (h : RmAt m q n d e s w O) (hi : i < 2) (hd : ∀ B, SkH (e i) n (s.sick i) w B → Ret Tryz.prog f args w fun v' w' => R v' w' ∧ SkH (e i) n sk w' (Gr B w w') ∧ Ch B w w') :
    Ret Tryz.prog f args w fun v' w' => R v' w' ∧ RmAt m q n d e { s with sick := upd1 s.sick i sk } w' (Gr O w w') ∧ Ch O w w' := by
  obtain ⟨⟨mv, h⟩, o⟩ := h
  have e0 : upd1 s.sick i sk (1 - i) = s.sick (1 - i) := upd1_ne _ _ (by omega)
  rcases lt2 hi with rfl | rfl
  · refine (h.step (i := 2) (H' := SkH (e 0) n sk) (R := R) RmL.ok rfl (SkH.ok ..) fun O1 h1 hO => hd O1 h1).mono ?_
    rintro v w' ⟨a, b, c⟩
    exact ⟨a, ⟨⟨mv, b⟩, o⟩, c⟩
  · refine (h.step (i := 3) (H' := SkH (e 1) n sk) (R := R) RmL.ok rfl (SkH.ok ..) fun O1 h1 hO => hd O1 h1).mono ?_
    rintro v w' ⟨a, b, c⟩
    exact ⟨a, ⟨⟨mv, b⟩, o⟩, c⟩
/-- its own numbers -/
theorem RmAt.set {s' : Mr} {j : Nat} {v : Value} (h : RmAt m q n d e s w O) (hb : ∀ mv, (rmcs s d e mv).setIfInBounds j v = rmcs s' d e mv) (e1 : s'.dk = s.dk) (e2 : s'.P = s.P) (e4 : s'.sick = s.sick) (e5 : s'.moves = s.moves) :
    RmAt m q n d e s' (w.setCell ⟨m, j, none⟩ v) (Gr O w (w.setCell ⟨m, j, none⟩ v)) ∧ Ch O w (w.setCell ⟨m, j, none⟩ v) := by
  obtain ⟨⟨mv, h⟩, o⟩ := h
  obtain ⟨a, b⟩ := h.move (i := 0) (H' := Blk m (rmcs s' d e mv) 45) (w' := w.setCell ⟨m, j, none⟩ v) RmL.ok rfl fun O1 h1 _ => by
    have := h1.set j v
    rw [hb] at this
    exact this
  refine ⟨⟨⟨mv, ?_⟩, by rw [e5]; exact o⟩, b⟩
  unfold RmL at a ⊢
  rw [e1, e2, e4, e5]
  exact a
/-- one move more -/
theorem RmAt.push {w1 : World} {mv mv' : Value} {x : Pt} (h : RmAt m q n d e s w O) (okx : PtOk x) (hmv : w.cell? ⟨m, 8, none⟩ = some mv) (own1 : w1.ownsRow 0 58 41 mv' (s.moves ++ [x]).length (rowsL pt (s.moves ++ [x]))) (cl : Ch (fun k => mv.ownBlock = some k) w w1) (ff : mv'.ownBlock = mv.ownBlock ∨ Fresh w.heap.size mv') :
    RmAt m q n d e { s with moves := s.moves ++ [x] } (w1.setCell ⟨m, 8, none⟩ mv') (Gr O w (w1.setCell ⟨m, 8, none⟩ mv')) ∧ Ch O w (w1.setCell ⟨m, 8, none⟩ mv') := by
  obtain ⟨⟨mv0, h⟩, o⟩ := h
  obtain ⟨O1, h1, _⟩ := h.get (i := 0) rfl
  have hm0 : mv0 = mv := by
    have := (cell_blk h1.1 8).symm.trans hmv
    simpa [rmcs] using this
  subst hm0
  obtain ⟨a, b⟩ := h.move (i := 4) (H' := RowH 58 41 mv' (s.moves ++ [x]).length (rowsL pt (s.moves ++ [x]))) (w' := w1) RmL.ok rfl fun O1 h1 _ => by
    have hc : Ch O1 w w1 := cl.mono fun k _ e => h1.2.1 k e
    refine ⟨⟨own1, fun k hk => ?_, Gr.lt h1.2.2 hc.size⟩, hc⟩
    rcases ff with ff | ff
    · exact .inl (h1.2.1 k (by rw [← ff]; exact hk))
    · exact .inr ⟨ff k hk, own_blt own1 k hk⟩
  obtain ⟨a2, b2⟩ := a.move (i := 0) (H' := Blk m (rmcs { s with moves := s.moves ++ [x] } d e mv') 45) (w' := w1.setCell ⟨m, 8, none⟩ mv') (fun H hH => by
      simp only [RmL, List.set_cons_succ, List.set_cons_zero, List.mem_cons, List.not_mem_nil, or_false] at hH
      rcases hH with rfl | rfl | rfl | rfl | rfl
      · exact Blk.ok _ _ _
      · exact RdT.ok _ _ _ _ _
      · exact SkH.ok _ _ _
      · exact SkH.ok _ _ _
      · exact RowH.ok _ _ _ _ _) rfl fun O1 h1 _ => by
    have := h1.set 8 mv'
    exact this
  refine ⟨⟨⟨mv', (SepL.ok (l := RmL m q n d e { s with moves := s.moves ++ [x] } mv') RmL.ok).weak a2 (fun k hk => ?_) (Gr.lt h.lt (Nat.le_trans b.size b2.size))⟩, fun y hy => ?_⟩, b.trans' b2 fun k hk e => e.resolve_right (by omega)⟩
  · rcases hk with (hk | hk) | hk
    · exact .inl hk
    · exact .inr ⟨hk.1, Nat.lt_of_lt_of_le hk.2 b2.size⟩
    · exact .inr ⟨by have := b.size; omega, hk.2⟩
  · rcases List.mem_append.1 hy with hy | hy
    · exact o y hy
    · simp at hy; subst hy; exact okx
theorem rmcs_found (s : Mr) (d e : Nat → Nat) (mv : Value) (hi : i < 2) (x : Nat) : (rmcs s d e mv).setIfInBounds (4 + i) (.int .i64 x) = rmcs { s with found := upd1 s.found i x } d e mv := by
  rcases lt2 hi with rfl | rfl <;> simp [rmcs, upd1]
theorem rmcs_mended (s : Mr) (d e : Nat → Nat) (mv : Value) (hi : i < 2) (x : Nat) : (rmcs s d e mv).setIfInBounds (6 + i) (.int .i64 x) = rmcs { s with mended := upd1 s.mended i x } d e mv := by
  rcases lt2 hi with rfl | rfl <;> simp [rmcs, upd1]
set_option maxRecDepth 100000 in
/-- a copy -/
theorem rgood_any (h : RmAt m q n d e s w O) (x : Pt) (ok : PtOk x) (hcl : ∀ i, i < 2 → (s.dk i).cache.length ≤ 1000000) (k : Nat) (hk4 : k < 4) : Ret Tryz.prog 46 #[.pointer (some ⟨m, 0, none⟩), .agg (pt x), .agg #[.int .i64 (k / 2 : Nat), .int .u16 (adr x k)]] w fun v' w' => (∃ t, v' = .tuple #[.string ⟨t⟩, .bool (s.good n x k).isSome] ∧ ∀ b, s.good n x k = some b → t = b.toArray) ∧ Ch Nw w w' := by
  refine v_enter Tryz.func46 Tryz.ntmps46 rfl (by simp) fun R' hR => ?_
  have hps := pt_size ok
  have hpa := pt_all ok
  have hal := adr_lt ok k
  obtain ⟨i, hki⟩ : ∃ i, k / 2 = i := ⟨_, rfl⟩
  have hi : i < 2 := by omega
  have hi2 : (i : Int) < 2 := by omega
  have hg : s.good n x k = if (s.dk i).able s.P then ((s.dk i).look n (adr x k)).filter (fitB x) else none := by unfold Mr.good; rw [hki]
  rw [hki]
  have b0 := al2_0 w (.cells (pt x) 58) (.cells #[.int .i64 i, .int .u16 (adr x k)] 113)
  have b1 := al2_1 w (.cells (pt x) 58) (.cells #[.int .i64 i, .int .u16 (adr x k)] 113)
  have ca := ((Ch.refl Nw w).alloc (.cells (pt x) 58)).alloc (.cells #[.int .i64 i, .int .u16 (adr x k)] 113)
  simp [go_sem, hps, hpa]
  obtain ⟨g, hgs⟩ : ∃ g, w.heap.size = g := ⟨_, rfl⟩
  rw [hgs] at b0 b1 ⊢
  revert b0 b1 ca
  generalize (w.alloc (.cells (pt x) 58)).alloc (.cells #[.int .i64 i, .int .u16 (adr x k)] 113) = w1
  intro ca b1 b0
  have h1 := (RmAt.ok m q n d e s).ch h ca fun _ _ e => e
  have c1 := fun j => cell_blk b1 j
  have cd := h1.dcell hi
  refine v_draw' [(0, none), (1, none), (2, none), (3, none), (4, none), (5, none), (6, none), (7, none), (8, none), (9, some []), (10, none), (11, none), (12, none), (13, none), (14, none)] (by kernel_rfl) (by kernel_rfl) ?_
  simp [go_sem, c1, cd, hi, hi2]
  obtain ⟨B, hB⟩ := h1.get hi
  obtain ⟨z, lm, lb, ls, hP⟩ := hB.dk
  refine (read_rk (hP.ch (Ch.refl Nw w1).drew fun _ _ e => e) hB.pw (adr x k) hal (hcl i hi)).mono ?_
  rintro _ w2 ⟨rfl, c2⟩
  have c2 : Ch Nw w1 w2 := Ch.of_drew c2
  have b02 := c2.obj b0 id
  by_cases hE : readE n (s.dk i) s.P (adr x k) = 0
  · have hab : (s.dk i).able s.P = true := by
      cases hab : (s.dk i).able s.P with
      | true => rfl
      | false => simp [readE, hab] at hE
    obtain ⟨b, hlk⟩ : ∃ b, (s.dk i).look n (adr x k) = some b := by
      unfold readE at hE
      rw [hab] at hE
      cases hl : (s.dk i).look n (adr x k) with
      | some b => exact ⟨b, rfl⟩
      | none => simp [hl] at hE; split at hE <;> simp at hE
    have ht : readT n (s.dk i) s.P (adr x k) = b := by unfold readT; rw [if_pos hE, hlk]; rfl
    rw [hab, if_pos rfl, hlk] at hg
    have hb5 : b.length = 512 := hP.ok.look hlk
    rw [ht, hE]
    simp [go_sem, b02, hps, hpa]
    refine (rfits_any x b w2 ok (by omega)).mono ?_
    rintro _ w3 ⟨rfl, c3⟩
    simp [go_sem]
    refine hR _ _ ⟨⟨b.toArray, ?_, fun b' hb' => ?_⟩, (ca.trans c2).trans c3⟩
    · rw [hg]
      cases hf : fitB x b <;> simp [Option.filter, hf]
    · rw [hg] at hb'
      obtain ⟨e, _⟩ := Option.filter_eq_some_iff.1 hb'
      cases e
      rfl
  · have hgn : s.good n x k = none := by
      rw [hg]
      cases hab : (s.dk i).able s.P with
      | false => simp
      | true =>
        simp only [if_true]
        cases hl : (s.dk i).look n (adr x k) with
        | none => rfl
        | some b =>
          exfalso
          apply hE
          have hna : ¬ n ≤ adr x k := fun hc => by
            unfold Dk.look at hl
            simp [hc] at hl
          unfold readE
          simp [hab, hna, hl]
    have hE2 : ((readE n (s.dk i) s.P (adr x k)) == 0) = false := beq_false_of_ne hE
    simp [go_sem, hE, hE2]
    exact hR _ _ ⟨⟨_, by rw [hgn]; rfl, fun b hb => by rw [hgn] at hb; cases hb⟩, ca.trans c2⟩
end
end Go.Proofs.YtppilgkgnofkpaaGreatDoor
