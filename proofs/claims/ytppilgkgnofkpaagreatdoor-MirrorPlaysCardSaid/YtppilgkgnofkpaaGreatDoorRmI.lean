/- Both mirrors read; the document's forgets its moves. Conditions: the variables sha.constants and ptr.wide hold what the text lays. -/
import Derived.Test.YtppilgkgnofkpaaGreatDoorRmF
import Derived.Test.YtppilgkgnofkpaaGreatDoorRmG
set_option linter.unusedSimpArgs false
set_option linter.unusedVariables false

/- The document's mirror, new. No condition but on sizes. -/
namespace Go.Proofs.YtppilgkgnofkpaaGreatDoor
open Go.RowKit Go.Kin

/-- a disk and its space, made and put into the mirror -/
def mkS (N Q mm : Nat) (u : World) (i : Nat) : World := (((u.alloc (.cells (rcs N Q rz Dk.new) 49)).setCell ⟨mm, i, none⟩ (.pointer (some ⟨u.heap.size, 0, none⟩))).alloc (.cells (sks N (.slice none 0 0)) 51)).setCell ⟨mm, 2 + i, none⟩ (.pointer (some ⟨u.heap.size + 1, 0, none⟩))
theorem mk_step {N Q mm : Nat} {u : World} {cs : Array Value} (i : Nat) (hN : N ≤ 4096) (hb : u.heap[mm]? = some (.cells cs 45 (0, 0))) (hp : PwR u Q Pwr.on) (hQ : Q ≠ mm) :
    (mkS N Q mm u i).heap[mm]? = some (.cells ((cs.setIfInBounds i (.pointer (some ⟨u.heap.size, 0, none⟩))).setIfInBounds (2 + i) (.pointer (some ⟨u.heap.size + 1, 0, none⟩))) 45 (0, 0)) ∧ (mkS N Q mm u i).heap.size = u.heap.size + 2 ∧ Ch (one mm) u (mkS N Q mm u i)
    ∧ (mkS N Q mm u i).heap[u.heap.size + 1]? = some (.cells (sks N (.slice none 0 0)) 51 (0, 0)) ∧ Rd (mkS N Q mm u i) u.heap.size Q N Dk.new Pwr.on (fun k => u.heap.size ≤ k ∧ k < u.heap.size + 1) := by
  have hlt := lt_of_block hb
  have hQl := lt_of_block hp
  have r1 := rd_new N Q u Pwr.on hN hp
  have s1 : (u.alloc (.cells (rcs N Q rz Dk.new) 49)).heap.size = u.heap.size + 1 := by simp
  have c1 := (Ch.refl Nw u).alloc (.cells (rcs N Q rz Dk.new) 49)
  have b1 := c1.obj hb id
  unfold mkS
  generalize u.alloc (.cells (rcs N Q rz Dk.new) 49) = u1 at *
  have c2 : Ch (one mm) u1 (u1.setCell ⟨mm, i, none⟩ (.pointer (some ⟨u.heap.size, 0, none⟩))) := (Ch.refl (one mm) u1).setCell (p := ⟨mm, i, none⟩) (.inl rfl) _
  have b2 : (u1.setCell ⟨mm, i, none⟩ (.pointer (some ⟨u.heap.size, 0, none⟩))).heap[mm]? = some (.cells (cs.setIfInBounds i (.pointer (some ⟨u.heap.size, 0, none⟩))) 45 (0, 0)) := by rw [hp_setCell, b1, setOf_cells]
  have s2 : (u1.setCell ⟨mm, i, none⟩ (.pointer (some ⟨u.heap.size, 0, none⟩))).heap.size = u.heap.size + 1 := by simp [s1]
  generalize u1.setCell ⟨mm, i, none⟩ (.pointer (some ⟨u.heap.size, 0, none⟩)) = u2 at *
  have c3 := (Ch.refl Nw u2).alloc (.cells (sks N (.slice none 0 0)) 51)
  have b3 := c3.obj b2 id
  have e3 := hp_alloc u2 (.cells (sks N (.slice none 0 0)) 51)
  rw [s2] at e3
  have s3 : (u2.alloc (.cells (sks N (.slice none 0 0)) 51)).heap.size = u.heap.size + 2 := by simp [s2]
  generalize u2.alloc (.cells (sks N (.slice none 0 0)) 51) = u3 at *
  have c4 : Ch (one mm) u3 (u3.setCell ⟨mm, 2 + i, none⟩ (.pointer (some ⟨u.heap.size + 1, 0, none⟩))) := (Ch.refl (one mm) u3).setCell (p := ⟨mm, 2 + i, none⟩) (.inl rfl) _
  have c14 : Ch (one mm) u1 (u3.setCell ⟨mm, 2 + i, none⟩ (.pointer (some ⟨u.heap.size + 1, 0, none⟩))) := (c2.trans (c3.mono fun _ _ e => e.elim)).trans c4
  refine ⟨by rw [hp_setCell, b3, setOf_cells], by simp [s3], (c1.mono fun _ _ e => e.elim).trans c14, c4.obj e3 fun e => by simp only [one] at e; omega, r1.ch c14 (fun k hk e => by simp only [one] at e; omega) hQ⟩
def dN (Q : Nat) : Nat → Nat := fun i => Q + 2 + 2 * i
def eN (Q : Nat) : Nat → Nat := fun i => Q + 3 + 2 * i
def mr0 : Array Value := #[.pointer none, .pointer none, .pointer none, .pointer none, .int .i64 0, .int .i64 0, .int .i64 0, .int .i64 0, .slice none 0 0]
def pw0 : Array Value := #[.bool false, .int .i64 (-1)]
/-- the world behind the making -/
def mkW (N : Nat) (w : World) : Nat → World
  | 0 => (w.alloc (.cells pw0 36)).alloc (.cells mr0 45)
  | i + 1 => mkS N w.heap.size (w.heap.size + 1) (mkW N w i) i
theorem mkW_blk (N : Nat) (hN : N ≤ 4096) (w : World) : ∀ i, (∃ cs, (mkW N w i).heap[w.heap.size + 1]? = some (.cells cs 45 (0, 0)) ∧ cs.size = 9) ∧ PwR (mkW N w i) w.heap.size Pwr.on
  | 0 => ⟨⟨mr0, al2_1 w _ _, rfl⟩, al2_0 w _ _⟩
  | i + 1 => by
    obtain ⟨⟨cs, h1, h2⟩, h3⟩ := mkW_blk N hN w i
    obtain ⟨a, b, c, _, _⟩ := mk_step i hN h1 h3 (by omega)
    exact ⟨⟨_, a, by simp [h2]⟩, h3.ch c fun e => by simp only [one] at e; omega⟩
theorem SkH.fresh {w : World} {g n : Nat} (hb : w.heap[g]? = some (.cells (sks n (.slice none 0 0)) 51 (0, 0))) : SkH g n (fun _ => false) w fun k => k = g :=
  ⟨.slice none 0 0, [], hb, RowA.nil w, fun a => by simp, Nda.nil n, rfl, fun k hk => by simp [Value.ownBlock] at hk, fun k hk => by subst hk; exact lt_of_block hb⟩
theorem rm_new (N : Nat) (hN : N ≤ 4096) (w : World) : RmAt (w.heap.size + 1) w.heap.size N (dN w.heap.size) (eN w.heap.size) Mr.new (mkW N w 2) (fun k => w.heap.size ≤ k ∧ k < (mkW N w 2).heap.size) ∧ Ch Nw w (mkW N w 2) := by
  have b0 : (mkW N w 0).heap[w.heap.size + 1]? = some (.cells mr0 45 (0, 0)) := al2_1 w _ _
  have p0 : PwR (mkW N w 0) w.heap.size Pwr.on := al2_0 w _ _
  have s0 : (mkW N w 0).heap.size = w.heap.size + 2 := by simp [mkW]
  have c0 : Ch Nw w (mkW N w 0) := ((Ch.refl Nw w).alloc _).alloc _
  obtain ⟨b1, s1, c1, e1, r1⟩ := mk_step (N := N) 0 hN b0 p0 (by omega)
  have p1 := p0.ch c1 fun e => by simp only [one] at e; omega
  have s1 : (mkW N w 1).heap.size = (mkW N w 0).heap.size + 2 := s1
  have s1 : (mkW N w 1).heap.size = w.heap.size + 4 := by omega
  have hu : mkW N w 2 = mkS N w.heap.size (w.heap.size + 1) (mkW N w 1) 1 := rfl
  obtain ⟨b2, s2, c2, e2, r2⟩ := mk_step (N := N) (u := mkW N w 1) 1 hN b1 p1 (by omega)
  rw [← hu] at b2 s2 c2 e2 r2
  have p2 : PwR (mkW N w 2) w.heap.size Pwr.on := p1.ch c2 fun e => by simp only [one] at e; omega
  have r12 : Rd (mkW N w 2) _ _ N _ _ _ := r1.ch c2 (fun k hk e => by simp only [one] at e; omega) fun e => by simp only [one] at e; omega
  have e12 : (mkW N w 2).heap[_]? = _ := c2.obj e1 fun e => by simp only [one] at e; omega
  rw [s1] at b2 s2 e2 r2
  rw [s0] at b2 r12 e12
  have hcs : ((((mr0.setIfInBounds 0 (.pointer (some ⟨w.heap.size + 2, 0, none⟩))).setIfInBounds (2 + 0) (.pointer (some ⟨w.heap.size + 2 + 1, 0, none⟩))).setIfInBounds 1 (.pointer (some ⟨w.heap.size + 4, 0, none⟩))).setIfInBounds (2 + 1) (.pointer (some ⟨w.heap.size + 4 + 1, 0, none⟩))) = rmcs Mr.new (dN w.heap.size) (eN w.heap.size) (.slice none 0 0) := by
    simp [mr0, rmcs, Mr.new, dN, eN]
  rw [hcs] at b2
  have hO : ∀ k, k < w.heap.size + 6 → k < (mkW N w 2).heap.size := fun k hk => by omega
  have hrd : RdT (dN w.heap.size) w.heap.size N Mr.new.dk Mr.new.P (mkW N w 2) fun k => k = w.heap.size ∨ k = w.heap.size + 2 ∨ k = w.heap.size + 4 := by
    refine ⟨fun i k => k = w.heap.size + 2 + 2 * i, fun i hi => ?_, fun k h0 h1 => by omega, .inl rfl, fun i hi k hk => by rcases lt2 hi with rfl | rfl <;> omega, fun k hk => by omega⟩
    rcases lt2 hi with rfl | rfl
    · exact ⟨r12.dk.mono (fun k hk => by omega) fun k hk => by omega, r12.pw, by omega⟩
    · exact ⟨r2.dk.mono (fun k hk => by omega) fun k hk => by omega, r2.pw, by omega⟩
  have h5 : SepL [] (mkW N w 2) fun _ => False := fun _ e => e.elim
  have h4 := h5.cons (H := RowH 58 41 (.slice none 0 0) Mr.new.moves.length (rowsL pt Mr.new.moves)) (O1 := fun _ => False) ⟨World.ownsRow_nil _ _ _ _, fun k hk => by simp [Value.ownBlock] at hk, fun _ e => e.elim⟩ (RowH.ok _ _ _ _ _) fun _ e => e.elim
  have h3 := h4.cons (SkH.fresh e2) (SkH.ok _ _ _) fun _ _ e => by simp at e
  have h2 := h3.cons (SkH.fresh e12) (SkH.ok _ _ _) fun k hk e => by simp at e; omega
  have h1 := h2.cons hrd (RdT.ok _ _ _ _ _) fun k hk e => by simp at e; omega
  have h0 := h1.cons (H := Blk (w.heap.size + 1) _ _) (O1 := fun k => k = w.heap.size + 1) ⟨b2, rfl, fun k hk => by omega⟩ (Blk.ok _ _ _) fun k hk e => by simp at e; omega
  refine ⟨⟨⟨.slice none 0 0, ?_⟩, fun y hy => by cases hy⟩, c0.trans' (c1.trans c2) fun k hk e => by simp only [one] at e; omega⟩
  have h0' : SepL (RmL (w.heap.size + 1) w.heap.size N (dN w.heap.size) (eN w.heap.size) Mr.new (.slice none 0 0)) (mkW N w 2) _ := h0
  exact (SepL.ok RmL.ok).weak h0' (fun k hk => by simp at hk; omega) fun k hk => hk.2
end Go.Proofs.YtppilgkgnofkpaaGreatDoor

namespace Go.Kin
open Go Go.RowKit
theorem Keep.to {H H' : HP} {W w0 w w' : World} {K O O' : Nat → Prop} (h : Keep W w0 w K H) (b : ∀ k, O k → W.heap.size ≤ k) (c : ∀ k, K k → ¬ O k) (y : H' w' O') (yo : ∀ k, O' k → O k ∨ w.heap.size ≤ k) (z : Ch O w w') : Keep W w0 w' K H' := by
  have hs := h.ch.size
  have hs0 := h.ck.size
  exact ⟨⟨O', y, fun k hk => (yo k hk).elim (b k) fun e => by omega, fun k hk e => (yo k e).elim (c k hk) fun e => by have := h.lt k hk; omega⟩, h.lt, h.ck.trans' z fun k hk e hK => c k hK e, h.ch.trans' z fun k hk e => by have := b k e; omega⟩
end Go.Kin
namespace Go.Proofs.YtppilgkgnofkpaaGreatDoor
open Go.RowKit Go.Kin

section
variable {w w' : World} {x p m n mm q i c : Nat} {z : Mz} {d e : Nat → Nat} {s : Mr} {O : Nat → Prop}
theorem RmAt.clear (h : RmAt m q n d e s w O) : RmAt m q n d e { s with moves := [] } (w.setCell ⟨m, 8, none⟩ (.slice none 0 0)) (Gr O w (w.setCell ⟨m, 8, none⟩ (.slice none 0 0))) ∧ Ch O w (w.setCell ⟨m, 8, none⟩ (.slice none 0 0)) := by
  obtain ⟨⟨mv0, h⟩, o⟩ := h
  obtain ⟨a, b⟩ := h.move (i := 4) (H' := RowH 58 41 (.slice none 0 0) 0 []) (w' := w) RmL.ok rfl fun O1 h1 _ =>
    ⟨⟨World.ownsRow_nil _ _ _ _, fun k hk => by simp [Value.ownBlock] at hk, Gr.lt h1.2.2 (Nat.le_refl _)⟩, Ch.refl _ _⟩
  obtain ⟨a2, b2⟩ := a.move (i := 0) (H' := Blk m (rmcs { s with moves := [] } d e (.slice none 0 0)) 45) (w' := w.setCell ⟨m, 8, none⟩ (.slice none 0 0)) (fun H hH => by
      simp only [RmL, List.set_cons_succ, List.set_cons_zero, List.mem_cons, List.not_mem_nil, or_false] at hH
      rcases hH with rfl | rfl | rfl | rfl | rfl
      · exact Blk.ok _ _ _
      · exact RdT.ok _ _ _ _ _
      · exact SkH.ok _ _ _
      · exact SkH.ok _ _ _
      · exact RowH.ok _ _ _ _ _) rfl fun O1 h1 _ => by
    have := h1.set 8 (.slice none 0 0)
    exact this
  refine ⟨⟨⟨.slice none 0 0, (SepL.ok (l := RmL m q n d e { s with moves := [] } (.slice none 0 0)) RmL.ok).weak a2 (fun k hk => ?_) (Gr.lt h.lt (Nat.le_trans b.size b2.size))⟩, fun y hy => by cases hy⟩, b.trans' b2 fun k hk e => e.resolve_right (by omega)⟩
  rcases hk with (hk | hk) | hk
  · exact .inl hk
  · exact .inr ⟨hk.1, Nat.lt_of_lt_of_le hk.2 b2.size⟩
  · exact .inr ⟨by have := b.size; omega, hk.2⟩
/-- both read a pointer -/
theorem two_read (h : SepL (Two x p m n z mm q d e s s) w O) (y : Pt) (ok : PtOk y) (hw : Lw w) (hk : Lk w) (fine : s.Fine c) (hc : c ≤ 700000) (hn : n ≤ 4096) (hgk : ¬ O 1) :
    Ret Tryz.prog 9 #[.pointer (some ⟨m, 0, none⟩), .agg (pt y)] w fun v' w1 => ∃ u, v' = .tuple #[u, .int .i64 (s.heal n y false).2.2] ∧ Ch O w w1
      ∧ Ret Tryz.prog 10 #[.pointer (some ⟨mm, 0, none⟩), .agg (pt y), .bool false] w1 fun v2 w2 => v2 = .tuple #[.string ⟨(s.heal n y false).2.1.toArray⟩, .int .i64 (s.heal n y false).2.2] ∧ Sl w2 u (s.heal n y false).2.1.length (bvs (s.heal n y false).2.1) ∧ SepL (Two x p m n z mm q d e (s.heal n y false).1 (s.heal n y false).1) w2 (Gr O w w2) ∧ Ch O w w2 := by
  obtain ⟨Op, Or', hp, ⟨Or, Oe, hr, he, d2, sub2, lt2⟩, dis, sub, lt⟩ := h
  have hr : RmAt mm q n d e s w Or := hr
  have hp : PrAt w x p m n z s Op := hp
  have hdis : ∀ k, Op k → ¬ Or k := fun k hk e => dis k hk (sub2 k (.inl e))
  have hOr : ∀ k, Or k → O k := fun k hk => sub k (.inr (sub2 k (.inl hk)))
  have hOp : ∀ k, Op k → O k := fun k hk => sub k (.inl hk)
  obtain ⟨O', h1, hx, h3⟩ := hp.mr
  refine (read_m h1 y ok hw hk fine (by omega) fun e => hgk (hOp _ (h3 _ e))).mono ?_
  rintro v8 w8 ⟨u8, rfl, hh⟩
  obtain ⟨O2, y1, y2, y3⟩ := hh.at'
  have k8 := hh.ch
  have hxl := hp.lt x hp.ox
  have hs8 := k8.size
  have hp8 : PrAt w8 x p m n z (s.heal n y false).1 fun k => k = x ∨ O2 k :=
    ⟨k8.obj hp.blk hx, ⟨O2, y1, fun e => (y2 x e).elim hx fun e => by omega, fun k hk => .inr hk⟩, .inl rfl, fun k hk => hk.elim (fun e => by omega) (y1.lt k)⟩
  have hr8 := (RmAt.ok ..).ch hr k8 fun k hk e => hdis k (h3 k e) hk
  have hrl : ∀ k, Or k → k < w.heap.size := fun k hk => lt k (hOr k hk)
  have hOp8 : ∀ k, (k = x ∨ O2 k) → (Op k ∨ w.heap.size ≤ k) := fun k hk => by
    rcases hk with rfl | hk
    · exact .inl hp.ox
    · exact (y2 k hk).imp (h3 k) fun e => e.1
  have hd8 : ∀ k, (k = x ∨ O2 k) → ¬ Or k := fun k hk e => (hOp8 k hk).elim (fun e1 => hdis k e1 e) fun e1 => by have := hrl k e; omega
  refine ⟨u8, rfl, k8.mono fun k _ e => hOp k (h3 k e), (rheal_any hr8 y ok false fine hc hn).mono ?_⟩
  rintro _ w9 ⟨rfl, hr9, c9⟩
  have hs9 := c9.size
  have hp9 := hp8.ch c9 hd8
  refine ⟨rfl, hh.sl.ch c9 fun j hj e => by have := (y3 j hj).1; have := hrl j e; omega, ?_, (k8.mono fun k _ e => hOp k (h3 k e)).trans' c9 fun k hk e => hOr k e⟩
  refine ⟨_, Gr Or w8 w9, hp9, ⟨Gr Or w8 w9, fun _ => False, hr9, fun _ e => e.elim, fun _ _ e => e, fun k hk => hk.elim id fun e => e.elim, Gr.lt (fun k hk => Nat.lt_of_lt_of_le (hrl k hk) hs8) hs9⟩, fun k hk e => e.elim (hd8 k hk) fun e => by have := hp8.lt k hk; omega, fun k hk => ?_, Gr.lt lt (by omega)⟩
  rcases hk with hk | hk | hk
  · exact (hOp8 k hk).elim (fun e => .inl (hOp k e)) fun e => .inr ⟨e, by have := hp8.lt k hk; omega⟩
  · exact .inl (hOr k hk)
  · exact .inr ⟨by omega, hk.2⟩
end
end Go.Proofs.YtppilgkgnofkpaaGreatDoor
