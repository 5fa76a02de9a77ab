/- The tree law's shelf: a sink. Conditions: none but that the values are of their types. -/
import Derived.Test.YtnefdmbdkljifaaGreatDoorTrN
import Derived.Test.YtnefdmbdkljifaaGreatDoorRsF
set_option linter.unusedSimpArgs false
set_option linter.unusedVariables false

namespace Go.Proofs.YtnefdmbdkljifaaGreatDoor
open Go.RowKit Go.Kin

theorem tyU16t : Ty1 Tryz.prog 27 31 (.int .u16 0) 2 := ⟨Tryz.underlying27, by kernel_rfl, rfl⟩
theorem tyBss : Ty1 Tryz.prog 26 62 (.slice none 0 0) 24 := ⟨Tryz.underlying26, by kernel_rfl, rfl⟩
/-- a row grew -/
theorem RowH.grown {e size n n' : Nat} {v v' : Value} {xs xs' : List Value} {w w' : World} {O : Nat → Prop} (h : RowH e size v n xs w O) (own : w'.ownsRow 0 e size v' n' xs') (hc : Ch (fun k => v.ownBlock = some k) w w') (hf : v'.ownBlock = v.ownBlock ∨ Fresh w.heap.size v') :
    RowH e size v' n' xs' w' (Gr O w w') ∧ Ch O w w' := by
  have cO : Ch O w w' := hc.mono fun k _ hk => h.2.1 k hk
  refine ⟨⟨own, fun k hk => ?_, Gr.lt h.2.2 cO.size⟩, cO⟩
  rcases hf with hf | hf
  · rw [hf] at hk; exact .inl (h.2.1 k hk)
  · exact .inr ⟨hf k hk, own_in own k hk⟩
/-- the blocks, the bad addresses, what is not touched -/
def ShY (lB : List Value) (bl : List (List UInt8)) (vD : Value) (bad : List Nat) (W0 : World) (Bk : Nat → Prop) : HP := fun w O =>
  (∀ (i : Nat) (v : Value) (b : List UInt8), lB[i]? = some v → bl[i]? = some b → Sl w v b.length (bvs b) ∧ ∀ k, v.ownBlock = some k → O k) ∧ Sl w vD bad.length (u16s bad) ∧ (∀ k, vD.ownBlock = some k → O k) ∧ (∀ k, Bk k → O k ∧ w.heap[k]? = W0.heap[k]?) ∧ ∀ k, O k → k < w.heap.size
theorem ShY.ok (lB : List Value) (bl : List (List UInt8)) (vD : Value) (bad : List Nat) (W0 : World) (Bk : Nat → Prop) : HOk (ShY lB bl vD bad W0 Bk) := by
  refine ⟨fun h => h.2.2.2.2, ?_, ?_⟩
  · rintro w w' O S ⟨h1, h2, h3, h4, h5⟩ hc hS
    refine ⟨fun i v b hv hb => ⟨(h1 i v b hv hb).1.ch hc fun k hk => hS k ((h1 i v b hv hb).2 k hk), (h1 i v b hv hb).2⟩, h2.ch hc fun k hk => hS k (h3 k hk), h3, fun k hk => ⟨(h4 k hk).1, ?_⟩, fun k hk => Nat.lt_of_lt_of_le (h5 k hk) hc.size⟩
    rw [hc.block k (h5 k (h4 k hk).1) (hS k (h4 k hk).1), (h4 k hk).2]
  · rintro w O O' ⟨h1, h2, h3, h4, h5⟩ h h'
    exact ⟨fun i v b hv hb => ⟨(h1 i v b hv hb).1, fun k hk => h k ((h1 i v b hv hb).2 k hk)⟩, h2, fun k hk => h k (h3 k hk), fun k hk => ⟨h k (h4 k hk).1, (h4 k hk).2⟩, h'⟩
/-- one more block -/
theorem ShY.more {lB : List Value} {bl : List (List UInt8)} {vD : Value} {bad : List Nat} {W0 : World} {Bk : Nat → Prop} {w w' : World} {O : Nat → Prop} (h : ShY lB bl vD bad W0 Bk w O) (hc : Ch Nw w w') {v : Value} {b : List UInt8} (hl : lB.length = bl.length) (hs : Sl w' v b.length (bvs b)) (hf : Fresh w.heap.size v) (hv : ∀ k, v.ownBlock = some k → k < w'.heap.size) :
    ShY (lB ++ [v]) (bl ++ [b]) vD bad W0 Bk w' (Gr O w w') ∧ Ch O w w' := by
  have h' := (ShY.ok lB bl vD bad W0 Bk).ch h hc fun _ _ e => e
  obtain ⟨h1, h2, h3, h4, h5⟩ := h'
  refine ⟨⟨fun i u c hu hc' => ?_, h2, fun k hk => .inl (h3 k hk), fun k hk => ⟨.inl (h4 k hk).1, (h4 k hk).2⟩, Gr.lt h.2.2.2.2 hc.size⟩, hc.mono fun _ _ e => e.elim⟩
  by_cases hi : i < lB.length
  · rw [List.getElem?_append_left hi] at hu
    rw [List.getElem?_append_left (by omega)] at hc'
    exact ⟨(h1 i u c hu hc').1, fun k hk => .inl ((h1 i u c hu hc').2 k hk)⟩
  · have e : i = lB.length := by
      have := (List.getElem?_eq_some_iff.1 hu).1
      simp at this
      omega
    subst e
    rw [List.getElem?_append_right (Nat.le_refl _), Nat.sub_self] at hu
    rw [hl, List.getElem?_append_right (Nat.le_refl _), Nat.sub_self] at hc'
    cases hu
    cases hc'
    exact ⟨hs, fun k hk => .inr ⟨hf k hk, hv k hk⟩⟩
abbrev PtR (v : Value) (l : List Pt) : HP := RowH 37 41 v l.length (rowsL pt l)
def shL (g : Nat) (s : Shf) (vB vD vM vG vR : Value) (lB : List Value) (W0 : World) (Bk : Nat → Prop) : List HP :=
  [Blk g #[vB, vD, vM, vG, .int .i64 s.room, vR] 30, RowH 62 1 vB s.bl.length lB, PtR vM s.made, PtR vG s.gone, PtR vR s.red, ShY lB s.bl vD s.bad W0 Bk]
theorem shL_ok (g : Nat) (s : Shf) (vB vD vM vG vR : Value) (lB : List Value) (W0 : World) (Bk : Nat → Prop) : ∀ H ∈ shL g s vB vD vM vG vR lB W0 Bk, HOk H := fun H hH => by
  simp only [shL, List.mem_cons, List.not_mem_nil, or_false] at hH
  rcases hH with rfl | rfl | rfl | rfl | rfl | rfl
  · exact Blk.ok _ _ _
  · exact RowH.ok _ _ _ _ _
  · exact RowH.ok _ _ _ _ _
  · exact RowH.ok _ _ _ _ _
  · exact RowH.ok _ _ _ _ _
  · exact ShY.ok _ _ _ _ _ _
structure ShGood (s : Shf) : Prop where
  made : ∀ p ∈ s.made, PtOk p
  gone : ∀ p ∈ s.gone, PtOk p
  red : ∀ p ∈ s.red, PtOk p
  bl : ∀ b ∈ s.bl, b.length ≤ 600
  bln : s.bl.length ≤ 30000
  r0 : -1 ≤ s.room
  r1 : s.room ≤ 255
  badl : s.bad.length ≤ 1000
def shM (s : Shf) : Nat := 1000000000 - (s.made.length + s.gone.length + s.red.length + s.bl.length)
/-- the shelf in memory -/
def ShH (g : Nat) (W0 : World) (Bk : Nat → Prop) (s : Shf) : HP := fun w O => ∃ vB vD vM vG vR lB, ShGood s ∧ lB.length = s.bl.length ∧ SepL (shL g s vB vD vM vG vR lB W0 Bk) w O
theorem ShH.ok (g : Nat) (W0 : World) (Bk : Nat → Prop) (s : Shf) : HOk (ShH g W0 Bk s) := by
  refine ⟨?_, ?_, ?_⟩
  · rintro w O ⟨vB, vD, vM, vG, vR, lB, h1, h2, h3⟩
    exact h3.lt
  · rintro w w' O S ⟨vB, vD, vM, vG, vR, lB, h1, h2, h3⟩ hc hS
    exact ⟨vB, vD, vM, vG, vR, lB, h1, h2, (SepL.ok (shL_ok g s vB vD vM vG vR lB W0 Bk)).ch h3 hc hS⟩
  · rintro w O O' ⟨vB, vD, vM, vG, vR, lB, h1, h2, h3⟩ h h'
    exact ⟨vB, vD, vM, vG, vR, lB, h1, h2, (SepL.ok (shL_ok g s vB vD vM vG vR lB W0 Bk)).weak h3 h h'⟩
abbrev shV (g : Nat) : Value := .iface 25 (.pointer (some ⟨g, 0, none⟩))
theorem rows_one {l : List Pt} {p : Pt} : rowsL pt (l ++ [p]) = rowsL pt l ++ (pt p).toList := by rw [rowsL_append, rowsL_one]
section
variable {g : Nat} {W0 : World} {Bk : Nat → Prop} {s : Shf} {w : World} {O : Nat → Prop}
theorem sep_gr {l : List HP} {w w1 w2 : World} {O : Nat → Prop} (hl : ∀ H ∈ l, HOk H) (h : SepL l w2 (Gr (Gr O w w1) w1 w2)) (h1 : w.heap.size ≤ w1.heap.size) (h2 : w1.heap.size ≤ w2.heap.size) (hO : ∀ k, O k → k < w.heap.size) : SepL l w2 (Gr O w w2) :=
  (SepL.ok hl).weak h (fun _ hk => gr2' h1 h2 hk) (Gr.lt hO (by omega))
theorem ch_gr {w w1 w2 : World} {O : Nat → Prop} (h1 : Ch O w w1) (h2 : Ch (Gr O w w1) w1 w2) : Ch O w w2 := h1.trans' h2 fun k hk e => e.elim id fun e => by omega
variable {vB vD vM vG vR v6 : Value} {lB : List Value} {w6 : World} {p : Pt}
theorem shL_gone (hS : SepL (shL g s vB vD vM vG vR lB W0 Bk) w O) (own6 : w6.ownsRow 0 37 41 v6 (s.gone.length + 1) (rowsL pt s.gone ++ (pt p).toList)) (cl6 : Ch (fun k => vG.ownBlock = some k) w w6) (ff6 : v6.ownBlock = vG.ownBlock ∨ Fresh w.heap.size v6) :
    w6.heap[g]? = some (.cells #[vB, vD, vM, vG, .int .i64 s.room, vR] 30 (0, 0)) ∧ SepL (shL g (shOd s p) vB vD vM v6 vR lB W0 Bk) (w6.setCell ⟨g, 3, none⟩ v6) (Gr O w (w6.setCell ⟨g, 3, none⟩ v6)) ∧ Ch O w (w6.setCell ⟨g, 3, none⟩ v6) := by
  have own6' : w6.ownsRow 0 37 41 v6 (s.gone ++ [p]).length (rowsL pt (s.gone ++ [p])) := by rw [rows_one, List.length_append]; exact own6
  obtain ⟨h2, k2⟩ := hS.move (i := 3) (shL_ok _ _ _ _ _ _ _ _ _ _) rfl fun O1 h1 _ => RowH.grown h1 own6' cl6 ff6
  have ok2 : ∀ H ∈ (shL g s vB vD vM vG vR lB W0 Bk).set 3 (PtR v6 (s.gone ++ [p])), HOk H := fun H hH => by
    rcases List.mem_or_eq_of_mem_set hH with h | rfl
    · exact shL_ok _ _ _ _ _ _ _ _ _ _ H h
    · exact RowH.ok _ _ _ _ _
  obtain ⟨h3, k3⟩ := h2.move (i := 0) ok2 rfl fun O1 h1 _ => Blk.set h1 3 v6
  have hk := ch_gr k2 k3
  obtain ⟨Og, hgb, _⟩ := h2.get (i := 0) rfl
  exact ⟨hgb.1, sep_gr (shL_ok g (shOd s p) vB vD vM v6 vR lB W0 Bk) h3 k2.size k3.size hS.lt, hk⟩
theorem shL_red (hS : SepL (shL g s vB vD vM vG vR lB W0 Bk) w O) (own6 : w6.ownsRow 0 37 41 v6 (s.red.length + 1) (rowsL pt s.red ++ (pt p).toList)) (cl6 : Ch (fun k => vR.ownBlock = some k) w w6) (ff6 : v6.ownBlock = vR.ownBlock ∨ Fresh w.heap.size v6) :
    w6.heap[g]? = some (.cells #[vB, vD, vM, vG, .int .i64 s.room, vR] 30 (0, 0)) ∧ SepL (shL g (s.more [p]) vB vD vM vG v6 lB W0 Bk) (w6.setCell ⟨g, 5, none⟩ v6) (Gr O w (w6.setCell ⟨g, 5, none⟩ v6)) ∧ Ch O w (w6.setCell ⟨g, 5, none⟩ v6) := by
  have own6' : w6.ownsRow 0 37 41 v6 (s.red ++ [p]).length (rowsL pt (s.red ++ [p])) := by rw [rows_one, List.length_append]; exact own6
  obtain ⟨h2, k2⟩ := hS.move (i := 4) (shL_ok _ _ _ _ _ _ _ _ _ _) rfl fun O1 h1 _ => RowH.grown h1 own6' cl6 ff6
  have ok2 : ∀ H ∈ (shL g s vB vD vM vG vR lB W0 Bk).set 4 (PtR v6 (s.red ++ [p])), HOk H := fun H hH => by
    rcases List.mem_or_eq_of_mem_set hH with h | rfl
    · exact shL_ok _ _ _ _ _ _ _ _ _ _ H h
    · exact RowH.ok _ _ _ _ _
  obtain ⟨h3, k3⟩ := h2.move (i := 0) ok2 rfl fun O1 h1 _ => Blk.set h1 5 v6
  have hk := ch_gr k2 k3
  obtain ⟨Og, hgb, _⟩ := h2.get (i := 0) rfl
  exact ⟨hgb.1, sep_gr (shL_ok g (s.more [p]) vB vD vM vG v6 lB W0 Bk) h3 k2.size k3.size hS.lt, hk⟩
theorem shL_made (hS : SepL (shL g s vB vD vM vG vR lB W0 Bk) w O) (own6 : w6.ownsRow 0 37 41 v6 (s.made.length + 1) (rowsL pt s.made ++ (pt p).toList)) (cl6 : Ch (fun k => vM.ownBlock = some k) w w6) (ff6 : v6.ownBlock = vM.ownBlock ∨ Fresh w.heap.size v6) :
    w6.heap[g]? = some (.cells #[vB, vD, vM, vG, .int .i64 s.room, vR] 30 (0, 0)) ∧ SepL (shL g { s with made := s.made ++ [p] } vB vD v6 vG vR lB W0 Bk) (w6.setCell ⟨g, 2, none⟩ v6) (Gr O w (w6.setCell ⟨g, 2, none⟩ v6)) ∧ Ch O w (w6.setCell ⟨g, 2, none⟩ v6) := by
  have own6' : w6.ownsRow 0 37 41 v6 (s.made ++ [p]).length (rowsL pt (s.made ++ [p])) := by rw [rows_one, List.length_append]; exact own6
  obtain ⟨h2, k2⟩ := hS.move (i := 2) (shL_ok _ _ _ _ _ _ _ _ _ _) rfl fun O1 h1 _ => RowH.grown h1 own6' cl6 ff6
  have ok2 : ∀ H ∈ (shL g s vB vD vM vG vR lB W0 Bk).set 2 (PtR v6 (s.made ++ [p])), HOk H := fun H hH => by
    rcases List.mem_or_eq_of_mem_set hH with h | rfl
    · exact shL_ok _ _ _ _ _ _ _ _ _ _ H h
    · exact RowH.ok _ _ _ _ _
  obtain ⟨h3, k3⟩ := h2.move (i := 0) ok2 rfl fun O1 h1 _ => Blk.set h1 2 v6
  have hk := ch_gr k2 k3
  obtain ⟨Og, hgb, _⟩ := h2.get (i := 0) rfl
  exact ⟨hgb.1, sep_gr (shL_ok g { s with made := s.made ++ [p] } vB vD v6 vG vR lB W0 Bk) h3 k2.size k3.size hS.lt, hk⟩
theorem shL_bl {w2 w3 w4 : World} {v3 v4 : Value} {b : List UInt8} (hS : SepL (shL g s vB vD vM vG vR lB W0 Bk) w2 O) (hl : lB.length = s.bl.length) (c23 : Ch Nw w2 w3) (hs3 : Sl w3 v3 b.length (bvs b)) (f3 : Fresh w2.heap.size v3) (lt3 : ∀ k, v3.ownBlock = some k → k < w3.heap.size)
    (own4 : w4.ownsRow 0 62 1 v4 (s.bl.length + 1) (lB ++ [v3])) (cl4 : Ch (fun k => vB.ownBlock = some k) w3 w4) (ff4 : v4.ownBlock = vB.ownBlock ∨ Fresh w3.heap.size v4) :
    w4.heap[g]? = some (.cells #[vB, vD, vM, vG, .int .i64 s.room, vR] 30 (0, 0)) ∧ SepL (shL g { s with bl := s.bl ++ [b] } v4 vD vM vG vR (lB ++ [v3]) W0 Bk) (w4.setCell ⟨g, 0, none⟩ v4) (Gr O w2 (w4.setCell ⟨g, 0, none⟩ v4)) ∧ Ch O w2 (w4.setCell ⟨g, 0, none⟩ v4) := by
  obtain ⟨h1, k1⟩ := hS.move (i := 5) (shL_ok _ _ _ _ _ _ _ _ _ _) rfl fun O1 h1 _ => ShY.more h1 c23 hl hs3 f3 lt3
  have own4' : w4.ownsRow 0 62 1 v4 (s.bl ++ [b]).length (lB ++ [v3]) := by rw [List.length_append]; exact own4
  have ok1 : ∀ H ∈ (shL g s vB vD vM vG vR lB W0 Bk).set 5 (ShY (lB ++ [v3]) (s.bl ++ [b]) vD s.bad W0 Bk), HOk H := fun H hH => by
    rcases List.mem_or_eq_of_mem_set hH with h | rfl
    · exact shL_ok _ _ _ _ _ _ _ _ _ _ H h
    · exact ShY.ok _ _ _ _ _ _
  obtain ⟨h2, k2⟩ := h1.move (i := 1) ok1 rfl fun O1 h1 _ => RowH.grown h1 own4' cl4 ff4
  have ok2 : ∀ H ∈ ((shL g s vB vD vM vG vR lB W0 Bk).set 5 (ShY (lB ++ [v3]) (s.bl ++ [b]) vD s.bad W0 Bk)).set 1 (RowH 62 1 v4 (s.bl ++ [b]).length (lB ++ [v3])), HOk H := fun H hH => by
    rcases List.mem_or_eq_of_mem_set hH with h | rfl
    · exact ok1 H h
    · exact RowH.ok _ _ _ _ _
  obtain ⟨h3, k3⟩ := h2.move (i := 0) ok2 rfl fun O1 h1 _ => Blk.set h1 0 v4
  obtain ⟨Og, hgb, _⟩ := h2.get (i := 0) rfl
  have h2l := h2.lt
  have hk := ch_gr k1 (ch_gr k2 k3)
  have h3' : SepL _ (w4.setCell ⟨g, 0, none⟩ v4) (Gr (Gr O w2 w3) w3 (w4.setCell ⟨g, 0, none⟩ v4)) := sep_gr (shL_ok g { s with bl := s.bl ++ [b] } v4 vD vM vG vR (lB ++ [v3]) W0 Bk) h3 k2.size k3.size h1.lt
  exact ⟨hgb.1, sep_gr (shL_ok g { s with bl := s.bl ++ [b] } v4 vD vM vG vR (lB ++ [v3]) W0 Bk) h3' k1.size (Nat.le_trans k2.size k3.size) hS.lt, hk⟩
theorem shL_room (hS : SepL (shL g s vB vD vM vG vR lB W0 Bk) w O) (r : Int) : SepL (shL g { s with room := r } vB vD vM vG vR lB W0 Bk) (w.setCell ⟨g, 4, none⟩ (.int .i64 r)) (Gr O w (w.setCell ⟨g, 4, none⟩ (.int .i64 r))) ∧ Ch O w (w.setCell ⟨g, 4, none⟩ (.int .i64 r)) :=
  hS.move (i := 0) (shL_ok _ _ _ _ _ _ _ _ _ _) rfl fun O1 h1 _ => Blk.set h1 4 _
set_option maxRecDepth 100000 in
theorem shOld_any (h : ShH g W0 Bk s w O) (hm : 16 ≤ shM s) (p : Pt) (ok : PtOk p) :
    Ret Tryz.prog 127 #[.pointer (some ⟨g, 0, none⟩), .agg (pt p)] w fun v' w' => ShH g W0 Bk (shOd s p) w' (Gr O w w') ∧ Ch O w w' := by
  refine v_enter Tryz.func127 Tryz.ntmps127 rfl (by simp) fun R' hR => ?_
  obtain ⟨vB, vD, vM, vG, vR, lB, hgd, hlB, hS⟩ := h
  have hlO := hS.lt
  have hps := pt_size ok
  have hpa := pt_all ok
  have ca := (Ch.refl Nw w).alloc (.cells (pt p) 37)
  have b0 := hp_alloc w (.cells (pt p) 37)
  have hS1 := (SepL.ok (shL_ok g s vB vD vM vG vR lB W0 Bk)).ch hS ca fun _ _ e => e
  obtain ⟨q, hq⟩ : ∃ q, w.heap.size = q := ⟨_, rfl⟩
  simp [go_sem, hps, hpa]
  rw [hq] at b0 ⊢
  have sa := ca.size
  generalize w.alloc (.cells (pt p) 37) = w1 at *
  obtain ⟨Og, hgb, hgO⟩ := hS1.get (i := 0) rfl
  obtain ⟨Oq, hrow, hrO⟩ := hS1.get (i := 3) rfl
  obtain ⟨A, c, hve, _⟩ := Sl.of_own hrow.1
  subst hve
  have cg : w1.cell? ⟨g, 3, none⟩ = some (.slice A s.gone.length c) := cell_blk hgb.1 3
  have b0d : w1.drew.heap[q]? = some (.cells (pt p) 37 (0, 0)) := b0
  refine v_draw' [(0, none), (1, none), (2, none), (3, none), (4, none), (5, none), (6, some [0, 1, 2, 3, 4]), (7, some [0]), (8, none), (9, none), (10, some [])] (by kernel_rfl) (by kernel_rfl) ?_
  simp [↓VX_bsl1, go_sem, cg, b0, b0d, hps, hpa]
  refine VBs_run (bsl_ptr ok _) ?_
  have cga : (w1.alloc (.cells (pt p) 37)).cell? ⟨g, 3, none⟩ = some (.slice A s.gone.length c) := ((Ch.refl Nw w1).alloc (.cells (pt p) 37)).cell cg id
  simp [go_sem, cg, cga]
  rw [show (w1.alloc (.cells (pt p) 37)).drew = w1.drew.alloc (.cells (pt p).toList.toArray 37) by simp; rfl]
  refine VB_app1S (w := w1.drew) (us := (pt p).toList) tyPtr hrow.1 (by rw [Array.length_toList, hps]) (ones_mem (pt_ones p)) (by unfold maxLen shM at *; omega) (by unfold shM at hm; omega) fun v6 w6 own6 cl6 ff6 => ?_
  have cl6 : Ch (fun k => (Value.slice A s.gone.length c).ownBlock = some k) w1 w6 := Ch.of_drew cl6
  obtain ⟨b6, h7, k7⟩ := shL_gone (p := p) hS1 own6 cl6 ff6
  obtain ⟨gq, capq, curq, hv6, _⟩ := ownS_blk own6 (by omega)
  subst hv6
  have c6 : w6.cell? ⟨g, 3, none⟩ = some (.slice A s.gone.length c) := cell_blk b6 3
  have f6 := frz_blk b6 3
  simp [go_sem, c6, f6]
  have hk := (ca.mono (S' := O) fun _ _ e => e.elim).trans k7
  refine hR _ _ ⟨⟨vB, vD, vM, _, vR, lB, ⟨hgd.made, fun x hx => ?_, hgd.red, hgd.bl, hgd.bln, hgd.r0, hgd.r1, hgd.badl⟩, hlB, (SepL.ok (shL_ok g (shOd s p) _ _ _ _ _ _ _ _)).weak h7 (fun k hk => hk.imp id fun e => ⟨by omega, e.2⟩) (Gr.lt hlO hk.size)⟩, hk⟩
  simp only [shOd, List.mem_append, List.mem_singleton] at hx
  rcases hx with hx | rfl
  · exact hgd.gone x hx
  · exact ok
set_option maxRecDepth 100000 in
set_option maxHeartbeats 4000000 in
theorem shRead_any (h : ShH g W0 Bk s w O) (hm : 16 ≤ shM s) (p : Pt) (ok : PtOk p) :
    Ret Tryz.prog 128 #[.pointer (some ⟨g, 0, none⟩), .agg (pt p)] w fun v' w' => ∃ u, v' = .tuple #[u, .int .i64 (shRd s p).2.2] ∧ Sl w' u (shRd s p).2.1.length (bvs (shRd s p).2.1) ∧ (shRd s p).2.1.length ≤ 1000000 ∧ ShH g W0 Bk (shRd s p).1 w' (Gr O w w') ∧ Ch O w w' := by
  refine v_enter Tryz.func128 Tryz.ntmps128 rfl (by simp) fun R' hR => ?_
  obtain ⟨vB, vD, vM, vG, vR, lB, hgd, hlB, hS⟩ := h
  have hlO := hS.lt
  have hps := pt_size ok
  have hpa := pt_all ok
  have ca := (Ch.refl Nw w).alloc (.cells (pt p) 37)
  have b0 := hp_alloc w (.cells (pt p) 37)
  have hS1 := (SepL.ok (shL_ok g s vB vD vM vG vR lB W0 Bk)).ch hS ca fun _ _ e => e
  obtain ⟨q, hq⟩ : ∃ q, w.heap.size = q := ⟨_, rfl⟩
  simp [go_sem, hps, hpa]
  rw [hq] at b0 ⊢
  have sa := ca.size
  have sa1 : (w.alloc (.cells (pt p) 37)).heap.size = q + 1 := by simp [hq]
  generalize w.alloc (.cells (pt p) 37) = w1 at *
  obtain ⟨Og, hgb, hgO⟩ := hS1.get (i := 0) rfl
  obtain ⟨Oq, hrow, hrO⟩ := hS1.get (i := 4) rfl
  obtain ⟨A, c, hve, _⟩ := Sl.of_own hrow.1
  subst hve
  have cg : w1.cell? ⟨g, 5, none⟩ = some (.slice A s.red.length c) := cell_blk hgb.1 5
  have b0d : w1.drew.heap[q]? = some (.cells (pt p) 37 (0, 0)) := b0
  refine v_draw' [(0, none), (1, none), (2, none), (3, none), (4, none), (5, none), (6, some [0, 1, 2, 3, 4]), (7, some [0]), (8, none), (9, none), (10, some [])] (by kernel_rfl) (by kernel_rfl) ?_
  simp [↓VX_bsl1, go_sem, cg, b0, b0d, hps, hpa]
  refine VBs_run (bsl_ptr ok _) ?_
  have cga : (w1.alloc (.cells (pt p) 37)).cell? ⟨g, 5, none⟩ = some (.slice A s.red.length c) := ((Ch.refl Nw w1).alloc (.cells (pt p) 37)).cell cg id
  simp [go_sem, cg, cga]
  rw [show (w1.alloc (.cells (pt p) 37)).drew = w1.drew.alloc (.cells (pt p).toList.toArray 37) by simp; rfl]
  refine VB_app1S (w := w1.drew) (us := (pt p).toList) tyPtr hrow.1 (by rw [Array.length_toList, hps]) (ones_mem (pt_ones p)) (by unfold maxLen shM at *; omega) (by unfold shM at hm; omega) fun v6 w6 own6 cl6 ff6 => ?_
  have cl6 : Ch (fun k => (Value.slice A s.red.length c).ownBlock = some k) w1 w6 := Ch.of_drew cl6
  obtain ⟨b6, h7, k7⟩ := shL_red (p := p) hS1 own6 cl6 ff6
  obtain ⟨gq, capq, curq, hv6, _⟩ := ownS_blk own6 (by omega)
  subst hv6
  have c6 : w6.cell? ⟨g, 5, none⟩ = some (.slice A s.red.length c) := cell_blk b6 5
  have f6 := frz_blk b6 5
  simp [go_sem, c6, f6]
  have hk := (ca.mono (S' := O) fun _ _ e => e.elim).trans k7
  have hgd' : ShGood (s.more [p]) := ⟨hgd.made, hgd.gone, fun x hx => by
    simp only [Shf.more, List.mem_append, List.mem_singleton] at hx
    rcases hx with hx | rfl
    · exact hgd.red x hx
    · exact ok, hgd.bl, hgd.bln, hgd.r0, hgd.r1, hgd.badl⟩
  have nq : ¬ O q := fun e => by have := hlO q e; omega
  have b07 := k7.obj b0 nq
  generalize hw7 : w6.setCell ⟨g, 5, none⟩ (.slice (some ⟨gq, 0, none⟩) (s.red.length + 1) capq) = w7 at *
  obtain ⟨vR', hvR'⟩ : ∃ vR', Value.slice (some ⟨gq, 0, none⟩) (s.red.length + 1) capq = vR' := ⟨_, rfl⟩
  rw [hvR'] at h7
  have hs7 := k7.size
  -- what there is now
  obtain ⟨Og7, hgb7, _⟩ := h7.get (i := 0) rfl
  obtain ⟨OB, hB7, _⟩ := h7.get (i := 1) rfl
  obtain ⟨OY, hY7, hYO⟩ := h7.get (i := 5) rfl
  have fin : ∀ {u : Value} {b : List UInt8} {e : Int} {W : World}, Ch Nw w7 W → shRd s p = (s.more [p], b, e) → Sl w7 u b.length (bvs b) → b.length ≤ 1000000 → R' (.tuple #[u, .int .i64 e]) W := fun {u b e W} hc e1 hs hbl => by
    have hkW := hk.trans (hc.mono fun _ _ e => e.elim)
    refine hR _ _ ?_
    rw [e1]
    exact ⟨u, rfl, hs.ch hc fun _ _ e => e, hbl, ⟨vB, vD, vM, vG, vR', lB, hgd', hlB, (SepL.ok (shL_ok g (s.more [p]) _ _ _ _ _ _ _ _)).weak ((SepL.ok (shL_ok g (s.more [p]) _ _ _ _ _ _ _ _)).ch h7 hc fun _ _ e => e) (fun k hk => hk.imp id fun e => ⟨by omega, by have := hc.size; omega⟩) (Gr.lt hlO hkW.size)⟩, hkW⟩
  have hDs : Sl w7 vD s.bad.length (u16s s.bad) := hY7.2.1
  obtain ⟨A2, c2, hveD, _⟩ := id hDs
  subst hveD
  have cD : w7.cell? ⟨g, 1, none⟩ = some (.slice A2 s.bad.length c2) := cell_blk hgb7.1 1
  have hlD := hDs.len Tryz.underlying27 3
  obtain ⟨a0, a1, a2, a3, ha⟩ : ∃ a0 a1 a2 a3, p.a = [a0, a1, a2, a3] := by
    have := ok.a
    match hp : p.a, this with
    | [a0, a1, a2, a3], _ => exact ⟨a0, a1, a2, a3, rfl⟩
  have hp0 : p.a.getD 0 0 = a0 := by rw [ha]; rfl
  have ha16 : a0 < 65536 := ok.at' a0 (by rw [ha]; simp)
  have hwa : IntKind.i64.wrap (a0 : Int) = a0 := by rw [IntKind.wrap_i64]; omega
  have c37 : w7.cell? ⟨q, 37, none⟩ = some (.int .u16 a0) := (cell_blk b07 37).trans (pt_a ok (i := 0) (by rw [ha]; rfl))
  have hbl := hgd.badl
  refine v_loop (fun r f u => ∃ i, r = s.bad.length - i ∧ i ≤ s.bad.length ∧ f 0 = .pointer (some ⟨g, 0, none⟩) ∧ f 3 = .pointer (some ⟨q, 0, none⟩) ∧ f 6 = .int .i64 i ∧ (∀ (j : Nat) x, j < i → s.bad[j]? = some x → x ≠ a0) ∧ Ch Nw w7 u) s.bad.length
    ⟨0, rfl, by omega, by simp, by simp, by simp, fun j x hj => absurd hj (by omega), Ch.refl _ _⟩ ?_
  rintro J hJ _ f u ⟨i, rfl, hi, f0, f3, f6, hno, cu⟩
  have cDu := cu.cell cD id
  have c37u := cu.cell c37 id
  by_cases hlt : i < s.bad.length
  · have hii : (i : Int) < s.bad.length := by omega
    have hwi : IntKind.i64.wrap ((i : Int) + 1) = ((i + 1 : Nat) : Int) := by rw [IntKind.wrap_i64]; omega
    obtain ⟨x, hx⟩ : ∃ x, s.bad[i]? = some x := ⟨_, List.getElem?_eq_getElem hlt⟩
    obtain ⟨A2', c2', hv2, _, _, hcl⟩ := id hDs
    injection hv2 with hA2 _ _
    subst hA2
    obtain ⟨ad, rfl, hcells⟩ := hcl (by rw [u16s_length]; omega)
    have hcx := hcells i (.int .u16 x) (by unfold u16s; rw [List.getElem?_map, hx]; rfl)
    have hcxu : u.cell? (ad.add i) = some (.int .u16 x) := cu.cell hcx id
    by_cases hxa : x = a0
    · subst hxa
      have e1 : shRd s p = (s.more [p], [], 21) := by
        unfold shRd
        rw [hp0, if_pos]
        simp [List.mem_of_getElem? hx]
      simp [go_sem, f0, f3, f6, hlD, hii, cDu]
      refine v_draw' [(0, none), (1, none), (2, none), (3, none), (4, none), (5, none), (6, none), (7, none), (8, none), (9, none), (10, none)] (by kernel_rfl) (by kernel_rfl) ?_
      simp [go_sem, f0, f3, f6, hlD, hii, hlt, cDu, hcxu, c37u]
      exact fin (b := []) cu.drew e1 (Sl.nil _) (by simp)
    · have hxi : ((x : Int) == (a0 : Int)) = false := beq_false_of_ne (by omega)
      simp [go_sem, f0, f3, f6, hlD, hii, cDu]
      refine v_draw' [(0, none), (1, none), (2, none), (3, none), (4, none), (5, none), (6, none), (7, none), (8, none), (9, none), (10, none)] (by kernel_rfl) (by kernel_rfl) ?_
      simp [go_sem, f0, f3, f6, hlD, hii, hlt, cDu, hcxu, c37u, hxa, hxi, hwi]
      refine Rnd.intro (s.bad.length - (i + 1)) (by omega) (hJ _ _ _ ⟨i + 1, rfl, by omega, by simp [f0], by simp [f3], by simp, fun j y hj hy => ?_, cu.drew⟩)
      by_cases hji : j = i
      · subst hji
        rw [hx] at hy
        cases hy
        exact hxa
      · exact hno j y (by omega) hy
  · obtain rfl : i = s.bad.length := by omega
    have hnb : s.bad.contains (p.a.getD 0 0) = false := by
      rw [hp0]
      apply Bool.eq_false_iff.2
      intro hc
      obtain ⟨j, hj⟩ := List.mem_iff_getElem?.1 (List.contains_iff_mem.1 hc)
      exact hno j a0 (List.getElem?_eq_some_iff.1 hj).1 hj rfl
    have hBs : Sl w7 vB s.bl.length lB := Sl.of_own hB7.1
    have hlB0 := hBs.len Tryz.underlying26 3
    obtain ⟨AB, cB, hveB, _, _, hclB⟩ := id hBs
    subst hveB
    have cBu : u.cell? ⟨g, 0, none⟩ = some (.slice AB s.bl.length cB) := cu.cell (cell_blk hgb7.1 0) id
    have hbln := hgd.bln
    simp [go_sem, f0, f3, f6, hlD, cDu]
    refine v_draw' [(0, none), (1, none), (2, none), (3, none), (4, none), (5, none), (6, none), (7, none), (8, none), (9, none), (10, none), (11, none), (12, none), (13, none), (14, none), (15, none)] (by kernel_rfl) (by kernel_rfl) ?_
    by_cases h0 : a0 = 0
    · have e1 : shRd s p = (s.more [p], [], 6) := by
        unfold shRd
        rw [hnb, if_neg (by decide), if_pos (.inl (by rw [hp0, h0]))]
      subst h0
      simp [go_sem, f0, f3, c37u]
      exact fin (b := []) cu.drew e1 (Sl.nil _) (by simp)
    · have h0i : ((a0 : Int) == 0) = false := beq_false_of_ne (by omega)
      by_cases hlen : s.bl.length < a0
      · have e1 : shRd s p = (s.more [p], [], 6) := by
          unfold shRd
          rw [hnb, if_neg (by decide), if_pos (.inr (by rw [hp0]; exact hlen))]
        have hleni : (s.bl.length : Int) < a0 := by omega
        simp [go_sem, f0, f3, c37u, h0, h0i, hwa, cBu, hlB0, hlen, hleni]
        exact fin (b := []) cu.drew e1 (Sl.nil _) (by simp)
      · have hleni : ¬ (s.bl.length : Int) < a0 := by omega
        obtain ⟨v, hv⟩ : ∃ v, lB[a0 - 1]? = some v := ⟨_, List.getElem?_eq_getElem (by omega)⟩
        obtain ⟨b, hb⟩ : ∃ b, s.bl[a0 - 1]? = some b := ⟨_, List.getElem?_eq_getElem (by omega)⟩
        have e1 : shRd s p = (s.more [p], b, 0) := by
          unfold shRd
          rw [hnb, if_neg (by decide), if_neg (by rw [hp0]; omega), hp0, List.getD_eq_getElem?_getD, hb]
          rfl
        obtain ⟨ad, rfl, hcellsB⟩ := hclB (by omega)
        have hcv : u.cell? (ad.add (a0 - 1)) = some v := cu.cell (hcellsB _ _ hv) id
        have hvS := (hY7.1 (a0 - 1) v b hv hb).1
        obtain ⟨Av, cv, hvv, _⟩ := id hvS
        subst hvv
        have hw16 : IntKind.u16.wrap ((a0 : Int) - 1) = ((a0 - 1 : Nat) : Int) := by simp [IntKind.wrap, IntKind.bits, IntKind.signed]; omega
        have hi1 : a0 - 1 < s.bl.length := by omega
        simp [go_sem, f0, f3, c37u, h0, h0i, hwa, cBu, hlB0, hlen, hleni]
        refine v_draw' [(0, none), (1, none), (2, none), (3, none), (4, none), (5, none), (6, none), (7, none), (8, none), (9, none), (10, none), (11, none)] (by kernel_rfl) (by kernel_rfl) ?_
        simp [go_sem, f0, f3, c37u, cBu, hw16, hi1, hcv]
        exact fin cu.drew.drew e1 hvS (Nat.le_trans (hgd.bl b (List.mem_of_getElem? hb)) (by decide))
theorem set_shq {p : Pt} (hh : p.h.length = 32) {a0 a1 a2 a3 : Nat} (ha : p.a = [a0, a1, a2, a3]) (n : Nat) : (((((pt p).setIfInBounds 4 (.int .u64 n)).setIfInBounds 37 (.int .u16 n)).setIfInBounds 38 (.int .u16 0)).setIfInBounds 39 (.int .u16 0)).setIfInBounds 40 (.int .u16 0) = pt (shq n p) := by
  have e4 : (pt p).setIfInBounds 4 (.int .u64 n) = pt { p with b := n } := by simp [pt]
  have e0 := set_pt_a (p := { p with b := n }) hh 0 n
  have e1 := set_pt_a (p := { p with b := n, a := p.a.set 0 n }) hh 1 0
  have e2 := set_pt_a (p := { p with b := n, a := (p.a.set 0 n).set 1 0 }) hh 2 0
  have e3 := set_pt_a (p := { p with b := n, a := ((p.a.set 0 n).set 1 0).set 2 0 }) hh 3 0
  rw [e4]
  refine (congrArg (fun x => ((x.setIfInBounds 38 (.int .u16 0)).setIfInBounds 39 (.int .u16 0)).setIfInBounds 40 (.int .u16 0)) e0).trans ?_
  refine (congrArg (fun x => (x.setIfInBounds 39 (.int .u16 0)).setIfInBounds 40 (.int .u16 0)) e1).trans ?_
  refine (congrArg (fun x => x.setIfInBounds 40 (.int .u16 0)) e2).trans ?_
  refine e3.trans ?_
  rw [ha]
  rfl
set_option maxRecDepth 100000 in
set_option maxHeartbeats 4000000 in
theorem shNew_any (h : ShH g W0 Bk s w O) (hm : 16 ≤ shM s) (p : Pt) (ok : PtOk p) (b : List UInt8) (hb : b.length = 512) (v : Value) (hv : Sl w v 512 (bvs b)) (hvO : ∀ k, v.ownBlock = some k → ¬ O k ∧ k < w.heap.size) :
    Ret Tryz.prog 126 #[.pointer (some ⟨g, 0, none⟩), .agg (pt p), v] w fun v' w' => v' = .tuple #[.agg (pt (shNw s p b).2.1), .int .i64 (shNw s p b).2.2] ∧ PtOk (shNw s p b).2.1 ∧ ShH g W0 Bk (shNw s p b).1 w' (Gr O w w') ∧ Ch O w w' := by
  refine v_enter Tryz.func126 Tryz.ntmps126 rfl (by simp) fun R' hR => ?_
  obtain ⟨vB, vD, vM, vG, vR, lB, hgd, hlB, hS⟩ := h
  have hlO := hS.lt
  have hps := pt_size ok
  have hpa := pt_all ok
  have hzs := pt_size ptz_ok
  have hza := pt_all ptz_ok
  have ca := ((Ch.refl Nw w).alloc (.cells (pt p) 37)).alloc (.cells (pt ptz) 37)
  have b0 := al2_0 w (.cells (pt p) 37) (.cells (pt ptz) 37)
  have b1 := al2_1 w (.cells (pt p) 37) (.cells (pt ptz) 37)
  have hS1 := (SepL.ok (shL_ok g s vB vD vM vG vR lB W0 Bk)).ch hS ca fun _ _ e => e
  obtain ⟨q, hq⟩ : ∃ q, w.heap.size = q := ⟨_, rfl⟩
  simp [go_sem, hps, hpa, hz_pt, zc_pt]
  rw [hq] at b0 b1 ⊢
  have sa : ((w.alloc (.cells (pt p) 37)).alloc (.cells (pt ptz) 37)).heap.size = q + 2 := by simp [hq]
  have hv1 := hv.ch ca fun _ _ e => e
  generalize (w.alloc (.cells (pt p) 37)).alloc (.cells (pt ptz) 37) = w1 at *
  obtain ⟨Og, hgb, hgO⟩ := hS1.get (i := 0) rfl
  obtain ⟨OB, hB, hBO⟩ := hS1.get (i := 1) rfl
  have hBs : Sl w1 vB s.bl.length lB := Sl.of_own hB.1
  have hlB0 := hBs.len Tryz.underlying26 3
  obtain ⟨AB, cB, hveB, _⟩ := id hBs
  subst hveB
  have nO : ∀ j, q ≤ j → ¬ O j := fun j hj e => by have := hlO j e; omega
  have cB1 : w1.cell? ⟨g, 0, none⟩ = some (.slice AB s.bl.length cB) := cell_blk hgb.1 0
  have cr1 : w1.cell? ⟨g, 4, none⟩ = some (.int .i64 s.room) := cell_blk hgb.1 4
  have f1 := frz_blk hgb.1 4
  have fin : ∀ {W : World} {x : Shf × Pt × Int}, shNw s p b = x → PtOk x.2.1 → ShH g W0 Bk x.1 W (Gr O w1 W) → Ch (fun k => O k ∨ k = q) w1 W → R' (.tuple #[.agg (pt x.2.1), .int .i64 x.2.2]) (W.setRow (q + 1) (pt x.2.1)) := fun {W x} e okx a c => by
    subst e
    have hsW := c.size
    have c' : Ch (one (q + 1)) W (W.setRow (q + 1) (pt (shNw s p b).2.1)) := (Ch.refl (one (q + 1)) W).setRow (.inl rfl) _
    have hs' := c'.size
    refine hR _ _ ⟨rfl, okx, (ShH.ok _ _ _ _).weak ((ShH.ok _ _ _ _).ch a c' fun k hk e => by simp only [one] at e; subst e; exact hk.elim (nO _ (by omega)) fun e => by omega) (fun k hk => hk.imp id fun e => ⟨by omega, by omega⟩) (Gr.lt hlO (by omega)), ?_⟩
    exact ((ca.mono fun _ _ e => e.elim).trans' c fun k hk e => e.resolve_right (by omega)).trans' c' fun k hk e => by simp only [one] at e; omega
  clear hR
  have full : ∀ (e : s.room = 0 ∨ 30000 ≤ s.bl.length), R' (.tuple #[.agg (pt ptz), .int .i64 30]) (w1.setRow (q + 1) (pt ptz)) := fun e =>
    fin (x := (s, ptz, 30)) (by unfold shNw; rw [if_pos e]) ptz_ok ⟨_, vD, vM, vG, vR, lB, hgd, hlB, (SepL.ok (shL_ok g s _ vD vM vG vR lB W0 Bk)).weak hS1 (fun k hk => .inl hk) (Gr.lt (fun k hk => by have := hlO k hk; omega) (Nat.le_refl _))⟩ (Ch.refl _ _)
  by_cases hr0 : s.room = 0
  · simp [go_sem, cr1, hr0, b1, bld_pt0, hzs, hza, blit_whole]
    exact full (.inl hr0)
  have hr0i : (s.room == 0) = false := beq_false_of_ne hr0
  by_cases hbf : 30000 ≤ s.bl.length
  · have hbfi : (30000 : Int) ≤ s.bl.length := by omega
    simp [go_sem, cr1, hr0, hr0i, cB1, hlB0, hbf, hbfi, b1, bld_pt0, hzs, hza, blit_whole]
    exact full (.inr hbf)
  have hbfi : ¬ (30000 : Int) ≤ s.bl.length := by omega
  have hr1 := hgd.r0
  have hr2 := hgd.r1
  have hwr : IntKind.i64.wrap (s.room - 1) = s.room - 1 := by rw [IntKind.wrap_i64]; omega
  simp [go_sem, cr1, hr0, hr0i, cB1, hlB0, hbf, hbfi, hwr, f1]
  obtain ⟨r, hr⟩ : ∃ r, (if s.room - 1 < -1 then -1 else s.room - 1) = r := ⟨_, rfl⟩
  have hrm : max (s.room - 1) (-1) = r := by rw [← hr]; omega
  have hrb : -1 ≤ r ∧ r ≤ 255 := by rw [← hr]; split <;> omega
  rw [hr]
  obtain ⟨hS2, k2⟩ := shL_room hS1 r
  have b02 := k2.obj b0 (nO _ (Nat.le_refl _))
  have b12 := k2.obj b1 (nO _ (by omega))
  have hvN : ∀ k, v.ownBlock = some k → ¬ O k := fun k hk => (hvO k hk).1
  have hv2 := hv1.ch k2 hvN
  have sz2 := k2.size
  obtain ⟨Og2, hgb2, _⟩ := hS2.get (i := 0) rfl
  obtain ⟨OB2, hB2, hBO2⟩ := hS2.get (i := 1) rfl
  generalize w1.setCell ⟨g, 4, none⟩ (.int .i64 r) = w2 at *
  have cB2 : w2.cell? ⟨g, 0, none⟩ = some (.slice AB s.bl.length cB) := cell_blk hgb2.1 0
  have hB2' : w2.ownsRow 0 62 1 (.slice AB s.bl.length cB) s.bl.length lB := hB2.1
  refine v_draw' [(0, none), (1, none), (2, none), (3, none), (4, none), (5, none), (6, some [0, 1, 2, 3, 4]), (7, some [0, 1, 2, 3, 4]), (8, some [0]), (9, none), (10, none), (11, some [])] (by kernel_rfl) (by kernel_rfl) ?_
  simp [go_sem, cB2]
  refine VB_appn tyB (World.ownsRow_nil _ _ _ _) hv2.drew (bvs_length b ▸ hb) (bvs_one b) (by unfold maxLen; omega) (by omega) fun v3 w3 own3 cl3 ff3 => ?_
  have cl3 : Ch Nw w2 w3 := (Ch.of_drew cl3).mono fun k _ e => by simp [Value.ownBlock] at e
  have ff3 : Fresh w2.heap.size v3 := ff3.elim (fun e k hk => by rw [e] at hk; simp [Value.ownBlock] at hk) id
  have own3 : w3.ownsRow 0 5 1 v3 512 (bvs b) := by simpa using own3
  have hl3 := own_in own3
  obtain ⟨A3, c3, hv3, _⟩ := Sl.of_own own3
  have cB3 := cl3.cell cB2 id
  have hS3 := (SepL.ok (shL_ok g { s with room := r } _ vD vM vG vR lB W0 Bk)).ch hS2 cl3 fun _ _ e => e
  subst hv3
  have cB3a : (w3.alloc (.cells #[.slice A3 512 c3] 62)).cell? ⟨g, 0, none⟩ = some (.slice AB s.bl.length cB) := ((Ch.refl Nw w3).alloc (.cells #[.slice A3 512 c3] 62)).cell cB3 id
  simp [go_sem, cB3, cB3a]
  refine VB_app1 tyBss (w := w3) (own_ch hB2' cl3 fun _ _ e => e) rfl (by unfold maxLen; omega) (by omega) fun v4 w4 own4 cl4 ff4 => ?_
  obtain ⟨b4, hS4, k4⟩ := shL_bl (b := b) hS2 hlB cl3 (by rw [hb]; exact Sl.of_own own3) ff3 hl3 own4 cl4 ff4
  obtain ⟨g4, cap4, cur4, hv4, _⟩ := own_blk own4 (by omega)
  subst hv4
  have c04 : w4.cell? ⟨g, 0, none⟩ = some (.slice AB s.bl.length cB) := cell_blk b4 0
  have f04 := frz_blk b4 0
  have sz4 := k4.size
  have n2 : ∀ j, q ≤ j → j < q + 2 → ¬ Gr O w1 w2 j := fun j hj hl e => e.elim (nO j hj) fun e => by omega
  have b05 := k4.obj b02 (n2 _ (by omega) (by omega))
  have b15 := k4.obj b12 (n2 _ (by omega) (by omega))
  have hv5 := hv2.ch k4 fun k hk e => e.elim (hvN k hk) fun e => by have := (hvO k hk).2; omega
  obtain ⟨v4, hv4⟩ : ∃ v4, Value.slice (some ⟨g4, 0, none⟩) (s.bl.length + 1) cap4 = v4 := ⟨_, rfl⟩
  obtain ⟨Og5, hgb5, _⟩ := hS4.get (i := 0) rfl
  have hwl : IntKind.u64.wrap ((s.bl.length : Int) + 1) = ((s.bl.length + 1 : Nat) : Int) := by simp [IntKind.wrap, IntKind.bits, IntKind.signed]; omega
  have hwh : IntKind.u16.wrap ((s.bl.length : Int) + 1) = ((s.bl.length + 1 : Nat) : Int) := by simp [IntKind.wrap, IntKind.bits, IntKind.signed]; omega
  have e4 : (pt p)[4]? = some (.int .u64 p.b) := by simp [pt]
  have b04 : w4.heap[q]? = some (.cells (pt p) 37 (0, 0)) := cl4.obj (cl3.obj b02 id) fun e => n2 _ (Nat.le_refl _) (by omega) (hBO2 _ (hB2.2.1 _ e))
  have c44 : w4.cell? ⟨q, 4, none⟩ = some (.int .u64 p.b) := (cell_blk b04 4).trans e4
  have f44 := frz_blk b04 4
  obtain ⟨a0, a1, a2, a3, ha⟩ : ∃ a0 a1 a2 a3, p.a = [a0, a1, a2, a3] := by
    have := ok.a
    match hp : p.a, this with
    | [a0, a1, a2, a3], _ => exact ⟨a0, a1, a2, a3, rfl⟩
  have c37 : w4.cell? ⟨q, 37, none⟩ = some (.int .u16 a0) := (cell_blk b04 37).trans (pt_a ok (i := 0) (by rw [ha]; rfl))
  have c38 : w4.cell? ⟨q, 38, none⟩ = some (.int .u16 a1) := (cell_blk b04 38).trans (pt_a ok (i := 1) (by rw [ha]; rfl))
  have c39 : w4.cell? ⟨q, 39, none⟩ = some (.int .u16 a2) := (cell_blk b04 39).trans (pt_a ok (i := 2) (by rw [ha]; rfl))
  have c40 : w4.cell? ⟨q, 40, none⟩ = some (.int .u16 a3) := (cell_blk b04 40).trans (pt_a ok (i := 3) (by rw [ha]; rfl))
  have f37 := frz_blk b04 37
  have f38 := frz_blk b04 38
  have f39 := frz_blk b04 39
  have f40 := frz_blk b04 40
  have hNi : (s.bl.length : Int) + 1 = ((s.bl.length + 1 : Nat) : Int) := by omega
  have hset := set_shq ok.h ha (s.bl.length + 1)
  rw [← hNi] at hset
  have ok6 : PtOk (shq (s.bl.length + 1) p) := ⟨ok.k, ok.l, ok.o, ok.f, by show s.bl.length + 1 < _; omega, ok.h, rfl, fun x hx => by
    simp only [shq, List.mem_cons, List.not_mem_nil, or_false] at hx
    omega⟩
  have h6s := pt_size ok6
  have h6a := pt_all ok6
  simp [go_sem, c04, f04, c44, f44, hwl, hwh, c37, c38, c39, c40, f37, f38, f39, f40, b05, hset, h6s, h6a]
  generalize w4.setCell ⟨g, 0, none⟩ (.slice (some ⟨g4, 0, none⟩) (s.bl.length + 1) cap4) = w5 at *
  rw [hNi]
  obtain ⟨n, hn⟩ : ∃ n, s.bl.length + 1 = n := ⟨_, rfl⟩
  rw [hn]
  have c6 : Ch (one q) w5 (((((w5.setCell ⟨q, 4, none⟩ (.int .u64 n)).setCell ⟨q, 37, none⟩ (.int .u16 n)).setCell ⟨q, 38, none⟩ (.int .u16 0)).setCell ⟨q, 39, none⟩ (.int .u16 0)).setCell ⟨q, 40, none⟩ (.int .u16 0)) :=
    (((((Ch.refl (one q) w5).setCell (p := ⟨q, 4, none⟩) (.inl rfl) _).setCell (p := ⟨q, 37, none⟩) (.inl rfl) _).setCell (p := ⟨q, 38, none⟩) (.inl rfl) _).setCell (p := ⟨q, 39, none⟩) (.inl rfl) _).setCell (p := ⟨q, 40, none⟩) (.inl rfl) _
  have b06 : (((((w5.setCell ⟨q, 4, none⟩ (.int .u64 n)).setCell ⟨q, 37, none⟩ (.int .u16 n)).setCell ⟨q, 38, none⟩ (.int .u16 0)).setCell ⟨q, 39, none⟩ (.int .u16 0)).setCell ⟨q, 40, none⟩ (.int .u16 0)).heap[q]? = some (.cells (pt (shq n p)) 37 (0, 0)) := by
    rw [hp_setCell, hp_setCell, hp_setCell, hp_setCell, hp_setCell, b05, setOf_cells, setOf_cells, setOf_cells, setOf_cells, setOf_cells, set_shq ok.h ha n]
  have nq5 : ∀ k, Gr (Gr O w1 w2) w2 w5 k → k ≠ q ∧ k ≠ q + 1 := fun k e => by
    rcases e with e | e
    · exact ⟨fun h => n2 k (by omega) (by omega) e, fun h => n2 k (by omega) (by omega) e⟩
    · omega
  have b16 := c6.obj b15 fun e => by simp only [one] at e; omega
  have hS6 := (SepL.ok (shL_ok g _ _ vD vM vG vR _ W0 Bk)).ch hS4 c6 fun k hk e => (nq5 k hk).1 e
  have hv6 := hv5.ch c6 fun k hk e => by simp only [one] at e; have := (hvO k hk).2; omega
  have sz6 := c6.size
  generalize ((((w5.setCell ⟨q, 4, none⟩ (.int .u64 n)).setCell ⟨q, 37, none⟩ (.int .u16 n)).setCell ⟨q, 38, none⟩ (.int .u16 0)).setCell ⟨q, 39, none⟩ (.int .u16 0)).setCell ⟨q, 40, none⟩ (.int .u16 0) = w6 at *
  rw [hn] at ok6 h6s h6a
  refine (rdigest_any (shq n p) v b w6 ok6 (by rw [hb]; exact hv6) (by omega)).mono ?_
  rintro _ w7 ⟨rfl, c7⟩
  have b07 := c7.obj b06 id
  have b17 := c7.obj b16 id
  have hS7 := (SepL.ok (shL_ok g _ _ vD vM vG vR _ W0 Bk)).ch hS6 c7 fun _ _ e => e
  have hdl := digS_length (shq n p) b
  have hbl : ((bvs (digS (shq n p) b)).toArray).size = 32 := by simp [bvs_length, hdl]
  have hbo : ones (bvs (digS (shq n p) b)).toArray = true := ones_bvs _
  have hbt := blit_pt_h (p := shq n p) (h' := digS (shq n p) b) ok6.h hdl
  obtain ⟨z, hz⟩ : ∃ z, shp n p b = z := ⟨_, rfl⟩
  have okz : PtOk z := by rw [← hz]; exact ⟨ok6.k, ok6.l, ok6.o, ok6.f, ok6.b, hdl, ok6.a, ok6.at'⟩
  change _ = pt (shp n p b) at hbt
  rw [hz] at hbt
  have hzS := pt_size okz
  have hzA := pt_all okz
  simp [go_sem, b07, h6s, hbl, hbo, hbt]
  have c8 : Ch (one q) w7 (w7.setRow q (pt z)) := (Ch.refl (one q) w7).setRow (.inl rfl) _
  have b08 : (w7.setRow q (pt z)).heap[q]? = some (.cells (pt z) 37 (0, 0)) := by rw [hp_setRow, b07]; rfl
  have b18 := c8.obj b17 fun e => by simp only [one] at e; omega
  have hS8 := (SepL.ok (shL_ok g _ _ vD vM vG vR _ W0 Bk)).ch hS7 c8 fun k hk e => (nq5 k hk).1 e
  have sz7 := c7.size
  have sz8 := c8.size
  generalize w7.setRow q (pt z) = w8 at *
  obtain ⟨Og8, hgb8, _⟩ := hS8.get (i := 0) rfl
  obtain ⟨OM8, hM8, _⟩ := hS8.get (i := 2) rfl
  have hMo : w8.ownsRow 0 37 41 vM s.made.length (rowsL pt s.made) := hM8.1
  obtain ⟨AM, cM, hveM, _⟩ := Sl.of_own hMo
  subst hveM
  have cg8 : w8.cell? ⟨g, 2, none⟩ = some (.slice AM s.made.length cM) := cell_blk hgb8.1 2
  have b08d : w8.drew.heap[q]? = some (.cells (pt z) 37 (0, 0)) := b08
  refine v_draw' [(0, none), (1, none), (2, none), (3, none), (4, none), (5, none), (6, some [0, 1, 2, 3, 4]), (7, some [0]), (8, none), (9, none), (10, some [])] (by kernel_rfl) (by kernel_rfl) ?_
  simp [↓VX_bsl1, go_sem, cg8, b08, b08d, hzS, hzA]
  refine VBs_run (bsl_ptr okz _) ?_
  have cga : (w8.alloc (.cells (pt z) 37)).cell? ⟨g, 2, none⟩ = some (.slice AM s.made.length cM) := ((Ch.refl Nw w8).alloc (.cells (pt z) 37)).cell cg8 id
  simp [go_sem, cg8, cga]
  rw [show (w8.alloc (.cells (pt z) 37)).drew = w8.drew.alloc (.cells (pt z).toList.toArray 37) by simp; rfl]
  refine VB_app1S (w := w8.drew) (us := (pt z).toList) tyPtr hMo (by rw [Array.length_toList, hzS]) (ones_mem (pt_ones z)) (by unfold maxLen shM at *; omega) (by unfold shM at hm; omega) fun v9 w9 own9 cl9 ff9 => ?_
  have cl9 : Ch (fun k => (Value.slice AM s.made.length cM).ownBlock = some k) w8 w9 := Ch.of_drew cl9
  obtain ⟨b9, hS9, k9⟩ := shL_made (p := z) hS8 own9 cl9 ff9
  obtain ⟨gm, capm, curm, hv9, _⟩ := ownS_blk own9 (by omega)
  subst hv9
  have c9 : w9.cell? ⟨g, 2, none⟩ = some (.slice AM s.made.length cM) := cell_blk b9 2
  have f9 := frz_blk b9 2
  have b010 := k9.obj b08 fun e => (nq5 _ e).1 rfl
  have b110 := k9.obj b18 fun e => (nq5 _ e).2 rfl
  simp [go_sem, c9, f9, b010, b110, hzS, hzA, hzs, blit_whole]
  have hnw : shNw s p b = ({ s with room := r, bl := s.bl ++ [b], made := s.made ++ [z] }, z, 0) := by
    unfold shNw
    rw [if_neg (by omega), hrm, hn, hz]
  have sz9 := k9.size
  have k12 : Ch O w1 w5 := ch_gr k2 k4
  have hl1' : ∀ k, O k → k < w1.heap.size := fun k hk => by have := hlO k hk; omega
  refine fin hnw okz ⟨_, vD, _, vG, vR, _, ⟨fun x hx => ?_, hgd.gone, hgd.red, fun x hx => ?_, ?_, hrb.1, hrb.2, hgd.badl⟩, ?_, (SepL.ok (shL_ok g _ _ vD _ vG vR _ W0 Bk)).weak hS9 (fun k hk => ?_) (Gr.lt hl1' (by omega))⟩ ?_
  · simp only [List.mem_append, List.mem_singleton] at hx
    rcases hx with hx | rfl
    · exact hgd.made x hx
    · exact okz
  · simp only [List.mem_append, List.mem_singleton] at hx
    rcases hx with hx | rfl
    · exact hgd.bl x hx
    · omega
  · simp; omega
  · simp [hlB]
  · rcases hk with ((hk | hk) | hk) | hk
    · exact .inl hk
    · exact .inr ⟨hk.1, by omega⟩
    · exact .inr ⟨by omega, by omega⟩
    · exact .inr ⟨by omega, by omega⟩
  · have c57 : Ch (fun k => Gr O w1 w5 k ∨ k = q) w5 w8 := ((c6.mono fun k _ e => .inr e).trans (c7.mono fun _ _ e => e.elim)).trans (c8.mono fun k _ e => .inr e)
    exact ((k12.mono fun k _ e => .inl e).trans' c57 fun k hk e => e.imp (fun e => e.elim id fun e => by omega) id).trans' k9 fun k hk e => by
      rcases e with (e | e) | e
      · exact .inl e
      · omega
      · omega
theorem shRd_m (s : Shf) (p : Pt) : shM s ≤ shM (shRd s p).1 + 16 := by
  have h : shM s ≤ shM (s.more [p]) + 16 := by
    unfold shM
    simp
    omega
  unfold shRd
  split
  · exact h
  · split <;> exact h
theorem shNw_m (s : Shf) (p : Pt) (b : List UInt8) : shM s ≤ shM (shNw s p b).1 + 16 := by
  unfold shNw
  split
  · exact Nat.le_add_right _ _
  · unfold shM
    simp
    omega
theorem shOd_m (s : Shf) (p : Pt) : shM s ≤ shM (shOd s p) + 16 := by
  unfold shM shOd
  simp
  omega
theorem cmSRead (g : Nat) (x : Value) (w : World) : (callMethod (shV g) "Read" #[x]).run Tryz.prog w = .ok (.enter 128 #[.pointer (some ⟨g, 0, none⟩), x]) w := by kernel_rfl
theorem cmSNew (g : Nat) (x y : Value) (w : World) : (callMethod (shV g) "New" #[x, y]).run Tryz.prog w = .ok (.enter 126 #[.pointer (some ⟨g, 0, none⟩), x, y]) w := by kernel_rfl
theorem cmSOld (g : Nat) (x : Value) (w : World) : (callMethod (shV g) "Old" #[x]).run Tryz.prog w = .ok (.enter 127 #[.pointer (some ⟨g, 0, none⟩), x]) w := by kernel_rfl
/-- a shelf is a sink -/
theorem shSnk (g : Nat) (W0 : World) (Bk : Nat → Prop) : SnkOk (ShH g W0 Bk) shM shRd shNw shOd (shV g) where
  rd := ⟨shRd_m, fun s w O p K hm h ok env hg hK => by
    rw [VInv_to (cmSRead g _ w)]
    refine (shRead_any h hm p ok).mono ?_
    rintro _ w' ⟨u, rfl, h1, h2, h3, h4⟩
    exact hK u w' h1 h2 h3 h4⟩
  stepN := shNw_m
  stepO := shOd_m
  nw s w O p b v K hm h ok hb hv hvO env hg hK := by
    rw [VInv_to (cmSNew g _ _ w)]
    refine (shNew_any h hm p ok b hb v hv hvO).mono ?_
    rintro _ w' ⟨rfl, h1, h2, h3⟩
    exact hK w' h1 h2 h3
  od s w O p K hm h ok env hg hK := by
    rw [VInv_to (cmSOld g _ w)]
    refine (shOld_any h hm p ok).mono ?_
    rintro v' w' ⟨h1, h2⟩
    exact hK v' w' h1 h2
end
end Go.Proofs.YtnefdmbdkljifaaGreatDoor
