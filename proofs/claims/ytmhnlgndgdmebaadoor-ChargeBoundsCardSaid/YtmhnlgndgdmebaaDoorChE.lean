/- The tally of objects: package charge's Of, as a contract on the call. Condition: the variable inode.leaves holds what the text lays. -/
import Derived.Test.YtmhnlgndgdmebaaDoorChD
namespace Go.Proofs.YtmhnlgndgdmebaaDoor
open Go.RowKit Go.Kin

def fiS : List Ox → Nat
  | [] => 0
  | x :: l => (if leafK x.2.1 = 1 then aN x.2.2 64 else 0) + fiS l
def meS : List Ox → Nat
  | [] => 0
  | x :: l => (if leafK x.2.1 = 2 then aN x.2.2 64 else 0) + meS l
theorem fiS_snoc (l : List Ox) (x : Ox) : fiS (l ++ [x]) = fiS l + (if leafK x.2.1 = 1 then aN x.2.2 64 else 0) := by
  induction l with
  | nil => simp [fiS]
  | cons y l ih => simp [fiS, ih]; omega
theorem meS_snoc (l : List Ox) (x : Ox) : meS (l ++ [x]) = meS l + (if leafK x.2.1 = 2 then aN x.2.2 64 else 0) := by
  induction l with
  | nil => simp [meS]
  | cons y l ih => simp [meS, ih]; omega
theorem fiS_le (l : List Ox) : fiS l ≤ 64 * l.length := by
  induction l with
  | nil => simp [fiS]
  | cons x l ih => have := aN_le x.2.2 64; simp [fiS]; split <;> omega
theorem meS_le (l : List Ox) : meS l ≤ 64 * l.length := by
  induction l with
  | nil => simp [meS]
  | cons x l ih => have := aN_le x.2.2 64; simp [meS]; split <;> omega

def OfI (gt : Nat) (s : List Ox) (w : World) : Prop := w.heap[gt]? = some (.cells #[.int .i64 (fiS s : Nat), .int .i64 (meS s : Nat), .int .i64 (s.length : Nat)] 23 (0, 0)) ∧ Lv w
theorem of_step (gt : Nat) (s : List Ox) (w : World) (x : Ob) (sv : Value) (hs : s.length < 1000) (h : OfI gt s w) (hG : gt ≠ 0) (hk : x.2.1 < 256) :
    Ret Tryd.prog 25 #[.agg #[.int .u16 x.1, .int .u8 x.2.1, sv], .agg (bools (hasL x.2.2)).toArray, .pointer (some ⟨gt, 0, none⟩)] w fun v' w' =>
      OfI gt (s ++ [(x.1, x.2.1, hasL x.2.2)]) w' ∧ Ch (one gt) w w' := by
  obtain ⟨num, kind, offs⟩ := x
  simp only [] at hk
  obtain ⟨hb, hlv⟩ := h
  refine v_enter Tryd.func25 Tryd.ntmps25 rfl (by simp) fun R' hR => ?_
  have hb1 := al2_0 w (.cells #[.int .u16 num, .int .u8 kind, sv] 64) (.cells (bools (hasL offs)).toArray 65)
  have hb2 := al2_1 w (.cells #[.int .u16 num, .int .u8 kind, sv] 64) (.cells (bools (hasL offs)).toArray 65)
  have hq := ((Ch.refl Nw w).alloc (.cells #[.int .u16 num, .int .u8 kind, sv] 64)).alloc (.cells (bools (hasL offs)).toArray 65)
  have hb' := hq.hp hb id
  have hlv' := hlv.ch hq id
  have hblt := lt_of_block hb
  simp [go_sem]
  revert hb1 hb2 hq hb' hlv'
  generalize (w.alloc (.cells #[.int .u16 num, .int .u8 kind, sv] 64)).alloc (.cells (bools (hasL offs)).toArray 65) = w1
  generalize hg : w.heap.size = g at *
  intro hb1 hb2 hq hb' hlv'
  refine (groups_any (.slice (some ⟨g + 1, 0, none⟩) 64 64) (hasL offs) w1 (hasL_length offs) (sl_bools hb2 (hasL_length offs))).mono ?_
  rintro _ w1 ⟨rfl, rfl⟩
  have k1 := (cell_blk hb1 1).trans rfl
  have t0 := (cell_blk hb' 0).trans rfl
  have t1 := (cell_blk hb' 1).trans rfl
  have t2 := (cell_blk hb' 2).trans rfl
  have hal := aN_le (hasL offs) 64
  have hfl := fiS_le s
  have hml := meS_le s
  have hfs := fiS_snoc s (num, kind, hasL offs)
  have hms := meS_snoc s (num, kind, hasL offs)
  simp only [] at hfs hms
  generalize hA64 : aN (hasL offs) 64 = A at *
  simp [go_sem, k1, t0, t1, t2]
  refine (with_any (fiS s : Nat) (meS s : Nat) (s.length : Nat) kind A 1 w1 hk hlv').mono ?_
  rintro _ w2 ⟨rfl, hc2⟩
  have hb2' := hc2.hp hb' id
  have wr1 : IntKind.i64.wrap ((fiS s : Int) + A) = ((fiS s + A : Nat) : Int) := by simp only [IntKind.wrap_i64]; omega
  have wr2 : IntKind.i64.wrap ((meS s : Int) + A) = ((meS s + A : Nat) : Int) := by simp only [IntKind.wrap_i64]; omega
  have wr3 : IntKind.i64.wrap ((s.length : Int) + 1) = ((s.length + 1 : Nat) : Int) := by simp only [IntKind.wrap_i64]; omega
  have e1 : (if leafK kind = 1 then ((fiS s + A : Nat) : Int) else (fiS s : Int)) = ((fiS (s ++ [(num, kind, hasL offs)]) : Nat) : Int) := by rw [hfs]; split <;> simp
  have e2 : (if leafK kind = 2 then ((meS s + A : Nat) : Int) else (meS s : Int)) = ((meS (s ++ [(num, kind, hasL offs)]) : Nat) : Int) := by rw [hms]; split <;> simp
  rw [wr1, wr2, wr3, e1, e2]
  generalize hF : ((fiS (s ++ [(num, kind, hasL offs)]) : Nat) : Int) = F at *
  generalize hM : ((meS (s ++ [(num, kind, hasL offs)]) : Nat) : Int) = M at *
  generalize hO : ((s.length + 1 : Nat) : Int) = O at *
  have b0 : (w2.setCell ⟨gt, 0, none⟩ (.int .i64 F)).heap[gt]? = some (.cells #[.int .i64 F, .int .i64 (meS s : Nat), .int .i64 (s.length : Nat)] 23) := by rw [hp_setCell, hb2', setOf_cells]; rfl
  have b1 : ((w2.setCell ⟨gt, 0, none⟩ (.int .i64 F)).setCell ⟨gt, 1, none⟩ (.int .i64 M)).heap[gt]? = some (.cells #[.int .i64 F, .int .i64 M, .int .i64 (s.length : Nat)] 23) := by rw [hp_setCell, b0, setOf_cells]; rfl
  have b2 : (((w2.setCell ⟨gt, 0, none⟩ (.int .i64 F)).setCell ⟨gt, 1, none⟩ (.int .i64 M)).setCell ⟨gt, 2, none⟩ (.int .i64 O)).heap[gt]? = some (.cells #[.int .i64 F, .int .i64 M, .int .i64 O] 23) := by rw [hp_setCell, b1, setOf_cells]; rfl
  have c0 := cell_blk hb2' 0
  have c1 := cell_blk b0 1
  have c2 := cell_blk b1 2
  have f0 := frz_blk hb2' 0
  have f1 := frz_blk b0 1
  have f2 := frz_blk b1 2
  have hcc : Ch (one gt) w (((w2.setCell ⟨gt, 0, none⟩ (.int .i64 F)).setCell ⟨gt, 1, none⟩ (.int .i64 M)).setCell ⟨gt, 2, none⟩ (.int .i64 O)) := ((((hq.trans hc2).mono (S' := one gt) fun _ _ e => e.elim).setCell (p := ⟨gt, 0, none⟩) (.inl rfl) _).setCell (p := ⟨gt, 1, none⟩) (.inl rfl) _).setCell (p := ⟨gt, 2, none⟩) (.inl rfl) _
  simp [go_sem, tal, c0, c1, c2, f0, f1, f2]
  refine hR _ _ ⟨⟨?_, hlv.ch hcc (by simp only [one]; omega)⟩, hcc⟩
  rw [b2, hF, hM]
  simp [← hO]
theorem of_any (v : Value) (l : List Ob) (w : World) (hl : l.length ≤ 1000) (hol : ∀ x ∈ l, x.2.2.length ≤ 1000) (ho : Objs w v l) (hlv : Lv w) :
    Ret Tryd.prog 13 #[v] w fun v' w' => v' = tal (fiS (selO l).1 : Nat) (meS (selO l).1 : Nat) ((selO l).1.length : Nat) ∧ Ch Nw w w' := by
  refine v_enter Tryd.func13 Tryd.ntmps13 rfl (by simp) fun R' hR => ?_
  simp [go_sem]
  have hb1 : ((w.alloc (.cells #[.int .i64 0, .int .i64 0, .int .i64 0] 23)).alloc (.cells #[.int .i64 0, .int .i64 0, .int .i64 0] 23)).heap[w.heap.size + 1]? = some (.cells #[.int .i64 0, .int .i64 0, .int .i64 0] 23) := al2_1 _ _ _
  have hb0 : ((w.alloc (.cells #[.int .i64 0, .int .i64 0, .int .i64 0] 23)).alloc (.cells #[.int .i64 0, .int .i64 0, .int .i64 0] 23)).heap[w.heap.size]? = some (.cells #[.int .i64 0, .int .i64 0, .int .i64 0] 23) := al2_0 _ _ _
  have hq := ((Ch.refl Nw w).alloc (.cells #[.int .i64 0, .int .i64 0, .int .i64 0] 23)).alloc (.cells #[.int .i64 0, .int .i64 0, .int .i64 0] 23)
  have hz : ((w.alloc (.cells #[.int .i64 0, .int .i64 0, .int .i64 0] 23)).alloc (.cells #[.int .i64 0, .int .i64 0, .int .i64 0] 23)).heap.size = w.heap.size + 2 := by simp
  have hg0 := hlv.lt
  revert hb1 hb0 hq hz
  generalize (w.alloc (.cells #[.int .i64 0, .int .i64 0, .int .i64 0] 23)).alloc (.cells #[.int .i64 0, .int .i64 0, .int .i64 0] 23) = w1
  generalize hg : w.heap.size = g at *
  intro hb1 hb0 hq hz
  have hI0 : OfI (g + 1) [] w1 ∧ w1.heap[g]? = some (.cells #[.int .i64 0, .int .i64 0, .int .i64 0] 23) := ⟨⟨hb1, hlv.ch hq id⟩, hb0⟩
  refine (each_any v l 25 [.pointer (some ⟨g + 1, 0, none⟩)] w w1 (fun s w => OfI (g + 1) s w ∧ w.heap[g]? = some (.cells #[.int .i64 0, .int .i64 0, .int .i64 0] 23)) hl hol ho hq hI0
    (fun s w1' w2 h hc => ⟨⟨hc.hp h.1.1 (by omega), h.1.2.ch hc (by omega)⟩, hc.hp h.2 (by omega)⟩)
    (fun args w1 => by simp [go_sem]) (fun s w1' x sv hs hI hc h1 h2 => ?_)).mono ?_
  · have := of_step (g + 1) s w1' x sv (by omega) hI.1 (by omega) h2
    exact this.mono fun v' w' ⟨a, b⟩ => ⟨⟨a, b.hp hI.2 (by simp only [one]; omega)⟩, b.mono fun j _ e => by simp only [one] at e; omega⟩
  · rintro _ w2 ⟨⟨⟨hb2, hlv2⟩, hb0'⟩, hc2⟩
    have t0 := (cell_blk hb2 0).trans rfl
    have t1 := (cell_blk hb2 1).trans rfl
    have t2 := (cell_blk hb2 2).trans rfl
    generalize hF : ((fiS (selO l).1 : Nat) : Int) = F at *
    generalize hM : ((meS (selO l).1 : Nat) : Int) = M at *
    generalize hO : (((selO l).1.length : Nat) : Int) = O at *
    have b0 : (w2.setCell ⟨g, 0, none⟩ (.int .i64 F)).heap[g]? = some (.cells #[.int .i64 F, .int .i64 0, .int .i64 0] 23) := by rw [hp_setCell, hb0', setOf_cells]; rfl
    have b1 : ((w2.setCell ⟨g, 0, none⟩ (.int .i64 F)).setCell ⟨g, 1, none⟩ (.int .i64 M)).heap[g]? = some (.cells #[.int .i64 F, .int .i64 M, .int .i64 0] 23) := by rw [hp_setCell, b0, setOf_cells]; rfl
    have b2 : (((w2.setCell ⟨g, 0, none⟩ (.int .i64 F)).setCell ⟨g, 1, none⟩ (.int .i64 M)).setCell ⟨g, 2, none⟩ (.int .i64 O)).heap[g]? = some (.cells #[.int .i64 F, .int .i64 M, .int .i64 O] 23) := by rw [hp_setCell, b1, setOf_cells]; rfl
    have c0 := (cell_blk hb0' 0).trans rfl
    have c1 := (cell_blk b0 1).trans rfl
    have c2 := (cell_blk b1 2).trans rfl
    have f0 := frz_blk hb0' 0
    have f1 := frz_blk b0 1
    have f2 := frz_blk b1 2
    have r0 := (cell_blk b2 0).trans rfl
    have r1 := (cell_blk b2 1).trans rfl
    have r2 := (cell_blk b2 2).trans rfl
    simp [go_sem, t0, t1, t2, c0, c1, c2, f0, f1, f2, r0, r1, r2]
    refine hR _ _ ⟨rfl, ?_⟩
    refine (((hc2.setCell (.inr ?_) _).setCell (.inr ?_) _).setCell (.inr ?_) _) <;> simp <;> omega
end Go.Proofs.YtmhnlgndgdmebaaDoor
