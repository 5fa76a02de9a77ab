/- What objects take, and their tally: package charge's Takes and Of, as contracts on calls. Condition: the variable inode.leaves holds what the text lays. -/
import Derived.Test.YtmhnlgndgdmebaaDoorChC
namespace Go.Proofs.YtmhnlgndgdmebaaDoor
open Go.RowKit Go.Kin

/-- what one object takes -/
def tkF (x : Ox) : Nat := 2 * gN x.2.2 8 + aN x.2.2 64 * (if leafK x.2.1 = 1 then 1 else 2) + (if 0 < gN x.2.2 8 then 2 else 0)
def tkS : List Ox → Nat
  | [] => 0
  | x :: l => tkF x + tkS l
theorem tkS_snoc (l : List Ox) (x : Ox) : tkS (l ++ [x]) = tkS l + tkF x := by
  induction l with
  | nil => simp [tkS]
  | cons y l ih => simp [tkS, ih]; omega
theorem tkF_le (x : Ox) : tkF x ≤ 146 := by
  have h1 := gN_le x.2.2 8
  have h2 := aN_le x.2.2 64
  unfold tkF
  split <;> split <;> omega
theorem tkS_le (l : List Ox) : tkS l ≤ 146 * l.length := by
  induction l with
  | nil => simp [tkS]
  | cons x l ih => have := tkF_le x; simp [tkS]; omega
/-- the blocks of inodes that are there -/
def mkS (l : List Ox) : List Bool := l.foldl (fun s x => s.set (x.1 / 4) true) (fb 64)
theorem mkS_snoc (l : List Ox) (x : Ox) : mkS (l ++ [x]) = (mkS l).set (x.1 / 4) true := by simp [mkS]
theorem mkS_length (l : List Ox) : (mkS l).length = 64 := by
  have key : ∀ (l : List Ox) (s : List Bool), s.length = 64 → (l.foldl (fun s x => s.set (x.1 / 4) true) s).length = 64 := by
    intro l
    induction l with
    | nil => exact fun s h => h
    | cons x l ih => exact fun s h => ih _ (by simpa using h)
  exact key l _ (fb_length 64)
theorem sl_bools {w : World} {g : Nat} {l : List Bool} {T : TypeId} {fr : Nat × Nat} (hb : w.heap[g]? = some (.cells (bools l).toArray T fr)) (hl : l.length = 64) : Sl w (.slice (some ⟨g, 0, none⟩) 64 64) 64 (bools l) :=
  Sl.of_blk hb (Nat.le_refl _) (by decide) (by simp [hl])

/-- Takes' own: the blocks, the sum -/
def TkI (gb go : Nat) (s : List Ox) (w : World) : Prop := w.heap[gb]? = some (.cells (bools (mkS s)).toArray 65 (0, 0)) ∧ w.heap[go]? = some (.cells #[.int .i64 (2 + tkS s : Nat)] 3 (0, 0)) ∧ Lv w
theorem takes_step (gb go : Nat) (s : List Ox) (w : World) (x : Ob) (sv : Value) (hs : s.length < 1000) (h : TkI gb go s w) (hne : gb ≠ go) (hG : gb ≠ 0 ∧ go ≠ 0) (hx : x.1 < 256) (hk : x.2.1 < 256) :
    Ret Tryd.prog 22 #[.agg #[.int .u16 x.1, .int .u8 x.2.1, sv], .agg (bools (hasL x.2.2)).toArray, .pointer (some ⟨gb, 0, none⟩), .pointer (some ⟨go, 0, none⟩)] w fun v' w' =>
      TkI gb go (s ++ [(x.1, x.2.1, hasL x.2.2)]) w' ∧ Ch (fun k => k = gb ∨ k = go) w w' := by
  obtain ⟨num, kind, offs⟩ := x
  simp only [] at hx hk
  obtain ⟨hb, hgo, hlv⟩ := h
  refine v_enter Tryd.func22 Tryd.ntmps22 rfl (by simp) fun R' hR => ?_
  have hb1 := al2_0 w (.cells #[.int .u16 num, .int .u8 kind, sv] 64) (.cells (bools (hasL offs)).toArray 65)
  have hb2 := al2_1 w (.cells #[.int .u16 num, .int .u8 kind, sv] 64) (.cells (bools (hasL offs)).toArray 65)
  have hq := ((Ch.refl Nw w).alloc (.cells #[.int .u16 num, .int .u8 kind, sv] 64)).alloc (.cells (bools (hasL offs)).toArray 65)
  have hblt := lt_of_block hb
  have hgolt := lt_of_block hgo
  have hb' := hq.hp hb id
  have hgo' := hq.hp hgo id
  have hlv' := hlv.ch hq id
  have hml := mkS_length s
  obtain ⟨mb, hmb⟩ : ∃ b, (mkS s)[num / 4]? = some b := ⟨_, List.getElem?_eq_getElem (by omega)⟩
  have c4 := (cell_blk hb' (num / 4)).trans (bools_get hmb)
  have f4 := frz_blk hb' (num / 4)
  have hw4 : IntKind.u16.wrap ((num : Int) / 4) = (num : Int) / 4 := by simp [IntKind.wrap_u16]; omega
  have hn4 : (num : Int) / 4 < 64 := by omega
  have hn4n : ((num : Int) / 4).toNat = num / 4 := by omega
  simp [go_sem]
  revert hb1 hb2 hq hb' hgo' hlv' c4 f4
  generalize (w.alloc (.cells #[.int .u16 num, .int .u8 kind, sv] 64)).alloc (.cells (bools (hasL offs)).toArray 65) = w1
  generalize hg : w.heap.size = g at *
  intro hb1 hb2 hq hb' hgo' hlv' c4 f4
  simp [go_sem, hw4, hn4, hn4n, c4, f4]
  have hq2 := (Ch.refl (one gb) w1).setCell (p := ⟨gb, num / 4, none⟩) (.inl rfl) (.bool true)
  have hb3 : (w1.setCell ⟨gb, num / 4, none⟩ (.bool true)).heap[gb]? = some (.cells (bools ((mkS s).set (num / 4) true)).toArray 65) := by rw [hp_setCell, hb', setOf_cells, bools_set]
  have hgo3 := hq2.hp hgo' (by simp only [one]; omega)
  have hlv3 := hlv'.ch hq2 (by simp only [one]; omega)
  have hb1' := hq2.hp hb1 (by simp only [one]; omega)
  have hb2' := hq2.hp hb2 (by simp only [one]; omega)
  have hc3 : Ch (fun k => k = gb ∨ k = go) w (w1.setCell ⟨gb, num / 4, none⟩ (.bool true)) := (hq.mono fun _ _ e => e.elim).setCell (.inl (.inl rfl)) _
  revert hq2 hb3 hgo3 hlv3 hb1' hb2' hc3
  generalize w1.setCell ⟨gb, num / 4, none⟩ (.bool true) = w2
  intro hq2 hb3 hgo3 hlv3 hb1' hb2' hc3
  refine (groups_any (.slice (some ⟨g + 1, 0, none⟩) 64 64) (hasL offs) w2 (hasL_length offs) (sl_bools hb2' (hasL_length offs))).mono ?_
  rintro _ w2 ⟨rfl, rfl⟩
  simp [go_sem]
  refine v_draw' [(0, none), (1, none), (2, none), (3, none), (4, none), (5, none), (6, some [0, 1, 2, 3]), (7, none), (8, none), (9, none), (10, some [])] (by kernel_rfl) (by kernel_rfl) ?_
  have o0 := (cell_blk hgo3 0).trans rfl
  have of0 := frz_blk hgo3 0
  have k1 := (cell_blk hb1' 1).trans rfl
  have hgl := gN_le (hasL offs) 8
  have hal := aN_le (hasL offs) 64
  have htl := tkS_le s
  generalize hG8 : gN (hasL offs) 8 = G at *
  generalize hA64 : aN (hasL offs) 64 = A at *
  generalize hlf : (if leafK kind = 1 then (1 : Nat) else 2) = lf at *
  have hlf2 : lf = 1 ∨ lf = 2 := by rw [← hlf]; split <;> simp
  have hlfi : (if leafK kind = 1 then (1 : Int) else 2) = (lf : Int) := by rw [← hlf]; split <;> rfl
  have wr1 : IntKind.i64.wrap ((G : Int) * 2) = (G : Int) * 2 := by simp [IntKind.wrap_i64]; omega
  have hmul : A * lf ≤ 128 := by rcases hlf2 with rfl | rfl <;> omega
  have hmul' : (A : Int) * (lf : Int) = ((A * lf : Nat) : Int) := by push_cast; rfl
  have wr2 : IntKind.i64.wrap ((A : Int) * (lf : Int)) = ((A * lf : Nat) : Int) := by rw [hmul']; simp only [IntKind.wrap_i64]; omega
  have wr3 : IntKind.i64.wrap ((G : Int) * 2 + ((A * lf : Nat) : Int)) = (G : Int) * 2 + ((A * lf : Nat) : Int) := by simp only [IntKind.wrap_i64]; omega
  have wr4 : IntKind.i64.wrap (((2 + tkS s : Nat) : Int) + ((G : Int) * 2 + ((A * lf : Nat) : Int))) = ((2 + tkS s + (2 * G + A * lf) : Nat) : Int) := by simp only [IntKind.wrap_i64]; omega
  have wr5 : IntKind.i64.wrap (((2 + tkS s + (2 * G + A * lf) : Nat) : Int) + 2) = ((2 + tkS s + (2 * G + A * lf) + 2 : Nat) : Int) := by simp only [IntKind.wrap_i64]; omega
  generalize hSum : ((2 + tkS s : Nat) : Int) = Sm at *
  generalize hS2 : ((2 + tkS s + (2 * G + A * lf) : Nat) : Int) = S2 at *
  generalize hS3 : ((2 + tkS s + (2 * G + A * lf) + 2 : Nat) : Int) = S3 at *
  generalize hAl : ((A * lf : Nat) : Int) = Al at *
  simp [go_sem, o0, k1]
  refine (cleaf_any kind w2.drew hk hlv3).mono ?_
  rintro _ w3 ⟨rfl, rfl⟩
  rw [hlfi]
  simp [go_sem, o0, of0, wr1, wr2, wr3, wr4]
  have hq4 := (Ch.refl (one go) w2).setCell (p := ⟨go, 0, none⟩) (.inl rfl) (.int .i64 S2)
  have hgo4 : (w2.setCell ⟨go, 0, none⟩ (.int .i64 S2)).heap[go]? = some (.cells #[.int .i64 S2] 3) := by rw [hp_setCell, hgo3, setOf_cells]; rfl
  have hb4 := hq4.hp hb3 (by simp only [one]; omega)
  have hlv4 := hlv3.ch hq4 (by simp only [one]; omega)
  have hc4 : Ch (fun k => k = gb ∨ k = go) w (w2.setCell ⟨go, 0, none⟩ (.int .i64 S2)) := hc3.setCell (.inl (.inr rfl)) _
  revert hq4 hgo4 hb4 hlv4 hc4
  generalize w2.setCell ⟨go, 0, none⟩ (.int .i64 S2) = w4
  intro hq4 hgo4 hb4 hlv4 hc4
  have p0 := (cell_blk hgo4 0).trans rfl
  have pf0 := frz_blk hgo4 0
  have hms := mkS_snoc s (num, kind, hasL offs)
  have hts := tkS_snoc s (num, kind, hasL offs)
  simp only [tkF, hG8, hA64, hlf] at hts
  by_cases hG0 : 0 < G
  · simp [go_sem, hG0, p0, pf0, wr5]
    refine hR _ _ ⟨⟨?_, ?_, ?_⟩, (hc4.setCell (.inl (.inr rfl)) _).drew⟩
    · rw [hp_drew, hp_setCell_ne _ _ _ _ (by simpa using hne), hb4, hms]
    · rw [hp_drew, hp_setCell, hgo4, setOf_cells, hts, if_pos hG0, ← hS3]
      simp
      omega
    · exact (hlv4.ch ((Ch.refl (one go) w4).setCell (p := ⟨go, 0, none⟩) (.inl rfl) _) (by simp only [one]; omega)).ch (Ch.refl Nw _).drew id
  · simp [go_sem, hG0]
    refine hR _ _ ⟨⟨?_, ?_, ?_⟩, hc4.drew⟩
    · rw [hp_drew, hb4, hms]
    · rw [hp_drew, hgo4, hts, if_neg hG0, ← hS2]
      simp
      omega
    · exact hlv4.ch (Ch.refl Nw _).drew id

/-- what objects take -/
def takesN (s : List Ox) : Nat := 2 + tkS s + (if 0 < gN (mkS s) 8 then 2 else 0) + 2 * (gN (mkS s) 8 + aN (mkS s) 64)
theorem takes_any (v : Value) (l : List Ob) (w : World) (hl : l.length ≤ 1000) (hol : ∀ x ∈ l, x.2.2.length ≤ 1000) (ho : Objs w v l) (hlv : Lv w) :
    Ret Tryd.prog 12 #[v] w fun v' w' => v' = .int .i64 (takesN (selO l).1 : Nat) ∧ Ch Nw w w' := by
  refine v_enter Tryd.func12 Tryd.ntmps12 rfl (by simp) fun R' hR => ?_
  simp [go_sem, hz_b64o, zc_b64o]
  have hg0 := hlv.lt
  have hb1 : ((w.alloc (.cells #[.int .i64 2] 3)).alloc (.cells (bools (fb 64)).toArray 65)).heap[w.heap.size + 1]? = some (.cells (bools (fb 64)).toArray 65) := al2_1 _ _ _
  have hb0 : ((w.alloc (.cells #[.int .i64 2] 3)).alloc (.cells (bools (fb 64)).toArray 65)).heap[w.heap.size]? = some (.cells #[.int .i64 2] 3) := al2_0 _ _ _
  have hq := ((Ch.refl Nw w).alloc (.cells #[.int .i64 2] 3)).alloc (.cells (bools (fb 64)).toArray 65)
  have hz : ((w.alloc (.cells #[.int .i64 2] 3)).alloc (.cells (bools (fb 64)).toArray 65)).heap.size = w.heap.size + 2 := by simp
  revert hb1 hb0 hq hz
  generalize (w.alloc (.cells #[.int .i64 2] 3)).alloc (.cells (bools (fb 64)).toArray 65) = w1
  generalize hg : w.heap.size = g at *
  intro hb1 hb0 hq hz
  have hI0 : TkI (g + 1) g [] w1 := ⟨hb1, hb0, hlv.ch hq id⟩
  refine (each_any v l 22 [.pointer (some ⟨g + 1, 0, none⟩), .pointer (some ⟨g, 0, none⟩)] w w1 (TkI (g + 1) g) hl hol ho hq hI0
    (fun s w1' w2 h hc => ⟨hc.hp h.1 (by omega), hc.hp h.2.1 (by omega), h.2.2.ch hc (by omega)⟩)
    (fun args w1 => by simp [go_sem]) (fun s w1' x sv hs hI hc h1 h2 => ?_)).mono ?_
  · have := takes_step (g + 1) g s w1' x sv (by omega) hI (by omega) (by omega) h1 h2
    exact this.mono fun v' w' ⟨a, b⟩ => ⟨a, b.mono fun j _ e => by omega⟩
  · rintro _ w2 ⟨⟨hb2, hgo2, hlv2⟩, hc2⟩
    have hml := mkS_length (selO l).1
    have hcnt := Nat.le_trans (selO_count l) hl
    have htl := tkS_le (selO l).1
    simp [go_sem]
    refine (groups_any (.slice (some ⟨g + 1, 0, none⟩) 64 64) (mkS (selO l).1) w2 hml (sl_bools hb2 hml)).mono ?_
    rintro _ w2 ⟨rfl, rfl⟩
    have o0 := (cell_blk hgo2 0).trans rfl
    have of0 := frz_blk hgo2 0
    have hgl := gN_le (mkS (selO l).1) 8
    have hal := aN_le (mkS (selO l).1) 64
    have hv : takesN (selO l).1 = 2 + tkS (selO l).1 + (if 0 < gN (mkS (selO l).1) 8 then 2 else 0) + 2 * (gN (mkS (selO l).1) 8 + aN (mkS (selO l).1) 64) := rfl
    generalize gN (mkS (selO l).1) 8 = G at *
    generalize aN (mkS (selO l).1) 64 = A at *
    have wr1 : IntKind.i64.wrap ((G : Int) + A) = (G : Int) + A := by simp only [IntKind.wrap_i64]; omega
    have wr2 : IntKind.i64.wrap (2 * ((G : Int) + A)) = 2 * ((G : Int) + A) := by simp only [IntKind.wrap_i64]; omega
    have wr3 : IntKind.i64.wrap (((2 + tkS (selO l).1 : Nat) : Int) + 2 * ((G : Int) + A)) = ((2 + tkS (selO l).1 : Nat) : Int) + 2 * ((G : Int) + A) := by simp only [IntKind.wrap_i64]; omega
    have wr4 : IntKind.i64.wrap (((2 + tkS (selO l).1 : Nat) : Int) + 2) = ((2 + tkS (selO l).1 : Nat) : Int) + 2 := by simp only [IntKind.wrap_i64]; omega
    have wr5 : IntKind.i64.wrap (((2 + tkS (selO l).1 : Nat) : Int) + 2 + 2 * ((G : Int) + A)) = ((2 + tkS (selO l).1 : Nat) : Int) + 2 + 2 * ((G : Int) + A) := by simp only [IntKind.wrap_i64]; omega
    generalize hSm : ((2 + tkS (selO l).1 : Nat) : Int) = Sm at *
    by_cases hG0 : 0 < G
    · have hgo3 : (w2.setCell ⟨g, 0, none⟩ (.int .i64 (Sm + 2))).heap[g]? = some (.cells #[.int .i64 (Sm + 2)] 3) := by rw [hp_setCell, hgo2, setOf_cells]; rfl
      have o1 := (cell_blk hgo3 0).trans rfl
      simp [go_sem, hG0, o0, of0, o1, wr1, wr2, wr4, wr5]
      refine hR _ _ ⟨?_, hc2.setCell (.inr (by simp; omega)) _⟩
      rw [hv, if_pos hG0]
      congr 1
      omega
    · simp [go_sem, hG0, o0, wr1, wr2, wr3]
      refine hR _ _ ⟨?_, hc2⟩
      rw [hv, if_neg hG0]
      congr 1
      omega
end Go.Proofs.YtmhnlgndgdmebaaDoor
