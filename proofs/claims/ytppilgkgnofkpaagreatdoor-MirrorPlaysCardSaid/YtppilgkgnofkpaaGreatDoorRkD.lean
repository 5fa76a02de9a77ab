/- The document's disk: comes. No condition but on sizes. -/
import Derived.Test.YtppilgkgnofkpaaGreatDoorRkB
set_option linter.unusedSimpArgs false
set_option linter.unusedVariables false

/- The document's disk: Step, block, comes. No condition but on sizes. -/
namespace Go.Proofs.YtppilgkgnofkpaaGreatDoor
open Go.RowKit Go.Kin

/-- the document's power -/
def PwR (w : World) (g : Nat) (P : Pwr) : Prop := w.heap[g]? = some (.cells #[.bool P.off, .int .i64 P.fuse] 36 (0, 0))
theorem PwR.ch {S : Nat → Prop} {w w' : World} {g : Nat} {P : Pwr} (h : PwR w g P) (hc : Ch S w w') (hn : ¬ S g) : PwR w' g P := hc.obj h hn
theorem rstep_any (g : Nat) (P : Pwr) (w : World) (h : PwR w g P) (hm : P.fuse ≤ 9223372036854775807) : Ret Tryz.prog 85 #[.pointer (some ⟨g, 0, none⟩)] w fun v' w' =>
    v' = .bool P.made ∧ PwR w' g P.step ∧ Ch (one g) w w' := by
  obtain ⟨off, fuse⟩ := P
  have h0 := cell_blk h
  have hf := frz_blk h
  refine v_enter Tryz.func85 Tryz.ntmps85 rfl (by simp) fun R' hR => ?_
  cases off
  · by_cases hz : fuse = 0
    · subst hz
      have e1 : (w.setCell ⟨g, 0, none⟩ (.bool true)).heap[g]? = some (.cells #[.bool true, .int .i64 0] 36 (0, 0)) := by rw [hp_setCell, h, setOf_cells]; simp
      have h1 := cell_blk e1
      have hf1 := frz_blk e1
      simp [go_sem, h0, hf, h1, hf1]
      refine hR _ _ ⟨by simp [Pwr.made], ?_, ((Ch.refl (one g) _).setCell (p := ⟨g, 0, none⟩) (.inl rfl) _).setCell (p := ⟨g, 1, none⟩) (.inl rfl) _⟩
      unfold PwR
      rw [hp_setCell, e1, setOf_cells]
      simp [Pwr.step]
    · have hz' : (fuse == 0) = false := by simpa using hz
      by_cases hp : 0 < fuse
      · have hm : fuse ≤ 9223372036854775807 := hm
        have hw : IntKind.i64.wrap (fuse - 1) = fuse - 1 := by simp [IntKind.wrap_i64]; omega
        simp [go_sem, h0, hf, hz', hp, hw]
        refine hR _ _ ⟨by simp [Pwr.made, hz], ?_, (Ch.refl (one g) _).setCell (p := ⟨g, 1, none⟩) (.inl rfl) _⟩
        unfold PwR
        rw [hp_setCell, h, setOf_cells]
        simp [Pwr.step, hz, hp]
      · simp [go_sem, h0, hz', hp]
        exact hR _ _ ⟨by simp [Pwr.made, hz], by simpa [Pwr.step, hz, hp] using h, Ch.refl _ _⟩
  · simp [go_sem, h0]
    exact hR _ _ ⟨by simp [Pwr.made], by simpa [Pwr.step] using h, Ch.refl _ _⟩
section
variable {w u u' : World} {r q n : Nat} {D D' : Dk} {O : Nat → Prop} {z z' : Rn} {lm lm' : List (Nat × Byts)} {lb ls lb' ls' : List Nat}
theorem RkP.at (h : RkP w r q n D O z lm lb ls) : RkAt w r q n D O := ⟨z, lm, lb, ls, h⟩
theorem RkAt.mono {O' : Nat → Prop} (h : RkAt w r q n D O) (ho : ∀ k, O k → O' k) (hl : ∀ k, O' k → k < w.heap.size) : RkAt w r q n D O' := by
  obtain ⟨z, lm, lb, ls, h⟩ := h
  exact ⟨z, lm, lb, ls, h.mono ho hl⟩
theorem RkAt.olt (h : RkAt w r q n D O) : ∀ k, O k → k < w.heap.size := by
  obtain ⟨z, lm, lb, ls, h⟩ := h
  exact h.olt
theorem RkAt.grow (h : RkAt w r q n D O) : RkAt w r q n D (Gr O w w) := h.mono (fun _ => .inl) (Gr.lt h.olt (Nat.le_refl _))
theorem RkAt.stay (h : RkAt w r q n D O) (hc : Ch Nw w u) : RkAt u r q n D (Gr O w u) := (h.ch hc fun _ _ e => e).mono (fun _ => .inl) (Gr.lt h.olt hc.size)
/-- two steps -/
theorem RkAt.comp (h1 : Ch O w u) (h2 : Ch (Gr O w u) u u') (h : RkAt u' r q n D (Gr (Gr O w u) u u')) : RkAt u' r q n D (Gr O w u') ∧ Ch O w u' := by
  have s1 := h1.size
  have s2 := h2.size
  refine ⟨h.mono (fun k hk => ?_) fun k hk => ?_, h1.trans' h2 fun j hj e => e.elim id fun e => by omega⟩
  · rcases hk with (hk | hk) | hk
    · exact .inl hk
    · exact .inr ⟨hk.1, by omega⟩
    · exact .inr ⟨by omega, hk.2⟩
  · rcases hk with hk | hk
    · exact h.olt k (.inl (.inl hk))
    · exact hk.2
theorem RkP.rows (h : RkP w r q n D O z lm lb ls) (hc : Ch (fun k => z.cv.ownBlock = some k) w u) : RowB u z.mv lm ∧ RowA u z.bv lb ∧ RowA u z.sv ls ∧ RowA u z.av D.astray.toList ∧ u.heap[r]? = some (.cells (rcs n q z D) 49 (0, 0)) :=
  ⟨h.m.ch hc fun k hk e => h.yx k (.inl hk) (.inr e), h.bad.ch hc fun k hk e => h.yx k (.inr (.inl hk)) (.inr e), h.stuck.ch hc fun k hk e => h.yx k (.inr (.inr (.inl hk))) (.inr e), h.astray.ch hc fun k hk e => h.yx k (.inr (.inr (.inr hk))) (.inr e), hc.obj h.blk h.ne⟩
/-- one of its cells set -/
theorem RkP.set1 (h : RkP w r q n D O z lm lb ls) (hc : Ch (fun k => z.cv.ownBlock = some k) w u) {i : Nat} {x : Value} (hcs : (rcs n q z D).setIfInBounds i x = rcs n q z' D')
    (rm : RowB u z'.mv lm') (rc : RowB u z'.cv D'.cache) (rb : RowA u z'.bv lb') (rs : RowA u z'.sv ls') (ra : RowA u z'.av D'.astray.toList)
    (mem : ∀ x, lastC lm' x = D'.m x) (bads : ∀ x, D'.bad x = decide (x ∈ lb')) (stucks : ∀ x, D'.stuck x = decide (x ∈ ls')) (nd : Nda n (lm'.map (·.1)) ∧ Nda n lb' ∧ Nda n ls') (ok : D'.Ok n)
    (fY : ∀ k, z'.Y k → z.Y k ∨ w.heap.size ≤ k) (fC : ∀ k, z'.cv.ownBlock = some k → z.cv.ownBlock = some k ∨ w.heap.size ≤ k) (dis : ∀ k, z'.Y k → z'.cv.ownBlock ≠ some k) :
    RkAt (u.setCell ⟨r, i, none⟩ x) r q n D' (Gr O w (u.setCell ⟨r, i, none⟩ x)) ∧ Ch O w (u.setCell ⟨r, i, none⟩ x) := by
  have hb := (h.rows hc).2.2.2.2
  have hr := lt_of_block h.blk
  have hsz : (u.setCell ⟨r, i, none⟩ x).heap.size = u.heap.size := by simp [World.setCell]
  have cs : Ch (one r) u (u.setCell ⟨r, i, none⟩ x) := (Ch.refl (one r) u).setCell (p := ⟨r, i, none⟩) (.inl rfl) x
  have nY : ∀ k, z'.Y k → k ≠ r := fun k hk e => by
    subst e
    rcases fY _ hk with e | e
    · exact h.yx _ e (.inl rfl)
    · omega
  have nC : ∀ k, z'.cv.ownBlock = some k → k ≠ r := fun k hk e => by
    subst e
    rcases fC _ hk with e | e
    · exact h.ne e
    · omega
  have lY : ∀ k, z'.Y k → k < u.heap.size := fun k hk => by
    rcases hk with hk | hk | hk | hk
    · exact rm.lt k hk
    · exact rb.lt k hk
    · exact rs.lt k hk
    · exact ra.lt k hk
  refine ⟨⟨z', lm', lb', ls', ?_, rm.ch cs fun k hk e => nY k (.inl hk) e, rc.ch cs fun k hk e => nC k hk e, rb.ch cs fun k hk e => nY k (.inr (.inl hk)) e, rs.ch cs fun k hk e => nY k (.inr (.inr (.inl hk))) e, ra.ch cs fun k hk e => nY k (.inr (.inr (.inr hk))) e,
    mem, bads, stucks, fun k hk => ?_, fun k hk => ?_, fun k hk e => ?_, fun e => nC r e rfl, ok, nd, h.nle, Gr.lt h.olt (by rw [hsz]; exact hc.size)⟩, (hc.mono fun k _ e => h.ox k (.inr e)).trans' cs fun k _ e => by simp only [one] at e; subst e; exact h.ox _ (.inl rfl)⟩
  · rw [hp_setCell, hb, setOf_cells, hcs]
  · rcases hk with rfl | hk
    · exact .inl (h.ox _ (.inl rfl))
    · rcases fC k hk with e | e
      · exact .inl (h.ox k (.inr e))
      · exact .inr ⟨e, by rw [hsz]; exact rc.lt k hk⟩
  · rcases fY k hk with e | e
    · exact .inl (h.oy k e)
    · exact .inr ⟨e, by rw [hsz]; exact lY k hk⟩
  · rcases e with e | e
    · exact nY k hk e
    · exact dis k hk e
/-- what stands in a block -/
theorem block_rk (h : RkP w r q n D O z lm lb ls) (a : Nat) : Ret Tryz.prog 92 #[.pointer (some ⟨r, 0, none⟩), .int .u16 a] w fun v' w' => v' = .string ⟨(blockM D.m a).toArray⟩ ∧ Ch Nw w w' := by
  refine v_enter Tryz.func92 Tryz.ntmps92 rfl (by simp) fun R' hR => ?_
  have c2 : w.cell? ⟨r, 2, none⟩ = some z.mv := cell_blk h.blk 2
  obtain ⟨A, c, hmv⟩ := h.m.lit
  rw [hmv] at c2
  have hl : lm.length ≤ 1000000 := by
    have := h.nd.1.len
    rw [List.length_map] at this
    have := h.nle
    omega
  simp [go_sem, c2]
  refine (last_rk _ lm a w (by rw [← hmv]; exact h.m) hl).mono ?_
  rintro _ w1 ⟨rfl, hw⟩
  subst w1
  rw [h.mem a]
  cases hm : D.m a with
  | some b =>
    simp [go_sem, lastV]
    exact hR _ _ ⟨by simp [blockM, hm], Ch.refl _ _⟩
  | none =>
    have hmk := mkzb w
    have hst := (slzb w).str (P := Tryz.prog) zb_len Tryz.underlying59 Tryz.underlying5 Tryz.underlying9
    simp [go_sem, lastV, hmk, hst]
    exact hR _ _ ⟨by simp [blockM, hm], (Ch.refl Nw w).alloc _⟩
end
theorem extr (b : Byts) (i j : Nat) : (⟨b.toArray⟩ : ByteArray).extract i j = ⟨((b.take j).drop i).toArray⟩ := by
  ext1
  rw [ByteArray.data_extract]
  simp [List.extract_eq_take_drop, List.drop_take]
end Go.Proofs.YtppilgkgnofkpaaGreatDoor

namespace Go.Proofs.YtppilgkgnofkpaaGreatDoor
open Go.RowKit Go.Kin

theorem map_drop (l : List (Nat × Byts)) (a : Nat) : (dropC l a).map (·.1) = (l.map (·.1)).filter (· != a) := by
  unfold dropC
  rw [List.filter_map]
  rfl
theorem Nda.drop {n : Nat} {l : List Nat} (h : Nda n l) (a : Nat) : Nda n (l.filter (· != a)) := ⟨h.1.sublist List.filter_sublist, fun x hx => h.2 x (List.mem_filter.1 hx).1⟩
theorem Nda.putC {n a : Nat} {l : List (Nat × Byts)} (h : Nda n (l.map (·.1))) (ha : a < n) (b : Byts) : Nda n ((dropC l a ++ [(a, b)]).map (·.1)) := by
  rw [List.map_append, map_drop]
  exact h.put ha
section
variable {w u u' : World} {r q n : Nat} {D D' : Dk} {O : Nat → Prop} {z z' : Rn} {lm lm' : List (Nat × Byts)} {lb ls lb' ls' : List Nat}
theorem RkP.lml (h : RkP w r q n D O z lm lb ls) : lm.length ≤ 1000000 ∧ lb.length ≤ 1000000 ∧ ls.length ≤ 1000000 := by
  have h1 := h.nd.1.len
  have h2 := h.nd.2.1.len
  have h3 := h.nd.2.2.len
  rw [List.length_map] at h1
  have := h.nle
  omega
/-- its blocks with one put -/
def dkM (D : Dk) (a : Nat) (b : Byts) : Dk := { D with m := fun x => if x = a then some b else D.m x }
/-- the list of blocks set to one where a block is put -/
theorem RkP.setM (h : RkP w r q n D O z lm lb ls) (hc : Ch Nw w u) {a : Nat} (ha : a < n) {b : Byts} (hb : b.length = 512) {v : Value} (hr : RowB u v (dropC lm a ++ [(a, b)])) (hf : Fresh w.heap.size v) :
    RkAt (u.setCell ⟨r, 2, none⟩ v) r q n (dkM D a b) (Gr O w (u.setCell ⟨r, 2, none⟩ v)) ∧ Ch O w (u.setCell ⟨r, 2, none⟩ v) := by
  have hc' : Ch (fun k => z.cv.ownBlock = some k) w u := hc.mono fun _ _ e => e.elim
  obtain ⟨_, rb, rs, ra, _⟩ := h.rows hc'
  refine h.set1 (z' := { z with mv := v }) (D' := dkM D a b) hc' rfl hr (h.cache.ch hc fun _ _ e => e) rb rs ra (fun x => ?_) h.bads h.stucks ⟨h.nd.1.putC ha b, h.nd.2⟩ ⟨fun x c hx => ?_, h.ok.cache⟩ (fun k hk => ?_) (fun k hk => .inl hk) fun k hk e => ?_
  · rw [lastC_append, lastC_drop, h.mem]
    unfold dkM
    by_cases hx : a = x
    · subst hx; simp
    · simp [hx, Ne.symm hx]
  · unfold dkM at hx
    simp only at hx
    split at hx
    · cases hx; exact hb
    · exact h.ok.m x c hx
  · rcases hk with hk | hk
    · exact .inr (hf k hk)
    · exact .inl (.inr hk)
  · rcases hk with hk | hk
    · have := hf k hk
      have := h.cache.lt k e
      omega
    · exact h.yx k (.inr hk) (.inr e)
def dkB (D : Dk) (s : Nat → Bool) : Dk := { D with bad := s }
theorem RkP.setB (h : RkP w r q n D O z lm lb ls) (hc : Ch Nw w u) {l : List Nat} {s : Nat → Bool} (hs : ∀ x, s x = decide (x ∈ l)) (hn : Nda n l) {v : Value} (hr : RowA u v l) (hf : Fresh w.heap.size v) :
    RkAt (u.setCell ⟨r, 4, none⟩ v) r q n (dkB D s) (Gr O w (u.setCell ⟨r, 4, none⟩ v)) ∧ Ch O w (u.setCell ⟨r, 4, none⟩ v) := by
  have hc' : Ch (fun k => z.cv.ownBlock = some k) w u := hc.mono fun _ _ e => e.elim
  obtain ⟨rm, _, rs, ra, _⟩ := h.rows hc'
  refine h.set1 (z' := { z with bv := v }) (D' := dkB D s) hc' rfl rm (h.cache.ch hc fun _ _ e => e) hr rs ra h.mem hs h.stucks ⟨h.nd.1, hn, h.nd.2.2⟩ ⟨h.ok.m, h.ok.cache⟩ (fun k hk => ?_) (fun k hk => .inl hk) fun k hk e => ?_
  · rcases hk with hk | hk | hk
    · exact .inl (.inl hk)
    · exact .inr (hf k hk)
    · exact .inl (.inr (.inr hk))
  · rcases hk with hk | hk | hk
    · exact h.yx k (.inl hk) (.inr e)
    · have := hf k hk
      have := h.cache.lt k e
      omega
    · exact h.yx k (.inr (.inr hk)) (.inr e)
theorem comes_eq (D : Dk) (a : Nat) (b : Byts) (k : Nat) : D.comes (a, b) k = dkB (dkM D a (b.take k ++ (blockM D.m a).drop k)) fun x => if x = a then false else D.bad x := rfl
theorem rowput {l : List (Nat × Byts)} {a : Nat} {b : Byts} {v : Value} (h : u.ownsRow 0 167 2 v (l.length + 1) (rowsL sbl l ++ [.int .u16 a, .string ⟨b.toArray⟩])) : RowB u v (l ++ [(a, b)]) := by
  unfold RowB
  rw [List.length_append, rowsL_append, rowsL_one]
  exact h
theorem comes_rk (h : RkP w r q n D O z lm lb ls) (a : Nat) (ha : a < n) (b : Byts) (hb : b.length = 512) (k : Nat) (hk : k ≤ 512) :
    Ret Tryz.prog 86 #[.pointer (some ⟨r, 0, none⟩), .agg #[.int .u16 a, .string ⟨b.toArray⟩], .int .i64 k] w fun v' w' => v' = .tuple #[] ∧ RkAt w' r q n (D.comes (a, b) k) (Gr O w w') ∧ Ch O w w' := by
  refine v_enter Tryz.func86 Tryz.ntmps86 rfl (by simp) fun R' hR => ?_
  simp [go_sem]
  have ba := hp_alloc w (.cells #[.int .u16 a, .string ⟨b.toArray⟩] 167)
  have ca := (Ch.refl Nw w).alloc (.cells #[.int .u16 a, .string ⟨b.toArray⟩] 167)
  obtain ⟨X, hX⟩ : ∃ X, w.heap.size = X := ⟨_, rfl⟩
  have hbl : (blockM D.m a).length = 512 := h.ok.block a
  obtain ⟨bb, hbb⟩ : ∃ bb, b.take k ++ (blockM D.m a).drop k = bb := ⟨_, rfl⟩
  have hbbl : bb.length = 512 := by rw [← hbb]; simp; omega
  rw [hX] at ba ⊢
  generalize w.alloc (.cells #[.int .u16 a, .string ⟨b.toArray⟩] 167) = w1 at *
  have h1 := h.ch ca fun _ _ e => e
  have cX := fun i => cell_blk ba i
  refine v_draw' [(0, none), (1, none), (2, none), (3, none), (4, none), (5, none), (6, none), (8, none), (7, some [0, 1, 2, 3, 8]), (9, none), (10, none), (11, none)] (by kernel_rfl) (by kernel_rfl) ?_
  have hki : (k : Int) ≤ 512 := by omega
  have h1d := h1.ch (Ch.refl Nw w1).drew fun _ _ e => e
  simp [go_sem, cX, hb, hki, ByteArray.size]
  refine (block_rk h1d a).mono ?_
  rintro _ w2 ⟨rfl, c2⟩
  have c2 := Ch.of_drew c2
  have ba2 := c2.obj ba id
  have cX2 := fun i => cell_blk ba2 i
  have h2 := h1.ch c2 fun _ _ e => e
  have ht512 : List.take 512 (blockM D.m a) = blockM D.m a := List.take_of_length_le (by omega)
  have big : ¬ 9223372036854775807 < min k 512 + (512 - k) := by omega
  simp [go_sem, cX2, hb, hbl, hki, ByteArray.size, extr, bcat, ht512, big, hbb]
  have mv2 : w2.cell? ⟨r, 2, none⟩ = some z.mv := cell_blk h2.blk 2
  obtain ⟨Am, cm, hmv⟩ := h2.m.lit
  rw [hmv] at mv2
  have hrow2 : RowB w2 (.slice Am lm.length cm) lm := by rw [← hmv]; exact h2.m
  have hw02 : Ch Nw w w2 := ca.trans c2
  have hXs : w.heap.size = X := hX
  have hX2 : X < w2.heap.size := lt_of_block ba2
  have hrX : r < X := by have := lt_of_block h.blk; omega
  obtain ⟨I, hI⟩ : ∃ I : (Nat → Value) → World → Prop, I = fun g u => g 0 = .pointer (some ⟨r, 0, none⟩) ∧ g 4 = .pointer (some ⟨X, 0, none⟩) ∧ RkAt u r q n (dkM D a bb) (Gr O w u) ∧ Ch O w u ∧ u.cell? ⟨X, 0, none⟩ = some (.int .u16 a) := ⟨_, rfl⟩
  have fin : ∀ (u : World) (v : Value), Ch Nw w2 u → RowB u v (dropC lm a ++ [(a, bb)]) → Fresh w2.heap.size v → ∀ g : Nat → Value, g 0 = .pointer (some ⟨r, 0, none⟩) → g 4 = .pointer (some ⟨X, 0, none⟩) → I g (u.setCell ⟨r, 2, none⟩ v) := by
    intro u v cu hr hf g g0 g4
    obtain ⟨k1, k2⟩ := h.setM (hw02.trans cu) ha hbbl hr (hf.mono hw02.size)
    have bX := cu.obj ba2 id
    rw [hI]
    refine ⟨g0, g4, k1, k2, ?_⟩
    have : (u.setCell ⟨r, 2, none⟩ v).heap[X]? = _ := (hp_setCell_ne u ⟨r, 2, none⟩ X v (by show X ≠ r; omega)).trans bX
    exact cell_blk this 0
  have dl : (dropC lm a).length ≤ 1000000 := by
    have := List.length_filter_le (fun e : Nat × Byts => e.1 != a) lm
    have := h.lml.1
    unfold dropC
    omega
  refine v_join I [[(0, none), (1, none), (2, none), (3, none), (4, none), (5, none), (6, none), (8, none), (9, none), (10, none), (11, none), (7, some [0, 8, 9, 10, 11]), (12, some [0]), (13, some [0]), (14, none), (15, none), (16, some [])],
    [(0, none), (1, none), (2, none), (3, none), (4, none), (5, none), (6, none), (8, none), (9, none), (10, none), (11, none), (12, some [0, 1, 2, 3, 4, 5, 6]), (7, some [0]), (13, some [0]), (14, none), (15, none), (16, some [])]] (by kernel_rfl) (by kernel_rfl) ?_ ?_
  · intro plan hp
    simp only [List.mem_cons, List.not_mem_nil, or_false] at hp
    rcases hp with rfl | rfl
    · simp [go_sem, cX2, mv2]
      refine (drop_rk _ lm a w2.drew hrow2 h.lml.1).mono ?_
      rintro v3 w3 ⟨r3, f3, c3⟩
      have c3 := Ch.of_drew c3
      have cX3 := fun i => cell_blk (c3.obj ba2 id) i
      simp [go_sem, cX3]
      refine VB_app1S tySB (us := [.int .u16 a, .string ⟨bb.toArray⟩]) r3 rfl (by simp [Value.oneCell']) (by have := dl; unfold maxLen; omega) (by have := dl; omega) fun v4 w4 k1 k2 k3 => ?_
      have c4 : Ch Nw w2 w4 := c3.trans' k2 fun j hj e => by have : w2.heap.size ≤ j := f3 j e; omega
      have f4 : Fresh w2.heap.size v4 := fun j hj => k3.elim (fun e => f3 j (e ▸ hj)) fun e => Nat.le_trans c3.size (e j hj)
      have r4 : RowB w4 v4 (dropC lm a ++ [(a, bb)]) := rowput k1
      obtain ⟨A4, p4, rfl⟩ : ∃ A c, v4 = .slice A ((dropC lm a).length + 1) c := by simpa using r4.lit
      have br := c4.obj h2.blk id
      have cr := fun i => cell_blk br i
      have fr := fun i => frz_blk br i
      simp [go_sem, cr, fr, rcs]
      refine fin w4 _ c4 r4 f4 _ ?_ ?_ <;> simp
    · have cal := (Ch.refl Nw w2).alloc (.cells #[.int .u16 a, .string ⟨bb.toArray⟩] 167)
      have bal := hp_alloc w2 (.cells #[.int .u16 a, .string ⟨bb.toArray⟩] 167)
      have mva := cal.cell mv2 id
      have cXa := fun i => cell_blk (cal.obj ba2 id) i
      simp [go_sem, cX2, mv2, mva, cXa]
      refine (drop_rk _ lm a _ (hrow2.ch cal.drew fun _ _ e => e) h.lml.1).mono ?_
      rintro v3 w3 ⟨r3, f3, c3⟩
      have c3 : Ch Nw (w2.alloc (.cells #[.int .u16 a, .string ⟨bb.toArray⟩] 167)) w3 := Ch.of_drew c3
      have f3 : Fresh (w2.heap.size + 1) v3 := fun j hj => by have := f3 j hj; simp at this; omega
      have c23 := cal.trans c3
      have cX3 := fun i => cell_blk (c23.obj ba2 id) i
      have b3 := c3.obj bal id
      simp [go_sem, cX3]
      refine VB_appS tySB (news := [.int .u16 a, .string ⟨bb.toArray⟩]) r3 rfl (fun j x hj => ?_) (by simp [Value.oneCell']) (by have := dl; unfold maxLen; omega) (by have := dl; omega) fun v4 w4 k1 k2 k3 => ?_
      · rw [Addr.add_lit, Nat.zero_add, cell_blk b3]
        simpa using hj
      have c4 : Ch Nw w2 w4 := c23.trans' k2 fun j hj e => by have : w2.heap.size + 1 ≤ j := f3 j e; omega
      have f4 : Fresh w2.heap.size v4 := fun j hj => k3.elim (fun e => by have := f3 j (e ▸ hj); omega) fun e => Nat.le_trans c23.size (e j hj)
      have r4 : RowB w4 v4 (dropC lm a ++ [(a, bb)]) := rowput k1
      obtain ⟨A4, p4, rfl⟩ : ∃ A c, v4 = .slice A ((dropC lm a).length + 1) c := by simpa using r4.lit
      have br := c4.obj h2.blk id
      have cr := fun i => cell_blk br i
      have fr := fun i => frz_blk br i
      simp [go_sem, cr, fr, rcs]
      refine fin w4 _ c4 r4 f4 _ ?_ ?_ <;> simp
  clear fin
  rw [hI]
  clear hI
  rintro f u ⟨f0, f4, ⟨z3, lm3, lb3, ls3, h3⟩, c3, x3⟩
  have bv3 : u.cell? ⟨r, 4, none⟩ = some z3.bv := cell_blk h3.blk 4
  obtain ⟨Ab, cb, hbv⟩ := h3.bad.lit
  rw [hbv] at bv3
  simp [go_sem]
  refine v_draw' [(0, none), (1, none), (2, none), (3, none), (4, none), (5, none), (6, none), (7, some [0]), (8, none), (9, none), (10, some [])] (by kernel_rfl) (by kernel_rfl) ?_
  simp [go_sem, f0, f4, x3, bv3]
  refine (without_rk _ lb3 a u.drew (by rw [← hbv]; exact h3.bad) h3.lml.2.1).mono ?_
  rintro v5 w5 ⟨r5, f5, c5⟩
  have c5 := Ch.of_drew c5
  obtain ⟨A5, p5, rfl⟩ := r5.lit
  have br := c5.obj h3.blk id
  have cr := fun i => cell_blk br i
  have fr := fun i => frz_blk br i
  simp [go_sem, f0, cr, fr, rcs]
  obtain ⟨k1, k2⟩ := h3.setB (s := fun x => if x = a then false else D.bad x) c5 (fun x => by
    have := h3.bads x
    have hb : (dkM D a bb).bad x = D.bad x := rfl
    rw [hb] at this
    simp [this]
    by_cases hx : x = a
    · simp [hx]
    · simp [hx]) (h3.nd.2.1.drop a) r5 f5
  have e : dkB (dkM D a bb) (fun x => if x = a then false else D.bad x) = D.comes (a, b) k := by rw [comes_eq, hbb]
  rw [e] at k1
  obtain ⟨k3, k4⟩ := RkAt.comp c3 k2 k1
  exact hR _ _ ⟨rfl, k3, k4⟩
end
end Go.Proofs.YtppilgkgnofkpaaGreatDoor
