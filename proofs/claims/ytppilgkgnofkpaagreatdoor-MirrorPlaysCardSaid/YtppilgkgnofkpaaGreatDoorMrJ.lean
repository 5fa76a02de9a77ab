/- A mirror over two new disks; the law's pair. No condition but on sizes. -/
import Derived.Test.YtppilgkgnofkpaaGreatDoorMrI
import Derived.Test.YtppilgkgnofkpaaGreatDoorAcA
set_option linter.unusedSimpArgs false
set_option linter.unusedVariables false

namespace Go.Proofs.YtppilgkgnofkpaaGreatDoor
open Go.RowKit Go.Kin

def Mr.new : Mr := ⟨fun _ => Dk.new, Pwr.on, fun _ _ => 0, fun _ _ => false, fun _ => 0, fun _ => 0, []⟩
theorem Mr.Fine.new (c : Nat) : Mr.new.Fine c := ⟨by decide, fun _ _ => by simp [Mr.new, Dk.new], fun _ _ x hx => by simp [Mr.new, Dk.new] at hx, fun _ => Nat.zero_le _, fun _ => Nat.zero_le _, Nat.zero_le _⟩
theorem madepl (n : Nat) : madeCells (Value.agg #[.int .i64 0, .bool false]).cells (n * 2) = plcs Mr.new n 0 := by
  apply Array.ext_getElem?
  intro i
  have hz : ∀ x ∈ pls Mr.new n 0, (plc x).size = 2 := plc_size _
  by_cases h : i < n * 2
  · have e : i = i / 2 * 2 + i % 2 := by omega
    have hk : i / 2 < n := by omega
    have hx := pls_at Mr.new 0 hk
    have h2 : (plc (Mr.new.use 0 (i / 2), Mr.new.sick 0 (i / 2)))[i % 2]? = some (#[Value.int .i64 0, .bool false][i % 2]!) := by
      rcases Nat.mod_two_eq_zero_or_one i with h | h <;> rw [h] <;> rfl
    have := rows_at (n := 2) hz hx h2
    rw [← e] at this
    unfold plcs
    rw [this]
    simp [madeCells, h, Value.cells]
  · have h1 : (plcs Mr.new n 0).size = n * 2 := by unfold plcs; rw [rows_size hz]; simp [pls]
    rw [Array.getElem?_eq_none (by rw [size_madeCells]; omega), Array.getElem?_eq_none (by omega)]
theorem mkpl (n : Nat) (w : World) (hn : n ≤ 1000000) : (Instr.makeSlice 147 (.int .i64 n) (.int .i64 n)).run Tryz.prog w = .ok (.slice (some ⟨w.heap.size, 0, none⟩) n n) (w.alloc (.cells (plcs Mr.new n 0) 150)) := by
  have h1 : (Tryz.prog.info? 150).isSome = true := by kernel_rfl
  obtain ⟨i, hi⟩ := Option.isSome_iff_exists.1 h1
  have h2 : (Tryz.prog.info? 150).map (·.size) = some 2 := by kernel_rfl
  have h3 : (Tryz.prog.info? 150).map (·.bytes) = some 16 := by kernel_rfl
  have h4 : (Tryz.prog.info? 150).bind (·.zero) = some (.agg #[.int .i64 0, .bool false]) := by kernel_rfl
  rw [hi] at h2 h3 h4
  simp at h2 h3 h4
  have := run_makeSlice (P := Tryz.prog) w 147 150 i _ Tryz.underlying147 hi h4 .i64 .i64 n n (by omega) (Int.le_refl _) (by rw [h2]; omega) (by rw [h3]; omega) (by omega)
  rw [this, h2]
  simp only [Int.toNat_natCast, madepl]
/-- a space of its own -/
structure SpNew (w : World) (sp : Nat) (g : Nat → Nat) (n B : Nat) : Prop where
  spb : w.heap[sp]? = some (.cells #[.slice (some ⟨g 0, 0, none⟩) n n, .slice (some ⟨g 1, 0, none⟩) n n] 155 (0, 0))
  pl : ∀ i, i < 2 → w.heap[g i]? = some (.cells (plcs Mr.new n i) 150 (0, 0))
  ne : sp ≠ g 0 ∧ sp ≠ g 1 ∧ g 0 ≠ g 1
  ge : B ≤ sp ∧ B ≤ g 0 ∧ B ≤ g 1
set_option maxRecDepth 100000 in
theorem spnew_any (n : Nat) (w : World) (h1 : 1 ≤ n) (h2 : n ≤ 4096) : Ret Tryz.prog 39 #[.int .i64 n, .int .i64 n] w fun v' w' => ∃ sp g, v' = .tuple #[.pointer (some ⟨sp, 0, none⟩), .int .i64 0] ∧ SpNew w' sp g n w.heap.size ∧ Ch Nw w w' := by
  refine v_enter Tryz.func39 Tryz.ntmps39 rfl (by simp) fun R' hR => ?_
  have n1 : ¬ (n : Int) < 1 := by omega
  have n1' : ¬ n < 1 := by omega
  have n2 : ¬ (4096 : Int) < n := by omega
  have n2' : ¬ 4096 < n := by omega
  simp [go_sem]
  obtain ⟨sp, hsp⟩ : ∃ sp, w.heap.size = sp := ⟨_, rfl⟩
  rw [hsp]
  have ca := (Ch.refl Nw w).alloc (.cells #[.slice none 0 0, .slice none 0 0] 155)
  have b0 := hp_alloc w (.cells #[.slice none 0 0, .slice none 0 0] 155)
  rw [hsp] at b0
  revert ca b0
  generalize w.alloc (.cells #[.slice none 0 0, .slice none 0 0] 155) = w1
  intro ca b0
  have hidx0 := fun w => run_index_agg (P := Tryz.prog) (kd := .i64) (k := 0) (cs := #[Value.int .i64 n, .int .i64 n]) Tryz.underlying42 Tryz.sizeOf3 Tryz.isAgg3 (by decide) rfl w
  have hidx1 := fun w => run_index_agg (P := Tryz.prog) (kd := .i64) (k := 1) (cs := #[Value.int .i64 n, .int .i64 n]) Tryz.underlying42 Tryz.sizeOf3 Tryz.isAgg3 (by decide) rfl w
  refine v_loop (fun r f u => ∃ k, k ≤ 2 ∧ r = 2 - k ∧ f 6 = .pointer (some ⟨sp, 0, none⟩) ∧ f 13 = .agg #[.int .i64 n, .int .i64 n] ∧ f 14 = .int .i64 k ∧ Ch Nw w u ∧ ∃ v0 v1, u.heap[sp]? = some (.cells #[v0, v1] 155 (0, 0)) ∧
      (1 ≤ k → ∃ g0, v0 = .slice (some ⟨g0, 0, none⟩) n n ∧ u.heap[g0]? = some (.cells (plcs Mr.new n 0) 150 (0, 0)) ∧ sp < g0 ∧ (2 ≤ k → ∃ g1, v1 = .slice (some ⟨g1, 0, none⟩) n n ∧ u.heap[g1]? = some (.cells (plcs Mr.new n 0) 150 (0, 0)) ∧ g0 < g1))) 2
    ⟨0, by omega, rfl, by simp, by simp, by simp, ca, _, _, b0, fun h => by omega⟩ ?_
  rintro J hJ _ f u ⟨k, hk, rfl, f6, f13, f14, cu, v0, v1, hb, hgs⟩
  by_cases hk2 : k < 2
  · have hki : (k : Int) < 2 := by omega
    have hwk : IntKind.i64.wrap ((k : Int) + 1) = ((k + 1 : Nat) : Int) := by rw [IntKind.wrap_i64]; omega
    have hidx : ∀ w, (Instr.index 42 (.agg #[Value.int .i64 n, .int .i64 n]) (.int .i64 k)).run Tryz.prog w = .ok (.int .i64 n) w := fun w => by
      rcases lt2 hk2 with rfl | rfl
      · exact hidx0 w
      · exact hidx1 w
    simp [go_sem, f6, f13, f14, hki, hidx, n1, n2, n1', n2']
    refine v_draw' [(0, none), (1, none), (2, none), (4, none), (5, none), (3, some [0, 1, 4, 5]), (6, none), (7, some [])] (by kernel_rfl) (by kernel_rfl) ?_
    have hmk := mkpl n u.drew (by omega)
    have cb := (Ch.refl Nw u).alloc (.cells (plcs Mr.new n 0) 150)
    have bb := hp_alloc u (.cells (plcs Mr.new n 0) 150)
    have hb2 := cb.obj hb id
    have c2 := fun j => cell_blk hb2 j
    have fz2 := frz_blk hb2 k
    obtain ⟨g, hg⟩ : ∃ g, u.heap.size = g := ⟨_, rfl⟩
    rw [show u.drew.heap.size = u.heap.size from rfl, hg] at hmk
    rw [hg] at bb
    have hspu := lt_of_block hb
    have c2k : (u.alloc (.cells (plcs Mr.new n 0) 150)).cell? ⟨sp, k, none⟩ = some (if k = 0 then v0 else v1) := by
      rw [c2]
      rcases lt2 hk2 with rfl | rfl <;> rfl
    simp [go_sem, hmk, f6, f14, hki, hk2, c2k, fz2, hwk]
    have b3 : ((u.alloc (.cells (plcs Mr.new n 0) 150)).setCell ⟨sp, k, none⟩ (.slice (some ⟨g, 0, none⟩) n n)).heap[sp]? = some (.cells (#[v0, v1].setIfInBounds k (.slice (some ⟨g, 0, none⟩) n n)) 155 (0, 0)) := by
      rw [hp_setCell, hb2, setOf_cells]
    have cs : Ch (one sp) (u.alloc (.cells (plcs Mr.new n 0) 150)) ((u.alloc (.cells (plcs Mr.new n 0) 150)).setCell ⟨sp, k, none⟩ (.slice (some ⟨g, 0, none⟩) n n)) := (Ch.refl (one sp) _).setCell (p := ⟨sp, k, none⟩) (.inl rfl) _
    have hcu := cu.size
    have bb3 := cs.obj bb fun e => by simp only [one] at e; omega
    have cu3 : Ch Nw w ((u.alloc (.cells (plcs Mr.new n 0) 150)).setCell ⟨sp, k, none⟩ (.slice (some ⟨g, 0, none⟩) n n)) := (cu.trans cb).trans' cs fun j hj e => by simp only [one] at e; omega
    refine Rnd.intro (2 - (k + 1)) (by omega) (hJ _ _ _ ⟨k + 1, by omega, rfl, by simp [f6], by simp [f13], by simp, by first | exact cu3.drew | exact cu3, ?_⟩)
    rcases lt2 hk2 with rfl | rfl
    · exact ⟨_, _, b3, fun _ => ⟨g, rfl, bb3, by omega, fun h => by omega⟩⟩
    · obtain ⟨g0, rfl, h3, h4, _⟩ := hgs (by omega)
      exact ⟨_, _, b3, fun _ => ⟨g0, rfl, cs.obj (cb.obj h3 id) fun e => by simp only [one] at e; omega, h4, fun _ => ⟨g, rfl, bb3, by have := lt_of_block h3; omega⟩⟩⟩
  · obtain rfl : k = 2 := by omega
    obtain ⟨g0, rfl, h3, h4, h5⟩ := hgs (by omega)
    obtain ⟨g1, rfl, h6, h7⟩ := h5 (by omega)
    simp [go_sem, f6, f14]
    refine hR _ _ ⟨sp, fun i => if i = 0 then g0 else g1, rfl, ⟨hb, fun i hi => ?_, ⟨by simp; omega, by simp; omega, by simp; omega⟩, ⟨by omega, by simp; omega, by simp; omega⟩⟩, cu⟩
    have e : plcs Mr.new n i = plcs Mr.new n 0 := rfl
    rw [e]
    rcases lt2 hi with rfl | rfl
    · exact h3
    · exact h6
def prc (p m : Nat) (z : Mz) : Array Value := #[.pointer (some ⟨p, 0, none⟩), .pointer (some ⟨z.d 0, 0, none⟩), .pointer (some ⟨z.d 1, 0, none⟩), .pointer (some ⟨z.sp, 0, none⟩), .pointer (some ⟨m, 0, none⟩)]
/-- the law's pair, in the blocks O -/
structure PrAt (w : World) (x p m n : Nat) (z : Mz) (s : Mr) (O : Nat → Prop) : Prop where
  blk : w.heap[x]? = some (.cells (prc p m z) 33 (0, 0))
  mr : ∃ O', MrAt w m p n z s O' ∧ ¬ O' x ∧ ∀ k, O' k → O k
  ox : O x
  lt : ∀ k, O k → k < w.heap.size
set_option maxRecDepth 100000 in
theorem begun_any (n : Nat) (w : World) (h1 : 1 ≤ n) (h2 : n ≤ 4096) : Ret Tryz.prog 7 #[.int .i64 n] w fun v' w' => ∃ x p m z, v' = .pointer (some ⟨x, 0, none⟩) ∧ PrAt w' x p m n z Mr.new (fun k => w.heap.size ≤ k ∧ k < w'.heap.size) ∧ Ch Nw w w' := by
  refine v_enter Tryz.func7 Tryz.ntmps7 rfl (by simp) fun R' hR => ?_
  simp [go_sem]
  refine (on_pw w).mono ?_
  rintro _ w1 ⟨rfl, hp1, c1⟩
  obtain ⟨p, hpw⟩ : ∃ p, w.heap.size = p := ⟨_, rfl⟩
  rw [hpw] at hp1 ⊢
  simp [go_sem]
  have c2 := (Ch.refl Nw w1).alloc (.cells #[.pointer (some ⟨p, 0, none⟩), .pointer none, .pointer none, .pointer none, .pointer none] 33)
  have b2 := hp_alloc w1 (.cells #[.pointer (some ⟨p, 0, none⟩), .pointer none, .pointer none, .pointer none, .pointer none] 33)
  obtain ⟨x, hx⟩ : ∃ x, w1.heap.size = x := ⟨_, rfl⟩
  rw [hx] at b2 ⊢
  have hpx : p < x := by rw [← hx]; exact lt_of_block hp1
  have hp2 := hp1.ch c2 id
  have c2' := c1.trans c2
  revert b2 hp2 c2'
  clear c2
  generalize w1.alloc (.cells #[.pointer (some ⟨p, 0, none⟩), .pointer none, .pointer none, .pointer none, .pointer none] 33) = w2
  intro b2 hp2 c2
  have q2 := fun j => cell_blk b2 j
  have hx2 := lt_of_block b2
  refine v_draw' [(0, none), (1, none), (2, none), (3, none), (4, none), (5, none), (10, none), (11, none), (6, some [0, 10, 11]), (7, none), (8, none), (9, none), (12, none), (13, some [9])] (by kernel_rfl) (by kernel_rfl) ?_
  simp [go_sem, q2]
  refine (sd_new n p w2.drew Pwr.on h1 h2 hp2).mono ?_
  rintro _ w3 ⟨d0, rfl, sd0, c3⟩
  have c3 := Ch.of_drew c3
  have b3 := c3.obj b2 id
  have q3 := fun j => cell_blk b3 j
  have f3 := fun j => frz_blk b3 j
  simp [go_sem, q3, f3]
  have k4 : Ch (one x) w3 (w3.setCell ⟨x, 1, none⟩ (.pointer (some ⟨d0, 0, none⟩))) := (Ch.refl (one x) w3).setCell (p := ⟨x, 1, none⟩) (.inl rfl) _
  have b4 : (w3.setCell ⟨x, 1, none⟩ (.pointer (some ⟨d0, 0, none⟩))).heap[x]? = some (.cells #[.pointer (some ⟨p, 0, none⟩), .pointer (some ⟨d0, 0, none⟩), .pointer none, .pointer none, .pointer none] 33 (0, 0)) := by rw [hp_setCell, b3, setOf_cells]; rfl
  have e3 : w2.heap.size ≤ w3.heap.size := c3.size
  have e2 := c2.size
  have hp3 := (hp2.ch c3 id).ch k4 fun e => by simp only [one] at e; omega
  have sd4 := sd0.ch k4 (fun k hk e => by simp only [one] at e; have : w2.heap.size ≤ k := hk.1; omega) fun e => by simp only [one] at e; omega
  have e4 := k4.size
  have c4 : Ch Nw w (w3.setCell ⟨x, 1, none⟩ (.pointer (some ⟨d0, 0, none⟩))) := (c2.trans c3).trans' k4 fun j hj e => by simp only [one] at e; omega
  have A0 : ∀ k, w2.drew.heap.size ≤ k ∧ k < w3.heap.size → x < k := fun k hk => by have : w2.heap.size ≤ k := hk.1; omega
  revert b4 hp3 sd4 c4 e4
  clear k4
  generalize w3.setCell ⟨x, 1, none⟩ (.pointer (some ⟨d0, 0, none⟩)) = w4
  intro b4 hp4 sd4 e4 c4
  have q4 := fun j => cell_blk b4 j
  refine v_draw' [(0, none), (1, none), (2, none), (3, none), (4, none), (5, none), (10, none), (11, none), (6, some [0, 10, 11]), (7, none), (8, none), (9, none), (12, none), (13, some [9])] (by kernel_rfl) (by kernel_rfl) ?_
  simp [go_sem, q4]
  refine (sd_new n p w4.drew Pwr.on h1 h2 hp4).mono ?_
  rintro _ w5 ⟨d1, rfl, sd1, c5⟩
  have c5 := Ch.of_drew c5
  have b5 := c5.obj b4 id
  have q5 := fun j => cell_blk b5 j
  have f5 := fun j => frz_blk b5 j
  simp [go_sem, q5, f5]
  have sd05 := sd4.ch c5 (fun _ _ e => e) id
  have e5 : w4.heap.size ≤ w5.heap.size := c5.size
  have A1 : ∀ k, w4.drew.heap.size ≤ k ∧ k < w5.heap.size → w3.heap.size ≤ k := fun k hk => by have : w4.heap.size ≤ k := hk.1; omega
  have k6 : Ch (one x) w5 (w5.setCell ⟨x, 2, none⟩ (.pointer (some ⟨d1, 0, none⟩))) := (Ch.refl (one x) w5).setCell (p := ⟨x, 2, none⟩) (.inl rfl) _
  have b6 : (w5.setCell ⟨x, 2, none⟩ (.pointer (some ⟨d1, 0, none⟩))).heap[x]? = some (.cells #[.pointer (some ⟨p, 0, none⟩), .pointer (some ⟨d0, 0, none⟩), .pointer (some ⟨d1, 0, none⟩), .pointer none, .pointer none] 33 (0, 0)) := by rw [hp_setCell, b5, setOf_cells]; rfl
  have hp6 := (hp4.ch c5 id).ch k6 fun e => by simp only [one] at e; omega
  have sd06 := sd05.ch k6 (fun k hk e => by simp only [one] at e; have := A0 k hk; omega) fun e => by simp only [one] at e; omega
  have sd16 := sd1.ch k6 (fun k hk e => by simp only [one] at e; have := A1 k hk; omega) fun e => by simp only [one] at e; omega
  have c6 : Ch Nw w (w5.setCell ⟨x, 2, none⟩ (.pointer (some ⟨d1, 0, none⟩))) := (c4.trans c5).trans' k6 fun j hj e => by simp only [one] at e; omega
  have e6 := k6.size
  revert b6 hp6 sd06 sd16 c6 e6
  clear k6
  generalize w5.setCell ⟨x, 2, none⟩ (.pointer (some ⟨d1, 0, none⟩)) = w6
  intro b6 hp6 sd06 sd16 c6 e6
  refine (spnew_any n w6 h1 h2).mono ?_
  rintro _ w7 ⟨sp, g, rfl, sn, c7⟩
  have b7 := c7.obj b6 id
  have q7 := fun j => cell_blk b7 j
  have f7 := fun j => frz_blk b7 j
  simp [go_sem, q7, f7]
  have sd07 := sd06.ch c7 (fun _ _ e => e) id
  have sd17 := sd16.ch c7 (fun _ _ e => e) id
  have e7 := c7.size
  have k8 : Ch (one x) w7 (w7.setCell ⟨x, 3, none⟩ (.pointer (some ⟨sp, 0, none⟩))) := (Ch.refl (one x) w7).setCell (p := ⟨x, 3, none⟩) (.inl rfl) _
  have b8 : (w7.setCell ⟨x, 3, none⟩ (.pointer (some ⟨sp, 0, none⟩))).heap[x]? = some (.cells #[.pointer (some ⟨p, 0, none⟩), .pointer (some ⟨d0, 0, none⟩), .pointer (some ⟨d1, 0, none⟩), .pointer (some ⟨sp, 0, none⟩), .pointer none] 33 (0, 0)) := by rw [hp_setCell, b7, setOf_cells]; rfl
  have sd08 := sd07.ch k8 (fun k hk e => by simp only [one] at e; have := A0 k hk; omega) fun e => by simp only [one] at e; omega
  have sd18 := sd17.ch k8 (fun k hk e => by simp only [one] at e; have := A1 k hk; omega) fun e => by simp only [one] at e; omega
  obtain ⟨s1, s2, s3, s4⟩ := sn
  have t1 := k8.obj s1 fun e => by simp only [one] at e; omega
  have t2 : ∀ i, i < 2 → (w7.setCell ⟨x, 3, none⟩ (.pointer (some ⟨sp, 0, none⟩))).heap[g i]? = some (.cells (plcs Mr.new n i) 150 (0, 0)) := fun i hi => k8.obj (s2 i hi) fun e => by
    simp only [one] at e
    rcases lt2 hi with rfl | rfl <;> omega
  have c8 : Ch Nw w (w7.setCell ⟨x, 3, none⟩ (.pointer (some ⟨sp, 0, none⟩))) := (c6.trans c7).trans' k8 fun j hj e => by simp only [one] at e; omega
  have e8 := k8.size
  revert b8 sd08 sd18 t1 t2 c8 e8
  clear k8
  generalize w7.setCell ⟨x, 3, none⟩ (.pointer (some ⟨sp, 0, none⟩)) = w8
  intro b8 sd08 sd18 t1 t2 c8 e8
  have q8 := fun j => cell_blk b8 j
  refine v_draw' [(0, none), (1, none), (2, none), (3, none), (4, none), (5, none), (6, none), (7, none), (8, none), (9, none), (10, none), (11, none), (12, none), (13, none), (14, none), (15, some [0]), (16, none), (17, none), (18, none), (19, none), (20, none), (21, some [18])] (by kernel_rfl) (by kernel_rfl) ?_
  simp [go_sem, q8]
  have hmn : Ret Tryz.prog 40 #[.pointer (some ⟨d0, 0, none⟩), .pointer (some ⟨d1, 0, none⟩), .pointer (some ⟨sp, 0, none⟩)] w8.drew fun v' w' => v' = .tuple #[.pointer (some ⟨w8.heap.size, 0, none⟩), .int .i64 0] ∧ w' = w8.drew.alloc (.cells #[.pointer (some ⟨d0, 0, none⟩), .pointer (some ⟨d1, 0, none⟩), .pointer (some ⟨sp, 0, none⟩), .int .i64 0, .int .i64 0, .int .i64 0, .int .i64 0, .slice none 0 0] 120) := by
    refine v_enter Tryz.func40 Tryz.ntmps40 rfl (by simp) fun R2 hR2 => ?_
    simp [go_sem]
    exact hR2 _ _ ⟨rfl, rfl⟩
  refine hmn.mono ?_
  rintro _ w9 ⟨rfl, hw9⟩
  obtain ⟨m, hm⟩ : ∃ m, w8.heap.size = m := ⟨_, rfl⟩
  have k9 := (Ch.refl Nw w8.drew).alloc (.cells #[.pointer (some ⟨d0, 0, none⟩), .pointer (some ⟨d1, 0, none⟩), .pointer (some ⟨sp, 0, none⟩), .int .i64 0, .int .i64 0, .int .i64 0, .int .i64 0, .slice none 0 0] 120)
  have b9m := hp_alloc w8.drew (.cells #[.pointer (some ⟨d0, 0, none⟩), .pointer (some ⟨d1, 0, none⟩), .pointer (some ⟨sp, 0, none⟩), .int .i64 0, .int .i64 0, .int .i64 0, .int .i64 0, .slice none 0 0] 120)
  have s9 : w9.heap.size = m + 1 := by rw [hw9]; simp [hm]
  rw [← hw9] at k9 b9m
  rw [show w8.drew.heap.size = m from hm] at b9m
  rw [hm]
  clear hw9 hmn
  have k9 := Ch.of_drew k9
  have b9 := k9.obj b8 id
  have q9 := fun j => cell_blk b9 j
  have f9 := fun j => frz_blk b9 j
  simp [go_sem, q9, f9]
  have kz : Ch (one x) w9 (w9.setCell ⟨x, 4, none⟩ (.pointer (some ⟨m, 0, none⟩))) := (Ch.refl (one x) w9).setCell (p := ⟨x, 4, none⟩) (.inl rfl) _
  have bz : (w9.setCell ⟨x, 4, none⟩ (.pointer (some ⟨m, 0, none⟩))).heap[x]? = some (.cells #[.pointer (some ⟨p, 0, none⟩), .pointer (some ⟨d0, 0, none⟩), .pointer (some ⟨d1, 0, none⟩), .pointer (some ⟨sp, 0, none⟩), .pointer (some ⟨m, 0, none⟩)] 33 (0, 0)) := by rw [hp_setCell, b9, setOf_cells]; rfl
  have ez := kz.size
  have e9 := k9.size
  have cz : Ch Nw w (w9.setCell ⟨x, 4, none⟩ (.pointer (some ⟨m, 0, none⟩))) := (c8.trans k9).trans' kz fun j hj e => by simp only [one] at e; omega
  have nx : ∀ j, j ≠ x → ¬ one x j := fun j h e => h e
  obtain ⟨g0, hg0⟩ : ∃ a, g 0 = a := ⟨_, rfl⟩
  obtain ⟨g1, hg1⟩ : ∃ a, g 1 = a := ⟨_, rfl⟩
  have hspl := lt_of_block t1
  have hgl0 := lt_of_block (t2 0 (by omega))
  have hgl1 := lt_of_block (t2 1 (by omega))
  obtain ⟨z, hz⟩ : ∃ z : Mz, z = ⟨fun i => if i = 0 then d0 else d1, sp, g⟩ := ⟨_, rfl⟩
  obtain ⟨A, hA⟩ : ∃ A : Nat → Nat → Prop, A = fun i k => if i = 0 then w2.drew.heap.size ≤ k ∧ k < w3.heap.size else w4.drew.heap.size ≤ k ∧ k < w5.heap.size := ⟨_, rfl⟩
  have hA0 : A 0 = fun k => w2.drew.heap.size ≤ k ∧ k < w3.heap.size := by rw [hA]; rfl
  have hA1 : A 1 = fun k => w4.drew.heap.size ≤ k ∧ k < w5.heap.size := by rw [hA]; rfl
  have A0i : ∀ k, A 0 k → w2.heap.size ≤ k ∧ k < w3.heap.size := fun k hk => by rw [hA0] at hk; exact hk
  have A1i : ∀ k, A 1 k → w4.heap.size ≤ k ∧ k < w5.heap.size := fun k hk => by rw [hA1] at hk; exact hk
  have hX : ∀ k, MrX z m (.slice none 0 0) k → w6.heap.size ≤ k ∧ k < w9.heap.size := fun k hk => by
    rw [hz] at hk
    rcases hk with hk | hk | hk | hk | hk
    · omega
    · simp only at hk; omega
    · simp only at hk; omega
    · simp only at hk; omega
    · simp [Value.ownBlock] at hk
  have hP : MrP (w9.setCell ⟨x, 4, none⟩ (.pointer (some ⟨m, 0, none⟩))) m p n z Mr.new (.slice none 0 0) A := by
    refine ⟨?_, fun i hi => ?_, ?_, fun i hi => ?_, World.ownsRow_nil _ _ _ _, fun q hq => by simp [Mr.new] at hq, fun k h1 h2 => ?_, ?_, fun k hk => ⟨fun e => ?_, fun e => ?_, ?_⟩, fun k hk => by simp [Value.ownBlock] at hk⟩
    · rw [hz]; exact kz.obj b9m (nx _ (by omega))
    · rcases lt2 hi with rfl | rfl
      · rw [hA0, hz]
        exact (sd08.ch k9 (fun _ _ e => e) id).ch kz (fun k hk => nx k (by have := A0 k hk; omega)) (nx _ (by omega))
      · rw [hA1, hz]
        exact (sd18.ch k9 (fun _ _ e => e) id).ch kz (fun k hk => nx k (by have := A1 k hk; omega)) (nx _ (by omega))
    · rw [hz]; exact kz.obj (k9.obj t1 id) (nx _ (by show sp ≠ x; omega))
    · rw [hz]
      refine kz.obj (k9.obj (t2 i hi) id) (nx _ ?_)
      rcases lt2 hi with rfl | rfl
      · simp only; omega
      · simp only; omega
    · have := A0i k h1; have := A1i k h2; omega
    · rw [hz]; exact ⟨by simp only; omega, by simp only; omega, by simp only; omega, s3.1, s3.2.1, s3.2.2⟩
    · have := hX k hk; have := A0i k e; omega
    · have := hX k hk; have := A1i k e; omega
    · have := hX k hk; omega
  have hO : ∀ k, MrO z m p (.slice none 0 0) A k → (w.heap.size ≤ k ∧ k < (w9.setCell ⟨x, 4, none⟩ (.pointer (some ⟨m, 0, none⟩))).heap.size) ∧ k ≠ x := fun k hk => by
    rcases hk with hk | hk | hk | hk
    · have := hX k hk; omega
    · have := A0i k hk; omega
    · have := A1i k hk; omega
    · omega
  refine hR _ _ ⟨x, p, m, z, rfl, ⟨by rw [bz, prc, hz]; rfl, ⟨fun k => (w.heap.size ≤ k ∧ k < (w9.setCell ⟨x, 4, none⟩ (.pointer (some ⟨m, 0, none⟩))).heap.size) ∧ k ≠ x, ⟨_, A, hP, hO, fun k hk => hk.1.2⟩, fun e => e.2 rfl, fun k hk => hk.1⟩, ⟨by omega, by omega⟩, fun k hk => hk.2⟩, cz⟩
end Go.Proofs.YtppilgkgnofkpaaGreatDoor
