/- A table of descriptors: what the law leans on: wakes, alike, and FdtabNil. -/
import Derived.Test.YtfcoiboeohgimaaFtC
namespace Go.Proofs.Ytfcoiboeohgimaa
open Go.RowKit Go.Kin

theorem eq_f (w : World) (a b : Nat) (c d : Bool) : (Op.equalIn 10000 36 (.agg #[.int .u16 a, .bool c]) (.agg #[.int .u16 b, .bool d])).run Try.prog w = .ok (decide (a = b ∧ c = d)) w := by
  have hc : ((a : Int) == (b : Int)) = decide (a = b) := by
    by_cases h : a = b
    · simp [h]
    · rw [beq_false_of_ne (by omega), decide_eq_false h]
  rw [Op.equalIn]
  simp [go_sem, hc]
  by_cases h1 : a = b <;> cases c <;> cases d <;> simp [h1]
theorem eq_d (w : World) (a b : Nat) : (Op.equalIn 10000 38 (.agg #[.int .u16 a]) (.agg #[.int .u16 b])).run Try.prog w = .ok (decide (a = b)) w := by
  have hc : ((a : Int) == (b : Int)) = decide (a = b) := by
    by_cases h : a = b
    · simp [h]
    · rw [beq_false_of_ne (by omega), decide_eq_false h]
  rw [Op.equalIn]
  simp [go_sem, hc]
  by_cases h1 : a = b <;> simp [h1]
theorem fold {g B : Nat} {w w1 w2 : World} (h : Ch Nw w w1) (hg : B ≤ g) (hB : w.heap.size = B) (h2 : Ch (one g) w1 w2) : Ch Nw w w2 := h.trans' h2 fun j hj e => by
  simp only [one] at e
  omega
theorem wakes_any (w : World) : Ret Try.prog 5 #[] w fun v' w' => v' = .bool true ∧ Ch Nw w w' := by
  refine v_enter Try.func5 Try.ntmps5 rfl (by simp) fun R' hR => ?_
  generalize hq : w.heap.size = g
  simp [go_sem]
  refine (new_any w).mono ?_
  rintro _ w1 ⟨rfl, h1, c1⟩
  rw [hq] at h1 ⊢
  simp [go_sem]
  refine (open_any g (.file 3 false) tb0 w1 rfl h1).mono ?_
  rw [show tb0.findIdx? (· == none) = some 0 by decide]
  rintro _ w2 ⟨rfl, h2, c2⟩
  have c2 := fold c1 (Nat.le_refl _) hq c2
  simp [go_sem]
  refine (open_any g (.dir 4) _ w2 rfl h2).mono ?_
  rw [show (tb0.set 0 (some (.file 3 false))).findIdx? (· == none) = some 1 by decide]
  rintro _ w3 ⟨rfl, h3, c3⟩
  have c3 := fold c2 (Nat.le_refl _) hq c3
  simp [go_sem]
  refine (close_any g 0 _ w3 rfl h3).mono ?_
  rintro _ w4 ⟨rfl, h4, c4⟩
  have c4 := fold c3 (Nat.le_refl _) hq c4
  obtain ⟨l4, hl4⟩ : ∃ l, l = (if (handleS ((tb0.set 0 (some (Hd.file 3 false))).set 1 (some (Hd.dir 4))) 0).2 = 0 then ((tb0.set 0 (some (Hd.file 3 false))).set 1 (some (Hd.dir 4))).set (Int.toNat 0) none else (tb0.set 0 (some (Hd.file 3 false))).set 1 (some (Hd.dir 4))) := ⟨_, rfl⟩
  rw [← hl4] at h4
  have hl4' : l4 = tb0.set 1 (some (.dir 4)) := by rw [hl4]; decide
  have e4 : (handleS ((tb0.set 0 (some (Hd.file 3 false))).set 1 (some (Hd.dir 4))) 0).2 = 0 := by decide
  clear hl4
  subst hl4'
  simp [go_sem, e4]
  refine (open_any g (.dir 5) _ w4 rfl h4).mono ?_
  rw [show (tb0.set 1 (some (.dir 4))).findIdx? (· == none) = some 0 by decide]
  rintro _ w5 ⟨rfl, h5, c5⟩
  have c5 := fold c4 (Nat.le_refl _) hq c5
  have t5 : PTb w5 (.pointer (some ⟨g, 0, none⟩)) (handleS ((tb0.set 1 (some (.dir 4))).set 0 (some (.dir 5)))) := .inl ⟨g, _, rfl, rfl, h5, rfl⟩
  simp [go_sem]
  refine (file_p 1 t5).mono ?_
  rintro _ w6 ⟨rfl, c6⟩
  have hf : fileS (handleS ((tb0.set 1 (some (.dir 4))).set 0 (some (.dir 5))) 1) = (0, false, 25) := by decide
  rw [hf]
  have k6 := hp_alloc w6 (.cells #[.int .u16 0, .bool false] 36)
  have c6' := c6.alloc (.cells #[.int .u16 0, .bool false] 36)
  simp [go_sem, fcs, fun i => cell_blk k6 i, fun i => frz_blk k6 i]
  have t6 := t5.ch c6'
  revert c6' t6
  generalize w6.alloc (.cells #[.int .u16 0, .bool false] 36) = w7
  intro c7 t7
  refine (obj_p 1 t7).mono ?_
  rintro _ w8 ⟨rfl, c8⟩
  rw [show objS (handleS ((tb0.set 1 (some (.dir 4))).set 0 (some (.dir 5))) 1) = (4, 0) by decide]
  have k8 := (c7.trans c8).hp h5 id
  simp [go_sem]
  refine (full_any g _ w8 rfl k8).mono ?_
  rintro _ w9 ⟨rfl, hw⟩
  subst w9
  rw [show fullS ((tb0.set 1 (some (.dir 4))).set 0 (some (.dir 5))) 16 = false by decide]
  simp [go_sem]
  exact hR _ _ ⟨rfl, c5.trans (c7.trans c8)⟩
theorem nil_any (fd : Int) (num : Nat) (w : World) : Ret Try.prog 4 #[.int .i64 fd, .int .u16 num] w fun v' w' => v' = .bool true ∧ Ch Nw w w' := by
  refine v_enter Try.func4 Try.ntmps4 rfl (by simp) fun R' hR => ?_
  simp [go_sem]
  refine (open_nil _ w).mono ?_
  rintro _ w1 ⟨rfl, hw⟩
  subst w1
  have t0 : PTb w (.pointer none) (fun _ => (none, 2)) := .inr ⟨rfl, rfl⟩
  simp [go_sem]
  refine (file_p fd t0).mono ?_
  rintro _ w1 ⟨rfl, c1⟩
  rw [show fileS ((fun _ => (none, 2) : Int → Option Hd × Int) fd) = (0, false, 2) from rfl]
  have b8 := hp_alloc w1 (.cells #[.int .u16 0, .bool false] 36)
  have c8 := c1.alloc (.cells #[.int .u16 0, .bool false] 36)
  simp [go_sem, fcs, fun i => cell_blk b8 i, fun i => frz_blk b8 i]
  revert b8 c8
  generalize w1.alloc (.cells #[.int .u16 0, .bool false] 36) = w2
  generalize w1.heap.size = q8
  intro b8 c8
  refine (dir_p fd (t0.ch c8)).mono ?_
  rintro _ w3 ⟨rfl, c3⟩
  rw [show dirS ((fun _ => (none, 2) : Int → Option Hd × Int) fd) = (0, 2) from rfl]
  have b8 := c3.hp b8 id
  have c9 := (c8.trans c3).alloc (.cells #[.int .u16 0] 38)
  have b9 := hp_alloc w3 (.cells #[.int .u16 0] 38)
  have b8 := ((Ch.refl Nw w3).alloc (.cells #[.int .u16 0] 38)).hp b8 id
  simp [go_sem, dcs, fun i => cell_blk b9 i, fun i => frz_blk b9 i]
  revert b9 b8 c9
  generalize w3.alloc (.cells #[.int .u16 0] 38) = w4
  generalize w3.heap.size = q9
  intro c9 b9 b8
  refine (obj_p fd (t0.ch c9)).mono ?_
  rintro _ w5 ⟨rfl, c5⟩
  rw [show objS ((fun _ => (none, 2) : Int → Option Hd × Int) fd) = (0, 2) from rfl]
  have b8 := c5.hp b8 id
  have b9 := c5.hp b9 id
  simp [go_sem, fun i => cell_blk b8 i, fun i => cell_blk b9 i, fun w => eq_f w 0 0 false false, fun w => eq_d w 0 0]
  refine (close_nil fd w5).mono ?_
  rintro _ w6 ⟨rfl, hw⟩
  subst w6
  simp [go_sem, fun i => cell_blk b8 i, fun i => cell_blk b9 i, fun w => eq_f w 0 0 false false, fun w => eq_d w 0 0]
  refine (count_p num (t0.ch (c9.trans c5))).mono ?_
  rintro _ w6 ⟨rfl, c6⟩
  have hz : ∀ k, cntS (fun _ => (none, 2) : Int → Option Hd × Int) num k = 0 := by
    intro k
    induction k with
    | zero => rfl
    | succ k ih => unfold cntS; rw [ih]; rfl
  rw [hz]
  simp [go_sem]
  refine (full_nil w6).mono ?_
  rintro _ w7 ⟨rfl, hw⟩
  subst w7
  simp [go_sem]
  refine (wakes_any w6).mono ?_
  rintro _ w7 ⟨rfl, c7⟩
  simp [go_sem]
  exact hR _ _ ⟨rfl, ((c9.trans c5).trans c6).trans c7⟩
/-- a slot's cells -/
def slc : Option Hd → Array Value
  | none => #[.int .i64 0, .int .u16 0, .bool false]
  | some (.file n b) => #[.int .i64 1, .int .u16 n, .bool b]
  | some (.dir n) => #[.int .i64 2, .int .u16 n, .bool false]
theorem slc_size (l : Tb) : ∀ x ∈ l, (slc x).size = 3 := by
  rintro (_ | _ | _) _ <;> rfl
theorem alike_out (p : Value) (B : Nat) (fd : Int) (l : Tb) (w : World) (hl : l.length = 16) (t : PTb w p (handleS l)) (hB : w.heap[B]? = some (.cells (rowsOf slc l) 31 (0, 0))) (ho : fd < 0 ∨ 16 ≤ fd) :
    Ret Try.prog 9 #[p, .slice (some ⟨B, 0, none⟩) 16 16, .int .i64 fd] w fun v' w' => v' = .bool true ∧ Ch Nw w w' := by
  refine v_enter Try.func9 Try.ntmps9 rfl (by simp) fun R' hR => ?_
  have hr : handleS l fd = (none, 22) := by unfold handleS; rw [if_neg (by omega)]
  simp [go_sem]
  refine (file_p fd t).mono ?_
  rintro _ w1 ⟨rfl, c1⟩
  rw [hr, show fileS (none, 22) = (0, false, 22) from rfl]
  have b7 := hp_alloc w1 (.cells #[.int .u16 0, .bool false] 36)
  have c7 := c1.alloc (.cells #[.int .u16 0, .bool false] 36)
  simp [go_sem, fcs, fun i => cell_blk b7 i, fun i => frz_blk b7 i]
  revert b7 c7
  generalize w1.alloc (.cells #[.int .u16 0, .bool false] 36) = w2
  generalize w1.heap.size = q7
  intro b7 c7
  refine (dir_p fd (t.ch c7)).mono ?_
  rintro _ w3 ⟨rfl, c3⟩
  rw [hr, show dirS (none, 22) = (0, 22) from rfl]
  have b7 := c3.hp b7 id
  have c9 := (c7.trans c3).alloc (.cells #[.int .u16 0] 38)
  have b9 := hp_alloc w3 (.cells #[.int .u16 0] 38)
  have b7 := ((Ch.refl Nw w3).alloc (.cells #[.int .u16 0] 38)).hp b7 id
  simp [go_sem, dcs, fun i => cell_blk b9 i, fun i => frz_blk b9 i]
  revert b9 b7 c9
  generalize w3.alloc (.cells #[.int .u16 0] 38) = w4
  generalize w3.heap.size = q9
  intro c9 b9 b7
  refine (obj_p fd (t.ch c9)).mono ?_
  rintro _ w5 ⟨rfl, c5⟩
  rw [hr, show objS (none, 22) = (0, 22) from rfl]
  have b7 := c5.hp b7 id
  have b9 := c5.hp b9 id
  have hB := (c9.trans c5).hp hB id
  have cw := c9.trans c5
  by_cases h0 : fd < 0
  · simp [go_sem, h0, fun i => cell_blk b7 i, fun i => cell_blk b9 i, fun w => eq_f w 0 0 false false, fun w => eq_d w 0 0]
    exact hR _ _ ⟨rfl, cw⟩
  · have h16 : 16 ≤ fd := by omega
    simp [go_sem, h0, h16, fun i => cell_blk b7 i, fun i => cell_blk b9 i, fun w => eq_f w 0 0 false false, fun w => eq_d w 0 0]
    exact hR _ _ ⟨rfl, cw⟩
theorem alike_none (p : Value) (B : Nat) (k : Nat) (l : Tb) (w : World) (hl : l.length = 16) (t : PTb w p (handleS l)) (hB : w.heap[B]? = some (.cells (rowsOf slc l) 31 (0, 0))) (hx : l[k]? = some (none)) :
    Ret Try.prog 9 #[p, .slice (some ⟨B, 0, none⟩) 16 16, .int .i64 k] w fun v' w' => v' = .bool true ∧ Ch Nw w w' := by
  refine v_enter Try.func9 Try.ntmps9 rfl (by simp) fun R' hR => ?_
  have hk : k < 16 := by rw [← hl]; exact (List.getElem?_eq_some_iff.1 hx).1
  obtain ⟨fd, hfd⟩ : ∃ fd : Int, fd = k := ⟨_, rfl⟩
  have hr : handleS l fd = (none, 22) := by
    subst hfd
    unfold handleS
    rw [if_pos (by omega), Int.toNat_natCast, hx]
  rw [← hfd]
  simp [go_sem]
  refine (file_p fd t).mono ?_
  rintro _ w1 ⟨rfl, c1⟩
  rw [hr, show fileS (none, 22) = (0, false, 22) from rfl]
  have b7 := hp_alloc w1 (.cells #[.int .u16 0, .bool false] 36)
  have c7 := c1.alloc (.cells #[.int .u16 0, .bool false] 36)
  simp [go_sem, fcs, fun i => cell_blk b7 i, fun i => frz_blk b7 i]
  revert b7 c7
  generalize w1.alloc (.cells #[.int .u16 0, .bool false] 36) = w2
  generalize w1.heap.size = q7
  intro b7 c7
  refine (dir_p fd (t.ch c7)).mono ?_
  rintro _ w3 ⟨rfl, c3⟩
  rw [hr, show dirS (none, 22) = (0, 22) from rfl]
  have b7 := c3.hp b7 id
  have c9 := (c7.trans c3).alloc (.cells #[.int .u16 0] 38)
  have b9 := hp_alloc w3 (.cells #[.int .u16 0] 38)
  have b7 := ((Ch.refl Nw w3).alloc (.cells #[.int .u16 0] 38)).hp b7 id
  simp [go_sem, dcs, fun i => cell_blk b9 i, fun i => frz_blk b9 i]
  revert b9 b7 c9
  generalize w3.alloc (.cells #[.int .u16 0] 38) = w4
  generalize w3.heap.size = q9
  intro c9 b9 b7
  refine (obj_p fd (t.ch c9)).mono ?_
  rintro _ w5 ⟨rfl, c5⟩
  rw [hr, show objS (none, 22) = (0, 22) from rfl]
  have b7 := c5.hp b7 id
  have b9 := c5.hp b9 id
  have hB := (c9.trans c5).hp hB id
  have cw := c9.trans c5
  have h0 : ¬ fd < 0 := by omega
  have h16 : ¬ 16 ≤ fd := by omega
  have hlt : fd < 16 := by omega
  have s0 := (cell_blk hB (k * 3 + 0)).trans (rows_at (i := 0) (u := .int .i64 0) (slc_size l) hx rfl)
  have s1 := (cell_blk hB (k * 3 + 1)).trans (rows_at (i := 1) (u := .int .u16 0) (slc_size l) hx rfl)
  have s2 := (cell_blk hB (k * 3 + 2)).trans (rows_at (i := 2) (u := .bool false) (slc_size l) hx rfl)
  simp only [Nat.add_zero] at s0
  subst hfd
  simp [go_sem, h0, h16, hlt, hk, s0, s1, s2, fun i => cell_blk b7 i, fun i => cell_blk b9 i, fun w => eq_f w 0 0 false false, fun w => eq_d w 0 0]
  exact hR _ _ ⟨rfl, cw⟩
theorem alike_file (p : Value) (B : Nat) (k : Nat) (n : Nat) (b : Bool) (l : Tb) (w : World) (hl : l.length = 16) (t : PTb w p (handleS l)) (hB : w.heap[B]? = some (.cells (rowsOf slc l) 31 (0, 0))) (hx : l[k]? = some (some (.file n b))) :
    Ret Try.prog 9 #[p, .slice (some ⟨B, 0, none⟩) 16 16, .int .i64 k] w fun v' w' => v' = .bool true ∧ Ch Nw w w' := by
  refine v_enter Try.func9 Try.ntmps9 rfl (by simp) fun R' hR => ?_
  have hk : k < 16 := by rw [← hl]; exact (List.getElem?_eq_some_iff.1 hx).1
  obtain ⟨fd, hfd⟩ : ∃ fd : Int, fd = k := ⟨_, rfl⟩
  have hr : handleS l fd = (some (.file n b), 0) := by
    subst hfd
    unfold handleS
    rw [if_pos (by omega), Int.toNat_natCast, hx]
  rw [← hfd]
  simp [go_sem]
  refine (file_p fd t).mono ?_
  rintro _ w1 ⟨rfl, c1⟩
  rw [hr, show fileS (some (.file n b), 0) = (n, b, 0) from rfl]
  have b7 := hp_alloc w1 (.cells #[.int .u16 n, .bool b] 36)
  have c7 := c1.alloc (.cells #[.int .u16 n, .bool b] 36)
  simp [go_sem, fcs, fun i => cell_blk b7 i, fun i => frz_blk b7 i]
  revert b7 c7
  generalize w1.alloc (.cells #[.int .u16 n, .bool b] 36) = w2
  generalize w1.heap.size = q7
  intro b7 c7
  refine (dir_p fd (t.ch c7)).mono ?_
  rintro _ w3 ⟨rfl, c3⟩
  rw [hr, show dirS (some (.file n b), 0) = (0, 24) from rfl]
  have b7 := c3.hp b7 id
  have c9 := (c7.trans c3).alloc (.cells #[.int .u16 0] 38)
  have b9 := hp_alloc w3 (.cells #[.int .u16 0] 38)
  have b7 := ((Ch.refl Nw w3).alloc (.cells #[.int .u16 0] 38)).hp b7 id
  simp [go_sem, dcs, fun i => cell_blk b9 i, fun i => frz_blk b9 i]
  revert b9 b7 c9
  generalize w3.alloc (.cells #[.int .u16 0] 38) = w4
  generalize w3.heap.size = q9
  intro c9 b9 b7
  refine (obj_p fd (t.ch c9)).mono ?_
  rintro _ w5 ⟨rfl, c5⟩
  rw [hr, show objS (some (.file n b), 0) = (n, 0) from rfl]
  have b7 := c5.hp b7 id
  have b9 := c5.hp b9 id
  have hB := (c9.trans c5).hp hB id
  have cw := c9.trans c5
  have h0 : ¬ fd < 0 := by omega
  have h16 : ¬ 16 ≤ fd := by omega
  have hlt : fd < 16 := by omega
  have s0 := (cell_blk hB (k * 3 + 0)).trans (rows_at (i := 0) (u := .int .i64 1) (slc_size l) hx rfl)
  have s1 := (cell_blk hB (k * 3 + 1)).trans (rows_at (i := 1) (u := .int .u16 n) (slc_size l) hx rfl)
  have s2 := (cell_blk hB (k * 3 + 2)).trans (rows_at (i := 2) (u := .bool b) (slc_size l) hx rfl)
  simp only [Nat.add_zero] at s0
  subst hfd
  have bM := hp_alloc w5 (.cells #[.int .i64 1, .int .u16 n, .bool b] 31)
  have b7' := ((Ch.refl Nw w5).alloc (.cells #[.int .i64 1, .int .u16 n, .bool b] 31)).hp b7 id
  have b9' := ((Ch.refl Nw w5).alloc (.cells #[.int .i64 1, .int .u16 n, .bool b] 31)).hp b9 id
  simp [go_sem, h0, h16, hlt, hk, s0, s1, s2, fun i => cell_blk b7' i, fun i => cell_blk b9' i, fun i => cell_blk bM i, fun w a b => eq_f w a a b b, fun w a => eq_d w a a]
  exact hR _ _ ⟨rfl, cw.alloc _⟩
theorem alike_dir (p : Value) (B : Nat) (k : Nat) (n : Nat) (l : Tb) (w : World) (hl : l.length = 16) (t : PTb w p (handleS l)) (hB : w.heap[B]? = some (.cells (rowsOf slc l) 31 (0, 0))) (hx : l[k]? = some (some (.dir n))) :
    Ret Try.prog 9 #[p, .slice (some ⟨B, 0, none⟩) 16 16, .int .i64 k] w fun v' w' => v' = .bool true ∧ Ch Nw w w' := by
  refine v_enter Try.func9 Try.ntmps9 rfl (by simp) fun R' hR => ?_
  have hk : k < 16 := by rw [← hl]; exact (List.getElem?_eq_some_iff.1 hx).1
  obtain ⟨fd, hfd⟩ : ∃ fd : Int, fd = k := ⟨_, rfl⟩
  have hr : handleS l fd = (some (.dir n), 0) := by
    subst hfd
    unfold handleS
    rw [if_pos (by omega), Int.toNat_natCast, hx]
  rw [← hfd]
  simp [go_sem]
  refine (file_p fd t).mono ?_
  rintro _ w1 ⟨rfl, c1⟩
  rw [hr, show fileS (some (.dir n), 0) = (0, false, 25) from rfl]
  have b7 := hp_alloc w1 (.cells #[.int .u16 0, .bool false] 36)
  have c7 := c1.alloc (.cells #[.int .u16 0, .bool false] 36)
  simp [go_sem, fcs, fun i => cell_blk b7 i, fun i => frz_blk b7 i]
  revert b7 c7
  generalize w1.alloc (.cells #[.int .u16 0, .bool false] 36) = w2
  generalize w1.heap.size = q7
  intro b7 c7
  refine (dir_p fd (t.ch c7)).mono ?_
  rintro _ w3 ⟨rfl, c3⟩
  rw [hr, show dirS (some (.dir n), 0) = (n, 0) from rfl]
  have b7 := c3.hp b7 id
  have c9 := (c7.trans c3).alloc (.cells #[.int .u16 n] 38)
  have b9 := hp_alloc w3 (.cells #[.int .u16 n] 38)
  have b7 := ((Ch.refl Nw w3).alloc (.cells #[.int .u16 n] 38)).hp b7 id
  simp [go_sem, dcs, fun i => cell_blk b9 i, fun i => frz_blk b9 i]
  revert b9 b7 c9
  generalize w3.alloc (.cells #[.int .u16 n] 38) = w4
  generalize w3.heap.size = q9
  intro c9 b9 b7
  refine (obj_p fd (t.ch c9)).mono ?_
  rintro _ w5 ⟨rfl, c5⟩
  rw [hr, show objS (some (.dir n), 0) = (n, 0) from rfl]
  have b7 := c5.hp b7 id
  have b9 := c5.hp b9 id
  have hB := (c9.trans c5).hp hB id
  have cw := c9.trans c5
  have h0 : ¬ fd < 0 := by omega
  have h16 : ¬ 16 ≤ fd := by omega
  have hlt : fd < 16 := by omega
  have s0 := (cell_blk hB (k * 3 + 0)).trans (rows_at (i := 0) (u := .int .i64 2) (slc_size l) hx rfl)
  have s1 := (cell_blk hB (k * 3 + 1)).trans (rows_at (i := 1) (u := .int .u16 n) (slc_size l) hx rfl)
  have s2 := (cell_blk hB (k * 3 + 2)).trans (rows_at (i := 2) (u := .bool false) (slc_size l) hx rfl)
  simp only [Nat.add_zero] at s0
  subst hfd
  have bM := hp_alloc w5 (.cells #[.int .i64 2, .int .u16 n, .bool false] 31)
  have b7' := ((Ch.refl Nw w5).alloc (.cells #[.int .i64 2, .int .u16 n, .bool false] 31)).hp b7 id
  have b9' := ((Ch.refl Nw w5).alloc (.cells #[.int .i64 2, .int .u16 n, .bool false] 31)).hp b9 id
  simp [go_sem, h0, h16, hlt, hk, s0, s1, s2, fun i => cell_blk b7' i, fun i => cell_blk b9' i, fun i => cell_blk bM i, fun w a b => eq_f w a a b b, fun w a => eq_d w a a]
  exact hR _ _ ⟨rfl, cw.alloc _⟩
end Go.Proofs.Ytfcoiboeohgimaa
