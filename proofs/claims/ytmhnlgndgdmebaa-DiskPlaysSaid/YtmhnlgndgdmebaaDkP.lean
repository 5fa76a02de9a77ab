/- DiskNil, DiskPower. No condition. -/
import Derived.Test.YtmhnlgndgdmebaaDkN
namespace Go.Proofs.Ytmhnlgndgdmebaa
open Go.RowKit Go.Kin

theorem fault_nil (a : Nat) (f : Value) (w : World) : Ret Try.prog 62 #[.pointer none, .int .u16 a, f] w fun v' w' => v' = .int .i64 2 ∧ Ch Nw w w' := by
  refine v_enter Try.func62 Try.ntmps62 rfl (by simp) fun R' hR => ?_
  simp [go_sem]
  exact hR _ _ ⟨rfl, (Ch.refl Nw w).alloc _⟩
theorem bad_nil (a : Nat) (w : World) : Ret Try.prog 40 #[.pointer none, .int .u16 a] w fun v' w' => v' = .int .i64 2 ∧ Ch Nw w w' := by
  refine v_enter Try.func40 Try.ntmps40 rfl (by simp) fun R' hR => ?_
  simp [go_sem]
  refine (fault_nil a _ _).mono ?_
  rintro _ w1 ⟨rfl, c1⟩
  simp [go_sem]
  exact hR _ _ ⟨rfl, (((Ch.refl Nw w).alloc _).alloc _).trans c1⟩
theorem stick_nil (a : Nat) (w : World) : Ret Try.prog 41 #[.pointer none, .int .u16 a] w fun v' w' => v' = .int .i64 2 ∧ Ch Nw w w' := by
  refine v_enter Try.func41 Try.ntmps41 rfl (by simp) fun R' hR => ?_
  simp [go_sem]
  refine (fault_nil a _ _).mono ?_
  rintro _ w1 ⟨rfl, c1⟩
  simp [go_sem]
  exact hR _ _ ⟨rfl, (((Ch.refl Nw w).alloc _).alloc _).trans c1⟩
theorem rot_nil (a : Nat) {v : Value} (hv : ∃ A n c, v = .slice A n c) (w : World) : Ret Try.prog 39 #[.pointer none, .int .u16 a, v] w fun v' w' => v' = .int .i64 2 ∧ Ch Nw w w' := by
  obtain ⟨A, n, c, rfl⟩ := hv
  refine v_enter Try.func39 Try.ntmps39 rfl (by simp) fun R' hR => ?_
  simp [go_sem]
  refine (fault_nil a _ _).mono ?_
  rintro _ w1 ⟨rfl, c1⟩
  simp [go_sem]
  exact hR _ _ ⟨rfl, ((((Ch.refl Nw w).alloc _).alloc _).alloc _).trans c1⟩
theorem look_nil (a : Nat) (w : World) : Ret Try.prog 31 #[.pointer none, .int .u16 a] w fun v' w' => v' = .tuple #[.slice none 0 0, .bool false] ∧ Ch Nw w w' := by
  refine v_enter Try.func31 Try.ntmps31 rfl (by simp) fun R' hR => ?_
  simp [go_sem]
  refine v_draw' [(0, none), (1, some []), (2, none), (3, none), (4, none), (5, some []), (6, none), (7, none), (8, none), (9, none), (10, none), (11, none), (12, none), (13, none), (14, none), (15, none)] (by kernel_rfl) (by kernel_rfl) ?_
  have hc := ((((Ch.refl Nw w).alloc (.cells #[.int .u16 a] 24)).alloc (.cells #[.slice none 0 0] 60)).alloc (.cells #[.bool false] 4))
  have b4 := al3_1 w (.cells #[.int .u16 a] 24) (.cells #[.slice none 0 0] 60) (.cells #[.bool false] 4)
  have b5 := al3_2 w (.cells #[.int .u16 a] 24) (.cells #[.slice none 0 0] 60) (.cells #[.bool false] 4)
  revert hc b4 b5
  generalize ((w.alloc (.cells #[.int .u16 a] 24)).alloc (.cells #[.slice none 0 0] 60)).alloc (.cells #[.bool false] 4) = w1
  generalize hq : w.heap.size = q
  intro hc b4 b5
  have b5 : w1.heap[q + 1 + 1]? = some (.cells #[.bool false] 4 (0, 0)) := b5
  have z4 := fun i => frz_blk b4 i
  have z5 := fun i => frz_blk b5 i
  have e4 := fun i => cell_blk b4 i
  have e5 := fun i => cell_blk b5 i
  simp [go_sem]
  refine (dead_nil w1.drew).mono ?_
  rintro _ w2 ⟨rfl, rfl⟩
  simp [go_sem, z4, z5, e4, e5]
  exact hR _ _ ⟨rfl, ((hc.setCell (p := ⟨q + 1, 0, none⟩) (.inr (by simp only; omega)) _).setCell (p := ⟨q + 1 + 1, 0, none⟩) (.inr (by simp only; omega)) _).drew⟩
theorem nil_any (z0 : Int) (z1 : Nat) (v : Value) (b : Byts) (W : World) (hs : Sl W v b.length (bvs b)) : Ret Try.prog 10 #[.int .i64 z0, .int .u16 z1, v] W fun v' w' => v' = .bool true ∧ Ch Nw W w' := by
  refine v_enter Try.func10 Try.ntmps10 rfl (by simp) fun R' hR => ?_
  have hln := hs.len Try.underlying60 3
  obtain ⟨A, c, hv, _⟩ := id hs
  by_cases h6 : (600 : Int) < (b.length : Int)
  · simp [go_sem, hln, h6]
    refine (wakes_any W).mono ?_
    rintro _ w1 ⟨rfl, c1⟩
    simp [go_sem]
    exact hR _ _ ⟨rfl, c1⟩
  simp [go_sem, hln, h6]
  refine (fuse_nil 3 _).mono ?_
  rintro _ w1 ⟨rfl, hw1⟩
  have c1 : Ch Nw W w1 := by rw [hw1]; exact (Ch.refl Nw W)
  clear hw1
  simp [go_sem]
  refine (back_nil _).mono ?_
  rintro _ w2 ⟨rfl, hw2⟩
  have c2 : Ch Nw W w2 := by rw [hw2]; exact c1
  clear hw2
  simp [go_sem]
  refine (lose_nil _).mono ?_
  rintro _ w3 ⟨rfl, hw3⟩
  have c3 : Ch Nw W w3 := by rw [hw3]; exact c2
  clear hw3
  simp [go_sem]
  refine (astray_nil z1 _).mono ?_
  rintro _ w4 ⟨rfl, c4⟩
  have c4 := c3.trans c4
  simp [go_sem]
  refine (die_nil _).mono ?_
  rintro _ w5 ⟨rfl, hw5⟩
  have c5 : Ch Nw W w5 := by rw [hw5]; exact c4
  clear hw5
  simp [go_sem]
  refine (crash_nil _ _).mono ?_
  rintro _ w6 ⟨rfl, hw6⟩
  have c6 : Ch Nw W w6 := by rw [hw6]; exact c5.alloc _
  clear hw6
  simp [go_sem]
  refine (new_nil z0 _).mono ?_
  rintro _ w7 ⟨rfl, hw7⟩
  have c7 : Ch Nw W w7 := by rw [hw7]; exact c6
  clear hw7
  simp [go_sem]
  refine (on_pw _).mono ?_
  rintro _ w8 ⟨rfl, h8, c8⟩
  have c8 := c7.trans c8
  simp [go_sem]
  rcases (show z0 < 1 ∨ ¬ z0 < 1 ∧ 4096 < z0 ∨ ¬ z0 < 1 ∧ ¬ 4096 < z0 by omega) with h1 | ⟨h1, h2⟩ | ⟨h1, h2⟩
  · refine (new_arg z0 _ w8 (.inl h1)).mono ?_
    rintro _ w9 ⟨rfl, hw9⟩
    have c9 : Ch Nw W w9 := by rw [hw9]; exact c8
    clear hw9
    simp [go_sem, h1]
    refine (read_nil z1 _).mono ?_
    rintro _ w10 ⟨rfl, hw10⟩
    have c10 : Ch Nw W w10 := by rw [hw10]; exact c9
    clear hw10
    simp [go_sem]
    refine (look_nil z1 _).mono ?_
    rintro _ w11 ⟨rfl, c11⟩
    have c11 := c10.trans c11
    simp [go_sem]
    refine (step_nil _).mono ?_
    rintro _ w12 ⟨rfl, hw12⟩
    have c12 : Ch Nw W w12 := by rw [hw12]; exact c11
    clear hw12
    simp [go_sem]
    refine (is_nil _).mono ?_
    rintro _ w13 ⟨rfl, hw13⟩
    have c13 : Ch Nw W w13 := by rw [hw13]; exact c12
    clear hw13
    simp [go_sem]
    refine (write_nil z1 v _).mono ?_
    rintro _ w14 ⟨rfl, hw14⟩
    have c14 : Ch Nw W w14 := by rw [hw14]; exact c13
    clear hw14
    simp [go_sem]
    refine (flush_nil _).mono ?_
    rintro _ w15 ⟨rfl, hw15⟩
    have c15 : Ch Nw W w15 := by rw [hw15]; exact c14
    clear hw15
    simp [go_sem]
    refine (rot_nil z1 ⟨_, _, _, hv⟩ _).mono ?_
    rintro _ w16 ⟨rfl, c16⟩
    have c16 := c15.trans c16
    simp [go_sem]
    refine (bad_nil z1 _).mono ?_
    rintro _ w17 ⟨rfl, c17⟩
    have c17 := c16.trans c17
    simp [go_sem]
    refine (stick_nil z1 _).mono ?_
    rintro _ w18 ⟨rfl, c18⟩
    have c18 := c17.trans c18
    simp [go_sem]
    refine (dead_nil _).mono ?_
    rintro _ w19 ⟨rfl, hw19⟩
    have c19 : Ch Nw W w19 := by rw [hw19]; exact c18
    clear hw19
    simp [go_sem]
    refine (blocks_nil _).mono ?_
    rintro _ w20 ⟨rfl, hw20⟩
    have c20 : Ch Nw W w20 := by rw [hw20]; exact c19
    clear hw20
    simp [go_sem]
    refine (cached_nil _).mono ?_
    rintro _ w21 ⟨rfl, hw21⟩
    have c21 : Ch Nw W w21 := by rw [hw21]; exact c20
    clear hw21
    simp [go_sem]
    refine (wakes_any _).mono ?_
    rintro _ w22 ⟨rfl, c22⟩
    have c22 := c21.trans c22
    simp [go_sem]
    exact hR _ _ ⟨rfl, c22⟩
  · refine (new_arg z0 _ w8 (.inr h2)).mono ?_
    rintro _ w9 ⟨rfl, hw9⟩
    have c9 : Ch Nw W w9 := by rw [hw9]; exact c8
    clear hw9
    simp [go_sem, h1, h2]
    refine (read_nil z1 _).mono ?_
    rintro _ w10 ⟨rfl, hw10⟩
    have c10 : Ch Nw W w10 := by rw [hw10]; exact c9
    clear hw10
    simp [go_sem]
    refine (look_nil z1 _).mono ?_
    rintro _ w11 ⟨rfl, c11⟩
    have c11 := c10.trans c11
    simp [go_sem]
    refine (step_nil _).mono ?_
    rintro _ w12 ⟨rfl, hw12⟩
    have c12 : Ch Nw W w12 := by rw [hw12]; exact c11
    clear hw12
    simp [go_sem]
    refine (is_nil _).mono ?_
    rintro _ w13 ⟨rfl, hw13⟩
    have c13 : Ch Nw W w13 := by rw [hw13]; exact c12
    clear hw13
    simp [go_sem]
    refine (write_nil z1 v _).mono ?_
    rintro _ w14 ⟨rfl, hw14⟩
    have c14 : Ch Nw W w14 := by rw [hw14]; exact c13
    clear hw14
    simp [go_sem]
    refine (flush_nil _).mono ?_
    rintro _ w15 ⟨rfl, hw15⟩
    have c15 : Ch Nw W w15 := by rw [hw15]; exact c14
    clear hw15
    simp [go_sem]
    refine (rot_nil z1 ⟨_, _, _, hv⟩ _).mono ?_
    rintro _ w16 ⟨rfl, c16⟩
    have c16 := c15.trans c16
    simp [go_sem]
    refine (bad_nil z1 _).mono ?_
    rintro _ w17 ⟨rfl, c17⟩
    have c17 := c16.trans c17
    simp [go_sem]
    refine (stick_nil z1 _).mono ?_
    rintro _ w18 ⟨rfl, c18⟩
    have c18 := c17.trans c18
    simp [go_sem]
    refine (dead_nil _).mono ?_
    rintro _ w19 ⟨rfl, hw19⟩
    have c19 : Ch Nw W w19 := by rw [hw19]; exact c18
    clear hw19
    simp [go_sem]
    refine (blocks_nil _).mono ?_
    rintro _ w20 ⟨rfl, hw20⟩
    have c20 : Ch Nw W w20 := by rw [hw20]; exact c19
    clear hw20
    simp [go_sem]
    refine (cached_nil _).mono ?_
    rintro _ w21 ⟨rfl, hw21⟩
    have c21 : Ch Nw W w21 := by rw [hw21]; exact c20
    clear hw21
    simp [go_sem]
    refine (wakes_any _).mono ?_
    rintro _ w22 ⟨rfl, c22⟩
    have c22 := c21.trans c22
    simp [go_sem]
    exact hR _ _ ⟨rfl, c22⟩
  · obtain ⟨n, rfl⟩ : ∃ n : Nat, z0 = n := ⟨z0.toNat, by omega⟩
    refine (new_any n _ w8 (by omega) (by omega)).mono ?_
    rintro _ w9 ⟨d, rfl, _, c9⟩
    have c9 := c8.trans c9
    simp [go_sem, h1, h2]
    refine (read_nil z1 _).mono ?_
    rintro _ w10 ⟨rfl, hw10⟩
    have c10 : Ch Nw W w10 := by rw [hw10]; exact c9
    clear hw10
    simp [go_sem]
    refine (look_nil z1 _).mono ?_
    rintro _ w11 ⟨rfl, c11⟩
    have c11 := c10.trans c11
    simp [go_sem]
    refine (step_nil _).mono ?_
    rintro _ w12 ⟨rfl, hw12⟩
    have c12 : Ch Nw W w12 := by rw [hw12]; exact c11
    clear hw12
    simp [go_sem]
    refine (is_nil _).mono ?_
    rintro _ w13 ⟨rfl, hw13⟩
    have c13 : Ch Nw W w13 := by rw [hw13]; exact c12
    clear hw13
    simp [go_sem]
    refine (write_nil z1 v _).mono ?_
    rintro _ w14 ⟨rfl, hw14⟩
    have c14 : Ch Nw W w14 := by rw [hw14]; exact c13
    clear hw14
    simp [go_sem]
    refine (flush_nil _).mono ?_
    rintro _ w15 ⟨rfl, hw15⟩
    have c15 : Ch Nw W w15 := by rw [hw15]; exact c14
    clear hw15
    simp [go_sem]
    refine (rot_nil z1 ⟨_, _, _, hv⟩ _).mono ?_
    rintro _ w16 ⟨rfl, c16⟩
    have c16 := c15.trans c16
    simp [go_sem]
    refine (bad_nil z1 _).mono ?_
    rintro _ w17 ⟨rfl, c17⟩
    have c17 := c16.trans c17
    simp [go_sem]
    refine (stick_nil z1 _).mono ?_
    rintro _ w18 ⟨rfl, c18⟩
    have c18 := c17.trans c18
    simp [go_sem]
    refine (dead_nil _).mono ?_
    rintro _ w19 ⟨rfl, hw19⟩
    have c19 : Ch Nw W w19 := by rw [hw19]; exact c18
    clear hw19
    simp [go_sem]
    refine (blocks_nil _).mono ?_
    rintro _ w20 ⟨rfl, hw20⟩
    have c20 : Ch Nw W w20 := by rw [hw20]; exact c19
    clear hw20
    simp [go_sem]
    refine (cached_nil _).mono ?_
    rintro _ w21 ⟨rfl, hw21⟩
    have c21 : Ch Nw W w21 := by rw [hw21]; exact c20
    clear hw21
    simp [go_sem]
    refine (wakes_any _).mono ?_
    rintro _ w22 ⟨rfl, c22⟩
    have c22 := c21.trans c22
    simp [go_sem]
    exact hR _ _ ⟨rfl, c22⟩
end Go.Proofs.Ytmhnlgndgdmebaa
