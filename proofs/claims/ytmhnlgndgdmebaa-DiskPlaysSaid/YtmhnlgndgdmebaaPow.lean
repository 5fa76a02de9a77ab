/- Power that is shared: what package disk's On, Is, Fuse, Back, Step do, as contracts on calls. No condition. -/
import Derived.Test.YtmhnlgndgdmebaaChecked
import Derived.Test.YtmhnlgndgdmebaaAgg
namespace Go.Proofs.Ytmhnlgndgdmebaa
open Go.RowKit Go.Kin

/-- block g is power: off, and its fuse -/
def Pw (w : World) (g : Nat) (off : Bool) (fuse : Int) : Prop := w.heap[g]? = some (.cells #[.bool off, .int .i64 fuse] 107 (0, 0))
theorem Pw.ch {S : Nat → Prop} {w w' : World} {g : Nat} {off : Bool} {fuse : Int} (h : Pw w g off fuse) (hc : Ch S w w') (hn : ¬ S g) : Pw w' g off fuse := hc.obj h hn
theorem Pw.lt {w : World} {g : Nat} {off : Bool} {fuse : Int} (h : Pw w g off fuse) : g < w.heap.size := lt_of_block h

theorem on_any (w : World) : Ret Try.prog 20 #[] w fun v' w' => v' = .pointer (some ⟨w.heap.size, 0, none⟩) ∧ Pw w' w.heap.size false (-1) ∧ Ch Nw w w' ∧ w'.heap.size = w.heap.size + 1 := by
  refine v_enter Try.func20 Try.ntmps20 rfl (by simp) fun R' hR => ?_
  simp [go_sem]
  exact hR _ _ ⟨rfl, heap_alloc_new w _, (Ch.refl Nw w).alloc _, by simp⟩
theorem is_nil (w : World) : Ret Try.prog 23 #[.pointer none] w fun v' w' => v' = .bool false ∧ w' = w := by
  refine v_enter Try.func23 Try.ntmps23 rfl (by simp) fun R' hR => ?_
  simp [go_sem]
  exact hR _ _ ⟨rfl, rfl⟩
theorem is_any (g : Nat) (off : Bool) (fuse : Int) (w : World) (h : Pw w g off fuse) : Ret Try.prog 23 #[.pointer (some ⟨g, 0, none⟩)] w fun v' w' => v' = .bool (!off) ∧ w' = w := by
  have h0 := cell_blk h 0
  refine v_enter Try.func23 Try.ntmps23 rfl (by simp) fun R' hR => ?_
  simp [go_sem, h0]
  exact hR _ _ ⟨rfl, rfl⟩
theorem fuse_nil (n : Int) (w : World) : Ret Try.prog 21 #[.pointer none, .int .i64 n] w fun v' w' => v' = .tuple #[] ∧ w' = w := by
  refine v_enter Try.func21 Try.ntmps21 rfl (by simp) fun R' hR => ?_
  simp [go_sem]
  refine (is_nil w).mono ?_
  rintro _ w ⟨rfl, rfl⟩
  simp [go_sem]
  exact hR _ _ ⟨rfl, rfl⟩
theorem fuse_any (g : Nat) (off : Bool) (fuse n : Int) (w : World) (h : Pw w g off fuse) : Ret Try.prog 21 #[.pointer (some ⟨g, 0, none⟩), .int .i64 n] w fun v' w' =>
    v' = .tuple #[] ∧ Pw w' g off (if off then fuse else if n < -1 then -1 else n) ∧ Ch (one g) w w' ∧ w'.heap.size = w.heap.size := by
  have h1 := cell_blk h 1
  have hf := frz_blk h 1
  refine v_enter Try.func21 Try.ntmps21 rfl (by simp) fun R' hR => ?_
  simp [go_sem]
  refine (is_any g off fuse w h).mono ?_
  rintro _ w ⟨rfl, rfl⟩
  cases off
  · simp [go_sem, h1, hf]
    refine hR _ _ ⟨rfl, ?_, (Ch.refl (one g) _).setCell (p := ⟨g, 1, none⟩) (.inl rfl) _, by simp [World.setCell]⟩
    unfold Pw
    rw [hp_setCell, h, setOf_cells]
    simp
  · simp [go_sem]
    exact hR _ _ ⟨rfl, h, Ch.refl _ _, rfl⟩
theorem back_nil (w : World) : Ret Try.prog 22 #[.pointer none] w fun v' w' => v' = .tuple #[] ∧ w' = w := by
  refine v_enter Try.func22 Try.ntmps22 rfl (by simp) fun R' hR => ?_
  simp [go_sem]
  exact hR _ _ ⟨rfl, rfl⟩
theorem back_any (g : Nat) (off : Bool) (fuse : Int) (w : World) (h : Pw w g off fuse) : Ret Try.prog 22 #[.pointer (some ⟨g, 0, none⟩)] w fun v' w' =>
    v' = .tuple #[] ∧ Pw w' g false (-1) ∧ Ch (one g) w w' ∧ w'.heap.size = w.heap.size := by
  have h0 := cell_blk h
  have hf := frz_blk h
  refine v_enter Try.func22 Try.ntmps22 rfl (by simp) fun R' hR => ?_
  have e1 : (w.setCell ⟨g, 0, none⟩ (.bool false)).heap[g]? = some (.cells #[.bool false, .int .i64 fuse] 107 (0, 0)) := by rw [hp_setCell, h, setOf_cells]; simp
  have h1 := cell_blk e1
  have hf1 := frz_blk e1
  simp [go_sem, h0, hf, h1, hf1]
  refine hR _ _ ⟨rfl, ?_, ((Ch.refl (one g) _).setCell (p := ⟨g, 0, none⟩) (.inl rfl) _).setCell (p := ⟨g, 1, none⟩) (.inl rfl) _, by simp [World.setCell]⟩
  unfold Pw
  rw [hp_setCell, e1, setOf_cells]
  simp
/-- a step: was it made; what power is behind it -/
def stepS (off : Bool) (fuse : Int) : Bool × Bool × Int := if off then (false, true, fuse) else if fuse = 0 then (false, true, -1) else if 0 < fuse then (true, false, fuse - 1) else (true, false, fuse)
theorem step_nil (w : World) : Ret Try.prog 35 #[.pointer none] w fun v' w' => v' = .bool false ∧ w' = w := by
  refine v_enter Try.func35 Try.ntmps35 rfl (by simp) fun R' hR => ?_
  simp [go_sem]
  refine (is_nil w).mono ?_
  rintro _ w ⟨rfl, rfl⟩
  simp [go_sem]
  exact hR _ _ ⟨rfl, rfl⟩
theorem step_any (g : Nat) (off : Bool) (fuse : Int) (w : World) (h : Pw w g off fuse) (hm : fuse ≤ 9223372036854775807) : Ret Try.prog 35 #[.pointer (some ⟨g, 0, none⟩)] w fun v' w' =>
    v' = .bool (stepS off fuse).1 ∧ Pw w' g (stepS off fuse).2.1 (stepS off fuse).2.2 ∧ Ch (one g) w w' ∧ w'.heap.size = w.heap.size := by
  have h0 := cell_blk h
  have hf := frz_blk h
  refine v_enter Try.func35 Try.ntmps35 rfl (by simp) fun R' hR => ?_
  simp [go_sem]
  refine (is_any g off fuse w h).mono ?_
  rintro _ w ⟨rfl, rfl⟩
  cases off
  · by_cases hz : fuse = 0
    · subst hz
      have e1 : (w.setCell ⟨g, 0, none⟩ (.bool true)).heap[g]? = some (.cells #[.bool true, .int .i64 0] 107 (0, 0)) := by rw [hp_setCell, h, setOf_cells]; simp
      have h1 := cell_blk e1
      have hf1 := frz_blk e1
      simp [go_sem, h0, hf, h1, hf1]
      refine hR _ _ ⟨rfl, ?_, ((Ch.refl (one g) _).setCell (p := ⟨g, 0, none⟩) (.inl rfl) _).setCell (p := ⟨g, 1, none⟩) (.inl rfl) _, by simp [World.setCell]⟩
      unfold Pw
      rw [hp_setCell, e1, setOf_cells]
      simp [stepS]
    · have hz' : (fuse == 0) = false := by simpa using hz
      by_cases hp : 0 < fuse
      · have hw : IntKind.i64.wrap (fuse - 1) = fuse - 1 := by simp [IntKind.wrap_i64]; omega
        simp [go_sem, h0, hf, hz', hp, hw]
        refine hR _ _ ⟨by simp [stepS, hz, hp], ?_, (Ch.refl (one g) _).setCell (p := ⟨g, 1, none⟩) (.inl rfl) _, by simp [World.setCell]⟩
        unfold Pw
        rw [hp_setCell, h, setOf_cells]
        simp [stepS, hz, hp]
      · simp [go_sem, h0, hz', hp]
        exact hR _ _ ⟨by simp [stepS, hz, hp], by simpa [stepS, hz, hp] using h, Ch.refl _ _, rfl⟩
  · simp [go_sem]
    exact hR _ _ ⟨by simp [stepS], by simpa [stepS] using h, Ch.refl _ _, rfl⟩
end Go.Proofs.Ytmhnlgndgdmebaa
