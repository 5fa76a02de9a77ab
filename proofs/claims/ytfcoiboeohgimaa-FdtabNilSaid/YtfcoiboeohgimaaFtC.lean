/- A table of descriptors: New, Open, Close, Count, Full. -/
import Derived.Test.YtfcoiboeohgimaaFtB
namespace Go.Proofs.Ytfcoiboeohgimaa
open Go.RowKit Go.Kin

def tb0 : Tb := List.replicate 16 none
theorem new_any (w : World) : Ret Try.prog 6 #[] w fun v' w' => v' = .pointer (some ⟨w.heap.size, 0, none⟩) ∧ w'.heap[w.heap.size]? = some (.cells (tb tb0) 52 (0, 0)) ∧ Ch Nw w w' := by
  refine v_enter Try.func6 Try.ntmps6 rfl (by simp) fun R' hR => ?_
  have hb : ∀ w K, VBld Try.prog 52 [] w K = K (.agg (tb tb0)) w := fun w K => VBld_struct Try.underlying52 (by kernel_rfl) (places := #[(0, 16)]) (by simp [go_sem]) (by
    show some (zc Try.prog 52) = _
    congr 1; kernel_rfl)
  simp [go_sem, hb, show (tb tb0).size = 16 from rfl]
  exact hR _ _ ⟨rfl, hp_alloc _ _, (Ch.refl Nw w).alloc _⟩
theorem find_some {l : Tb} {k : Nat} (h : l[k]? = some none) (hb : ∀ j, j < k → l[j]? ≠ some none) : l.findIdx? (· == none) = some k := by
  have hk : k < l.length := (List.getElem?_eq_some_iff.1 h).1
  refine List.findIdx?_eq_some_iff_getElem.2 ⟨hk, ?_, fun j hj => ?_⟩
  · have := (List.getElem?_eq_some_iff.1 h).2
    simp [this]
  · have h2 := hb j hj
    rw [List.getElem?_eq_getElem (by omega)] at h2
    simpa using h2
theorem find_none {l : Tb} (hb : ∀ j, j < l.length → l[j]? ≠ some none) : l.findIdx? (· == none) = none := by
  refine List.findIdx?_eq_none_iff.2 fun x hx => ?_
  obtain ⟨j, hj, rfl⟩ := List.getElem_of_mem hx
  have := hb j hj
  rw [List.getElem?_eq_getElem hj] at this
  simp at this ⊢
  exact Option.isSome_iff_ne_none.2 this
theorem open_any (g : Nat) (x : Hd) (l : Tb) (w : World) (hl : l.length = 16) (hg : w.heap[g]? = some (.cells (tb l) 52 (0, 0))) :
    Ret Try.prog 7 #[.pointer (some ⟨g, 0, none⟩), hv (some x)] w fun v' w' => match l.findIdx? (· == none) with
      | some k => v' = .tuple #[.int .i64 k, .int .i64 0] ∧ w'.heap[g]? = some (.cells (tb (l.set k (some x))) 52 (0, 0)) ∧ Ch (one g) w w'
      | none => v' = .tuple #[.int .i64 0, .int .i64 27] ∧ w' = w := by
  refine v_enter Try.func7 Try.ntmps7 rfl (by simp) fun R' hR => ?_
  have ha : ∀ t w, ∃ b c d, (Instr.typeAssert (hv (some x)) t 36 true).run Try.prog w = .ok (.tuple #[c, .bool b]) w ∧ (Instr.typeAssert (hv (some x)) t 38 true).run Try.prog w = .ok (.tuple #[d, .bool (!b)]) w := by
    intro t w
    rcases x with ⟨n, b⟩ | n
    · exact ⟨true, _, _, as_file w _ t, as_dir w _ t⟩
    · exact ⟨false, _, _, as_file w _ t, as_dir w _ t⟩
  obtain ⟨b, c, d, ha, hd⟩ := ha 20 w
  obtain ⟨XT, XV, hX⟩ : ∃ T v, hv (some x) = .iface T v := by rcases x with _ | _ <;> exact ⟨_, _, rfl⟩
  rw [hX] at ha hd ⊢
  simp [go_sem, ha, hd]
  refine v_loop (fun r f u => ∃ k : Nat, r = 16 - k ∧ k ≤ 16 ∧ f 0 = .pointer (some ⟨g, 0, none⟩) ∧ f 1 = .iface XT XV ∧ f 17 = .int .i64 k ∧ u = w ∧ ∀ j, j < k → l[j]? ≠ some none) 16 ⟨0, rfl, by omega, by simp, by simp, by simp, rfl, fun j hj => by omega⟩ ?_
  rintro J hJ _ f u ⟨k, rfl, hk, f0, f1, f17, rfl, hno⟩
  by_cases hlt : k < 16
  · have hlt' : (k : Int) < 16 := by omega
    have hwk : IntKind.i64.wrap ((k : Int) + 1) = (k : Int) + 1 := by rw [IntKind.wrap_i64]; omega
    obtain ⟨y, hy⟩ : ∃ y, l[k]? = some y := ⟨_, List.getElem?_eq_getElem (by omega)⟩
    have cx := (cell_blk hg k).trans (tb_get hy)
    have fz := frz_blk hg k
    rcases y with _ | y
    · simp only [show hv none = .nilIface from rfl] at cx
      simp [go_sem, f0, f1, f17, hlt', cx, fz]
      have b2 : (u.setCell ⟨g, k, none⟩ (.iface XT XV)).heap[g]? = some (.cells (tb (l.set k (some x))) 52 (0, 0)) := by
        rw [hp_setCell, hg, ← hX, ← tb_set]; rfl
      refine hR _ _ ?_
      rw [find_some hy hno]
      exact ⟨rfl, b2, (Ch.refl (one g) _).setCell (p := ⟨g, k, none⟩) (.inl rfl) _⟩
    · have cx' : ∃ T v, u.cell? ⟨g, k, none⟩ = some (.iface T v) := by
        rcases y with _ | _ <;> exact ⟨_, _, cx⟩
      obtain ⟨T, v, cx'⟩ := cx'
      simp [go_sem, f0, f1, f17, hlt', cx', hwk]
      refine Rnd.intro (16 - (k + 1)) (by omega) (hJ _ _ _ ⟨k + 1, rfl, by omega, by simp [f0], by simp [f1], by simp, rfl, fun j hj => ?_⟩)
      by_cases hjk : j = k
      · subst hjk; rw [hy]; simp
      · exact hno j (by omega)
  · have hlt' : ¬ (k : Int) < 16 := by omega
    simp [go_sem, f17, hlt']
    refine hR _ _ ?_
    rw [find_none fun j hj => hno j (by omega)]
    exact ⟨rfl, rfl⟩
theorem open_nil (v : Value) (w : World) : Ret Try.prog 7 #[.pointer none, v] w fun v' w' => v' = .tuple #[.int .i64 0, .int .i64 2] ∧ w' = w := by
  refine v_enter Try.func7 Try.ntmps7 rfl (by simp) fun R' hR => ?_
  simp [go_sem]
  exact hR _ _ ⟨rfl, rfl⟩
theorem open_int (g : Nat) (v : Value) (w : World) (hx : v = .nilIface ∨ ∃ n, v = .iface 3 (.int .i64 n)) :
    Ret Try.prog 7 #[.pointer (some ⟨g, 0, none⟩), v] w fun v' w' => v' = .tuple #[.int .i64 0, .int .i64 1] ∧ w' = w := by
  refine v_enter Try.func7 Try.ntmps7 rfl (by simp) fun R' hR => ?_
  have ha : ∃ c, (Instr.typeAssert v 20 36 true).run Try.prog w = .ok (.tuple #[c, .bool false]) w := by
    rcases hx with rfl | ⟨n, rfl⟩ <;> exact ⟨_, by simp [Instr.typeAssert, go_sem]; rfl⟩
  have hd : ∃ c, (Instr.typeAssert v 20 38 true).run Try.prog w = .ok (.tuple #[c, .bool false]) w := by
    rcases hx with rfl | ⟨n, rfl⟩ <;> exact ⟨_, by simp [Instr.typeAssert, go_sem]; rfl⟩
  obtain ⟨c, ha⟩ := ha
  obtain ⟨d, hd⟩ := hd
  simp [go_sem, ha, hd]
  exact hR _ _ ⟨rfl, rfl⟩
theorem close_any (g : Nat) (fd : Int) (l : Tb) (w : World) (hl : l.length = 16) (hg : w.heap[g]? = some (.cells (tb l) 52 (0, 0))) :
    Ret Try.prog 8 #[.pointer (some ⟨g, 0, none⟩), .int .i64 fd] w fun v' w' => v' = .int .i64 (handleS l fd).2 ∧ w'.heap[g]? = some (.cells (tb (if (handleS l fd).2 = 0 then l.set fd.toNat none else l)) 52 (0, 0)) ∧ Ch (one g) w w' := by
  refine v_enter Try.func8 Try.ntmps8 rfl (by simp) fun R' hR => ?_
  simp [go_sem]
  refine (handle_any g fd l w hl hg).mono ?_
  rintro _ w1 ⟨rfl, hw1⟩
  subst w1
  by_cases h0 : (handleS l fd).2 = 0
  · have hfd : 0 ≤ fd ∧ fd < 16 := by
      unfold handleS at h0
      split at h0
      · assumption
      · simp at h0
    obtain ⟨k, rfl⟩ : ∃ k : Nat, fd = k := ⟨fd.toNat, by omega⟩
    have fz := frz_blk hg k
    obtain ⟨y, hy⟩ : ∃ y, l[k]? = some y := ⟨_, List.getElem?_eq_getElem (by omega)⟩
    have cx := (cell_blk hg k).trans (tb_get hy)
    have hk : (k : Int) < 16 := hfd.2
    rw [h0] at hR ⊢
    simp [go_sem, cx, fz, hk]
    refine hR _ _ ⟨rfl, ?_, (Ch.refl (one g) _).setCell (p := ⟨g, k, none⟩) (.inl rfl) _⟩
    rw [hp_setCell, hg, if_pos rfl, ← tb_set]
    rfl
  · have h0' : ((handleS l fd).2 == 0) = false := beq_false_of_ne h0
    simp [go_sem, h0']
    exact hR _ _ ⟨rfl, by rw [if_neg h0]; exact hg, Ch.refl _ _⟩
theorem close_nil (fd : Int) (w : World) : Ret Try.prog 8 #[.pointer none, .int .i64 fd] w fun v' w' => v' = .int .i64 2 ∧ w' = w := by
  refine v_enter Try.func8 Try.ntmps8 rfl (by simp) fun R' hR => ?_
  simp [go_sem]
  refine (handle_nil fd w).mono ?_
  rintro _ w1 ⟨rfl, hw1⟩
  subst w1
  simp [go_sem]
  exact hR _ _ ⟨rfl, rfl⟩
/-- how many of the first k descriptors have a handle of an object -/
def cntS (h : Int → Option Hd × Int) (num : Nat) : Nat → Nat
  | 0 => 0
  | k + 1 => cntS h num k + if (objS (h k)).2 = 0 ∧ (objS (h k)).1 = num then 1 else 0
theorem cntS_le (h : Int → Option Hd × Int) (num : Nat) : ∀ k, cntS h num k ≤ k
  | 0 => Nat.le_refl _
  | k + 1 => by have := cntS_le h num k; unfold cntS; split <;> omega
theorem count_p {p : Value} {h : Int → Option Hd × Int} (num : Nat) {w : World} (t : PTb w p h) :
    Ret Try.prog 11 #[p, .int .u16 num] w fun v' w' => v' = .int .i64 (cntS h num 16) ∧ Ch Nw w w' := by
  refine v_enter Try.func11 Try.ntmps11 rfl (by simp) fun R' hR => ?_
  simp [go_sem]
  refine v_loop (fun r f u => ∃ k : Nat, r = 16 - k ∧ k ≤ 16 ∧ f 0 = p ∧ f 1 = .int .u16 num ∧ f 9 = .int .i64 k ∧ f 5 = .int .i64 (cntS h num k) ∧ Ch Nw w u) 16 ⟨0, rfl, by omega, by simp, by simp, by simp, by simp [cntS], Ch.refl _ _⟩ ?_
  rintro J hJ _ f u ⟨k, rfl, hk, f0, f1, f9, f5, cu⟩
  by_cases hlt : k < 16
  · have hlt' : (k : Int) < 16 := by omega
    have hwk : IntKind.i64.wrap ((k : Int) + 1) = ((k + 1 : Nat) : Int) := by rw [IntKind.wrap_i64]; omega
    have hcl := cntS_le h num k
    have hwc : IntKind.i64.wrap ((cntS h num k : Nat) + 1 : Int) = ((cntS h num k + 1 : Nat) : Int) := by rw [IntKind.wrap_i64]; omega
    have hse : cntS h num (k + 1) = cntS h num k + if (objS (h k)).2 = 0 ∧ (objS (h k)).1 = num then 1 else 0 := rfl
    simp [go_sem, f0, f1, f9, hlt']
    refine (obj_p (k : Int) (t.ch cu)).mono ?_
    rintro _ u2 ⟨rfl, c2⟩
    generalize objS (h k) = o at *
    obtain ⟨o1, o2⟩ := o
    simp only at hse ⊢
    generalize cntS h num k = c at *
    generalize hc1 : cntS h num (k + 1) = c1 at *
    have hend : ∀ f', f' 0 = p → f' 1 = .int .u16 num → f' 9 = .int .i64 ((k + 1 : Nat) : Int) → f' 5 = .int .i64 (c1 : Int) → Rnd J (16 - k) f' u2 := fun f' e0 e1 e9 e5 =>
      Rnd.intro (16 - (k + 1)) (by omega) (hJ _ _ _ ⟨k + 1, rfl, by omega, e0, e1, e9, by rw [e5, hc1], cu.trans c2⟩)
    by_cases h2 : o2 = 0
    · have h2' : (o2 == 0) = true := by simp [h2]
      by_cases h1 : o1 = num
      · have h1' : ((o1 : Int) == (num : Int)) = true := by simp [h1]
        simp [go_sem, h2', h1', f1, f5, f9, hwk, hwc]
        exact hend _ (by simp [f0]) (by simp [f1]) (by simp) (by simp [hse, h1, h2])
      · have h1' : ((o1 : Int) == (num : Int)) = false := beq_false_of_ne (by omega)
        simp [go_sem, h2', h1', f1, f5, f9, hwk]
        exact hend _ (by simp [f0]) (by simp [f1]) (by simp) (by simp [hse, h1, h2, f5])
    · have h2' : (o2 == 0) = false := beq_false_of_ne h2
      simp [go_sem, h2', f1, f5, f9, hwk]
      exact hend _ (by simp [f0]) (by simp [f1]) (by simp) (by simp [hse, h2, f5])
  · have hlt' : ¬ (k : Int) < 16 := by omega
    have : k = 16 := by omega
    subst this
    simp [go_sem, f9, f5]
    exact hR _ _ ⟨rfl, cu⟩
def fullS (l : Tb) (k : Nat) : Bool := (l.take k).all (·.isSome)
theorem fullS_step {l : Tb} {k : Nat} {x : Option Hd} (h : l[k]? = some x) : fullS l (k + 1) = (fullS l k && x.isSome) := by
  unfold fullS
  rw [List.take_add_one, h]
  simp
theorem fullS_all {l : Tb} (h : l.length = 16) : fullS l 16 = l.all (·.isSome) := by unfold fullS; rw [List.take_of_length_le (by omega)]
theorem full_any (g : Nat) (l : Tb) (w : World) (hl : l.length = 16) (hg : w.heap[g]? = some (.cells (tb l) 52 (0, 0))) :
    Ret Try.prog 10 #[.pointer (some ⟨g, 0, none⟩)] w fun v' w' => v' = .bool (fullS l 16) ∧ w' = w := by
  refine v_enter Try.func10 Try.ntmps10 rfl (by simp) fun R' hR => ?_
  have hsz : (tb l).size = 16 := by rw [tb_size, hl]
  have hall : (tb l).extract 0 16 = tb l := by rw [← hsz]; simp
  simp [go_sem, hg, hsz, hall]
  refine v_loop (fun r f u => ∃ k : Nat, r = 16 - k ∧ k ≤ 16 ∧ f 10 = .agg (tb l) ∧ f 11 = .int .i64 k ∧ u = w ∧ fullS l k = true) 16 ⟨0, rfl, by omega, by simp, by simp, rfl, rfl⟩ ?_
  rintro J hJ _ f u ⟨k, rfl, hk, f10, f11, rfl, hf⟩
  by_cases hlt : k < 16
  · have hlt' : (k : Int) < 16 := by omega
    have hwk : IntKind.i64.wrap ((k : Int) + 1) = ((k + 1 : Nat) : Int) := by rw [IntKind.wrap_i64]; omega
    obtain ⟨y, hy⟩ : ∃ y, l[k]? = some y := ⟨_, List.getElem?_eq_getElem (by omega)⟩
    have hix := fun w => run_index_agg (P := Try.prog) (kd := .i64) Try.underlying50 Try.sizeOf20 Try.isAgg20 hlt (tb_get hy) w
    rcases y with _ | y
    · simp only [show hv none = .nilIface from rfl] at hix
      simp [go_sem, f10, f11, hlt', hix]
      refine hR _ _ ⟨?_, rfl⟩
      congr 1
      unfold fullS
      rw [List.take_of_length_le (by omega)]
      symm
      simp only [List.all_eq_false]
      exact ⟨none, List.mem_of_getElem? hy, by simp⟩
    · obtain ⟨T, v, hX⟩ : ∃ T v, hv (some y) = .iface T v := by rcases y with _ | _ <;> exact ⟨_, _, rfl⟩
      rw [hX] at hix
      simp [go_sem, f10, f11, hlt', hix, hwk]
      exact Rnd.intro (16 - (k + 1)) (by omega) (hJ _ _ _ ⟨k + 1, rfl, by omega, by simp [f10], by simp, rfl, by rw [fullS_step hy, hf]; rfl⟩)
  · have hlt' : ¬ (k : Int) < 16 := by omega
    have : k = 16 := by omega
    subst this
    simp [go_sem, f11]
    exact hR _ _ ⟨by rw [hf], rfl⟩
theorem full_nil (w : World) : Ret Try.prog 10 #[.pointer none] w fun v' w' => v' = .bool false ∧ w' = w := by
  refine v_enter Try.func10 Try.ntmps10 rfl (by simp) fun R' hR => ?_
  simp [go_sem]
  exact hR _ _ ⟨rfl, rfl⟩
end Go.Proofs.Ytfcoiboeohgimaa
