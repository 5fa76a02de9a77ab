/- Trials of overlays, ended. No condition but on sizes. -/
import Derived.Test.YtnefdmbdkljifaaDoorOvH
import Derived.Lib.Builder
set_option linter.unusedSimpArgs false
set_option linter.unusedVariables false

/- Trials of overlays: begun, ended. No condition but on sizes. -/
namespace Go.Proofs.YtnefdmbdkljifaaDoor
open Go.RowKit Go.Kin Go.Maps

def Ov.merge (D E : Ov) : Ov := ⟨fun a => (E.ino a).or (D.ino a), fun a => (E.lf a).or (if E.wiped a.1 then none else D.lf a), fun a => D.wiped a || E.wiped a⟩
/-- what a trial told is what its overlay tells behind it -/
theorem merge_tells (D E : Ov) (b : Tl) : ovT (D.merge E) b = ovT E (ovT D b) := by
  unfold ovT Ov.merge
  congr 1
  · funext num
    cases hok : okN num 0 with
    | false => simp
    | true => cases hE : E.ino num <;> simp [hE, hok]
  · funext num off
    cases hok : okN num off with
    | false => simp
    | true =>
      cases hE : E.lf (num, off) with
      | some x => simp [hE, hok]
      | none =>
        cases hw : E.wiped num with
        | true => simp [hE, hw, hok]
        | false => simp [hE, hw, hok]
theorem new_tells (b : Tl) (D : Ov) : ovT Ov.new (ovT D b) = ovT D b := by
  unfold ovT Ov.new
  congr 1
  · funext num
    cases hok : okN num 0 <;> simp [hok]
  · funext num off
    cases hok : okN num off <;> simp [hok]
theorem ptr_info : (Tryd.prog.info? 70).isSome = true ∧ ∀ j, Tryd.prog.info? 70 = some j → j.size ≠ 0 := by
  refine ⟨by kernel_rfl, fun j hj => ?_⟩
  have h2 : (Tryd.prog.info? 70).map (fun i => decide (i.size ≠ 0)) = some true := by kernel_rfl
  rw [hj] at h2
  simpa using h2
theorem neq_nil (a : Addr) (w : World) : (binOp .neq 29 (.pointer none) (.pointer (some a))).run Tryd.prog w = .ok (.bool true) w := by kernel_rfl
theorem neq_same (a : Addr) (w : World) : (binOp .neq 29 (.pointer (some a)) (.pointer (some a))).run Tryd.prog w = .ok (.bool false) w := by
  obtain ⟨j, hj⟩ := Option.isSome_iff_exists.1 ptr_info.1
  exact Go.Lib.run_neq_ptr_same w a Tryd.underlying29 hj
theorem neq_other {a b : Addr} {w : World} {ca cb : Array Value} {ta tb : TypeId} (hne : a ≠ b) (ha : w.heap[a.block]? = some (.cells ca ta (0, 0))) (hb : w.heap[b.block]? = some (.cells cb tb (0, 0))) : (binOp .neq 29 (.pointer (some a)) (.pointer (some b))).run Tryd.prog w = .ok (.bool true) w := by
  obtain ⟨j, hj⟩ := Option.isSome_iff_exists.1 ptr_info.1
  have h : ∀ d : Nat, (Op.equalIn (d + 1) 29 (.pointer (some a)) (.pointer (some b))).run Tryd.prog w = .ok false w := fun d => by
    simp [Op.equalIn, run_underlying Tryd.underlying29, sizeOf, typeInfo, hj, ptr_info.2 j hj, run_sameAddr_other w hne ha hb]
  simp only [binOp]
  simp [Op.equal, Op.maxDepth, h 9999]
section
variable {w w' : World} {S : Nat → Prop} {o t n m : Nat} {base base' of : Value} {D E : Ov} {X Y X' Y' : Nat → Prop} {z z' : Oz}
theorem OvP.setOf (h : OvP w o base of n D X Y z) (v : Value) : OvP (w.setCell ⟨o, 1, none⟩ v) o base v n D X Y z ∧ Ch X w (w.setCell ⟨o, 1, none⟩ v) := by
  have cs : Ch (Kin.one o) w (w.setCell ⟨o, 1, none⟩ v) := (Ch.refl (Kin.one o) w).setCell (p := ⟨o, 1, none⟩) (.inl rfl) _
  have hXo : X o := h.x _ (.inl rfl)
  refine ⟨⟨?_, h.ino.ch cs fun e => h.ne.2.2.2.1 e.symm, h.inOk, ?_, h.lfOk, h.wp.ch cs fun e => h.ne.2.2.2.2.2 e.symm, h.wpOk, h.x, h.ne, h.yx, fun k hk => Nat.lt_of_lt_of_le (h.lt k hk) cs.size⟩, cs.mono fun k _ e => by simp only [Kin.one] at e; subst e; exact hXo⟩
  · rw [hp_setCell, h.blk, setOf_cells]
    rfl
  · obtain ⟨FL, h1, h2⟩ := h.lf
    refine ⟨FL, h1.ch cs fun e => h.ne.2.2.2.2.1 e.symm, fun a => ⟨(h2 a).1, fun b hb => ?_⟩⟩
    obtain ⟨v, h3, h4, h5⟩ := (h2 a).2 b hb
    exact ⟨v, h3, h4.ch cs fun k hk e => by simp only [Kin.one] at e; subst e; exact h.yx _ (h5 _ hk) hXo, h5⟩
theorem endNil_any (o t : Nat) (h : OvP w t base (.pointer none) n E X Y z) : Ret Tryd.prog 13 #[.pointer (some ⟨o, 0, none⟩), .pointer (some ⟨t, 0, none⟩)] w fun v' w' => v' = .int .i64 1 ∧ w' = w := by
  refine v_enter Tryd.func13 Tryd.ntmps13 rfl (by simp) fun R' hR => ?_
  have c1 : w.cell? ⟨t, 1, none⟩ = some (.pointer none) := cell_blk h.blk 1
  have hne := neq_nil ⟨o, 0, none⟩ w
  simp [go_sem, c1, hne]
  exact hR _ _ ⟨rfl, rfl⟩
theorem endNot_any (o t q : Nat) (h : OvP w t base (.pointer (some ⟨q, 0, none⟩)) n E X Y z) (hq : q ≠ o) {co cq : Array Value} {to tq : TypeId} (ho : w.heap[o]? = some (.cells co to (0, 0))) (hqb : w.heap[q]? = some (.cells cq tq (0, 0))) : Ret Tryd.prog 13 #[.pointer (some ⟨o, 0, none⟩), .pointer (some ⟨t, 0, none⟩)] w fun v' w' => v' = .int .i64 1 ∧ w' = w := by
  refine v_enter Tryd.func13 Tryd.ntmps13 rfl (by simp) fun R' hR => ?_
  have c1 : w.cell? ⟨t, 1, none⟩ = some (.pointer (some ⟨q, 0, none⟩)) := cell_blk h.blk 1
  have hne := neq_other (a := ⟨q, 0, none⟩) (b := ⟨o, 0, none⟩) (fun e => hq (by cases e; rfl)) hqb ho
  simp [go_sem, c1, hne]
  exact hR _ _ ⟨rfl, rfl⟩
end
end Go.Proofs.YtnefdmbdkljifaaDoor

namespace Go.Proofs.YtnefdmbdkljifaaDoor
open Go.RowKit Go.Kin Go.Maps

/-- an overlay of which the numbers of E are wiped, but those that are left -/
def Ov.part (D E : Ov) (left : Num → Bool) : Ov := { D with lf := fun a => if E.wiped a.1 && !left a.1 then none else D.lf a, wiped := fun a => D.wiped a || (E.wiped a && !left a) }
theorem Ov.part_none (D E : Ov) : D.part E E.wiped = D := by
  unfold Ov.part
  simp
theorem Ov.part_wipe (D E : Ov) (left : Num → Bool) (a : Num) (hE : E.wiped a = true) (hok : okN a 0 = true) : (D.part E left).wipe a = D.part E fun c => left c && decide (c ≠ a) := by
  unfold Ov.wipe
  rw [if_pos hok]
  unfold Ov.part
  simp only
  congr 1
  · funext c
    by_cases hc : c.1 = a
    · subst hc
      simp [hE]
    · simp [hc]
  · funext c
    by_cases hc : c = a
    · subst hc
      simp [hE]
    · simp [hc]
theorem fin_wiped {E : Ov} (a : Num) : (if E.wiped a = true then some (Value.bool true) else none).isSome = E.wiped a := by
  cases E.wiped a <;> rfl
section
variable {w w' : World} {S : Nat → Prop} {o t n m : Nat} {base base' of : Value} {D E : Ov} {X Y X' Y' : Nat → Prop} {z z' : Oz}
end
end Go.Proofs.YtnefdmbdkljifaaDoor
