/- What deeds make of an overlay, as the document says. No condition. -/
import Derived.Test.YtnefdmbdkljifaaDoorOvH
import Derived.Lib.Builder
set_option linter.unusedSimpArgs false
set_option linter.unusedVariables false

/- Trials of overlays: begun, ended. No condition but on sizes. -/
namespace Go.Proofs.YtnefdmbdkljifaaDoor
open Go.RowKit Go.Kin Go.Maps

def Ov.merge (D E : Ov) : Ov := ⟨fun a => (E.ino a).or (D.ino a), fun a => (E.lf a).or (if E.wiped a.1 then none else D.lf a), fun a => D.wiped a || E.wiped a⟩
/-- what a trial told is what its overlay tells behind it -/
theorem merge_tells (D E : Ov) (b : Tl) : ovT (D.merge E) b = ovT E (ovT D b) := by
  unfold ovT Ov.merge
  congr 1
  · funext num
    cases hok : okN num 0 with
    | false => simp
    | true => cases hE : E.ino num <;> simp [hE, hok]
  · funext num off
    cases hok : okN num off with
    | false => simp
    | true =>
      cases hE : E.lf (num, off) with
      | some x => simp [hE, hok]
      | none =>
        cases hw : E.wiped num with
        | true => simp [hE, hw, hok]
        | false => simp [hE, hw, hok]
theorem new_tells (b : Tl) (D : Ov) : ovT Ov.new (ovT D b) = ovT D b := by
  unfold ovT Ov.new
  congr 1
  · funext num
    cases hok : okN num 0 <;> simp [hok]
  · funext num off
    cases hok : okN num off <;> simp [hok]
theorem ptr_info : (Tryd.prog.info? 70).isSome = true ∧ ∀ j, Tryd.prog.info? 70 = some j → j.size ≠ 0 := by
  refine ⟨by kernel_rfl, fun j hj => ?_⟩
  have h2 : (Tryd.prog.info? 70).map (fun i => decide (i.size ≠ 0)) = some true := by kernel_rfl
  rw [hj] at h2
  simpa using h2
theorem neq_nil (a : Addr) (w : World) : (binOp .neq 29 (.pointer none) (.pointer (some a))).run Tryd.prog w = .ok (.bool true) w := by kernel_rfl
theorem neq_same (a : Addr) (w : World) : (binOp .neq 29 (.pointer (some a)) (.pointer (some a))).run Tryd.prog w = .ok (.bool false) w := by
  obtain ⟨j, hj⟩ := Option.isSome_iff_exists.1 ptr_info.1
  exact Go.Lib.run_neq_ptr_same w a Tryd.underlying29 hj
theorem neq_other {a b : Addr} {w : World} {ca cb : Array Value} {ta tb : TypeId} (hne : a ≠ b) (ha : w.heap[a.block]? = some (.cells ca ta (0, 0))) (hb : w.heap[b.block]? = some (.cells cb tb (0, 0))) : (binOp .neq 29 (.pointer (some a)) (.pointer (some b))).run Tryd.prog w = .ok (.bool true) w := by
  obtain ⟨j, hj⟩ := Option.isSome_iff_exists.1 ptr_info.1
  have h : ∀ d : Nat, (Op.equalIn (d + 1) 29 (.pointer (some a)) (.pointer (some b))).run Tryd.prog w = .ok false w := fun d => by
    simp [Op.equalIn, run_underlying Tryd.underlying29, sizeOf, typeInfo, hj, ptr_info.2 j hj, run_sameAddr_other w hne ha hb]
  simp only [binOp]
  simp [Op.equal, Op.maxDepth, h 9999]
section
variable {w w' : World} {S : Nat → Prop} {o t n m : Nat} {base base' of : Value} {D E : Ov} {X Y X' Y' : Nat → Prop} {z z' : Oz}
theorem OvP.setOf (h : OvP w o base of n D X Y z) (v : Value) : OvP (w.setCell ⟨o, 1, none⟩ v) o base v n D X Y z ∧ Ch X w (w.setCell ⟨o, 1, none⟩ v) := by
  have cs : Ch (Kin.one o) w (w.setCell ⟨o, 1, none⟩ v) := (Ch.refl (Kin.one o) w).setCell (p := ⟨o, 1, none⟩) (.inl rfl) _
  have hXo : X o := h.x _ (.inl rfl)
  refine ⟨⟨?_, h.ino.ch cs fun e => h.ne.2.2.2.1 e.symm, h.inOk, ?_, h.lfOk, h.wp.ch cs fun e => h.ne.2.2.2.2.2 e.symm, h.wpOk, h.x, h.ne, h.yx, fun k hk => Nat.lt_of_lt_of_le (h.lt k hk) cs.size⟩, cs.mono fun k _ e => by simp only [Kin.one] at e; subst e; exact hXo⟩
  · rw [hp_setCell, h.blk, setOf_cells]
    rfl
  · obtain ⟨FL, h1, h2⟩ := h.lf
    refine ⟨FL, h1.ch cs fun e => h.ne.2.2.2.2.1 e.symm, fun a => ⟨(h2 a).1, fun b hb => ?_⟩⟩
    obtain ⟨v, h3, h4, h5⟩ := (h2 a).2 b hb
    exact ⟨v, h3, h4.ch cs fun k hk e => by simp only [Kin.one] at e; subst e; exact h.yx _ (h5 _ hk) hXo, h5⟩
theorem begin_any (o : Nat) (w : World) : Ret Tryd.prog 12 #[.pointer (some ⟨o, 0, none⟩)] w fun v' w' => ∃ t z, v' = .pointer (some ⟨t, 0, none⟩) ∧ OvP w' t (.iface 29 (.pointer (some ⟨o, 0, none⟩))) (.pointer (some ⟨o, 0, none⟩)) 0 Ov.new (fun k => w.heap.size ≤ k ∧ k < w'.heap.size) (fun _ => False) z ∧ Ch Nw w w' := by
  refine v_enter Tryd.func12 Tryd.ntmps12 rfl (by simp) fun R' hR => ?_
  have hmi : ∀ w, (Instr.makeInterface 29 (.pointer (some ⟨o, 0, none⟩))).run Tryd.prog w = .ok (.iface 29 (.pointer (some ⟨o, 0, none⟩))) w := fun w => by kernel_rfl
  simp [go_sem, hmi]
  refine (new_any 29 (.pointer (some ⟨o, 0, none⟩)) w).mono ?_
  rintro _ w1 ⟨t, z, rfl, h1, c1⟩
  have f1 := fun i => frz_blk h1.blk i
  have d1 := fun i => cell_blk h1.blk i
  simp [go_sem, f1, d1]
  obtain ⟨h2, c2⟩ := h1.setOf (.pointer (some ⟨o, 0, none⟩))
  have hs : (w1.setCell ⟨t, 1, none⟩ (.pointer (some ⟨o, 0, none⟩))).heap.size = w1.heap.size := by simp [World.setCell]
  refine hR _ _ ⟨t, z, rfl, ?_, c1.trans' c2 fun k hk e => by omega⟩
  rw [hs]
  exact h2
theorem endNil_any (o t : Nat) (h : OvP w t base (.pointer none) n E X Y z) : Ret Tryd.prog 13 #[.pointer (some ⟨o, 0, none⟩), .pointer (some ⟨t, 0, none⟩)] w fun v' w' => v' = .int .i64 1 ∧ w' = w := by
  refine v_enter Tryd.func13 Tryd.ntmps13 rfl (by simp) fun R' hR => ?_
  have c1 : w.cell? ⟨t, 1, none⟩ = some (.pointer none) := cell_blk h.blk 1
  have hne := neq_nil ⟨o, 0, none⟩ w
  simp [go_sem, c1, hne]
  exact hR _ _ ⟨rfl, rfl⟩
theorem endNot_any (o t q : Nat) (h : OvP w t base (.pointer (some ⟨q, 0, none⟩)) n E X Y z) (hq : q ≠ o) {co cq : Array Value} {to tq : TypeId} (ho : w.heap[o]? = some (.cells co to (0, 0))) (hqb : w.heap[q]? = some (.cells cq tq (0, 0))) : Ret Tryd.prog 13 #[.pointer (some ⟨o, 0, none⟩), .pointer (some ⟨t, 0, none⟩)] w fun v' w' => v' = .int .i64 1 ∧ w' = w := by
  refine v_enter Tryd.func13 Tryd.ntmps13 rfl (by simp) fun R' hR => ?_
  have c1 : w.cell? ⟨t, 1, none⟩ = some (.pointer (some ⟨q, 0, none⟩)) := cell_blk h.blk 1
  have hne := neq_other (a := ⟨q, 0, none⟩) (b := ⟨o, 0, none⟩) (fun e => hq (by cases e; rfl)) hqb ho
  simp [go_sem, c1, hne]
  exact hR _ _ ⟨rfl, rfl⟩
end
end Go.Proofs.YtnefdmbdkljifaaDoor

namespace Go.Proofs.YtnefdmbdkljifaaDoor
open Go.RowKit Go.Kin Go.Maps

/-- a deed: 0 an inode, 1 a leaf, 2 a wipe -/
structure Dd where
  d : Nat
  num : Num
  off : Off
  i : In
  b : Byts
def Dd.good (x : Dd) : Bool := okN x.num (if x.d = 1 then x.off else 0) && (decide (x.d ≠ 0) || mayI x.i) && (decide (x.d ≠ 1) || decide (x.b.length = 0) || decide (x.b.length = 512))
def Ov.step (D : Ov) (x : Dd) : Ov := if x.d = 0 then D.setI x.num x.i else if x.d = 1 then D.setL x.num x.off x.b else D.wipe x.num
/-- what deeds make -/
def ovD (l : List Dd) : Ov := l.foldl Ov.step Ov.new
/-- the document's, from the last deed on -/
def rIno : List Dd → Num → Option In
  | [], _ => none
  | x :: r, n => if x.d = 0 ∧ x.num = n then some x.i else rIno r n
def rLf : List Dd → Num → Off → Option Byts
  | [], _, _ => none
  | x :: r, n, o => if x.num = n ∧ x.d = 1 ∧ x.off = o then some x.b else if x.num = n ∧ x.d = 2 then some [] else rLf r n o
def rSet : List Dd → Num → Off → Bool
  | [], _, _ => false
  | x :: r, n, o => if x.num = n ∧ x.d = 1 ∧ x.off = o then true else if x.num = n ∧ x.d = 2 then false else rSet r n o
def rWiped (l : List Dd) (n : Num) : Bool := l.any fun x => decide (x.d = 2 ∧ x.num = n)
theorem ovD_snoc (l : List Dd) (x : Dd) : ovD (l ++ [x]) = (ovD l).step x := by
  unfold ovD
  rw [List.foldl_append]
  rfl
theorem step_ino {D : Ov} {x : Dd} (hg : x.good = true) (n : Num) : (D.step x).ino n = if x.d = 0 ∧ x.num = n then some x.i else D.ino n := by
  unfold Dd.good at hg
  simp only [Bool.and_eq_true] at hg
  obtain ⟨⟨h1, h2⟩, h3⟩ := hg
  unfold Ov.step
  by_cases h0 : x.d = 0
  · rw [if_pos h0]
    rw [if_neg (by omega)] at h1
    have hm : mayI x.i = true := by simpa [h0] using h2
    unfold Ov.setI
    rw [h1, hm]
    by_cases hn : x.num = n
    · simp [h0, hn]
    · have hn' : ¬ n = x.num := fun e => hn e.symm
      simp [h0, hn, hn']
  · rw [if_neg h0]
    by_cases h1' : x.d = 1
    · rw [if_pos h1', if_neg fun e => h0 e.1]
      unfold Ov.setL
      split <;> rfl
    · rw [if_neg h1', if_neg fun e => h0 e.1]
      unfold Ov.wipe
      split <;> rfl
theorem step_wiped {D : Ov} {x : Dd} (hg : x.good = true) (hd : x.d < 3) (n : Num) : (D.step x).wiped n = (D.wiped n || decide (x.d = 2 ∧ x.num = n)) := by
  unfold Dd.good at hg
  simp only [Bool.and_eq_true] at hg
  obtain ⟨⟨h1, h2⟩, h3⟩ := hg
  unfold Ov.step
  by_cases h0 : x.d = 0
  · rw [if_pos h0]
    have e : (D.setI x.num x.i).wiped n = D.wiped n := by
      unfold Ov.setI
      split <;> rfl
    rw [e]
    simp [h0]
  · rw [if_neg h0]
    by_cases h1' : x.d = 1
    · rw [if_pos h1']
      have e : (D.setL x.num x.off x.b).wiped n = D.wiped n := by
        unfold Ov.setL
        split <;> rfl
      rw [e]
      simp [h1']
    · rw [if_neg h1']
      rw [if_neg h1'] at h1
      have h2' : x.d = 2 := by omega
      unfold Ov.wipe
      rw [h1]
      by_cases hn : x.num = n
      · simp [h2', hn]
      · have hn' : ¬ n = x.num := fun e => hn e.symm
        simp [h2', hn, hn']
theorem step_lf {D : Ov} {x : Dd} (hg : x.good = true) (hd : x.d < 3) (n : Num) (o : Off) : (D.step x).lf (n, o) = if x.num = n ∧ x.d = 1 ∧ x.off = o then some x.b else if x.num = n ∧ x.d = 2 then none else D.lf (n, o) := by
  unfold Dd.good at hg
  simp only [Bool.and_eq_true] at hg
  obtain ⟨⟨h1, h2⟩, h3⟩ := hg
  unfold Ov.step
  by_cases h0 : x.d = 0
  · rw [if_pos h0]
    have e : (D.setI x.num x.i).lf (n, o) = D.lf (n, o) := by
      unfold Ov.setI
      split <;> rfl
    rw [e, if_neg (by omega), if_neg (by omega)]
  · rw [if_neg h0]
    by_cases h1' : x.d = 1
    · rw [if_pos h1']
      rw [if_pos h1'] at h1
      have hb : (decide (x.b.length = 0) || decide (x.b.length = 512)) = true := by simpa [h1'] using h3
      unfold Ov.setL
      rw [h1, hb]
      simp only [Bool.and_self, if_true]
      by_cases hn : x.num = n ∧ x.off = o
      · obtain ⟨rfl, rfl⟩ := hn
        simp [h1']
      · have e1 : ¬ (n, o) = (x.num, x.off) := fun e => by
          injection e with e1 e2
          exact hn ⟨e1.symm, e2.symm⟩
        have e2 : ¬ (x.num = n ∧ x.d = 1 ∧ x.off = o) := fun e => hn ⟨e.1, e.2.2⟩
        have e3 : ¬ (x.num = n ∧ x.d = 2) := fun e => by omega
        rw [if_neg e1, if_neg e2, if_neg e3]
    · rw [if_neg h1']
      rw [if_neg h1'] at h1
      have h2' : x.d = 2 := by omega
      unfold Ov.wipe
      rw [h1]
      simp only [if_true]
      by_cases hn : x.num = n
      · subst hn
        simp [h2']
      · have hn' : ¬ n = x.num := fun e => hn e.symm
        simp [hn, hn']
/-- deeds that may be -/
def DdsOk (l : List Dd) : Prop := ∀ x ∈ l, x.good = true ∧ x.d < 3
theorem ovD_says (r : List Dd) : DdsOk r → (∀ n, (ovD r.reverse).ino n = rIno r n) ∧ (∀ n, (ovD r.reverse).wiped n = rWiped r n) ∧ (∀ n o, ((ovD r.reverse).lf (n, o)).isSome = rSet r n o) ∧
    ∀ n o, rLf r n o = match (ovD r.reverse).lf (n, o) with | some b => some b | none => if (ovD r.reverse).wiped n then some [] else none := by
  induction r with
  | nil => exact fun _ => ⟨fun _ => rfl, fun _ => rfl, fun _ _ => rfl, fun _ _ => rfl⟩
  | cons x r ih =>
    intro hr
    obtain ⟨a1, a2, a3, a4⟩ := ih fun y hy => hr y (by simp [hy])
    obtain ⟨hg, hd⟩ := hr x (by simp)
    rw [List.reverse_cons, ovD_snoc]
    refine ⟨fun n => ?_, fun n => ?_, fun n o => ?_, fun n o => ?_⟩
    · rw [step_ino hg, a1]
      rfl
    · rw [step_wiped hg hd, a2]
      show _ = (decide (x.d = 2 ∧ x.num = n) || rWiped r n)
      rw [Bool.or_comm]
    · rw [step_lf hg hd]
      unfold rSet
      split
      · rfl
      · split
        · rfl
        · exact a3 n o
    · rw [step_lf hg hd, step_wiped hg hd]
      unfold rLf
      by_cases h1 : x.num = n ∧ x.d = 1 ∧ x.off = o
      · simp only [if_pos h1]
      · simp only [if_neg h1]
        by_cases h2 : x.num = n ∧ x.d = 2
        · simp [h2.1, h2.2]
        · simp only [if_neg h2]
          rw [a4]
          have e : decide (x.d = 2 ∧ x.num = n) = false := decide_eq_false fun e => h2 ⟨e.2, e.1⟩
          rw [e, Bool.or_false]
theorem step_merge (D E : Ov) (x : Dd) (hg : x.good = true) (hd : x.d < 3) : (D.merge E).step x = D.merge (E.step x) := by
  have ext : ∀ A B : Ov, (∀ n, A.ino n = B.ino n) → (∀ n o, A.lf (n, o) = B.lf (n, o)) → (∀ n, A.wiped n = B.wiped n) → A = B := fun A B h1 h2 h3 => by
    cases A
    cases B
    congr 1
    · exact funext h1
    · exact funext fun p => h2 p.1 p.2
    · exact funext h3
  refine ext _ _ (fun n => ?_) (fun n o => ?_) (fun n => ?_)
  · rw [step_ino hg]
    show (if x.d = 0 ∧ x.num = n then some x.i else (E.ino n).or (D.ino n)) = ((E.step x).ino n).or (D.ino n)
    rw [step_ino hg]
    split <;> rfl
  · rw [step_lf hg hd]
    show _ = ((E.step x).lf (n, o)).or (if (E.step x).wiped n then none else D.lf (n, o))
    rw [step_lf hg hd, step_wiped hg hd]
    show (if _ then _ else if _ then none else (E.lf (n, o)).or (if E.wiped n then none else D.lf (n, o))) = _
    by_cases h1 : x.num = n ∧ x.d = 1 ∧ x.off = o
    · simp only [if_pos h1, Option.some_or]
    · by_cases h2 : x.num = n ∧ x.d = 2
      · simp [h2.1, h2.2]
      · have e : decide (x.d = 2 ∧ x.num = n) = false := decide_eq_false fun e => h2 ⟨e.2, e.1⟩
        simp only [if_neg h1, if_neg h2]
        rw [e, Bool.or_false]
  · rw [step_wiped hg hd]
    show ((D.wiped n || E.wiped n) || _) = (D.wiped n || (E.step x).wiped n)
    rw [step_wiped hg hd, Bool.or_assoc]
/-- deeds behind deeds -/
theorem ovD_app (l : List Dd) (r : List Dd) : DdsOk r → ovD (l ++ r.reverse) = (ovD l).merge (ovD r.reverse) := by
  induction r with
  | nil =>
    intro _
    rw [List.reverse_nil, List.append_nil]
    show _ = (ovD l).merge Ov.new
    unfold Ov.merge Ov.new
    simp
  | cons x r ih =>
    intro hr
    obtain ⟨hg, hd⟩ := hr x (by simp)
    rw [List.reverse_cons, ← List.append_assoc, ovD_snoc, ovD_snoc, ih fun y hy => hr y (by simp [hy]), step_merge _ _ _ hg hd]
end Go.Proofs.YtnefdmbdkljifaaDoor
