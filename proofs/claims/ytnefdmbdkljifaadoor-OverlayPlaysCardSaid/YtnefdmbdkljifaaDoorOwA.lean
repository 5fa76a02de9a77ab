/- What deeds make of an overlay, as the document says. No condition. -/
import Derived.Test.YtnefdmbdkljifaaDoorOvJ
set_option linter.unusedSimpArgs false
set_option linter.unusedVariables false

namespace Go.Proofs.YtnefdmbdkljifaaDoor
open Go.RowKit Go.Kin Go.Maps

/-- a deed: 0 an inode, 1 a leaf, 2 a wipe -/
structure Dd where
  d : Nat
  num : Num
  off : Off
  i : In
  b : Byts
def Dd.good (x : Dd) : Bool := okN x.num (if x.d = 1 then x.off else 0) && (decide (x.d ≠ 0) || mayI x.i) && (decide (x.d ≠ 1) || decide (x.b.length = 0) || decide (x.b.length = 512))
def Ov.step (D : Ov) (x : Dd) : Ov := if x.d = 0 then D.setI x.num x.i else if x.d = 1 then D.setL x.num x.off x.b else D.wipe x.num
/-- what deeds make -/
def ovD (l : List Dd) : Ov := l.foldl Ov.step Ov.new
/-- the document's, from the last deed on -/
def rIno : List Dd → Num → Option In
  | [], _ => none
  | x :: r, n => if x.d = 0 ∧ x.num = n then some x.i else rIno r n
def rLf : List Dd → Num → Off → Option Byts
  | [], _, _ => none
  | x :: r, n, o => if x.num = n ∧ x.d = 1 ∧ x.off = o then some x.b else if x.num = n ∧ x.d = 2 then some [] else rLf r n o
def rSet : List Dd → Num → Off → Bool
  | [], _, _ => false
  | x :: r, n, o => if x.num = n ∧ x.d = 1 ∧ x.off = o then true else if x.num = n ∧ x.d = 2 then false else rSet r n o
def rWiped (l : List Dd) (n : Num) : Bool := l.any fun x => decide (x.d = 2 ∧ x.num = n)
theorem ovD_snoc (l : List Dd) (x : Dd) : ovD (l ++ [x]) = (ovD l).step x := by
  unfold ovD
  rw [List.foldl_append]
  rfl
theorem step_ino {D : Ov} {x : Dd} (hg : x.good = true) (n : Num) : (D.step x).ino n = if x.d = 0 ∧ x.num = n then some x.i else D.ino n := by
  unfold Dd.good at hg
  simp only [Bool.and_eq_true] at hg
  obtain ⟨⟨h1, h2⟩, h3⟩ := hg
  unfold Ov.step
  by_cases h0 : x.d = 0
  · rw [if_pos h0]
    rw [if_neg (by omega)] at h1
    have hm : mayI x.i = true := by simpa [h0] using h2
    unfold Ov.setI
    rw [h1, hm]
    by_cases hn : x.num = n
    · simp [h0, hn]
    · have hn' : ¬ n = x.num := fun e => hn e.symm
      simp [h0, hn, hn']
  · rw [if_neg h0]
    by_cases h1' : x.d = 1
    · rw [if_pos h1', if_neg fun e => h0 e.1]
      unfold Ov.setL
      split <;> rfl
    · rw [if_neg h1', if_neg fun e => h0 e.1]
      unfold Ov.wipe
      split <;> rfl
theorem step_wiped {D : Ov} {x : Dd} (hg : x.good = true) (hd : x.d < 3) (n : Num) : (D.step x).wiped n = (D.wiped n || decide (x.d = 2 ∧ x.num = n)) := by
  unfold Dd.good at hg
  simp only [Bool.and_eq_true] at hg
  obtain ⟨⟨h1, h2⟩, h3⟩ := hg
  unfold Ov.step
  by_cases h0 : x.d = 0
  · rw [if_pos h0]
    have e : (D.setI x.num x.i).wiped n = D.wiped n := by
      unfold Ov.setI
      split <;> rfl
    rw [e]
    simp [h0]
  · rw [if_neg h0]
    by_cases h1' : x.d = 1
    · rw [if_pos h1']
      have e : (D.setL x.num x.off x.b).wiped n = D.wiped n := by
        unfold Ov.setL
        split <;> rfl
      rw [e]
      simp [h1']
    · rw [if_neg h1']
      rw [if_neg h1'] at h1
      have h2' : x.d = 2 := by omega
      unfold Ov.wipe
      rw [h1]
      by_cases hn : x.num = n
      · simp [h2', hn]
      · have hn' : ¬ n = x.num := fun e => hn e.symm
        simp [h2', hn, hn']
theorem step_lf {D : Ov} {x : Dd} (hg : x.good = true) (hd : x.d < 3) (n : Num) (o : Off) : (D.step x).lf (n, o) = if x.num = n ∧ x.d = 1 ∧ x.off = o then some x.b else if x.num = n ∧ x.d = 2 then none else D.lf (n, o) := by
  unfold Dd.good at hg
  simp only [Bool.and_eq_true] at hg
  obtain ⟨⟨h1, h2⟩, h3⟩ := hg
  unfold Ov.step
  by_cases h0 : x.d = 0
  · rw [if_pos h0]
    have e : (D.setI x.num x.i).lf (n, o) = D.lf (n, o) := by
      unfold Ov.setI
      split <;> rfl
    rw [e, if_neg (by omega), if_neg (by omega)]
  · rw [if_neg h0]
    by_cases h1' : x.d = 1
    · rw [if_pos h1']
      rw [if_pos h1'] at h1
      have hb : (decide (x.b.length = 0) || decide (x.b.length = 512)) = true := by simpa [h1'] using h3
      unfold Ov.setL
      rw [h1, hb]
      simp only [Bool.and_self, if_true]
      by_cases hn : x.num = n ∧ x.off = o
      · obtain ⟨rfl, rfl⟩ := hn
        simp [h1']
      · have e1 : ¬ (n, o) = (x.num, x.off) := fun e => by
          injection e with e1 e2
          exact hn ⟨e1.symm, e2.symm⟩
        have e2 : ¬ (x.num = n ∧ x.d = 1 ∧ x.off = o) := fun e => hn ⟨e.1, e.2.2⟩
        have e3 : ¬ (x.num = n ∧ x.d = 2) := fun e => by omega
        rw [if_neg e1, if_neg e2, if_neg e3]
    · rw [if_neg h1']
      rw [if_neg h1'] at h1
      have h2' : x.d = 2 := by omega
      unfold Ov.wipe
      rw [h1]
      simp only [if_true]
      by_cases hn : x.num = n
      · subst hn
        simp [h2']
      · have hn' : ¬ n = x.num := fun e => hn e.symm
        simp [hn, hn']
/-- deeds that may be -/
def DdsOk (l : List Dd) : Prop := ∀ x ∈ l, x.good = true ∧ x.d < 3
theorem ovD_says (r : List Dd) : DdsOk r → (∀ n, (ovD r.reverse).ino n = rIno r n) ∧ (∀ n, (ovD r.reverse).wiped n = rWiped r n) ∧ (∀ n o, ((ovD r.reverse).lf (n, o)).isSome = rSet r n o) ∧
    ∀ n o, rLf r n o = match (ovD r.reverse).lf (n, o) with | some b => some b | none => if (ovD r.reverse).wiped n then some [] else none := by
  induction r with
  | nil => exact fun _ => ⟨fun _ => rfl, fun _ => rfl, fun _ _ => rfl, fun _ _ => rfl⟩
  | cons x r ih =>
    intro hr
    obtain ⟨a1, a2, a3, a4⟩ := ih fun y hy => hr y (by simp [hy])
    obtain ⟨hg, hd⟩ := hr x (by simp)
    rw [List.reverse_cons, ovD_snoc]
    refine ⟨fun n => ?_, fun n => ?_, fun n o => ?_, fun n o => ?_⟩
    · rw [step_ino hg, a1]
      rfl
    · rw [step_wiped hg hd, a2]
      show _ = (decide (x.d = 2 ∧ x.num = n) || rWiped r n)
      rw [Bool.or_comm]
    · rw [step_lf hg hd]
      unfold rSet
      split
      · rfl
      · split
        · rfl
        · exact a3 n o
    · rw [step_lf hg hd, step_wiped hg hd]
      unfold rLf
      by_cases h1 : x.num = n ∧ x.d = 1 ∧ x.off = o
      · simp only [if_pos h1]
      · simp only [if_neg h1]
        by_cases h2 : x.num = n ∧ x.d = 2
        · simp [h2.1, h2.2]
        · simp only [if_neg h2]
          rw [a4]
          have e : decide (x.d = 2 ∧ x.num = n) = false := decide_eq_false fun e => h2 ⟨e.2, e.1⟩
          rw [e, Bool.or_false]
theorem step_merge (D E : Ov) (x : Dd) (hg : x.good = true) (hd : x.d < 3) : (D.merge E).step x = D.merge (E.step x) := by
  have ext : ∀ A B : Ov, (∀ n, A.ino n = B.ino n) → (∀ n o, A.lf (n, o) = B.lf (n, o)) → (∀ n, A.wiped n = B.wiped n) → A = B := fun A B h1 h2 h3 => by
    cases A
    cases B
    congr 1
    · exact funext h1
    · exact funext fun p => h2 p.1 p.2
    · exact funext h3
  refine ext _ _ (fun n => ?_) (fun n o => ?_) (fun n => ?_)
  · rw [step_ino hg]
    show (if x.d = 0 ∧ x.num = n then some x.i else (E.ino n).or (D.ino n)) = ((E.step x).ino n).or (D.ino n)
    rw [step_ino hg]
    split <;> rfl
  · rw [step_lf hg hd]
    show _ = ((E.step x).lf (n, o)).or (if (E.step x).wiped n then none else D.lf (n, o))
    rw [step_lf hg hd, step_wiped hg hd]
    show (if _ then _ else if _ then none else (E.lf (n, o)).or (if E.wiped n then none else D.lf (n, o))) = _
    by_cases h1 : x.num = n ∧ x.d = 1 ∧ x.off = o
    · simp only [if_pos h1, Option.some_or]
    · by_cases h2 : x.num = n ∧ x.d = 2
      · simp [h2.1, h2.2]
      · have e : decide (x.d = 2 ∧ x.num = n) = false := decide_eq_false fun e => h2 ⟨e.2, e.1⟩
        simp only [if_neg h1, if_neg h2]
        rw [e, Bool.or_false]
  · rw [step_wiped hg hd]
    show ((D.wiped n || E.wiped n) || _) = (D.wiped n || (E.step x).wiped n)
    rw [step_wiped hg hd, Bool.or_assoc]
/-- deeds behind deeds -/
theorem ovD_app (l : List Dd) (r : List Dd) : DdsOk r → ovD (l ++ r.reverse) = (ovD l).merge (ovD r.reverse) := by
  induction r with
  | nil =>
    intro _
    rw [List.reverse_nil, List.append_nil]
    show _ = (ovD l).merge Ov.new
    unfold Ov.merge Ov.new
    simp
  | cons x r ih =>
    intro hr
    obtain ⟨hg, hd⟩ := hr x (by simp)
    rw [List.reverse_cons, ← List.append_assoc, ovD_snoc, ovD_snoc, ih fun y hy => hr y (by simp [hy]), step_merge _ _ _ hg hd]
end Go.Proofs.YtnefdmbdkljifaaDoor
