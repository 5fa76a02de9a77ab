/- Has an overlay just what deeds say? The plain part. No condition. -/
import Derived.Test.YtnefdmbdkljifaaDoorOwH
set_option linter.unusedSimpArgs false
set_option linter.unusedVariables false

namespace Go.Proofs.YtnefdmbdkljifaaDoor
open Go.RowKit Go.Kin Go.Maps

/-- a row in order, k elements of it ahead of v -/
structure Cut {α : Type} (key : α → Nat) (xs : List α) (k v : Nat) : Prop where
  le : k ≤ xs.length
  lo : ∀ a ∈ xs.take k, key a < v
  hi : ∀ a ∈ xs.drop k, v ≤ key a
section
variable {α : Type} {key : α → Nat} {xs : List α} {k v : Nat}
theorem Cut.start (h : ∀ a ∈ xs, v ≤ key a) : Cut key xs 0 v := ⟨Nat.zero_le _, by simp, by simpa using h⟩
theorem Cut.miss (h : Cut key xs k v) (hn : ∀ a ∈ xs, key a ≠ v) : Cut key xs k (v + 1) :=
  ⟨h.le, fun a ha => Nat.lt_succ_of_lt (h.lo a ha), fun a ha => by
    have := h.hi a ha
    have := hn a (List.mem_of_mem_drop ha)
    omega⟩
theorem Cut.hit (h : Cut key xs k v) (hs : xs.Pairwise fun a b => key a < key b) {a : α} (ha : a ∈ xs) (hv : key a = v) : xs[k]? = some a ∧ Cut key xs (k + 1) (v + 1) := by
  have hd : a ∈ xs.drop k := by
    have hm : a ∈ xs.take k ++ xs.drop k := by rw [List.take_append_drop]; exact ha
    rcases List.mem_append.1 hm with hm | hm
    · have := h.lo a hm; omega
    · exact hm
  obtain ⟨b, t, hbt⟩ : ∃ b t, xs.drop k = b :: t := by
    cases hh : xs.drop k with
    | nil => rw [hh] at hd; cases hd
    | cons b t => exact ⟨b, t, rfl⟩
  have hb : xs[k]? = some b := by
    have := List.getElem?_drop (xs := xs) (i := k) (j := 0)
    rw [hbt] at this
    simpa using this.symm
  have hp : (b :: t).Pairwise fun a b => key a < key b := by rw [← hbt]; exact hs.drop
  have hlt := (List.pairwise_cons.1 hp).1
  have hbv := h.hi b (by rw [hbt]; simp)
  have hab : a = b := by
    rw [hbt] at hd
    rcases List.mem_cons.1 hd with rfl | hd
    · rfl
    · have := hlt a hd; omega
  subst hab
  refine ⟨hb, ?_, fun c hc => ?_, fun c hc => ?_⟩
  · have := (List.getElem?_eq_some_iff.1 hb).1; omega
  · rw [List.take_add_one, hb] at hc
    rcases List.mem_append.1 hc with hc | hc
    · exact Nat.lt_succ_of_lt (h.lo c hc)
    · simp at hc; subst hc; omega
  · have e : xs.drop (k + 1) = t := by
      rw [← List.drop_drop, hbt]
      rfl
    rw [e] at hc
    have := hlt c hc
    omega
theorem Cut.end (h : Cut key xs k v) (hn : ∀ a ∈ xs, key a < v) : k = xs.length := by
  have : xs.drop k = [] := by
    cases hh : xs.drop k with
    | nil => rfl
    | cons b t =>
      have h1 := h.hi b (by rw [hh]; simp)
      have h2 := hn b (List.mem_of_mem_drop (by rw [hh]; simp))
      omega
  have := List.drop_eq_nil_iff.1 this
  have := h.le
  omega
end
theorem same_len {α : Type} {xs ys : List α} (h1 : xs.Nodup) (h2 : ys.Nodup) (h : ∀ a, a ∈ xs ↔ a ∈ ys) : xs.length = ys.length := ((List.perm_ext_iff_of_nodup h1 h2).2 h).length_eq
/-- a place that has a leaf of its own -/
def Ne (D : Ov) (p : Num × Off) : Prop := ∃ b, D.lf p = some b ∧ b ≠ []
/-- of any number that a deed names, there is something; and of no other -/
theorem any_iff (l : List Dd) : DdsOk l → ∀ n, (ovD l).any n ↔ ∃ x ∈ l, x.num = n := by
  intro hl n
  have key : ∀ r : List Dd, DdsOk r → ((ovD r.reverse).any n ↔ ∃ x ∈ r, x.num = n) := by
    intro r
    induction r with
    | nil =>
      intro _
      constructor
      · rintro (h | h | ⟨o, h⟩)
        · cases h
        · cases h
        · cases h
      · rintro ⟨x, hx, _⟩
        cases hx
    | cons x r ih =>
      intro hr
      obtain ⟨hg, hd⟩ := hr x (by simp)
      have ih := ih fun y hy => hr y (by simp [hy])
      have hcons : (∃ y ∈ x :: r, y.num = n) ↔ (x.num = n ∨ ∃ y ∈ r, y.num = n) := by simp
      rw [List.reverse_cons, ovD_snoc, hcons, ← ih]
      unfold Ov.any
      simp only [step_wiped hg hd, step_ino hg, step_lf hg hd]
      by_cases hn : x.num = n
      · simp only [hn, true_or, iff_true]
        have h3 : x.d = 0 ∨ x.d = 1 ∨ x.d = 2 := by omega
        rcases h3 with h3 | h3 | h3
        · exact .inr (.inl (by simp [h3]))
        · exact .inr (.inr ⟨x.off, by simp [h3]⟩)
        · exact .inl (by simp [h3])
      · simp [hn]
  have := key l.reverse fun x hx => hl x (by simpa using hx)
  rw [List.reverse_reverse] at this
  rw [this]
  simp
theorem ovD_ok (l : List Dd) : DdsOk l → (ovD l).Ok := by
  intro hl
  have key : ∀ r : List Dd, DdsOk r → (ovD r.reverse).Ok := by
    intro r
    induction r with
    | nil => exact fun _ => Ov.Ok.new
    | cons x r ih =>
      intro hr
      obtain ⟨hg, hd⟩ := hr x (by simp)
      rw [List.reverse_cons, ovD_snoc]
      exact (ih fun y hy => hr y (by simp [hy])).step hg hd
  have := key l.reverse fun x hx => hl x (by simpa using hx)
  rwa [List.reverse_reverse] at this
end Go.Proofs.YtnefdmbdkljifaaDoor
