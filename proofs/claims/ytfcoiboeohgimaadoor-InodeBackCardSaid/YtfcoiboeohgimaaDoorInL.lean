/- A block of inodes, in plain Lean: what is put is taken, and what is taken is what was put. No condition but that the values are of their types. -/
import Derived.Test.YtfcoiboeohgimaaDoorInE
import Derived.Test.YtfcoiboeohgimaaDoorNdL
namespace Go.Proofs.YtfcoiboeohgimaaDoor
open Go.RowKit Go.Kin

theorem rawS_n {a r : List UInt8} {n : Nat} (h : a.length = n) : rawS (a ++ r) 0 n = (a, r, 0) := by
  subst h
  simp [rawS]
theorem noughtS_n (n : Nat) (r : List UInt8) : noughtS (zb n ++ r) 0 n = (r, 0) := by
  unfold noughtS
  rw [rawS_n (zb_length n)]
  have : nz (zb n) = false := (nz_zb _).2 (by rw [zb_length])
  rw [this]
  rfl
theorem noughtS_e {l : List UInt8} {e : Int} {n : Nat} (h : (noughtS l e n).2 = 0) : e = 0 ∧ l = zb n ++ (noughtS l e n).1 := by
  unfold noughtS at *
  by_cases hz : nz (rawS l e n).1 = true
  · rw [if_pos hz] at h
    unfold failS at h
    split at h
    · cases h
    · rename_i h1; exact absurd h h1
  · rw [if_neg hz] at h ⊢
    obtain ⟨h1, h2, h3⟩ := rawS_e h
    rw [h3] at hz ⊢
    simp only [Bool.not_eq_true] at hz
    refine ⟨h1, ?_⟩
    have := (nz_zb _).1 hz
    rw [List.length_take, Nat.min_eq_left h2] at this
    rw [← this, List.take_append_drop]
theorem raw_le {l : List UInt8} {e : Int} {n : Nat} (h : (rawS l e n).2.2 = 0) : e = 0 ∧ l = le (fromLe (rawS l e n).1) n ++ (rawS l e n).2.1 := by
  obtain ⟨h1, h2, h3⟩ := rawS_e h
  rw [h3]
  refine ⟨h1, ?_⟩
  have := le_fromLe (l.take n)
  rw [List.length_take, Nat.min_eq_left h2] at this
  rw [this, List.take_append_drop]
theorem inoS_e {l : List UInt8} {e : Int} (h : (inoS l e).2.2 = 0) : e = 0 ∧ l = putI (inoS l e).1 ++ (inoS l e).2.1 ∧ okP (inoS l e).1.r = true := by
  have h6 : (i6 l e).2 = 0 := h
  obtain ⟨e5, q6⟩ := noughtS_e h6
  obtain ⟨e4, q5, okr⟩ := ptS_e (show (ptS (i4 l e).2.1 (i4 l e).2.2).2.2 = 0 from e5)
  obtain ⟨e3, q4⟩ := raw_le (show (rawS (i3 l e).2.1 (i3 l e).2.2 4).2.2 = 0 from e4)
  obtain ⟨e2, q3⟩ := raw_le (show (rawS (i2 l e).1 (i2 l e).2 2).2.2 = 0 from e3)
  obtain ⟨e1, q2⟩ := noughtS_e (show (noughtS (i1 l e).2.1 (i1 l e).2.2 1).2 = 0 from e2)
  obtain ⟨e0, q1⟩ := raw_le (show (rawS l e 1).2.2 = 0 from e1)
  have q2 : (i1 l e).2.1 = zb 1 ++ (i2 l e).1 := q2
  have q3 : (i2 l e).1 = le (fromLe (i3 l e).1) 2 ++ (i3 l e).2.1 := q3
  have q4 : (i3 l e).2.1 = le (fromLe (i4 l e).1) 4 ++ (i4 l e).2.1 := q4
  have q5 : (i4 l e).2.1 = putP (i5 l e).1 ++ (i5 l e).2.1 := q5
  have q1 : l = le (fromLe (i1 l e).1) 1 ++ (i1 l e).2.1 := q1
  have hlen : l.length = 72 + (i5 l e).2.1.length := by
    have a1 := congrArg List.length q1
    have a2 := congrArg List.length q2
    have a3 := congrArg List.length q3
    have a4 := congrArg List.length q4
    have a5 := congrArg List.length q5
    simp only [List.length_append, le_length, zb_length, putP_length (ptS_ok _ _)] at a1 a2 a3 a4
    rw [List.length_append, show (putP (i5 l e).1).length = 64 from putP_length (ptS_ok _ _)] at a5
    omega
  have hn : (128 - (l.length : Int) + (i5 l e).2.1.length).toNat = 56 := by omega
  rw [hn] at q6
  have q6 : (i5 l e).2.1 = zb 56 ++ (i6 l e).1 := by
    have h7 : (i6 l e).1 = (noughtS (i5 l e).2.1 (i5 l e).2.2 56).1 := by unfold i6; rw [hn]
    rw [h7]
    exact q6
  refine ⟨e0, ?_, okr⟩
  conv => lhs; rw [q1, q2, q3, q4, q5, q6]
  rw [putI_eq]
  simp only [inoS, List.append_assoc]
theorem inoS_put {x : In} (ok : InOk x) (h : okP x.r = true) (r : List UInt8) : inoS (putI x ++ r) 0 = (x, r, 0) := by
  have hl := putI_length ok
  have q1 : i1 (putI x ++ r) 0 = (le x.k 1, zb 1 ++ (le x.n 2 ++ (le x.s 4 ++ (putP x.r ++ (zb 56 ++ r)))), 0) := by
    unfold i1
    rw [putI_eq]
    simp only [List.append_assoc]
    exact rawS_n (le_length _ _)
  have q2 : i2 (putI x ++ r) 0 = (le x.n 2 ++ (le x.s 4 ++ (putP x.r ++ (zb 56 ++ r))), 0) := by
    unfold i2
    rw [q1]
    exact noughtS_n 1 _
  have q3 : i3 (putI x ++ r) 0 = (le x.n 2, le x.s 4 ++ (putP x.r ++ (zb 56 ++ r)), 0) := by
    unfold i3
    rw [q2]
    exact rawS_n (le_length _ _)
  have q4 : i4 (putI x ++ r) 0 = (le x.s 4, putP x.r ++ (zb 56 ++ r), 0) := by
    unfold i4
    rw [q3]
    exact rawS_n (le_length _ _)
  have q5 : i5 (putI x ++ r) 0 = (x.r, zb 56 ++ r, 0) := by
    unfold i5
    rw [q4]
    exact ptS_put ok.r h _
  have q6 : i6 (putI x ++ r) 0 = (r, 0) := by
    unfold i6
    rw [q5]
    have : (128 - ((putI x ++ r).length : Int) + (x.r, zb 56 ++ r, (0 : Int)).2.1.length).toNat = 56 := by
      simp only [List.length_append, hl, zb_length]
      omega
    rw [this]
    exact noughtS_n 56 r
  unfold inoS
  rw [q1, q3, q4, q5, q6]
  have hk := ok.k
  have hn := ok.n
  have hs := ok.s
  simp only [fromLe_of_le, Nat.mod_eq_of_lt (show x.k < 256 ^ 1 by omega), Nat.mod_eq_of_lt (show x.n < 256 ^ 2 by omega), Nat.mod_eq_of_lt (show x.s < 256 ^ 4 by omega)]
theorem ibS_put {xs : List In} (ok : ∀ x ∈ xs, InOk x) (h : xs.all mayI = true) (r : List UInt8) : ∀ k, k ≤ xs.length → ibS k (bytesI xs ++ r) 0 = (xs.take k, bytesI (xs.drop k) ++ r, 0) := by
  intro k
  induction k with
  | zero => intro _; simp [ibS]
  | succ k ih =>
    intro hk
    have hlt : k < xs.length := by omega
    simp only [ibS, ih (by omega)]
    have e1 := List.drop_eq_getElem_cons hlt
    have e2 : bytesI (xs.drop k) ++ r = putI xs[k] ++ (bytesI (xs.drop (k + 1)) ++ r) := by
      rw [e1, bytesI, List.flatMap_cons, List.append_assoc]
      rfl
    rw [e2, inoS_put (ok _ (List.getElem_mem hlt)) (okP_iff.2 (mayI_root (List.all_eq_true.1 h _ (List.getElem_mem hlt)))), List.take_add_one, List.getElem?_eq_getElem hlt]
    rfl
theorem ib4_put {xs : List In} (ok : IbOk xs) (h : xs.all mayI = true) : ib4 (bytesI xs) = (xs, 0) := by
  have := ibS_put ok.all h [] 4 (by rw [ok.len]; omega)
  rw [List.take_of_length_le (by rw [ok.len]; omega), List.drop_of_length_le (by rw [ok.len]; omega), List.append_nil] at this
  unfold ib4
  rw [this]
  simp [endS, bytesI, h]
theorem ibS_e {l : List UInt8} {e : Int} : ∀ k, (ibS k l e).2.2 = 0 → e = 0 ∧ l = bytesI (ibS k l e).1 ++ (ibS k l e).2.1
  | 0, h => ⟨h, by simp [ibS, bytesI]⟩
  | k + 1, h => by
    obtain ⟨h1, h2, h3⟩ := inoS_e (show (inoS (ibS k l e).2.1 (ibS k l e).2.2).2.2 = 0 from h)
    obtain ⟨k1, k2⟩ := ibS_e k h1
    refine ⟨k1, ?_⟩
    simp only [ibS, bytesI, List.flatMap_append, List.flatMap_cons, List.flatMap_nil, List.append_nil, List.append_assoc]
    rw [← h2]
    exact k2
/-- what is taken was put -/
theorem ib4_e {l : List UInt8} (h : (ib4 l).2 = 0) : IbOk (ib4 l).1 ∧ (ib4 l).1.all mayI = true ∧ bytesI (ib4 l).1 = l := by
  unfold ib4 at h
  split at h
  · rename_i he
    have e1 : ib4 l = ((ibS 4 l 0).1, 0) := by unfold ib4; rw [if_pos he]
    rw [e1]
    obtain ⟨h1, h2⟩ := endS_e he.1
    obtain ⟨_, h3⟩ := ibS_e 4 h2
    rw [h1, List.append_nil] at h3
    exact ⟨⟨ibS_length _ _ _, ibS_ok _ _ _⟩, he.2, h3.symm⟩
  · cases h
theorem ib4_ok (l : List UInt8) : IbOk (ib4 l).1 := by
  unfold ib4
  split
  · exact ⟨ibS_length _ _ _, ibS_ok _ _ _⟩
  · exact ibz_ok
theorem ib4_2 (l : List UInt8) : (ib4 l).2 = 0 ∨ ((ib4 l).2 = 5 ∧ (ib4 l).1 = ibz) := by unfold ib4; split <;> simp
/-- are bytes those of four inodes that may be? -/
def Is4 (l : List UInt8) (xs : List In) : Prop := IbOk xs ∧ xs.all mayI = true ∧ bytesI xs = l
theorem is4_ib4 {l : List UInt8} {xs : List In} (h : Is4 l xs) : ib4 l = (xs, 0) := by
  obtain ⟨h1, h2, rfl⟩ := h
  exact ib4_put h1 h2
theorem not4_ib4 {l : List UInt8} (h : ∀ xs, ¬ Is4 l xs) : ib4 l = (ibz, 5) := by
  rcases ib4_2 l with h0 | ⟨h5, hz⟩
  · exact absurd ⟨(ib4_e h0).1, (ib4_e h0).2.1, (ib4_e h0).2.2⟩ (h _)
  · rw [← hz, ← h5]
end Go.Proofs.YtfcoiboeohgimaaDoor
