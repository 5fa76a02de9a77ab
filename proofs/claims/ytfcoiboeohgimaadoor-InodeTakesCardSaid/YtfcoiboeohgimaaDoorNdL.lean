/- A node's bytes, in plain Lean: what is put is taken, and what is taken is what was put. No condition but that the values are of their types. -/
import Derived.Test.YtfcoiboeohgimaaDoorNdB
namespace Go.Proofs.YtfcoiboeohgimaaDoor
open Go.RowKit Go.Kin

theorem rawS_app (b r : List UInt8) (hb : b.length = 64) : rawS (b ++ r) 0 64 = (b, r, 0) := by
  simp [rawS, hb]
theorem ptS_put {p : Pt} (ok : PtOk p) (h : okP p = true) (r : List UInt8) : ptS (putP p ++ r) 0 = (p, r, 0) := by
  have hl := putP_length ok
  unfold ptS
  rw [rawS_app _ _ hl]
  simp only [hl, Nat.lt_irrefl, if_false]
  rw [if_pos (tk_put ok (okP_iff.1 h)), ptOf_put ok]
theorem ndS_put {ps : List Pt} (ok : ∀ p ∈ ps, PtOk p) (h : ps.all okP = true) (r : List UInt8) : ∀ k, k ≤ ps.length → ndS k (bytesN ps ++ r) 0 = (ps.take k, bytesN (ps.drop k) ++ r, 0) := by
  intro k
  induction k with
  | zero => intro _; simp [ndS]
  | succ k ih =>
    intro hk
    have hlt : k < ps.length := by omega
    simp only [ndS, ih (by omega)]
    have e1 := List.drop_eq_getElem_cons hlt
    have e2 : bytesN (ps.drop k) ++ r = putP ps[k] ++ (bytesN (ps.drop (k + 1)) ++ r) := by
      rw [e1, bytesN, List.flatMap_cons, List.append_assoc]
      rfl
    rw [e2, ptS_put (ok _ (List.getElem_mem hlt)) (List.all_eq_true.1 h _ (List.getElem_mem hlt)), List.take_add_one, List.getElem?_eq_getElem hlt]
    rfl
theorem nd8_put {ps : List Pt} (ok : NdOk ps) (h : ps.all okP = true) : nd8 (bytesN ps) = (ps, 0) := by
  have := ndS_put ok.all h [] 8 (by rw [ok.len]; omega)
  rw [List.take_of_length_le (by rw [ok.len]; omega), List.drop_of_length_le (by rw [ok.len]; omega), List.append_nil] at this
  unfold nd8
  rw [this]
  simp [endS, bytesN]
theorem rawS_e {l : List UInt8} {e : Int} {n : Nat} (h : (rawS l e n).2.2 = 0) : e = 0 ∧ n ≤ l.length ∧ rawS l e n = (l.take n, l.drop n, 0) := by
  unfold rawS at *
  split at h
  · rename_i he; exact absurd h he
  · rename_i he
    split at h
    · cases h
    · rename_i hl
      have he : e = 0 := by simpa using he
      exact ⟨he, by omega, by simp [he, hl]⟩
theorem ptS_e {l : List UInt8} {e : Int} (h : (ptS l e).2.2 = 0) : e = 0 ∧ l = putP (ptS l e).1 ++ (ptS l e).2.1 ∧ okP (ptS l e).1 = true := by
  unfold ptS at h
  split at h
  · rename_i hlt
    obtain ⟨h1, h2, h3⟩ := rawS_e h
    rw [h3] at hlt
    simp at hlt
    omega
  · rename_i hlt
    split at h
    · rename_i htk
      obtain ⟨h1, h2, h3⟩ := rawS_e h
      have hb : (l.take 64).length = 64 := by simp; omega
      have e1 : ptS l e = (ptOf (l.take 64), l.drop 64, 0) := by
        unfold ptS
        rw [if_neg hlt, if_pos htk, h3]
      rw [h3] at htk
      simp only at htk
      unfold tkOk at htk
      simp only [Bool.and_eq_true, Bool.not_eq_true'] at htk
      rw [e1]
      refine ⟨h1, ?_, htk.2⟩
      simp only
      rw [(put_ptOf_iff hb).2 htk.1, List.take_append_drop]
    · cases h
theorem ndS_e {l : List UInt8} {e : Int} : ∀ k, (ndS k l e).2.2 = 0 → e = 0 ∧ l = bytesN (ndS k l e).1 ++ (ndS k l e).2.1 ∧ (ndS k l e).1.all okP = true
  | 0, h => ⟨h, by simp [ndS, bytesN], by simp [ndS]⟩
  | k + 1, h => by
    obtain ⟨h1, h2, h3⟩ := ptS_e (show (ptS (ndS k l e).2.1 (ndS k l e).2.2).2.2 = 0 from h)
    obtain ⟨k1, k2, k3⟩ := ndS_e k h1
    refine ⟨k1, ?_, ?_⟩
    · simp only [ndS, bytesN, List.flatMap_append, List.flatMap_cons, List.flatMap_nil, List.append_nil, List.append_assoc]
      rw [← h2]
      exact k2
    · simp only [ndS, List.all_append, k3, List.all_cons, List.all_nil, h3]; rfl
theorem endS_e {l : List UInt8} {e : Int} (h : (endS l e).2 = 0) : l = [] ∧ e = 0 := by
  unfold endS at h
  split at h
  · unfold failS at h
    split at h
    · cases h
    · rename_i h1 h2; exact absurd h h2
  · rename_i h1
    exact ⟨List.eq_nil_of_length_eq_zero (by omega), h⟩
/-- what is taken was put -/
theorem nd8_e {l : List UInt8} (h : (nd8 l).2 = 0) : NdOk (nd8 l).1 ∧ (nd8 l).1.all okP = true ∧ bytesN (nd8 l).1 = l := by
  unfold nd8 at h
  split at h
  · rename_i he
    have e1 : nd8 l = ((ndS 8 l 0).1, 0) := by unfold nd8; rw [if_pos he]
    rw [e1]
    obtain ⟨h1, h2⟩ := endS_e he
    obtain ⟨_, h3, h4⟩ := ndS_e 8 h2
    rw [h1, List.append_nil] at h3
    exact ⟨⟨ndS_length _ _ _, ndS_ok _ _ _⟩, h4, h3.symm⟩
  · cases h
theorem nd8_ok (l : List UInt8) : NdOk (nd8 l).1 := by
  unfold nd8
  split
  · exact ⟨ndS_length _ _ _, ndS_ok _ _ _⟩
  · exact ndz_ok
theorem nd8_2 (l : List UInt8) : (nd8 l).2 = 0 ∨ (nd8 l).2 = 5 := by unfold nd8; split <;> simp
end Go.Proofs.YtfcoiboeohgimaaDoor
