/- What was put behind one another is read so: the plain law. It speaks of no program. -/
import Derived.Test.YtbodlpncejhliaaWireC
namespace Go.Proofs.Ytbodlpncejhliaa
open Go.RowKit Go.Kin

/-- the width that a part's number says -/
def wd (d : Nat) : Nat := if d % 3 = 0 then 2 else if d % 3 = 1 then 4 else 8
/-- the bytes of the parts from i on, m of them -/
def enc (D N : Nat → Nat) : Nat → Nat → List UInt8
  | _, 0 => []
  | i, m + 1 => le (N i) (wd (D i)) ++ enc D N (i + 1) m
theorem enc_snoc (D N : Nat → Nat) (i m : Nat) : enc D N i (m + 1) = enc D N i m ++ le (N (i + m)) (wd (D (i + m))) := by
  induction m generalizing i with
  | zero => simp [enc]
  | succ m ih => rw [enc, ih, enc, List.append_assoc, show i + 1 + m = i + (m + 1) by omega]
theorem wd_le (d : Nat) : 2 ≤ wd d ∧ wd d ≤ 8 := by
  unfold wd
  split
  · omega
  · split <;> omega
theorem enc_len (D N : Nat → Nat) (i m : Nat) : 2 * m ≤ (enc D N i m).length ∧ (enc D N i m).length ≤ 8 * m := by
  induction m generalizing i with
  | zero => simp [enc]
  | succ m ih =>
    have := ih (i + 1)
    have := wd_le (D i)
    simp only [enc, List.length_append, le_length]
    omega
theorem fromLe_le (n k : Nat) : fromLe (le n k) = n % 256 ^ k := by
  induction k generalizing n with
  | zero => simp [le, fromLe, Nat.mod_one]
  | succ k ih =>
    simp only [le, fromLe, ih, UInt8.toNat_ofNat']
    rw [show 256 ^ (k + 1) = 256 * 256 ^ k by rw [Nat.pow_succ, Nat.mul_comm], Nat.mod_mul]
/-- the three readers: all, a byte less, a byte more -/
def cut (k : Nat) (l : List UInt8) : List UInt8 := if k = 0 then l else if k = 1 then l.dropLast else l ++ [0]
/-- reader k ahead of part i, of n parts in all -/
def stB (D N : Nat → Nat) (n k i : Nat) : List UInt8 := if i = n ∧ k = 1 then [] else cut k (enc D N i (n - i))
def stE (n k i : Nat) : Int := if i = n ∧ k = 1 then 4 else 0
/-- what reader k reads of part i -/
def valB (D N : Nat → Nat) (n k i : Nat) : Nat := if i + 1 = n ∧ k = 1 then 0 else N i % 256 ^ wd (D i)

theorem cut_app (k : Nat) (a b : List UInt8) (h : k ≠ 1 ∨ b ≠ []) : cut k (a ++ b) = a ++ cut k b := by
  unfold cut
  split
  · rfl
  · split
    · rename_i hk
      have hb : b ≠ [] := h.resolve_left fun h => h hk
      rw [List.dropLast_append_of_ne_nil hb]
    · simp
theorem raw_app (a b : List UInt8) : rawS (a ++ b) 0 a.length = (a, b, 0) := by
  unfold rawS
  simp
theorem step_law (D N : Nat → Nat) (n k i : Nat) (hi : i < n) : rawS (stB D N n k i) (stE n k i) (wd (D i)) = ((rawS (stB D N n k i) (stE n k i) (wd (D i))).1, stB D N n k (i + 1), stE n k (i + 1)) ∧ fromLe (rawS (stB D N n k i) (stE n k i) (wd (D i))).1 = valB D N n k i := by
  have h0 : ¬ (i = n ∧ k = 1) := by omega
  unfold stB stE valB
  rw [if_neg h0, if_neg h0]
  obtain ⟨m, rfl⟩ : ∃ m, n = i + (m + 1) := ⟨n - i - 1, by omega⟩
  have e1 : i + (m + 1) - i = m + 1 := by omega
  have e2 : i + (m + 1) - (i + 1) = m := by omega
  rw [e1, e2, enc]
  by_cases hk : k = 1 ∧ m = 0
  · obtain ⟨rfl, rfl⟩ := hk
    have hw := wd_le (D i)
    have hl : (cut 1 (le (N i) (wd (D i)) ++ enc D N (i + 1) 0)).length < wd (D i) := by
      simp [cut, enc, le_length]; omega
    have : rawS (cut 1 (le (N i) (wd (D i)) ++ enc D N (i + 1) 0)) 0 (wd (D i)) = ([], [], 4) := by
      unfold rawS
      simp [hl]
    rw [this]
    simp [fromLe]
  · have hc : k ≠ 1 ∨ enc D N (i + 1) m ≠ [] := by
      by_cases h1 : k = 1
      · right
        intro he
        have := (enc_len D N (i + 1) m).1
        rw [he] at this
        simp at this
        omega
      · exact .inl h1
    rw [cut_app k _ _ hc]
    have := raw_app (le (N i) (wd (D i))) (cut k (enc D N (i + 1) m))
    rw [le_length] at this
    rw [this]
    have h1 : ¬ (i + 1 = i + (m + 1) ∧ k = 1) := fun h => hk ⟨h.2, by omega⟩
    rw [if_neg h1, if_neg h1, if_neg h1]
    exact ⟨rfl, fromLe_le _ _⟩
theorem stB_zero (D N : Nat → Nat) (n k : Nat) (hn : 0 < n) : stB D N n k 0 = cut k (enc D N 0 n) ∧ stE n k 0 = 0 := by
  unfold stB stE
  have : ¬ (0 = n ∧ k = 1) := by omega
  rw [if_neg this, if_neg this]
  simp
theorem st_end (D N : Nat → Nat) (n : Nat) : stB D N n 0 n = [] ∧ stE n 0 n = 0 ∧ stB D N n 1 n = [] ∧ stE n 1 n = 4 ∧ stB D N n 2 n = [0] ∧ stE n 2 n = 0 := by
  unfold stB stE cut
  simp [enc]
theorem st_len (D N : Nat → Nat) (n k i : Nat) (hn : n ≤ 100) : (stB D N n k i).length ≤ 1000 := by
  unfold stB cut
  have := (enc_len D N i (n - i)).2
  split
  · simp
  · split
    · omega
    · split
      · simp; omega
      · simp; omega
end Go.Proofs.Ytbodlpncejhliaa
