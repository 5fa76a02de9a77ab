/- The document's hash: turned and moved, as contracts on calls. No condition but that the values are of their types. -/
import Derived.Test.YtfcoiboeohgimaaDoorShaC
namespace Go.Proofs.YtfcoiboeohgimaaDoor
open Go.RowKit Go.Kin

theorem rot_sum {x n : Nat} (hx : x < 4294967296) (hn : n ≤ 32) : rot x n = (x % 2 ^ n) * 2 ^ (32 - n) + x / 2 ^ n := by
  have h1 : (4294967296 : Nat) = 2 ^ n * 2 ^ (32 - n) := by rw [← Nat.pow_add, show n + (32 - n) = 32 by omega]
  have h2 : x / 2 ^ n < 2 ^ (32 - n) := by
    rw [Nat.div_lt_iff_lt_mul (Nat.two_pow_pos n), Nat.mul_comm, ← h1]
    exact hx
  unfold rot
  rw [h1, Nat.mul_mod_mul_right, Nat.mul_comm (x % 2 ^ n), Nat.two_pow_add_eq_or_of_lt h2]
theorem rot_zero {x : Nat} (hx : x < 4294967296) : rot x 0 = x := by
  rw [rot_sum hx (by decide)]
  simp [Nat.mod_one]
theorem rot_step {x n : Nat} (hx : x < 4294967296) (hn : n < 32) : rot x (n + 1) = rot x n / 2 + rot x n % 2 * 2147483648 := by
  rw [rot_sum hx (by omega), rot_sum hx (by omega)]
  obtain ⟨c, hc⟩ : ∃ c, 2 ^ (32 - (n + 1)) = c := ⟨_, rfl⟩
  obtain ⟨d, hd⟩ : ∃ d, 2 ^ n = d := ⟨_, rfl⟩
  have e1 : 2 ^ (32 - n) = 2 * c := by rw [← hc, show 32 - n = (32 - (n + 1)) + 1 by omega, Nat.pow_succ, Nat.mul_comm]
  have e2 : d * c = 2147483648 := by rw [← hc, ← hd, ← Nat.pow_add, show n + (32 - (n + 1)) = 31 by omega]
  have e3 : x % 2 ^ (n + 1) = x % d + d * (x / d % 2) := by rw [Nat.pow_succ, hd, Nat.mod_mul]
  have e4 : x / 2 ^ (n + 1) = x / d / 2 := by rw [Nat.pow_succ, hd, Nat.div_div_eq_div_mul]
  rw [e1, e3, e4, hc, hd]
  generalize x % d = a
  generalize x / d = b
  have e5 : (a + d * (b % 2)) * c = a * c + b % 2 * 2147483648 := by rw [Nat.add_mul, ← e2]; congr 1; rw [Nat.mul_comm d, Nat.mul_assoc]
  have e6 : a * (2 * c) = 2 * (a * c) := by rw [Nat.mul_left_comm]
  rw [e5, e6]
  generalize a * c = y
  omega
theorem turned_any (x n : Nat) (w : World) (hx : x < 4294967296) (hn : n ≤ 32) : Ret Tryd.prog 92 #[.int .u32 x, .int .i64 n] w fun v' w' => v' = .int .u32 (rot x n) ∧ w' = w := by
  refine v_enter Tryd.func92 Tryd.ntmps92 rfl (by simp) fun R' hR => ?_
  simp [go_sem]
  refine v_loop (fun r f wr => ∃ k, k ≤ n ∧ r = n - k ∧ f 0 = .int .u32 (rot x k) ∧ f 1 = .int .i64 n ∧ f 5 = .int .i64 k ∧ wr = w) n
    ⟨0, by omega, rfl, by simp [rot_zero hx], by simp, by simp, rfl⟩ ?_
  rintro J hJ _ f wr ⟨k, hk, rfl, f0, f1, f5, rfl⟩
  have hlt := rot_lt x k hx
  by_cases hkn : k < n
  · have hki : (k : Int) < n := by omega
    have hwk : IntKind.i64.wrap ((k : Int) + 1) = ((k + 1 : Nat) : Int) := by simp [IntKind.wrap_i64]; omega
    have hs := rot_step hx (n := k) (by omega)
    have ht : ((rot x k : Nat) : Int).tmod 2 = ((rot x k % 2 : Nat) : Int) := by rw [Int.tmod_eq_emod_of_nonneg (by omega)]; omega
    have hq : ((rot x k : Nat) : Int).tdiv 2 = ((rot x k / 2 : Nat) : Int) := by rw [Int.tdiv_eq_ediv_of_nonneg (by omega)]; omega
    generalize rot x k = y at *
    by_cases h1 : y % 2 = 1
    · have hb : ((y % 2 : Nat) : Int) = 1 := by omega
      have hw2 : IntKind.u32.wrap (((y / 2 : Nat) : Int) + 2147483648) = ((rot x (k + 1) : Nat) : Int) := by rw [IntKind.wrap_u32, hs]; omega
      have hy2 : IntKind.u32.wrap ((y : Int) / 2 + 2147483648) = ((rot x (k + 1) : Nat) : Int) := by rw [IntKind.wrap_u32, hs]; omega
      have hwd : IntKind.u32.wrap ((y : Int) / 2) = (y : Int) / 2 := by rw [IntKind.wrap_u32]; omega
      simp [go_sem, f0, f1, f5, hki, ht, hq, h1, hwk, hwd, hy2]
      exact Rnd.intro (n - (k + 1)) (by omega) (hJ _ _ _ ⟨k + 1, by omega, rfl, by simp, by simp [f1], by simp, rfl⟩)
    · have h0 : y % 2 = 0 := by omega
      have hwd : IntKind.u32.wrap ((y : Int) / 2) = ((rot x (k + 1) : Nat) : Int) := by rw [IntKind.wrap_u32, hs]; omega
      simp [go_sem, f0, f1, f5, hki, ht, hq, h0, hwk, hwd]
      exact Rnd.intro (n - (k + 1)) (by omega) (hJ _ _ _ ⟨k + 1, by omega, rfl, by simp, by simp [f1], by simp, rfl⟩)
  · obtain rfl : k = n := by omega
    simp [go_sem, f0, f1, f5]
    exact hR _ _ ⟨rfl, rfl⟩
theorem moved_any (x n : Nat) (w : World) (hx : x < 4294967296) (hn : n ≤ 32) : Ret Tryd.prog 96 #[.int .u32 x, .int .i64 n] w fun v' w' => v' = .int .u32 (x / 2 ^ n : Nat) ∧ w' = w := by
  refine v_enter Tryd.func96 Tryd.ntmps96 rfl (by simp) fun R' hR => ?_
  simp [go_sem]
  refine v_loop (fun r f wr => ∃ k, k ≤ n ∧ r = n - k ∧ f 0 = .int .u32 (x / 2 ^ k : Nat) ∧ f 1 = .int .i64 n ∧ f 5 = .int .i64 k ∧ wr = w) n
    ⟨0, by omega, rfl, by simp, by simp, by simp, rfl⟩ ?_
  rintro J hJ _ f wr ⟨k, hk, rfl, f0, f1, f5, rfl⟩
  by_cases hkn : k < n
  · have hki : (k : Int) < n := by omega
    have hwk : IntKind.i64.wrap ((k : Int) + 1) = ((k + 1 : Nat) : Int) := by simp [IntKind.wrap_i64]; omega
    have hs : x / 2 ^ (k + 1) = x / 2 ^ k / 2 := by rw [Nat.pow_succ, Nat.div_div_eq_div_mul]
    have hlt : x / 2 ^ k < 4294967296 := Nat.lt_of_le_of_lt (Nat.div_le_self _ _) hx
    obtain ⟨z, hz⟩ : ∃ z, x / 2 ^ (k + 1) = z := ⟨_, rfl⟩
    rw [hz] at hs
    generalize x / 2 ^ k = y at *
    have hwd : IntKind.u32.wrap ((y : Int) / 2) = ((z : Nat) : Int) := by rw [IntKind.wrap_u32, hs]; omega
    simp [go_sem, f0, f1, f5, hki, hwk, hwd]
    exact Rnd.intro (n - (k + 1)) (by omega) (hJ _ _ _ ⟨k + 1, by omega, rfl, by simp [hz], by simp [f1], by simp, rfl⟩)
  · obtain rfl : k = n := by omega
    simp [go_sem, f0, f1, f5]
    exact hR _ _ ⟨rfl, rfl⟩
end Go.Proofs.YtfcoiboeohgimaaDoor
