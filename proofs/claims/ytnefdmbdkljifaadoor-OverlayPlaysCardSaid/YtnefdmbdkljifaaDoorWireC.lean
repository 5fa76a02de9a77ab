/- The numbers that a wire.Reader reads. No condition but on sizes. -/
import Derived.Test.YtnefdmbdkljifaaDoorWireB
set_option linter.unusedSimpArgs false
set_option linter.unusedVariables false

namespace Go.Proofs.YtnefdmbdkljifaaDoor
open Go.RowKit Go.Kin

def fromLe : List UInt8 → Nat
  | [] => 0
  | c :: l => c.toNat + 256 * fromLe l
theorem fromLe_lt (l : List UInt8) : fromLe l < 256 ^ l.length := by
  induction l with
  | nil => simp [fromLe]
  | cons c l ih =>
    have := c.toNat_lt
    simp only [fromLe, List.length_cons, Nat.pow_succ]
    omega
theorem fromLe_snoc (l : List UInt8) (c : UInt8) : fromLe (l ++ [c]) = fromLe l + c.toNat * 256 ^ l.length := by
  induction l with
  | nil => simp [fromLe]
  | cons d l ih => simp only [List.cons_append, fromLe, ih, List.length_cons, Nat.pow_succ, Nat.mul_add]; rw [← Nat.mul_assoc, Nat.mul_comm (256 ^ l.length) 256, ← Nat.mul_assoc, Nat.mul_comm 256 c.toNat]; omega
theorem fromLe_or (l : List UInt8) (c : UInt8) : fromLe l ||| c.toNat * 256 ^ l.length = fromLe (l ++ [c]) := by
  rw [fromLe_snoc, Nat.or_comm, Nat.add_comm]
  have h : 256 ^ l.length = 2 ^ (8 * l.length) := by rw [Nat.pow_mul]
  have h2 := fromLe_lt l
  rw [h] at h2 ⊢
  rw [← Nat.shiftLeft_eq, Nat.shiftLeft_add_eq_or_of_lt h2]
theorem rawS_le (l : List UInt8) (e : Int) (n : Nat) : (rawS l e n).1.length ≤ n := by
  unfold rawS
  split
  · simp
  · split
    · simp
    · simp; omega
theorem rawS_le' (l : List UInt8) (e : Int) (n : Nat) : (rawS l e n).1.length ≤ l.length := by
  unfold rawS
  split
  · simp
  · split
    · simp
    · simp; omega
theorem ofInt_nat (N a : Nat) (h : a < 2 ^ N) : (BitVec.ofInt N (a : Int)).toNat = a := by
  rw [BitVec.ofInt_natCast, BitVec.toNat_ofNat]; exact Nat.mod_eq_of_lt h

theorem step8 (m c i : Nat) (hm : m < 256) (h : c * 256 ^ i < 256) (hi : i ≤ 8) : bits .or .u8 (m : Int) (IntKind.u8.wrap ((c : Int) * 2 ^ (IntKind.i64.wrap (8 * (i : Int))).toNat)) = ((m ||| c * 256 ^ i : Nat) : Int) := by
  have h1 : IntKind.i64.wrap (8 * (i : Int)) = ((8 * i : Nat) : Int) := by rw [IntKind.wrap_i64]; omega
  have h2 : (c : Int) * 2 ^ (8 * i) = ((c * 256 ^ i : Nat) : Int) := by rw [show (256 : Nat) = 2 ^ 8 from rfl, ← Nat.pow_mul]; simp
  have h3 : IntKind.u8.wrap ((c * 256 ^ i : Nat) : Int) = ((c * 256 ^ i : Nat) : Int) := by rw [IntKind.wrap_u8]; omega
  rw [h1, Int.toNat_natCast, h2, h3]
  generalize c * 256 ^ i = b at *
  have hx : m ||| b < 2 ^ 8 := Nat.or_lt_two_pow (by omega) (by omega)
  show IntKind.u8.wrap ((BitVec.ofInt 8 (m : Int) ||| BitVec.ofInt 8 (b : Int)).toNat : Int) = _
  rw [BitVec.toNat_or, ofInt_nat 8 m (by omega), ofInt_nat 8 b (by omega), IntKind.wrap_u8]
  omega
theorem step16 (m c i : Nat) (hm : m < 65536) (h : c * 256 ^ i < 65536) (hi : i ≤ 8) : bits .or .u16 (m : Int) (IntKind.u16.wrap ((c : Int) * 2 ^ (IntKind.i64.wrap (8 * (i : Int))).toNat)) = ((m ||| c * 256 ^ i : Nat) : Int) := by
  have h1 : IntKind.i64.wrap (8 * (i : Int)) = ((8 * i : Nat) : Int) := by rw [IntKind.wrap_i64]; omega
  have h2 : (c : Int) * 2 ^ (8 * i) = ((c * 256 ^ i : Nat) : Int) := by rw [show (256 : Nat) = 2 ^ 8 from rfl, ← Nat.pow_mul]; simp
  have h3 : IntKind.u16.wrap ((c * 256 ^ i : Nat) : Int) = ((c * 256 ^ i : Nat) : Int) := by rw [IntKind.wrap_u16]; omega
  rw [h1, Int.toNat_natCast, h2, h3]
  generalize c * 256 ^ i = b at *
  have hx : m ||| b < 2 ^ 16 := Nat.or_lt_two_pow (by omega) (by omega)
  show IntKind.u16.wrap ((BitVec.ofInt 16 (m : Int) ||| BitVec.ofInt 16 (b : Int)).toNat : Int) = _
  rw [BitVec.toNat_or, ofInt_nat 16 m (by omega), ofInt_nat 16 b (by omega), IntKind.wrap_u16]
  omega
theorem step32 (m c i : Nat) (hm : m < 4294967296) (h : c * 256 ^ i < 4294967296) (hi : i ≤ 8) : bits .or .u32 (m : Int) (IntKind.u32.wrap ((c : Int) * 2 ^ (IntKind.i64.wrap (8 * (i : Int))).toNat)) = ((m ||| c * 256 ^ i : Nat) : Int) := by
  have h1 : IntKind.i64.wrap (8 * (i : Int)) = ((8 * i : Nat) : Int) := by rw [IntKind.wrap_i64]; omega
  have h2 : (c : Int) * 2 ^ (8 * i) = ((c * 256 ^ i : Nat) : Int) := by rw [show (256 : Nat) = 2 ^ 8 from rfl, ← Nat.pow_mul]; simp
  have h3 : IntKind.u32.wrap ((c * 256 ^ i : Nat) : Int) = ((c * 256 ^ i : Nat) : Int) := by rw [IntKind.wrap_u32]; omega
  rw [h1, Int.toNat_natCast, h2, h3]
  generalize c * 256 ^ i = b at *
  have hx : m ||| b < 2 ^ 32 := Nat.or_lt_two_pow (by omega) (by omega)
  show IntKind.u32.wrap ((BitVec.ofInt 32 (m : Int) ||| BitVec.ofInt 32 (b : Int)).toNat : Int) = _
  rw [BitVec.toNat_or, ofInt_nat 32 m (by omega), ofInt_nat 32 b (by omega), IntKind.wrap_u32]
  omega
theorem step64 (m c i : Nat) (hm : m < 18446744073709551616) (h : c * 256 ^ i < 18446744073709551616) (hi : i ≤ 8) : bits .or .u64 (m : Int) (IntKind.u64.wrap ((c : Int) * 2 ^ (IntKind.i64.wrap (8 * (i : Int))).toNat)) = ((m ||| c * 256 ^ i : Nat) : Int) := by
  have h1 : IntKind.i64.wrap (8 * (i : Int)) = ((8 * i : Nat) : Int) := by rw [IntKind.wrap_i64]; omega
  have h2 : (c : Int) * 2 ^ (8 * i) = ((c * 256 ^ i : Nat) : Int) := by rw [show (256 : Nat) = 2 ^ 8 from rfl, ← Nat.pow_mul]; simp
  have h3 : IntKind.u64.wrap ((c * 256 ^ i : Nat) : Int) = ((c * 256 ^ i : Nat) : Int) := by rw [IntKind.wrap_u64]; omega
  rw [h1, Int.toNat_natCast, h2, h3]
  generalize c * 256 ^ i = b at *
  have hx : m ||| b < 2 ^ 64 := Nat.or_lt_two_pow (by omega) (by omega)
  show IntKind.u64.wrap ((BitVec.ofInt 64 (m : Int) ||| BitVec.ofInt 64 (b : Int)).toNat : Int) = _
  rw [BitVec.toNat_or, ofInt_nat 64 m (by omega), ofInt_nat 64 b (by omega), IntKind.wrap_u64]
  omega
def nz (l : List UInt8) : Bool := l.any fun c => c != 0
def noughtS (l : List UInt8) (e : Int) (n : Nat) : List UInt8 × Int :=
  if nz (rawS l e n).1 then failS (rawS l e n).2.1 (rawS l e n).2.2 5 else (rawS l e n).2
theorem nz_snoc (l : List UInt8) (c : UInt8) : nz (l ++ [c]) = (nz l || c != 0) := by simp [nz]
theorem failS_again (l : List UInt8) (e : Int) : failS (failS l e 5).1 (failS l e 5).2 5 = failS l e 5 := by
  unfold failS
  by_cases h : e = 0 <;> simp [h]
end Go.Proofs.YtnefdmbdkljifaaDoor
