/- The numbers that a wire.Reader reads. No condition but on sizes. -/
import Derived.Test.YtnefdmbdkljifaaGreatDoorWireB
set_option linter.unusedSimpArgs false
set_option linter.unusedVariables false

namespace Go.Proofs.YtnefdmbdkljifaaGreatDoor
open Go.RowKit Go.Kin

def fromLe : List UInt8 → Nat
  | [] => 0
  | c :: l => c.toNat + 256 * fromLe l
theorem fromLe_lt (l : List UInt8) : fromLe l < 256 ^ l.length := by
  induction l with
  | nil => simp [fromLe]
  | cons c l ih =>
    have := c.toNat_lt
    simp only [fromLe, List.length_cons, Nat.pow_succ]
    omega
theorem fromLe_snoc (l : List UInt8) (c : UInt8) : fromLe (l ++ [c]) = fromLe l + c.toNat * 256 ^ l.length := by
  induction l with
  | nil => simp [fromLe]
  | cons d l ih => simp only [List.cons_append, fromLe, ih, List.length_cons, Nat.pow_succ, Nat.mul_add]; rw [← Nat.mul_assoc, Nat.mul_comm (256 ^ l.length) 256, ← Nat.mul_assoc, Nat.mul_comm 256 c.toNat]; omega
theorem fromLe_or (l : List UInt8) (c : UInt8) : fromLe l ||| c.toNat * 256 ^ l.length = fromLe (l ++ [c]) := by
  rw [fromLe_snoc, Nat.or_comm, Nat.add_comm]
  have h : 256 ^ l.length = 2 ^ (8 * l.length) := by rw [Nat.pow_mul]
  have h2 := fromLe_lt l
  rw [h] at h2 ⊢
  rw [← Nat.shiftLeft_eq, Nat.shiftLeft_add_eq_or_of_lt h2]
theorem rawS_le (l : List UInt8) (e : Int) (n : Nat) : (rawS l e n).1.length ≤ n := by
  unfold rawS
  split
  · simp
  · split
    · simp
    · simp; omega
theorem rawS_le' (l : List UInt8) (e : Int) (n : Nat) : (rawS l e n).1.length ≤ l.length := by
  unfold rawS
  split
  · simp
  · split
    · simp
    · simp; omega
theorem ofInt_nat (N a : Nat) (h : a < 2 ^ N) : (BitVec.ofInt N (a : Int)).toNat = a := by
  rw [BitVec.ofInt_natCast, BitVec.toNat_ofNat]; exact Nat.mod_eq_of_lt h

theorem step8 (m c i : Nat) (hm : m < 256) (h : c * 256 ^ i < 256) (hi : i ≤ 8) : bits .or .u8 (m : Int) (IntKind.u8.wrap ((c : Int) * 2 ^ (IntKind.i64.wrap (8 * (i : Int))).toNat)) = ((m ||| c * 256 ^ i : Nat) : Int) := by
  have h1 : IntKind.i64.wrap (8 * (i : Int)) = ((8 * i : Nat) : Int) := by rw [IntKind.wrap_i64]; omega
  have h2 : (c : Int) * 2 ^ (8 * i) = ((c * 256 ^ i : Nat) : Int) := by rw [show (256 : Nat) = 2 ^ 8 from rfl, ← Nat.pow_mul]; simp
  have h3 : IntKind.u8.wrap ((c * 256 ^ i : Nat) : Int) = ((c * 256 ^ i : Nat) : Int) := by rw [IntKind.wrap_u8]; omega
  rw [h1, Int.toNat_natCast, h2, h3]
  generalize c * 256 ^ i = b at *
  have hx : m ||| b < 2 ^ 8 := Nat.or_lt_two_pow (by omega) (by omega)
  show IntKind.u8.wrap ((BitVec.ofInt 8 (m : Int) ||| BitVec.ofInt 8 (b : Int)).toNat : Int) = _
  rw [BitVec.toNat_or, ofInt_nat 8 m (by omega), ofInt_nat 8 b (by omega), IntKind.wrap_u8]
  omega
theorem num8 (g : Nat) {o : Nat} (l : List UInt8) (e : Int) (wide : Nat) (w : World) (hw : wide ≤ 1) (hl : l.length ≤ 1000000000) (h : Rdr w g o l e) :
    Ret Tryz.prog 86 #[.pointer (some ⟨g, 0, none⟩), .int .i64 wide] w fun v' w' =>
      v' = .int .u8 (fromLe (rawS l e wide).1) ∧ Rdr w' g o (rawS l e wide).2.1 (rawS l e wide).2.2 ∧ Ch (only g) w w' := by
  refine v_enter Tryz.func86 Tryz.ntmps86 rfl (by simp) fun R' hR => ?_
  simp [go_sem]
  refine (raw_any g l e wide w (by omega) hl h).mono ?_
  rintro v1 w1 ⟨k1, k2, k3, k4⟩
  simp only [Int.toNat_natCast] at k1 k3
  have hrw := rawS_le l e wide
  generalize (rawS l e wide).1 = r at *
  have hlen := (Sl.of_own k1).len Tryz.underlying62 3
  simp [go_sem, hlen]
  refine v_loop (fun q f wr => ∃ k : Nat, k ≤ r.length ∧ q = r.length - k ∧ f 10 = v1 ∧ f 11 = .int .i64 r.length ∧ f 12 = .int .i64 k ∧ f 5 = .int .u8 (fromLe (r.take k)) ∧ wr = w1) r.length ⟨0, Nat.zero_le _, rfl, by simp, by simp, by simp, by simp [fromLe], rfl⟩ ?_
  rintro J hJ _ f _ ⟨k, hk, rfl, h10, h11, h12, h5, rfl⟩
  simp [go_sem, h11, h12]
  refine VIf_dec (fun hlt => ?_) (fun hge => ?_)
  · obtain ⟨a, ha, hc, _⟩ := (Sl.of_own k1).at tyB (bvs_length r) (i := k) (u := bv (r[k]'hlt)) (by simp [bvs, hlt])
    unfold bv at hc
    have hc8 := (r[k]'hlt).toNat_lt
    have htl : (r.take k).length = k := by simp; omega
    have hor := fromLe_or (r.take k) (r[k]'hlt)
    have htk : r.take k ++ [r[k]'hlt] = r.take (k + 1) := by rw [List.take_succ_eq_append_getElem hlt]
    rw [htk, htl] at hor
    have hm1 := fromLe_lt (r.take k)
    rw [htl] at hm1
    generalize (r[k]'hlt).toNat = c at *
    generalize hm : fromLe (r.take k) = m at *
    have hpow : 256 ^ (k + 1) ≤ 256 := Nat.le_trans (Nat.pow_le_pow_right (by omega) (show k + 1 ≤ 1 by omega)) (by decide)
    rw [Nat.pow_succ] at hpow
    have hcs : c * 256 ^ k < 256 := Nat.lt_of_lt_of_le (Nat.mul_lt_mul_of_pos_right (show c < 256 from hc8) (Nat.pos_of_ne_zero (by simp))) (by omega)
    have hw2 : IntKind.u8.wrap (c : Int) = (c : Int) := by rw [IntKind.wrap_u8]; omega
    have hw0 : 0 ≤ IntKind.i64.wrap (8 * (k : Int)) ∧ IntKind.i64.wrap (8 * (k : Int)) ≤ 8 := by rw [IntKind.wrap_i64]; omega
    obtain ⟨hw0, hw1⟩ := hw0
    have hst := Lib.hid ((step8 m c k (by omega) hcs (by omega)).trans (by rw [hor]))
    simp [go_sem, h10, h12, ha, hc, h5]
    refine Rnd.intro (r.length - (k + 1)) (by omega) (hJ _ _ _ ⟨k + 1, by omega, rfl, by simpa using h10, by simpa using h11, by simp [IntKind.wrap_i64]; omega, ?_, rfl⟩)
    simp
    exact hst.out
  · obtain rfl : k = r.length := by omega
    simp [go_sem, h5]
    exact hR _ _ ⟨rfl, k3, k4⟩

theorem step16 (m c i : Nat) (hm : m < 65536) (h : c * 256 ^ i < 65536) (hi : i ≤ 8) : bits .or .u16 (m : Int) (IntKind.u16.wrap ((c : Int) * 2 ^ (IntKind.i64.wrap (8 * (i : Int))).toNat)) = ((m ||| c * 256 ^ i : Nat) : Int) := by
  have h1 : IntKind.i64.wrap (8 * (i : Int)) = ((8 * i : Nat) : Int) := by rw [IntKind.wrap_i64]; omega
  have h2 : (c : Int) * 2 ^ (8 * i) = ((c * 256 ^ i : Nat) : Int) := by rw [show (256 : Nat) = 2 ^ 8 from rfl, ← Nat.pow_mul]; simp
  have h3 : IntKind.u16.wrap ((c * 256 ^ i : Nat) : Int) = ((c * 256 ^ i : Nat) : Int) := by rw [IntKind.wrap_u16]; omega
  rw [h1, Int.toNat_natCast, h2, h3]
  generalize c * 256 ^ i = b at *
  have hx : m ||| b < 2 ^ 16 := Nat.or_lt_two_pow (by omega) (by omega)
  show IntKind.u16.wrap ((BitVec.ofInt 16 (m : Int) ||| BitVec.ofInt 16 (b : Int)).toNat : Int) = _
  rw [BitVec.toNat_or, ofInt_nat 16 m (by omega), ofInt_nat 16 b (by omega), IntKind.wrap_u16]
  omega
theorem num16 (g : Nat) {o : Nat} (l : List UInt8) (e : Int) (wide : Nat) (w : World) (hw : wide ≤ 2) (hl : l.length ≤ 1000000000) (h : Rdr w g o l e) :
    Ret Tryz.prog 87 #[.pointer (some ⟨g, 0, none⟩), .int .i64 wide] w fun v' w' =>
      v' = .int .u16 (fromLe (rawS l e wide).1) ∧ Rdr w' g o (rawS l e wide).2.1 (rawS l e wide).2.2 ∧ Ch (only g) w w' := by
  refine v_enter Tryz.func87 Tryz.ntmps87 rfl (by simp) fun R' hR => ?_
  simp [go_sem]
  refine (raw_any g l e wide w (by omega) hl h).mono ?_
  rintro v1 w1 ⟨k1, k2, k3, k4⟩
  simp only [Int.toNat_natCast] at k1 k3
  have hrw := rawS_le l e wide
  generalize (rawS l e wide).1 = r at *
  have hlen := (Sl.of_own k1).len Tryz.underlying62 3
  simp [go_sem, hlen]
  refine v_loop (fun q f wr => ∃ k : Nat, k ≤ r.length ∧ q = r.length - k ∧ f 10 = v1 ∧ f 11 = .int .i64 r.length ∧ f 12 = .int .i64 k ∧ f 5 = .int .u16 (fromLe (r.take k)) ∧ wr = w1) r.length ⟨0, Nat.zero_le _, rfl, by simp, by simp, by simp, by simp [fromLe], rfl⟩ ?_
  rintro J hJ _ f _ ⟨k, hk, rfl, h10, h11, h12, h5, rfl⟩
  simp [go_sem, h11, h12]
  refine VIf_dec (fun hlt => ?_) (fun hge => ?_)
  · obtain ⟨a, ha, hc, _⟩ := (Sl.of_own k1).at tyB (bvs_length r) (i := k) (u := bv (r[k]'hlt)) (by simp [bvs, hlt])
    unfold bv at hc
    have hc8 := (r[k]'hlt).toNat_lt
    have htl : (r.take k).length = k := by simp; omega
    have hor := fromLe_or (r.take k) (r[k]'hlt)
    have htk : r.take k ++ [r[k]'hlt] = r.take (k + 1) := by rw [List.take_succ_eq_append_getElem hlt]
    rw [htk, htl] at hor
    have hm1 := fromLe_lt (r.take k)
    rw [htl] at hm1
    generalize (r[k]'hlt).toNat = c at *
    generalize hm : fromLe (r.take k) = m at *
    have hpow : 256 ^ (k + 1) ≤ 65536 := Nat.le_trans (Nat.pow_le_pow_right (by omega) (show k + 1 ≤ 2 by omega)) (by decide)
    rw [Nat.pow_succ] at hpow
    have hcs : c * 256 ^ k < 65536 := Nat.lt_of_lt_of_le (Nat.mul_lt_mul_of_pos_right (show c < 256 from hc8) (Nat.pos_of_ne_zero (by simp))) (by omega)
    have hw2 : IntKind.u16.wrap (c : Int) = (c : Int) := by rw [IntKind.wrap_u16]; omega
    have hw0 : 0 ≤ IntKind.i64.wrap (8 * (k : Int)) ∧ IntKind.i64.wrap (8 * (k : Int)) ≤ 16 := by rw [IntKind.wrap_i64]; omega
    obtain ⟨hw0, hw1⟩ := hw0
    have hst := Lib.hid ((step16 m c k (by omega) hcs (by omega)).trans (by rw [hor]))
    simp [go_sem, h10, h12, ha, hc, h5, hw2]
    refine Rnd.intro (r.length - (k + 1)) (by omega) (hJ _ _ _ ⟨k + 1, by omega, rfl, by simpa using h10, by simpa using h11, by simp [IntKind.wrap_i64]; omega, ?_, rfl⟩)
    simp
    exact hst.out
  · obtain rfl : k = r.length := by omega
    simp [go_sem, h5]
    exact hR _ _ ⟨rfl, k3, k4⟩

theorem step32 (m c i : Nat) (hm : m < 4294967296) (h : c * 256 ^ i < 4294967296) (hi : i ≤ 8) : bits .or .u32 (m : Int) (IntKind.u32.wrap ((c : Int) * 2 ^ (IntKind.i64.wrap (8 * (i : Int))).toNat)) = ((m ||| c * 256 ^ i : Nat) : Int) := by
  have h1 : IntKind.i64.wrap (8 * (i : Int)) = ((8 * i : Nat) : Int) := by rw [IntKind.wrap_i64]; omega
  have h2 : (c : Int) * 2 ^ (8 * i) = ((c * 256 ^ i : Nat) : Int) := by rw [show (256 : Nat) = 2 ^ 8 from rfl, ← Nat.pow_mul]; simp
  have h3 : IntKind.u32.wrap ((c * 256 ^ i : Nat) : Int) = ((c * 256 ^ i : Nat) : Int) := by rw [IntKind.wrap_u32]; omega
  rw [h1, Int.toNat_natCast, h2, h3]
  generalize c * 256 ^ i = b at *
  have hx : m ||| b < 2 ^ 32 := Nat.or_lt_two_pow (by omega) (by omega)
  show IntKind.u32.wrap ((BitVec.ofInt 32 (m : Int) ||| BitVec.ofInt 32 (b : Int)).toNat : Int) = _
  rw [BitVec.toNat_or, ofInt_nat 32 m (by omega), ofInt_nat 32 b (by omega), IntKind.wrap_u32]
  omega
theorem num32 (g : Nat) {o : Nat} (l : List UInt8) (e : Int) (wide : Nat) (w : World) (hw : wide ≤ 4) (hl : l.length ≤ 1000000000) (h : Rdr w g o l e) :
    Ret Tryz.prog 88 #[.pointer (some ⟨g, 0, none⟩), .int .i64 wide] w fun v' w' =>
      v' = .int .u32 (fromLe (rawS l e wide).1) ∧ Rdr w' g o (rawS l e wide).2.1 (rawS l e wide).2.2 ∧ Ch (only g) w w' := by
  refine v_enter Tryz.func88 Tryz.ntmps88 rfl (by simp) fun R' hR => ?_
  simp [go_sem]
  refine (raw_any g l e wide w (by omega) hl h).mono ?_
  rintro v1 w1 ⟨k1, k2, k3, k4⟩
  simp only [Int.toNat_natCast] at k1 k3
  have hrw := rawS_le l e wide
  generalize (rawS l e wide).1 = r at *
  have hlen := (Sl.of_own k1).len Tryz.underlying62 3
  simp [go_sem, hlen]
  refine v_loop (fun q f wr => ∃ k : Nat, k ≤ r.length ∧ q = r.length - k ∧ f 10 = v1 ∧ f 11 = .int .i64 r.length ∧ f 12 = .int .i64 k ∧ f 5 = .int .u32 (fromLe (r.take k)) ∧ wr = w1) r.length ⟨0, Nat.zero_le _, rfl, by simp, by simp, by simp, by simp [fromLe], rfl⟩ ?_
  rintro J hJ _ f _ ⟨k, hk, rfl, h10, h11, h12, h5, rfl⟩
  simp [go_sem, h11, h12]
  refine VIf_dec (fun hlt => ?_) (fun hge => ?_)
  · obtain ⟨a, ha, hc, _⟩ := (Sl.of_own k1).at tyB (bvs_length r) (i := k) (u := bv (r[k]'hlt)) (by simp [bvs, hlt])
    unfold bv at hc
    have hc8 := (r[k]'hlt).toNat_lt
    have htl : (r.take k).length = k := by simp; omega
    have hor := fromLe_or (r.take k) (r[k]'hlt)
    have htk : r.take k ++ [r[k]'hlt] = r.take (k + 1) := by rw [List.take_succ_eq_append_getElem hlt]
    rw [htk, htl] at hor
    have hm1 := fromLe_lt (r.take k)
    rw [htl] at hm1
    generalize (r[k]'hlt).toNat = c at *
    generalize hm : fromLe (r.take k) = m at *
    have hpow : 256 ^ (k + 1) ≤ 4294967296 := Nat.le_trans (Nat.pow_le_pow_right (by omega) (show k + 1 ≤ 4 by omega)) (by decide)
    rw [Nat.pow_succ] at hpow
    have hcs : c * 256 ^ k < 4294967296 := Nat.lt_of_lt_of_le (Nat.mul_lt_mul_of_pos_right (show c < 256 from hc8) (Nat.pos_of_ne_zero (by simp))) (by omega)
    have hw2 : IntKind.u32.wrap (c : Int) = (c : Int) := by rw [IntKind.wrap_u32]; omega
    have hw0 : 0 ≤ IntKind.i64.wrap (8 * (k : Int)) ∧ IntKind.i64.wrap (8 * (k : Int)) ≤ 32 := by rw [IntKind.wrap_i64]; omega
    obtain ⟨hw0, hw1⟩ := hw0
    have hst := Lib.hid ((step32 m c k (by omega) hcs (by omega)).trans (by rw [hor]))
    simp [go_sem, h10, h12, ha, hc, h5, hw2]
    refine Rnd.intro (r.length - (k + 1)) (by omega) (hJ _ _ _ ⟨k + 1, by omega, rfl, by simpa using h10, by simpa using h11, by simp [IntKind.wrap_i64]; omega, ?_, rfl⟩)
    simp
    exact hst.out
  · obtain rfl : k = r.length := by omega
    simp [go_sem, h5]
    exact hR _ _ ⟨rfl, k3, k4⟩

theorem step64 (m c i : Nat) (hm : m < 18446744073709551616) (h : c * 256 ^ i < 18446744073709551616) (hi : i ≤ 8) : bits .or .u64 (m : Int) (IntKind.u64.wrap ((c : Int) * 2 ^ (IntKind.i64.wrap (8 * (i : Int))).toNat)) = ((m ||| c * 256 ^ i : Nat) : Int) := by
  have h1 : IntKind.i64.wrap (8 * (i : Int)) = ((8 * i : Nat) : Int) := by rw [IntKind.wrap_i64]; omega
  have h2 : (c : Int) * 2 ^ (8 * i) = ((c * 256 ^ i : Nat) : Int) := by rw [show (256 : Nat) = 2 ^ 8 from rfl, ← Nat.pow_mul]; simp
  have h3 : IntKind.u64.wrap ((c * 256 ^ i : Nat) : Int) = ((c * 256 ^ i : Nat) : Int) := by rw [IntKind.wrap_u64]; omega
  rw [h1, Int.toNat_natCast, h2, h3]
  generalize c * 256 ^ i = b at *
  have hx : m ||| b < 2 ^ 64 := Nat.or_lt_two_pow (by omega) (by omega)
  show IntKind.u64.wrap ((BitVec.ofInt 64 (m : Int) ||| BitVec.ofInt 64 (b : Int)).toNat : Int) = _
  rw [BitVec.toNat_or, ofInt_nat 64 m (by omega), ofInt_nat 64 b (by omega), IntKind.wrap_u64]
  omega
theorem num64 (g : Nat) {o : Nat} (l : List UInt8) (e : Int) (wide : Nat) (w : World) (hw : wide ≤ 8) (hl : l.length ≤ 1000000000) (h : Rdr w g o l e) :
    Ret Tryz.prog 65 #[.pointer (some ⟨g, 0, none⟩), .int .i64 wide] w fun v' w' =>
      v' = .int .u64 (fromLe (rawS l e wide).1) ∧ Rdr w' g o (rawS l e wide).2.1 (rawS l e wide).2.2 ∧ Ch (only g) w w' := by
  refine v_enter Tryz.func65 Tryz.ntmps65 rfl (by simp) fun R' hR => ?_
  simp [go_sem]
  refine (raw_any g l e wide w (by omega) hl h).mono ?_
  rintro v1 w1 ⟨k1, k2, k3, k4⟩
  simp only [Int.toNat_natCast] at k1 k3
  have hrw := rawS_le l e wide
  generalize (rawS l e wide).1 = r at *
  have hlen := (Sl.of_own k1).len Tryz.underlying62 3
  simp [go_sem, hlen]
  refine v_loop (fun q f wr => ∃ k : Nat, k ≤ r.length ∧ q = r.length - k ∧ f 10 = v1 ∧ f 11 = .int .i64 r.length ∧ f 12 = .int .i64 k ∧ f 5 = .int .u64 (fromLe (r.take k)) ∧ wr = w1) r.length ⟨0, Nat.zero_le _, rfl, by simp, by simp, by simp, by simp [fromLe], rfl⟩ ?_
  rintro J hJ _ f _ ⟨k, hk, rfl, h10, h11, h12, h5, rfl⟩
  simp [go_sem, h11, h12]
  refine VIf_dec (fun hlt => ?_) (fun hge => ?_)
  · obtain ⟨a, ha, hc, _⟩ := (Sl.of_own k1).at tyB (bvs_length r) (i := k) (u := bv (r[k]'hlt)) (by simp [bvs, hlt])
    unfold bv at hc
    have hc8 := (r[k]'hlt).toNat_lt
    have htl : (r.take k).length = k := by simp; omega
    have hor := fromLe_or (r.take k) (r[k]'hlt)
    have htk : r.take k ++ [r[k]'hlt] = r.take (k + 1) := by rw [List.take_succ_eq_append_getElem hlt]
    rw [htk, htl] at hor
    have hm1 := fromLe_lt (r.take k)
    rw [htl] at hm1
    generalize (r[k]'hlt).toNat = c at *
    generalize hm : fromLe (r.take k) = m at *
    have hpow : 256 ^ (k + 1) ≤ 18446744073709551616 := Nat.le_trans (Nat.pow_le_pow_right (by omega) (show k + 1 ≤ 8 by omega)) (by decide)
    rw [Nat.pow_succ] at hpow
    have hcs : c * 256 ^ k < 18446744073709551616 := Nat.lt_of_lt_of_le (Nat.mul_lt_mul_of_pos_right (show c < 256 from hc8) (Nat.pos_of_ne_zero (by simp))) (by omega)
    have hw2 : IntKind.u64.wrap (c : Int) = (c : Int) := by rw [IntKind.wrap_u64]; omega
    have hw0 : 0 ≤ IntKind.i64.wrap (8 * (k : Int)) ∧ IntKind.i64.wrap (8 * (k : Int)) ≤ 64 := by rw [IntKind.wrap_i64]; omega
    obtain ⟨hw0, hw1⟩ := hw0
    have hst := Lib.hid ((step64 m c k (by omega) hcs (by omega)).trans (by rw [hor]))
    simp [go_sem, h10, h12, ha, hc, h5, hw2]
    refine Rnd.intro (r.length - (k + 1)) (by omega) (hJ _ _ _ ⟨k + 1, by omega, rfl, by simpa using h10, by simpa using h11, by simp [IntKind.wrap_i64]; omega, ?_, rfl⟩)
    simp
    exact hst.out
  · obtain rfl : k = r.length := by omega
    simp [go_sem, h5]
    exact hR _ _ ⟨rfl, k3, k4⟩

theorem num8_nil (wide : Nat) (w : World) : Ret Tryz.prog 86 #[.pointer none, .int .i64 wide] w fun v' w' => v' = .int .u8 0 ∧ w' = w := by
  refine v_enter Tryz.func86 Tryz.ntmps86 rfl (by simp) fun R' hR => ?_
  simp [go_sem]
  refine (raw_nil _ w).mono ?_
  rintro v1 w1 ⟨rfl, rfl⟩
  simp [go_sem]
  refine v_loop (fun q f wr => q = 0 ∧ f 11 = .int .i64 0 ∧ f 12 = .int .i64 0 ∧ f 5 = .int .u8 0 ∧ wr = w1) 0 ⟨rfl, by simp, by simp, by simp, rfl⟩ ?_
  rintro J hJ _ f _ ⟨rfl, h11, h12, h5, rfl⟩
  simp [go_sem, h11, h12, h5]
  exact hR _ _ ⟨rfl, rfl⟩
theorem ru8 (g : Nat) {o : Nat} (l : List UInt8) (e : Int) (w : World) (hl : l.length ≤ 1000000000) (h : Rdr w g o l e) :
    Ret Tryz.prog 67 #[.pointer (some ⟨g, 0, none⟩)] w fun v' w' =>
      v' = .int .u8 (fromLe (rawS l e 1).1) ∧ Rdr w' g o (rawS l e 1).2.1 (rawS l e 1).2.2 ∧ Ch (only g) w w' := by
  refine v_enter Tryz.func67 Tryz.ntmps67 rfl (by simp) fun R' hR => ?_
  simp [go_sem]
  refine (num8 g l e 1 w (by omega) hl h).mono ?_
  rintro v1 w1 ⟨rfl, k1, k2⟩
  simp [go_sem]
  exact hR _ _ ⟨rfl, k1, k2⟩
theorem ru8_nil (w : World) : Ret Tryz.prog 67 #[.pointer none] w fun v' w' => v' = .int .u8 0 ∧ w' = w := by
  refine v_enter Tryz.func67 Tryz.ntmps67 rfl (by simp) fun R' hR => ?_
  simp [go_sem]
  refine (num8_nil 1 w).mono ?_
  rintro v1 w1 ⟨rfl, rfl⟩
  simp [go_sem]
  exact hR _ _ ⟨rfl, rfl⟩

theorem num16_nil (wide : Nat) (w : World) : Ret Tryz.prog 87 #[.pointer none, .int .i64 wide] w fun v' w' => v' = .int .u16 0 ∧ w' = w := by
  refine v_enter Tryz.func87 Tryz.ntmps87 rfl (by simp) fun R' hR => ?_
  simp [go_sem]
  refine (raw_nil _ w).mono ?_
  rintro v1 w1 ⟨rfl, rfl⟩
  simp [go_sem]
  refine v_loop (fun q f wr => q = 0 ∧ f 11 = .int .i64 0 ∧ f 12 = .int .i64 0 ∧ f 5 = .int .u16 0 ∧ wr = w1) 0 ⟨rfl, by simp, by simp, by simp, rfl⟩ ?_
  rintro J hJ _ f _ ⟨rfl, h11, h12, h5, rfl⟩
  simp [go_sem, h11, h12, h5]
  exact hR _ _ ⟨rfl, rfl⟩
theorem ru16 (g : Nat) {o : Nat} (l : List UInt8) (e : Int) (w : World) (hl : l.length ≤ 1000000000) (h : Rdr w g o l e) :
    Ret Tryz.prog 68 #[.pointer (some ⟨g, 0, none⟩)] w fun v' w' =>
      v' = .int .u16 (fromLe (rawS l e 2).1) ∧ Rdr w' g o (rawS l e 2).2.1 (rawS l e 2).2.2 ∧ Ch (only g) w w' := by
  refine v_enter Tryz.func68 Tryz.ntmps68 rfl (by simp) fun R' hR => ?_
  simp [go_sem]
  refine (num16 g l e 2 w (by omega) hl h).mono ?_
  rintro v1 w1 ⟨rfl, k1, k2⟩
  simp [go_sem]
  exact hR _ _ ⟨rfl, k1, k2⟩
theorem ru16_nil (w : World) : Ret Tryz.prog 68 #[.pointer none] w fun v' w' => v' = .int .u16 0 ∧ w' = w := by
  refine v_enter Tryz.func68 Tryz.ntmps68 rfl (by simp) fun R' hR => ?_
  simp [go_sem]
  refine (num16_nil 2 w).mono ?_
  rintro v1 w1 ⟨rfl, rfl⟩
  simp [go_sem]
  exact hR _ _ ⟨rfl, rfl⟩

theorem num32_nil (wide : Nat) (w : World) : Ret Tryz.prog 88 #[.pointer none, .int .i64 wide] w fun v' w' => v' = .int .u32 0 ∧ w' = w := by
  refine v_enter Tryz.func88 Tryz.ntmps88 rfl (by simp) fun R' hR => ?_
  simp [go_sem]
  refine (raw_nil _ w).mono ?_
  rintro v1 w1 ⟨rfl, rfl⟩
  simp [go_sem]
  refine v_loop (fun q f wr => q = 0 ∧ f 11 = .int .i64 0 ∧ f 12 = .int .i64 0 ∧ f 5 = .int .u32 0 ∧ wr = w1) 0 ⟨rfl, by simp, by simp, by simp, rfl⟩ ?_
  rintro J hJ _ f _ ⟨rfl, h11, h12, h5, rfl⟩
  simp [go_sem, h11, h12, h5]
  exact hR _ _ ⟨rfl, rfl⟩
theorem ru32 (g : Nat) {o : Nat} (l : List UInt8) (e : Int) (w : World) (hl : l.length ≤ 1000000000) (h : Rdr w g o l e) :
    Ret Tryz.prog 69 #[.pointer (some ⟨g, 0, none⟩)] w fun v' w' =>
      v' = .int .u32 (fromLe (rawS l e 4).1) ∧ Rdr w' g o (rawS l e 4).2.1 (rawS l e 4).2.2 ∧ Ch (only g) w w' := by
  refine v_enter Tryz.func69 Tryz.ntmps69 rfl (by simp) fun R' hR => ?_
  simp [go_sem]
  refine (num32 g l e 4 w (by omega) hl h).mono ?_
  rintro v1 w1 ⟨rfl, k1, k2⟩
  simp [go_sem]
  exact hR _ _ ⟨rfl, k1, k2⟩
theorem ru32_nil (w : World) : Ret Tryz.prog 69 #[.pointer none] w fun v' w' => v' = .int .u32 0 ∧ w' = w := by
  refine v_enter Tryz.func69 Tryz.ntmps69 rfl (by simp) fun R' hR => ?_
  simp [go_sem]
  refine (num32_nil 4 w).mono ?_
  rintro v1 w1 ⟨rfl, rfl⟩
  simp [go_sem]
  exact hR _ _ ⟨rfl, rfl⟩

theorem num64_nil (wide : Nat) (w : World) : Ret Tryz.prog 65 #[.pointer none, .int .i64 wide] w fun v' w' => v' = .int .u64 0 ∧ w' = w := by
  refine v_enter Tryz.func65 Tryz.ntmps65 rfl (by simp) fun R' hR => ?_
  simp [go_sem]
  refine (raw_nil _ w).mono ?_
  rintro v1 w1 ⟨rfl, rfl⟩
  simp [go_sem]
  refine v_loop (fun q f wr => q = 0 ∧ f 11 = .int .i64 0 ∧ f 12 = .int .i64 0 ∧ f 5 = .int .u64 0 ∧ wr = w1) 0 ⟨rfl, by simp, by simp, by simp, rfl⟩ ?_
  rintro J hJ _ f _ ⟨rfl, h11, h12, h5, rfl⟩
  simp [go_sem, h11, h12, h5]
  exact hR _ _ ⟨rfl, rfl⟩
theorem ru64 (g : Nat) {o : Nat} (l : List UInt8) (e : Int) (w : World) (hl : l.length ≤ 1000000000) (h : Rdr w g o l e) :
    Ret Tryz.prog 39 #[.pointer (some ⟨g, 0, none⟩)] w fun v' w' =>
      v' = .int .u64 (fromLe (rawS l e 8).1) ∧ Rdr w' g o (rawS l e 8).2.1 (rawS l e 8).2.2 ∧ Ch (only g) w w' := by
  refine v_enter Tryz.func39 Tryz.ntmps39 rfl (by simp) fun R' hR => ?_
  simp [go_sem]
  refine (num64 g l e 8 w (by omega) hl h).mono ?_
  rintro v1 w1 ⟨rfl, k1, k2⟩
  simp [go_sem]
  exact hR _ _ ⟨rfl, k1, k2⟩
theorem ru64_nil (w : World) : Ret Tryz.prog 39 #[.pointer none] w fun v' w' => v' = .int .u64 0 ∧ w' = w := by
  refine v_enter Tryz.func39 Tryz.ntmps39 rfl (by simp) fun R' hR => ?_
  simp [go_sem]
  refine (num64_nil 8 w).mono ?_
  rintro v1 w1 ⟨rfl, rfl⟩
  simp [go_sem]
  exact hR _ _ ⟨rfl, rfl⟩

def nz (l : List UInt8) : Bool := l.any fun c => c != 0
def noughtS (l : List UInt8) (e : Int) (n : Nat) : List UInt8 × Int :=
  if nz (rawS l e n).1 then failS (rawS l e n).2.1 (rawS l e n).2.2 5 else (rawS l e n).2
theorem nz_snoc (l : List UInt8) (c : UInt8) : nz (l ++ [c]) = (nz l || c != 0) := by simp [nz]
theorem failS_again (l : List UInt8) (e : Int) : failS (failS l e 5).1 (failS l e 5).2 5 = failS l e 5 := by
  unfold failS
  by_cases h : e = 0 <;> simp [h]
theorem noughts_any (g : Nat) {o : Nat} (l : List UInt8) (e : Int) (n : Int) (w : World) (hn : n ≤ 9223372036854775807) (hl : l.length ≤ 1000000000) (h : Rdr w g o l e) :
    Ret Tryz.prog 41 #[.pointer (some ⟨g, 0, none⟩), .int .i64 n] w fun v' w' =>
      v' = .tuple #[] ∧ Rdr w' g o (noughtS l e n.toNat).1 (noughtS l e n.toNat).2 ∧ Ch (only g) w w' := by
  refine v_enter Tryz.func41 Tryz.ntmps41 rfl (by simp) fun R' hR => ?_
  simp [go_sem]
  refine (raw_any g l e n w hn hl h).mono ?_
  have hg := h.lt
  rintro v1 w1 ⟨k1, k2, k3, k4⟩
  unfold noughtS at hR
  have hrl := Nat.le_trans (rawS_le' l e n.toNat) hl
  generalize rawS l e n.toNat = st at *
  obtain ⟨r, l', e'⟩ := st
  simp only at k1 k3 hR hrl
  have hlen := (Sl.of_own k1).len Tryz.underlying62 3
  simp [go_sem, hlen]
  refine v_loop (fun q f wr => ∃ k : Nat, k ≤ r.length ∧ q = r.length - k ∧ f 0 = .pointer (some ⟨g, 0, none⟩) ∧ f 8 = v1 ∧ f 9 = .int .i64 r.length ∧ f 10 = .int .i64 k ∧
      (∃ st, st = (if nz (r.take k) then failS l' e' 5 else (l', e')) ∧ Rdr wr g o st.1 st.2) ∧ Ch (only g) w1 wr) r.length
    ⟨0, Nat.zero_le _, rfl, by simp, by simp, by simp, by simp, ⟨_, rfl, by simpa [nz] using k3⟩, Ch.refl _ _⟩ ?_
  rintro J hJ _ f wr ⟨k, hk, rfl, h0, h8, h9, h10, ⟨st, hst, hr⟩, hc⟩
  simp [go_sem, h9, h10]
  refine VIf_dec (fun hlt => ?_) (fun hge => ?_)
  · have hown := own_ch k1 hc fun j hj (e : j = g) => by
      have := k2 j hj
      omega
    obtain ⟨a, ha, hcell, _⟩ := (Sl.of_own hown).at tyB (bvs_length r) (i := k) (u := bv (r[k]'hlt)) (by simp [bvs, hlt])
    unfold bv at hcell
    have htk : r.take (k + 1) = r.take k ++ [r[k]'hlt] := by rw [List.take_succ_eq_append_getElem hlt]
    have hnz := nz_snoc (r.take k) (r[k]'hlt)
    rw [← htk] at hnz
    have hst := Lib.hid hst
    by_cases hz : r[k]'hlt = 0
    · have hzz : (r[k]'hlt).toNat = 0 := by rw [hz]; rfl
      rw [hz] at hnz
      have hnz := Lib.hid hnz
      simp [go_sem, h8, h10, ha, hcell, hzz]
      refine Rnd.intro (r.length - (k + 1)) (by omega) (hJ _ _ _ ⟨k + 1, by omega, rfl, by simpa using h0, by simpa using h8, by simpa using h9, by simp [IntKind.wrap_i64]; omega, ⟨st, ?_, hr⟩, hc⟩)
      rw [hst.out, hnz.out]
      simp
    · have hzz : (((r[k]'hlt).toNat : Int) != 0) = true := by
        simp
        intro h
        exact hz (by rw [← UInt8.toNat_inj]; exact h)
      have hz2 : (r[k]'hlt != 0) = true := by simpa using hz
      rw [hz2] at hnz
      have hnz := Lib.hid hnz
      clear hz2
      simp [go_sem, h0, h8, h10, ha, hcell, hzz]
      refine (bad_any g _ _ wr hr).mono ?_
      rintro v2 w2 ⟨rfl, b1, b2⟩
      simp [go_sem, h10]
      refine Rnd.intro (r.length - (k + 1)) (by omega) (hJ _ _ _ ⟨k + 1, by omega, rfl, by simpa using h0, by simpa using h8, by simpa using h9, by simp [IntKind.wrap_i64]; omega, ⟨_, ?_, b1⟩, hc.trans b2⟩)
      rw [hst.out, hnz.out]
      simp
      split
      · exact failS_again _ _
      · rfl
  · obtain rfl : k = r.length := by omega
    simp [go_sem]
    rw [List.take_length] at hst
    rw [hst] at hr
    exact hR _ _ ⟨rfl, hr, k4.trans hc⟩
theorem noughts_nil (n : Int) (w : World) : Ret Tryz.prog 41 #[.pointer none, .int .i64 n] w fun v' w' => v' = .tuple #[] ∧ w' = w := by
  refine v_enter Tryz.func41 Tryz.ntmps41 rfl (by simp) fun R' hR => ?_
  simp [go_sem]
  refine (raw_nil _ w).mono ?_
  rintro v1 w1 ⟨rfl, rfl⟩
  simp [go_sem]
  refine v_loop (fun q f wr => q = 0 ∧ f 9 = .int .i64 0 ∧ f 10 = .int .i64 0 ∧ wr = w1) 0 ⟨rfl, by simp, by simp, rfl⟩ ?_
  rintro J hJ _ f _ ⟨rfl, h9, h10, rfl⟩
  simp [go_sem, h9, h10]
  exact hR _ _ ⟨rfl, rfl⟩
end Go.Proofs.YtnefdmbdkljifaaGreatDoor
