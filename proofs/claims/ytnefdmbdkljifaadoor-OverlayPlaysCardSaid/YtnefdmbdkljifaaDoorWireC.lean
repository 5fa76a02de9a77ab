/- The numbers that a wire.Reader reads. No condition but on sizes. -/
import Derived.Test.YtnefdmbdkljifaaDoorChecked
import Derived.Test.YtnefdmbdkljifaaDoorVee
set_option linter.unusedSimpArgs false
set_option linter.unusedVariables false

/- What package wire's writers compute (put, U16, U32, U64, Fill) and slices.Clone at bytes, as contracts on calls. No condition but on sizes. -/
namespace Go.Proofs.YtnefdmbdkljifaaDoor
open Go.RowKit Go.Kin

theorem tyB : Ty1 Tryd.prog 44 5 (.int .u8 0) 1 := ⟨Tryd.underlying44, by kernel_rfl, rfl⟩

def le : Nat → Nat → List UInt8
  | _, 0 => []
  | n, k+1 => UInt8.ofNat n :: le (n / 256) k
theorem le_succ (n k : Nat) : le n (k + 1) = le n k ++ [UInt8.ofNat (n / 256 ^ k)] := by
  induction k generalizing n with
  | zero => simp [le]
  | succ k ih => rw [le, ih (n / 256), le, Nat.div_div_eq_div_mul, Nat.pow_succ, Nat.mul_comm 256]; rfl
theorem le_length (n k : Nat) : (le n k).length = k := by
  induction k generalizing n with
  | zero => rfl
  | succ k ih => simp [le, ih]
theorem bv_ofNat (n : Nat) : bv (UInt8.ofNat n) = .int .u8 ((n % 256 : Nat) : Int) := by simp [bv]

/-- a call that appends bytes onto a row of the call's own -/
def Onto (w : World) (v : Value) (n : Nat) (xs : List UInt8) (m : Nat) (ys : List UInt8) : Value → World → Prop := fun v' w' =>
  w'.ownsRow 0 5 1 v' (n + m) (bvs (xs ++ ys)) ∧ Ch (fun j => v.ownBlock = some j) w w' ∧ (v'.ownBlock = v.ownBlock ∨ Fresh w.heap.size v')
theorem Onto.refl {w : World} {v : Value} {n : Nat} {xs : List UInt8} (h : w.ownsRow 0 5 1 v n (bvs xs)) : Onto w v n xs 0 [] v w := ⟨by simpa using h, Ch.refl _ _, .inl rfl⟩
theorem Onto.fresh {w w' : World} {v v' : Value} {n m : Nat} {xs ys : List UInt8} (h : Onto w v n xs m ys v' w') {B : Nat} (hf : Fresh B v) (hB : B ≤ w.heap.size) : Fresh B v' := by
  rcases h.2.2 with h | h
  · intro k hk; exact hf k (by rw [← h]; exact hk)
  · exact h.mono hB
theorem Onto.one {w w1 w2 : World} {v v1 v2 : Value} {n m : Nat} {xs ys : List UInt8} {c : UInt8} {u : Value} (h : Onto w v n xs m ys v1 w1) (hu : u = bv c)
    (h1 : w2.ownsRow 0 5 1 v2 (n + m + 1) (bvs (xs ++ ys) ++ [u])) (h2 : Ch (fun k => v1.ownBlock = some k) w1 w2) (h3 : v2.ownBlock = v1.ownBlock ∨ Fresh w1.heap.size v2) : Onto w v n xs (m + 1) (ys ++ [c]) v2 w2 := by
  subst hu
  obtain ⟨k1, k2, k3⟩ := h
  refine ⟨by rw [← List.append_assoc, bvs_append]; exact h1, k2.trans' h2 (fun j hj e => ?_), ?_⟩
  · rcases k3 with k3 | k3
    · rw [← k3]; exact e
    · have := k3 j e; omega
  · rcases h3 with h3 | h3
    · rcases k3 with k3 | k3
      · exact .inl (h3.trans k3)
      · exact .inr fun j hj => k3 j (by rw [← h3]; exact hj)
    · exact .inr (h3.mono k2.size)

/-- slices.Clone at bytes: a row of the call's own. -/
theorem clone_any (v : Value) (n : Nat) (xs : List UInt8) (w : World) (hn : n ≤ 1000000000) (hx : xs.length = n) (hs : Sl w v n (bvs xs)) :
    Ret Tryd.prog 23 #[v] w fun v' w' => w'.ownsRow 0 5 1 v' n (bvs xs) ∧ Ch Nw w w' ∧ Fresh w.heap.size v' := by
  refine v_enter Tryd.func23 Tryd.ntmps23 rfl (by simp) fun R' hR => ?_
  obtain ⟨A, c, rfl, h1, h2, h3⟩ := id hs
  cases A with
  | none =>
    have hne : n = 0 := by
      rcases Nat.eq_zero_or_pos n with h | h
      · exact h
      · obtain ⟨ad, h', _⟩ := h3 (by rw [bvs_length]; omega)
        cases h'
    subst hne
    obtain rfl : xs = [] := List.eq_nil_of_length_eq_zero hx
    have hb := fun w => Lib.run_eql_slice_nil (P := Tryd.prog) w 44 5 none 0 c 0 0 Tryd.underlying44
    simp [go_sem, hb]
    exact hR _ _ ⟨World.ownsRow_nil _ _ _ _, Ch.refl _ _, fun k hk => by simp [Value.ownBlock] at hk⟩
  | some ad =>
    have hb := fun w => Lib.run_eql_slice_nil (P := Tryd.prog) w 44 5 (some ad) n c 0 0 Tryd.underlying44
    simp [go_sem, hb]
    refine VB_appn tyB (World.ownsRow_made w #[] 0 (Nat.zero_le _) (Nat.zero_le _) rfl) (hs.alloc _) (by rw [bvs_length]; exact hx) (bvs_one _) (by unfold maxLen; omega) (by omega) fun v' w' k1 k2 k3 => ?_
    simp [go_sem]
    refine hR _ _ ⟨by simpa using k1, ((Ch.refl Nw w).alloc _).trans' k2 fun j hj e => ?_, ?_⟩
    · simp [Value.ownBlock] at e; omega
    · rcases k3 with k3 | k3
      · intro k hk
        rw [k3] at hk
        simp [Value.ownBlock] at hk
        omega
      · exact k3.mono (by simp)
end Go.Proofs.YtnefdmbdkljifaaDoor

/- What package wire's Reader answers, as contracts on calls: a reader's block holds what is left and the first error. No condition but on sizes. -/
namespace Go.Proofs.YtnefdmbdkljifaaDoor
open Go.RowKit Go.Kin

def only (g : Nat) : Nat → Prop := fun k => k = g

theorem blk_cells {w : World} {g : Nat} {v u : Value} {T : Nat} (hb : w.heap[g]? = some (.cells #[v, u] T (0, 0))) :
    w.cell? ⟨g, 0, none⟩ = some v ∧ w.cell? ⟨g, 1, none⟩ = some u ∧ w.frozen? ⟨g, 0, none⟩ = false ∧ w.frozen? ⟨g, 1, none⟩ = false := by
  simp [World.cell?, World.frozen?, hb]
theorem blk_set0 {w : World} {g : Nat} {v u x : Value} {T : Nat} (hb : w.heap[g]? = some (.cells #[v, u] T (0, 0))) : (w.setCell ⟨g, 0, none⟩ x).heap[g]? = some (.cells #[x, u] T (0, 0)) := by
  simp [World.setCell, Array.getElem?_modify, hb]
theorem blk_set1 {w : World} {g : Nat} {v u x : Value} {T : Nat} (hb : w.heap[g]? = some (.cells #[v, u] T (0, 0))) : (w.setCell ⟨g, 1, none⟩ x).heap[g]? = some (.cells #[v, x] T (0, 0)) := by
  simp [World.setCell, Array.getElem?_modify, hb]

/-- what fail does -/
def failS (l : List UInt8) (e0 e : Int) : List UInt8 × Int := if e0 = 0 then ([], e) else (l, e0)
/-- what take, and so Raw, answers, and what is left -/
def rawS (l : List UInt8) (e : Int) (n : Nat) : List UInt8 × List UInt8 × Int :=
  if e ≠ 0 then ([], l, e) else if l.length < n then ([], [], 4) else (l.take n, l.drop n, 0)

def endS (l : List UInt8) (e : Int) : List UInt8 × Int := if 0 < l.length then failS l e 5 else (l, e)
end Go.Proofs.YtnefdmbdkljifaaDoor

namespace Go.Proofs.YtnefdmbdkljifaaDoor
open Go.RowKit Go.Kin

def fromLe : List UInt8 → Nat
  | [] => 0
  | c :: l => c.toNat + 256 * fromLe l
theorem fromLe_lt (l : List UInt8) : fromLe l < 256 ^ l.length := by
  induction l with
  | nil => simp [fromLe]
  | cons c l ih =>
    have := c.toNat_lt
    simp only [fromLe, List.length_cons, Nat.pow_succ]
    omega
theorem fromLe_snoc (l : List UInt8) (c : UInt8) : fromLe (l ++ [c]) = fromLe l + c.toNat * 256 ^ l.length := by
  induction l with
  | nil => simp [fromLe]
  | cons d l ih => simp only [List.cons_append, fromLe, ih, List.length_cons, Nat.pow_succ, Nat.mul_add]; rw [← Nat.mul_assoc, Nat.mul_comm (256 ^ l.length) 256, ← Nat.mul_assoc, Nat.mul_comm 256 c.toNat]; omega
theorem fromLe_or (l : List UInt8) (c : UInt8) : fromLe l ||| c.toNat * 256 ^ l.length = fromLe (l ++ [c]) := by
  rw [fromLe_snoc, Nat.or_comm, Nat.add_comm]
  have h : 256 ^ l.length = 2 ^ (8 * l.length) := by rw [Nat.pow_mul]
  have h2 := fromLe_lt l
  rw [h] at h2 ⊢
  rw [← Nat.shiftLeft_eq, Nat.shiftLeft_add_eq_or_of_lt h2]
theorem rawS_le (l : List UInt8) (e : Int) (n : Nat) : (rawS l e n).1.length ≤ n := by
  unfold rawS
  split
  · simp
  · split
    · simp
    · simp; omega
theorem rawS_le' (l : List UInt8) (e : Int) (n : Nat) : (rawS l e n).1.length ≤ l.length := by
  unfold rawS
  split
  · simp
  · split
    · simp
    · simp; omega
theorem ofInt_nat (N a : Nat) (h : a < 2 ^ N) : (BitVec.ofInt N (a : Int)).toNat = a := by
  rw [BitVec.ofInt_natCast, BitVec.toNat_ofNat]; exact Nat.mod_eq_of_lt h

theorem step8 (m c i : Nat) (hm : m < 256) (h : c * 256 ^ i < 256) (hi : i ≤ 8) : bits .or .u8 (m : Int) (IntKind.u8.wrap ((c : Int) * 2 ^ (IntKind.i64.wrap (8 * (i : Int))).toNat)) = ((m ||| c * 256 ^ i : Nat) : Int) := by
  have h1 : IntKind.i64.wrap (8 * (i : Int)) = ((8 * i : Nat) : Int) := by rw [IntKind.wrap_i64]; omega
  have h2 : (c : Int) * 2 ^ (8 * i) = ((c * 256 ^ i : Nat) : Int) := by rw [show (256 : Nat) = 2 ^ 8 from rfl, ← Nat.pow_mul]; simp
  have h3 : IntKind.u8.wrap ((c * 256 ^ i : Nat) : Int) = ((c * 256 ^ i : Nat) : Int) := by rw [IntKind.wrap_u8]; omega
  rw [h1, Int.toNat_natCast, h2, h3]
  generalize c * 256 ^ i = b at *
  have hx : m ||| b < 2 ^ 8 := Nat.or_lt_two_pow (by omega) (by omega)
  show IntKind.u8.wrap ((BitVec.ofInt 8 (m : Int) ||| BitVec.ofInt 8 (b : Int)).toNat : Int) = _
  rw [BitVec.toNat_or, ofInt_nat 8 m (by omega), ofInt_nat 8 b (by omega), IntKind.wrap_u8]
  omega
theorem step16 (m c i : Nat) (hm : m < 65536) (h : c * 256 ^ i < 65536) (hi : i ≤ 8) : bits .or .u16 (m : Int) (IntKind.u16.wrap ((c : Int) * 2 ^ (IntKind.i64.wrap (8 * (i : Int))).toNat)) = ((m ||| c * 256 ^ i : Nat) : Int) := by
  have h1 : IntKind.i64.wrap (8 * (i : Int)) = ((8 * i : Nat) : Int) := by rw [IntKind.wrap_i64]; omega
  have h2 : (c : Int) * 2 ^ (8 * i) = ((c * 256 ^ i : Nat) : Int) := by rw [show (256 : Nat) = 2 ^ 8 from rfl, ← Nat.pow_mul]; simp
  have h3 : IntKind.u16.wrap ((c * 256 ^ i : Nat) : Int) = ((c * 256 ^ i : Nat) : Int) := by rw [IntKind.wrap_u16]; omega
  rw [h1, Int.toNat_natCast, h2, h3]
  generalize c * 256 ^ i = b at *
  have hx : m ||| b < 2 ^ 16 := Nat.or_lt_two_pow (by omega) (by omega)
  show IntKind.u16.wrap ((BitVec.ofInt 16 (m : Int) ||| BitVec.ofInt 16 (b : Int)).toNat : Int) = _
  rw [BitVec.toNat_or, ofInt_nat 16 m (by omega), ofInt_nat 16 b (by omega), IntKind.wrap_u16]
  omega
theorem step32 (m c i : Nat) (hm : m < 4294967296) (h : c * 256 ^ i < 4294967296) (hi : i ≤ 8) : bits .or .u32 (m : Int) (IntKind.u32.wrap ((c : Int) * 2 ^ (IntKind.i64.wrap (8 * (i : Int))).toNat)) = ((m ||| c * 256 ^ i : Nat) : Int) := by
  have h1 : IntKind.i64.wrap (8 * (i : Int)) = ((8 * i : Nat) : Int) := by rw [IntKind.wrap_i64]; omega
  have h2 : (c : Int) * 2 ^ (8 * i) = ((c * 256 ^ i : Nat) : Int) := by rw [show (256 : Nat) = 2 ^ 8 from rfl, ← Nat.pow_mul]; simp
  have h3 : IntKind.u32.wrap ((c * 256 ^ i : Nat) : Int) = ((c * 256 ^ i : Nat) : Int) := by rw [IntKind.wrap_u32]; omega
  rw [h1, Int.toNat_natCast, h2, h3]
  generalize c * 256 ^ i = b at *
  have hx : m ||| b < 2 ^ 32 := Nat.or_lt_two_pow (by omega) (by omega)
  show IntKind.u32.wrap ((BitVec.ofInt 32 (m : Int) ||| BitVec.ofInt 32 (b : Int)).toNat : Int) = _
  rw [BitVec.toNat_or, ofInt_nat 32 m (by omega), ofInt_nat 32 b (by omega), IntKind.wrap_u32]
  omega
theorem step64 (m c i : Nat) (hm : m < 18446744073709551616) (h : c * 256 ^ i < 18446744073709551616) (hi : i ≤ 8) : bits .or .u64 (m : Int) (IntKind.u64.wrap ((c : Int) * 2 ^ (IntKind.i64.wrap (8 * (i : Int))).toNat)) = ((m ||| c * 256 ^ i : Nat) : Int) := by
  have h1 : IntKind.i64.wrap (8 * (i : Int)) = ((8 * i : Nat) : Int) := by rw [IntKind.wrap_i64]; omega
  have h2 : (c : Int) * 2 ^ (8 * i) = ((c * 256 ^ i : Nat) : Int) := by rw [show (256 : Nat) = 2 ^ 8 from rfl, ← Nat.pow_mul]; simp
  have h3 : IntKind.u64.wrap ((c * 256 ^ i : Nat) : Int) = ((c * 256 ^ i : Nat) : Int) := by rw [IntKind.wrap_u64]; omega
  rw [h1, Int.toNat_natCast, h2, h3]
  generalize c * 256 ^ i = b at *
  have hx : m ||| b < 2 ^ 64 := Nat.or_lt_two_pow (by omega) (by omega)
  show IntKind.u64.wrap ((BitVec.ofInt 64 (m : Int) ||| BitVec.ofInt 64 (b : Int)).toNat : Int) = _
  rw [BitVec.toNat_or, ofInt_nat 64 m (by omega), ofInt_nat 64 b (by omega), IntKind.wrap_u64]
  omega
def nz (l : List UInt8) : Bool := l.any fun c => c != 0
def noughtS (l : List UInt8) (e : Int) (n : Nat) : List UInt8 × Int :=
  if nz (rawS l e n).1 then failS (rawS l e n).2.1 (rawS l e n).2.2 5 else (rawS l e n).2
theorem nz_snoc (l : List UInt8) (c : UInt8) : nz (l ++ [c]) = (nz l || c != 0) := by simp [nz]
theorem failS_again (l : List UInt8) (e : Int) : failS (failS l e 5).1 (failS l e 5).2 5 = failS l e 5 := by
  unfold failS
  by_cases h : e = 0 <;> simp [h]
end Go.Proofs.YtnefdmbdkljifaaDoor
