/- The document's hash: numbers, as a contract on the call. No condition but that the values are of their types. -/
import Derived.Test.YtnefdmbdkljifaaGreatDoorShaB
set_option linter.unusedSimpArgs false
set_option linter.unusedVariables false

/- A piece taken in: package sha's take, as a contract on the call. Condition: the variable sha.constants holds what the text lays. -/
namespace Go.Proofs.YtnefdmbdkljifaaGreatDoor
open Go.RowKit Go.Kin

def Kc : List Nat := [1116352408, 1899447441, 3049323471, 3921009573, 961987163, 1508970993, 2453635748, 2870763221, 3624381080, 310598401, 607225278, 1426881987, 1925078388, 2162078206, 2614888103, 3248222580, 3835390401, 4022224774, 264347078, 604807628, 770255983, 1249150122, 1555081692, 1996064986, 2554220882, 2821834349, 2952996808, 3210313671, 3336571891, 3584528711, 113926993, 338241895, 666307205, 773529912, 1294757372, 1396182291, 1695183700, 1986661051, 2177026350, 2456956037, 2730485921, 2820302411, 3259730800, 3345764771, 3516065817, 3600352804, 4094571909, 275423344, 430227734, 506948616, 659060556, 883997877, 958139571, 1322822218, 1537002063, 1747873779, 1955562222, 2024104815, 2227730452, 2361852424, 2428436474, 2756734187, 3204031479, 3329325298]
theorem Kc_lt : ∀ x ∈ Kc, x < 4294967296 := by decide +kernel
theorem Kc_at_lt (i : Nat) : Kc.getD i 0 < 4294967296 := by
  rw [List.getD_eq_getElem?_getD]
  cases h : Kc[i]? with
  | none => decide
  | some x => exact Kc_lt x (List.mem_of_getElem? h)
structure St where
  a : Nat
  b : Nat
  c : Nat
  d : Nat
  e : Nat
  f : Nat
  g : Nat
  h : Nat
deriving DecidableEq
def stv (s : St) : Array Value := #[.int .u32 s.a, .int .u32 s.b, .int .u32 s.c, .int .u32 s.d, .int .u32 s.e, .int .u32 s.f, .int .u32 s.g, .int .u32 s.h]
structure StOk (s : St) : Prop where
  a : s.a < 4294967296
  b : s.b < 4294967296
  c : s.c < 4294967296
  d : s.d < 4294967296
  e : s.e < 4294967296
  f : s.f < 4294967296
  g : s.g < 4294967296
  h : s.h < 4294967296
def big1 (x : Nat) : Nat := (rot x 6 ^^^ rot x 11) ^^^ rot x 25
def big0 (x : Nat) : Nat := (rot x 2 ^^^ rot x 13) ^^^ rot x 22
def chq (e f g : Nat) : Nat := (e &&& f) ^^^ ((4294967295 ^^^ e) &&& g)
def mjq (a b c : Nat) : Nat := ((a &&& b) ^^^ (a &&& c)) ^^^ (b &&& c)
def tq (s : St) (k w : Nat) : Nat := add32 (add32 (add32 (add32 s.h (big1 s.e)) (chq s.e s.f s.g)) k) w
def uq (s : St) : Nat := add32 (big0 s.a) (mjq s.a s.b s.c)
def stp (s : St) (k w : Nat) : St := ⟨add32 (tq s k w) (uq s), s.a, s.b, s.c, add32 s.d (tq s k w), s.e, s.f, s.g⟩
theorem stp_ok {s : St} (ok : StOk s) (k w : Nat) : StOk (stp s k w) := ⟨add32_lt _ _, ok.a, ok.b, ok.c, add32_lt _ _, ok.e, ok.f, ok.g⟩
def rnds (W : List Nat) : Nat → St → St
  | 0, s => s
  | k + 1, s => stp (rnds W k s) (Kc.getD k 0) (W.getD k 0)
theorem rnds_ok {s : St} (ok : StOk s) (W : List Nat) (k : Nat) : StOk (rnds W k s) := by
  induction k with
  | zero => exact ok
  | succ k ih => exact stp_ok ih _ _
def sumS (s r : St) : St := ⟨add32 s.a r.a, add32 s.b r.b, add32 s.c r.c, add32 s.d r.d, add32 s.e r.e, add32 s.f r.f, add32 s.g r.g, add32 s.h r.h⟩
/-- a piece taken in -/
def takeS (s : St) (b : List UInt8) : St := sumS s (rnds (Wl b 64) 64 s)
theorem takeS_ok (s : St) (b : List UInt8) : StOk (takeS s b) := ⟨add32_lt _ _, add32_lt _ _, add32_lt _ _, add32_lt _ _, add32_lt _ _, add32_lt _ _, add32_lt _ _, add32_lt _ _⟩
/-- the first k words are summed -/
def midS (s r : St) (k : Nat) : St := ⟨if 0 < k then add32 s.a r.a else s.a, if 1 < k then add32 s.b r.b else s.b, if 2 < k then add32 s.c r.c else s.c, if 3 < k then add32 s.d r.d else s.d, if 4 < k then add32 s.e r.e else s.e, if 5 < k then add32 s.f r.f else s.f, if 6 < k then add32 s.g r.g else s.g, if 7 < k then add32 s.h r.h else s.h⟩
theorem midS_all (s r : St) : midS s r 8 = sumS s r := rfl
theorem vT_eq (ra rb rc rd re rf rg rh kk wk : Nat) (le' : re < 4294967296) (lf : rf < 4294967296) (lg : rg < 4294967296) :
    IntKind.u32.wrap (IntKind.u32.wrap (IntKind.u32.wrap (IntKind.u32.wrap ((rh : Int) + bits .xor .u32 (bits .xor .u32 (rot re 6 : Int) (rot re 11)) (rot re 25)) + bits .xor .u32 (bits .and .u32 (re : Int) rf) (bits .and .u32 (bits .xor .u32 (if IntKind.u32.signed = true then (-1 : Int) else IntKind.u32.max) re) rg)) + kk) + wk) = (tq ⟨ra, rb, rc, rd, re, rf, rg, rh⟩ kk wk : Int) := by
  have x1 := rot_lt re 6 le'
  have x2 := rot_lt re 11 le'
  have x3 := rot_lt re 25 le'
  have x4 : rot re 6 ^^^ rot re 11 < 4294967296 := Nat.xor_lt_two_pow (n := 32) x1 x2
  have n0 : (4294967295 : Nat) < 4294967296 := by omega
  have n1 : (4294967295 ^^^ re) < 4294967296 := Nat.xor_lt_two_pow (n := 32) n0 le'
  have n2 : re &&& rf < 4294967296 := Nat.and_lt_two_pow (n := 32) _ lf
  have n3 : (4294967295 ^^^ re) &&& rg < 4294967296 := Nat.and_lt_two_pow (n := 32) _ lg
  have hmx : (if IntKind.u32.signed = true then (-1 : Int) else IntKind.u32.max) = ((4294967295 : Nat) : Int) := by simp [IntKind.signed, IntKind.max, IntKind.bits]
  rw [hmx, bits_xor32 _ _ x1 x2, bits_xor32 _ _ x4 x3, bits_and32 _ _ le' lf, bits_xor32 _ _ n0 le', bits_and32 _ _ n1 lg, bits_xor32 _ _ n2 n3, wrap_add, wrap_add, wrap_add, wrap_add]
  simp only [tq, big1, chq]
theorem vU_eq (ra rb rc rd re rf rg rh : Nat) (la : ra < 4294967296) (lb : rb < 4294967296) (lc : rc < 4294967296) :
    IntKind.u32.wrap (bits .xor .u32 (bits .xor .u32 (rot ra 2 : Int) (rot ra 13)) (rot ra 22) + bits .xor .u32 (bits .xor .u32 (bits .and .u32 (ra : Int) rb) (bits .and .u32 (ra : Int) rc)) (bits .and .u32 (rb : Int) rc)) = (uq ⟨ra, rb, rc, rd, re, rf, rg, rh⟩ : Int) := by
  have y1 := rot_lt ra 2 la
  have y2 := rot_lt ra 13 la
  have y3 := rot_lt ra 22 la
  have y4 : rot ra 2 ^^^ rot ra 13 < 4294967296 := Nat.xor_lt_two_pow (n := 32) y1 y2
  have m1 : ra &&& rb < 4294967296 := Nat.and_lt_two_pow (n := 32) _ lb
  have m2 : ra &&& rc < 4294967296 := Nat.and_lt_two_pow (n := 32) _ lc
  have m3 : rb &&& rc < 4294967296 := Nat.and_lt_two_pow (n := 32) _ lc
  have m4 : (ra &&& rb) ^^^ (ra &&& rc) < 4294967296 := Nat.xor_lt_two_pow (n := 32) m1 m2
  rw [bits_xor32 _ _ y1 y2, bits_xor32 _ _ y4 y3, bits_and32 _ _ la lb, bits_and32 _ _ la lc, bits_and32 _ _ lb lc, bits_xor32 _ _ m1 m2, bits_xor32 _ _ m4 m3, wrap_add]
  simp only [uq, big0, mjq]
theorem stp_eq (ra rb rc rd re rf rg rh kk wk : Nat) : stp ⟨ra, rb, rc, rd, re, rf, rg, rh⟩ kk wk = ⟨add32 (tq ⟨ra, rb, rc, rd, re, rf, rg, rh⟩ kk wk) (uq ⟨ra, rb, rc, rd, re, rf, rg, rh⟩), ra, rb, rc, add32 rd (tq ⟨ra, rb, rc, rd, re, rf, rg, rh⟩ kk wk), re, rf, rg⟩ := rfl
theorem rnds_zero (W : List Nat) (s : St) : rnds W 0 s = s := rfl
theorem rnds_succ (W : List Nat) (k : Nat) (s : St) : rnds W (k + 1) s = stp (rnds W k s) (Kc.getD k 0) (W.getD k 0) := rfl
theorem midS_step (s r : St) {j : Nat} (hj : j < 8) : ∃ x y : Nat, #[Value.int .u32 r.a, Value.int .u32 r.b, Value.int .u32 r.c, Value.int .u32 r.d, Value.int .u32 r.e, Value.int .u32 r.f, Value.int .u32 r.g, Value.int .u32 r.h][j]? = some (.int .u32 y) ∧ (stv (midS s r j))[j]? = some (.int .u32 x) ∧ (stv (midS s r j)).setIfInBounds j (.int .u32 (add32 x y)) = stv (midS s r (j + 1)) := by
  match j, hj with
  | 0, _ => exact ⟨s.a, r.a, rfl, rfl, rfl⟩
  | 1, _ => exact ⟨s.b, r.b, rfl, rfl, rfl⟩
  | 2, _ => exact ⟨s.c, r.c, rfl, rfl, rfl⟩
  | 3, _ => exact ⟨s.d, r.d, rfl, rfl, rfl⟩
  | 4, _ => exact ⟨s.e, r.e, rfl, rfl, rfl⟩
  | 5, _ => exact ⟨s.f, r.f, rfl, rfl, rfl⟩
  | 6, _ => exact ⟨s.g, r.g, rfl, rfl, rfl⟩
  | 7, _ => exact ⟨s.h, r.h, rfl, rfl, rfl⟩
attribute [irreducible] takeS rnds
end Go.Proofs.YtnefdmbdkljifaaGreatDoor

/- The document's hash: turned and moved, as contracts on calls. No condition but that the values are of their types. -/
namespace Go.Proofs.YtnefdmbdkljifaaGreatDoor
open Go.RowKit Go.Kin

theorem rot_sum {x n : Nat} (hx : x < 4294967296) (hn : n ≤ 32) : rot x n = (x % 2 ^ n) * 2 ^ (32 - n) + x / 2 ^ n := by
  have h1 : (4294967296 : Nat) = 2 ^ n * 2 ^ (32 - n) := by rw [← Nat.pow_add, show n + (32 - n) = 32 by omega]
  have h2 : x / 2 ^ n < 2 ^ (32 - n) := by
    rw [Nat.div_lt_iff_lt_mul (Nat.two_pow_pos n), Nat.mul_comm, ← h1]
    exact hx
  unfold rot
  rw [h1, Nat.mul_mod_mul_right, Nat.mul_comm (x % 2 ^ n), Nat.two_pow_add_eq_or_of_lt h2]
theorem rot_zero {x : Nat} (hx : x < 4294967296) : rot x 0 = x := by
  rw [rot_sum hx (by decide)]
  simp [Nat.mod_one]
theorem rot_step {x n : Nat} (hx : x < 4294967296) (hn : n < 32) : rot x (n + 1) = rot x n / 2 + rot x n % 2 * 2147483648 := by
  rw [rot_sum hx (by omega), rot_sum hx (by omega)]
  obtain ⟨c, hc⟩ : ∃ c, 2 ^ (32 - (n + 1)) = c := ⟨_, rfl⟩
  obtain ⟨d, hd⟩ : ∃ d, 2 ^ n = d := ⟨_, rfl⟩
  have e1 : 2 ^ (32 - n) = 2 * c := by rw [← hc, show 32 - n = (32 - (n + 1)) + 1 by omega, Nat.pow_succ, Nat.mul_comm]
  have e2 : d * c = 2147483648 := by rw [← hc, ← hd, ← Nat.pow_add, show n + (32 - (n + 1)) = 31 by omega]
  have e3 : x % 2 ^ (n + 1) = x % d + d * (x / d % 2) := by rw [Nat.pow_succ, hd, Nat.mod_mul]
  have e4 : x / 2 ^ (n + 1) = x / d / 2 := by rw [Nat.pow_succ, hd, Nat.div_div_eq_div_mul]
  rw [e1, e3, e4, hc, hd]
  generalize x % d = a
  generalize x / d = b
  have e5 : (a + d * (b % 2)) * c = a * c + b % 2 * 2147483648 := by rw [Nat.add_mul, ← e2]; congr 1; rw [Nat.mul_comm d, Nat.mul_assoc]
  have e6 : a * (2 * c) = 2 * (a * c) := by rw [Nat.mul_left_comm]
  rw [e5, e6]
  generalize a * c = y
  omega
theorem turned_any (x n : Nat) (w : World) (hx : x < 4294967296) (hn : n ≤ 32) : Ret Tryz.prog 135 #[.int .u32 x, .int .i64 n] w fun v' w' => v' = .int .u32 (rot x n) ∧ w' = w := by
  refine v_enter Tryz.func135 Tryz.ntmps135 rfl (by simp) fun R' hR => ?_
  simp [go_sem]
  refine v_loop (fun r f wr => ∃ k, k ≤ n ∧ r = n - k ∧ f 0 = .int .u32 (rot x k) ∧ f 1 = .int .i64 n ∧ f 5 = .int .i64 k ∧ wr = w) n
    ⟨0, by omega, rfl, by simp [rot_zero hx], by simp, by simp, rfl⟩ ?_
  rintro J hJ _ f wr ⟨k, hk, rfl, f0, f1, f5, rfl⟩
  have hlt := rot_lt x k hx
  by_cases hkn : k < n
  · have hki : (k : Int) < n := by omega
    have hwk : IntKind.i64.wrap ((k : Int) + 1) = ((k + 1 : Nat) : Int) := by simp [IntKind.wrap_i64]; omega
    have hs := rot_step hx (n := k) (by omega)
    have ht : ((rot x k : Nat) : Int).tmod 2 = ((rot x k % 2 : Nat) : Int) := by rw [Int.tmod_eq_emod_of_nonneg (by omega)]; omega
    have hq : ((rot x k : Nat) : Int).tdiv 2 = ((rot x k / 2 : Nat) : Int) := by rw [Int.tdiv_eq_ediv_of_nonneg (by omega)]; omega
    generalize rot x k = y at *
    by_cases h1 : y % 2 = 1
    · have hb : ((y % 2 : Nat) : Int) = 1 := by omega
      have hw2 : IntKind.u32.wrap (((y / 2 : Nat) : Int) + 2147483648) = ((rot x (k + 1) : Nat) : Int) := by rw [IntKind.wrap_u32, hs]; omega
      have hy2 : IntKind.u32.wrap ((y : Int) / 2 + 2147483648) = ((rot x (k + 1) : Nat) : Int) := by rw [IntKind.wrap_u32, hs]; omega
      have hwd : IntKind.u32.wrap ((y : Int) / 2) = (y : Int) / 2 := by rw [IntKind.wrap_u32]; omega
      simp [go_sem, f0, f1, f5, hki, ht, hq, h1, hwk, hwd, hy2]
      exact Rnd.intro (n - (k + 1)) (by omega) (hJ _ _ _ ⟨k + 1, by omega, rfl, by simp, by simp [f1], by simp, rfl⟩)
    · have h0 : y % 2 = 0 := by omega
      have hwd : IntKind.u32.wrap ((y : Int) / 2) = ((rot x (k + 1) : Nat) : Int) := by rw [IntKind.wrap_u32, hs]; omega
      simp [go_sem, f0, f1, f5, hki, ht, hq, h0, hwk, hwd]
      exact Rnd.intro (n - (k + 1)) (by omega) (hJ _ _ _ ⟨k + 1, by omega, rfl, by simp, by simp [f1], by simp, rfl⟩)
  · obtain rfl : k = n := by omega
    simp [go_sem, f0, f1, f5]
    exact hR _ _ ⟨rfl, rfl⟩
theorem moved_any (x n : Nat) (w : World) (hx : x < 4294967296) (hn : n ≤ 32) : Ret Tryz.prog 136 #[.int .u32 x, .int .i64 n] w fun v' w' => v' = .int .u32 (x / 2 ^ n : Nat) ∧ w' = w := by
  refine v_enter Tryz.func136 Tryz.ntmps136 rfl (by simp) fun R' hR => ?_
  simp [go_sem]
  refine v_loop (fun r f wr => ∃ k, k ≤ n ∧ r = n - k ∧ f 0 = .int .u32 (x / 2 ^ k : Nat) ∧ f 1 = .int .i64 n ∧ f 5 = .int .i64 k ∧ wr = w) n
    ⟨0, by omega, rfl, by simp, by simp, by simp, rfl⟩ ?_
  rintro J hJ _ f wr ⟨k, hk, rfl, f0, f1, f5, rfl⟩
  by_cases hkn : k < n
  · have hki : (k : Int) < n := by omega
    have hwk : IntKind.i64.wrap ((k : Int) + 1) = ((k + 1 : Nat) : Int) := by simp [IntKind.wrap_i64]; omega
    have hs : x / 2 ^ (k + 1) = x / 2 ^ k / 2 := by rw [Nat.pow_succ, Nat.div_div_eq_div_mul]
    have hlt : x / 2 ^ k < 4294967296 := Nat.lt_of_le_of_lt (Nat.div_le_self _ _) hx
    obtain ⟨z, hz⟩ : ∃ z, x / 2 ^ (k + 1) = z := ⟨_, rfl⟩
    rw [hz] at hs
    generalize x / 2 ^ k = y at *
    have hwd : IntKind.u32.wrap ((y : Int) / 2) = ((z : Nat) : Int) := by rw [IntKind.wrap_u32, hs]; omega
    simp [go_sem, f0, f1, f5, hki, hwk, hwd]
    exact Rnd.intro (n - (k + 1)) (by omega) (hJ _ _ _ ⟨k + 1, by omega, rfl, by simp [hz], by simp [f1], by simp, rfl⟩)
  · obtain rfl : k = n := by omega
    simp [go_sem, f0, f1, f5]
    exact hR _ _ ⟨rfl, rfl⟩
end Go.Proofs.YtnefdmbdkljifaaGreatDoor

namespace Go.Proofs.YtnefdmbdkljifaaGreatDoor
open Go.RowKit Go.Kin

theorem tyW : Ty1 Tryz.prog 85 32 (.int .u32 0) 4 := ⟨Tryz.underlying85, by kernel_rfl, rfl⟩
theorem wat_sum (b : List UInt8) (i : Nat) : wat b i = ((gb b (4 * i) * 256 + gb b (4 * i + 1)) * 256 + gb b (4 * i + 2)) * 256 + gb b (4 * i + 3) := by
  have h1 := gb_lt b (4 * i + 1)
  have h2 := gb_lt b (4 * i + 2)
  have h3 := gb_lt b (4 * i + 3)
  unfold wat
  generalize gb b (4 * i) = g0 at *
  generalize gb b (4 * i + 1) = g1 at *
  generalize gb b (4 * i + 2) = g2 at *
  generalize gb b (4 * i + 3) = g3 at *
  have e1 : g0 * 16777216 ||| g1 * 65536 = 2 ^ 16 * (g0 * 256 + g1) := by
    have := Nat.two_pow_add_eq_or_of_lt (i := 24) (b := g1 * 65536) (by omega) g0
    rw [show g0 * 16777216 = 2 ^ 24 * g0 by omega, ← this]
    omega
  have e2 : 2 ^ 16 * (g0 * 256 + g1) ||| g2 * 256 = 2 ^ 8 * ((g0 * 256 + g1) * 256 + g2) := by
    rw [← Nat.two_pow_add_eq_or_of_lt (i := 16) (b := g2 * 256) (by omega)]
    omega
  rw [e1, e2, ← Nat.two_pow_add_eq_or_of_lt (i := 8) (b := g3) (by omega)]
  omega
theorem Wl_succ (b : List UInt8) (k : Nat) : Wl b (k + 1) = Wl b k ++ [if k < 16 then wat b k else nxt (Wl b k) k] := by rw [Wl]
theorem w32_snoc (l : List Nat) (x : Nat) : w32 (l ++ [x]) = w32 l ++ [.int .u32 x] := by simp [w32]
/-- the number of the first j of four bytes -/
def watj (b : List UInt8) (i j : Nat) : Nat := (List.range j).foldl (fun x k => x * 256 + gb b (4 * i + k)) 0
theorem watj_succ (b : List UInt8) (i j : Nat) : watj b i (j + 1) = watj b i j * 256 + gb b (4 * i + j) := by simp [watj, List.range_succ]
theorem watj_lt (b : List UInt8) (i j : Nat) : watj b i j < 256 ^ j := by
  induction j with
  | zero => simp [watj]
  | succ j ih =>
    rw [watj_succ, Nat.pow_succ]
    have := gb_lt b (4 * i + j)
    omega
theorem watj_four (b : List UInt8) (i : Nat) : watj b i 4 = wat b i := by
  rw [wat_sum, watj_succ, watj_succ, watj_succ, watj_succ]
  simp [watj]
theorem w32_at {w : World} {v : Value} {n : Nat} {l : List Nat} (h : Sl w v n (w32 l)) (hl : l.length = n) {i : Nat} (hi : i < n) :
    ∃ a, (∀ w', (Instr.indexAt 85 v (.int .i64 i)).run Tryz.prog w' = .ok (.pointer (some a)) w') ∧ w.cell? a = some (.int .u32 (l.getD i 0 : Nat)) ∧ v.ownBlock = some a.block := by
  have hc : l[i]? = some (l.getD i 0) := by rw [List.getD_eq_getElem?_getD, List.getElem?_eq_getElem (by omega)]; rfl
  have hc' : (w32 l)[i]? = some (.int .u32 (l.getD i 0 : Nat)) := by rw [w32, List.getElem?_map, hc]; rfl
  obtain ⟨a, h1, h2, h3⟩ := h.at tyW (by rw [w32_length]; exact hl) hc'
  exact ⟨a, h1, h2, h3⟩
theorem rnumbers_any (v : Value) (b : List UInt8) (w : World) (hb : b.length = 64) (hs : Sl w v 64 (bvs b)) :
    Ret Tryz.prog 133 #[v] w fun v' w' => Mine 32 w v' 64 (w32 (Wl b 64)) w' := by
  refine v_enter Tryz.func133 Tryz.ntmps133 rfl (by simp) fun R' hR => ?_
  simp [go_sem]
  refine v_loop (fun r f wr => ∃ k, k ≤ 16 ∧ r = 16 - k ∧ f 0 = v ∧ f 4 = .int .i64 k ∧ Mine 32 w (f 3) k (w32 (Wl b k)) wr) 16
    ⟨0, by omega, rfl, by simp, by simp, by rw [Wl]; simpa [w32] using Mine.nil _ (Ch.refl Nw w)⟩ ?_
  rintro J hJ _ f wr ⟨k, hk, rfl, f0, f4, hm⟩
  by_cases hk16 : k < 16
  · have hki : (k : Int) < 16 := by omega
    have hwk : IntKind.i64.wrap ((k : Int) + 1) = ((k + 1 : Nat) : Int) := by simp [IntKind.wrap_i64]; omega
    have hw4 : IntKind.i64.wrap (4 * (k : Int)) = 4 * (k : Int) := by rw [IntKind.wrap_i64]; omega
    simp [go_sem, f4, hki]
    refine v_loop (fun r f' wr' => ∃ j, j ≤ 4 ∧ r = 4 - j ∧ f' 0 = v ∧ f' 3 = f 3 ∧ f' 4 = .int .i64 k ∧ f' 5 = .int .u32 (watj b k j) ∧ f' 6 = .int .i64 j ∧ wr' = wr) 4
      ⟨0, by omega, rfl, by simp [f0], by simp, by simp [f4], by simp [watj], by simp, rfl⟩ ?_
    rintro J' hJ' _ f' wr' ⟨j, hj, rfl, g0, g3, g4, g5, g6, rfl⟩
    by_cases hj4 : j < 4
    · have hji : (j : Int) < 4 := by omega
      have hwj : IntKind.i64.wrap ((j : Int) + 1) = ((j + 1 : Nat) : Int) := by simp [IntKind.wrap_i64]; omega
      have hwi : IntKind.i64.wrap (4 * (k : Int) + j) = 4 * (k : Int) + j := by rw [IntKind.wrap_i64]; omega
      have hsr : Sl wr' v 64 (bvs b) := hs.ch hm.ch fun _ _ e => e
      have hc : b[4 * k + j]? = some (b.getD (4 * k + j) 0) := by rw [List.getD_eq_getElem?_getD, List.getElem?_eq_getElem (by omega)]; rfl
      obtain ⟨a, h1, h2, _⟩ := hsr.at tyB (by rw [bvs_length, hb]) (u := .int .u8 (b.getD (4 * k + j) 0).toNat) (bvs_get hc)
      have h1 : ∀ w', (Instr.indexAt 62 v (.int .i64 (4 * (k : Int) + j))).run Tryz.prog w' = .ok (.pointer (some a)) w' := fun w' => by
        have := h1 w'
        rwa [show ((4 * k + j : Nat) : Int) = 4 * (k : Int) + j by omega] at this
      have h2 : wr'.cell? a = some (.int .u8 (gb b (4 * k + j) : Nat)) := h2
      have hgl := gb_lt b (4 * k + j)
      have hlt := watj_lt b k j
      have hlt3 : watj b k j < 16777216 := Nat.lt_of_lt_of_le hlt (by rw [show 16777216 = 256 ^ 3 from rfl]; exact Nat.pow_le_pow_right (by decide) (by omega))
      have hst := watj_succ b k j
      generalize watj b k j = y at *
      generalize gb b (4 * k + j) = c at *
      obtain ⟨z, hz⟩ : ∃ z, watj b k (j + 1) = z := ⟨_, rfl⟩
      rw [hz] at hst
      have u1 : IntKind.u32.wrap ((y : Int) * 256) = (y : Int) * 256 := by rw [IntKind.wrap_u32]; omega
      have u2 : IntKind.u32.wrap (c : Int) = (c : Int) := by rw [IntKind.wrap_u32]; omega
      have u3 : IntKind.u32.wrap ((y : Int) * 256 + c) = (z : Int) := by rw [IntKind.wrap_u32]; omega
      simp [go_sem, g0, g4, g5, g6, hji, hw4, hwi, h1, h2, u1, u2, u3, hwj]
      exact Rnd.intro (4 - (j + 1)) (by omega) (hJ' _ _ _ ⟨j + 1, by omega, rfl, by simp [g0], by simp [g3], by simp [g4], by simp [hz], by simp, rfl⟩)
    · obtain rfl : j = 4 := by omega
      rw [watj_four] at g5
      simp [go_sem, g6, g3, g5, g4]
      refine VB_app1 tyW hm.own rfl (by unfold maxLen; omega) (by omega) fun v' w' d1 d2 d3 => ?_
      have hm' := hm.grow d1 d2 d3
      simp [go_sem, g4, hwk]
      refine Rnd.intro (16 - (k + 1)) (by omega) (hJ _ _ _ ⟨k + 1, by omega, rfl, by simp [g0], by simp, ?_⟩)
      rw [Wl_succ, if_pos hk16, w32_snoc]
      simpa using hm'
  · obtain rfl : k = 16 := by omega
    simp [go_sem, f4]
    refine v_loop (fun r f wr => ∃ k, 16 ≤ k ∧ k ≤ 64 ∧ r = 64 - k ∧ f 7 = .int .i64 k ∧ Mine 32 w (f 3) k (w32 (Wl b k)) wr) 48
      ⟨16, by omega, by omega, by omega, by simp, by simpa using hm⟩ ?_
    clear hm hJ J f4 f0 f
    rintro J hJ _ f wr ⟨k, hk16, hk, rfl, f7, hm⟩
    by_cases hk64 : k < 64
    · have hki : (k : Int) < 64 := by omega
      have hwk : IntKind.i64.wrap ((k : Int) + 1) = ((k + 1 : Nat) : Int) := by simp [IntKind.wrap_i64]; omega
      have i15 : IntKind.i64.wrap ((k : Int) - 15) = ((k - 15 : Nat) : Int) := by rw [IntKind.wrap_i64]; omega
      have i2 : IntKind.i64.wrap ((k : Int) - 2) = ((k - 2 : Nat) : Int) := by rw [IntKind.wrap_i64]; omega
      have i16 : IntKind.i64.wrap ((k : Int) - 16) = ((k - 16 : Nat) : Int) := by rw [IntKind.wrap_i64]; omega
      have i7 : IntKind.i64.wrap ((k : Int) - 7) = ((k - 7 : Nat) : Int) := by rw [IntKind.wrap_i64]; omega
      have hlW := Wl_length b k
      obtain ⟨a15, p15, y15, _⟩ := w32_at hm.sl hlW (i := k - 15) (by omega)
      obtain ⟨a2, p2, y2, _⟩ := w32_at hm.sl hlW (i := k - 2) (by omega)
      obtain ⟨a16, p16, y16, _⟩ := w32_at hm.sl hlW (i := k - 16) (by omega)
      obtain ⟨a7, p7, y7, _⟩ := w32_at hm.sl hlW (i := k - 7) (by omega)
      obtain ⟨x15, hx15⟩ : ∃ x, (Wl b k).getD (k - 15) 0 = x := ⟨_, rfl⟩
      obtain ⟨x2, hx2⟩ : ∃ x, (Wl b k).getD (k - 2) 0 = x := ⟨_, rfl⟩
      obtain ⟨x16, hx16⟩ : ∃ x, (Wl b k).getD (k - 16) 0 = x := ⟨_, rfl⟩
      obtain ⟨x7, hx7⟩ : ∃ x, (Wl b k).getD (k - 7) 0 = x := ⟨_, rfl⟩
      rw [hx15] at y15
      rw [hx2] at y2
      rw [hx16] at y16
      rw [hx7] at y7
      have l15 : x15 < 4294967296 := by rw [← hx15]; exact Wl_at_lt b (by omega)
      have l2 : x2 < 4294967296 := by rw [← hx2]; exact Wl_at_lt b (by omega)
      have l16 : x16 < 4294967296 := by rw [← hx16]; exact Wl_at_lt b (by omega)
      have l7 : x7 < 4294967296 := by rw [← hx7]; exact Wl_at_lt b (by omega)
      simp [go_sem, f7, hki]
      refine v_draw' [(0, none), (1, none), (2, none), (3, none), (4, none), (5, none), (6, none), (7, none), (8, none), (9, none), (10, none), (11, none)] (by kernel_rfl) (by kernel_rfl) ?_
      simp [go_sem, f7, i15, i2, p15, p2, y15, y2]
      refine v_draw' [(0, none), (1, none), (2, none), (3, none), (4, none), (5, none), (6, none), (8, none), (11, none), (15, none), (16, none), (17, none), (18, none), (19, none), (21, none), (23, none), (26, none), (7, some [0, 1, 2, 3, 4, 5, 8, 11, 15, 16, 17, 18, 19, 21, 23, 26]), (9, some [0, 1, 2, 3, 4, 5, 11, 15, 16, 17, 18, 19, 21, 23, 26]), (10, none), (12, some [0, 1, 2, 3, 4, 5, 15, 16, 17, 18, 19, 21, 23, 26, 10]), (13, none), (14, none), (20, none), (22, some [0, 1, 2, 3, 4, 5, 15, 16, 17, 18, 19, 23, 26, 10, 13, 14, 20]), (24, some [0, 1, 2, 3, 4, 5, 15, 16, 17, 18, 19, 26, 10, 13, 14, 20]), (25, none), (27, some [0, 1, 2, 3, 4, 5, 15, 16, 17, 18, 19, 10, 13, 14, 20, 25]), (28, none), (29, none), (30, some [0]), (31, some []), (32, none)] (by kernel_rfl) (by kernel_rfl) ?_
      simp [go_sem, f7, i16, i7, p16, p7, y16, y7]
      refine (turned_any x15 7 _ l15 (by decide)).mono ?_
      rintro _ _ ⟨rfl, rfl⟩
      simp [go_sem, f7, i16, i7, p16, p7, y16, y7]
      refine (turned_any x15 18 _ l15 (by decide)).mono ?_
      rintro _ _ ⟨rfl, rfl⟩
      simp [go_sem, f7, i16, i7, p16, p7, y16, y7]
      refine (moved_any x15 3 _ l15 (by decide)).mono ?_
      rintro _ _ ⟨rfl, rfl⟩
      simp [go_sem, f7, i16, i7, p16, p7, y16, y7]
      refine (turned_any x2 17 _ l2 (by decide)).mono ?_
      rintro _ _ ⟨rfl, rfl⟩
      simp [go_sem, f7, i16, i7, p16, p7, y16, y7]
      refine (turned_any x2 19 _ l2 (by decide)).mono ?_
      rintro _ _ ⟨rfl, rfl⟩
      simp [go_sem, f7, i16, i7, p16, p7, y16, y7]
      refine (moved_any x2 10 _ l2 (by decide)).mono ?_
      rintro _ _ ⟨rfl, rfl⟩
      simp [go_sem, f7, i16, i7, p16, p7, y16, y7]
      have hv : IntKind.u32.wrap (IntKind.u32.wrap (IntKind.u32.wrap ((x16 : Int) + bits .xor .u32 (bits .xor .u32 (rot x15 7 : Int) (rot x15 18)) ((x15 : Int) / 8)) + x7) + bits .xor .u32 (bits .xor .u32 (rot x2 17 : Int) (rot x2 19)) ((x2 : Int) / 1024)) = ((nxt (Wl b k) k : Nat) : Int) := by
        have q1 := rot_lt x15 7 l15
        have q2 := rot_lt x15 18 l15
        have q3 := rot_lt x2 17 l2
        have q4 := rot_lt x2 19 l2
        have q5 : rot x15 7 ^^^ rot x15 18 < 4294967296 := Nat.xor_lt_two_pow (n := 32) q1 q2
        have q6 : rot x2 17 ^^^ rot x2 19 < 4294967296 := Nat.xor_lt_two_pow (n := 32) q3 q4
        have q7 : (x15 : Int) / 8 = ((x15 / 8 : Nat) : Int) := by omega
        have q8 : (x2 : Int) / 1024 = ((x2 / 1024 : Nat) : Int) := by omega
        rw [bits_xor32 _ _ q1 q2, bits_xor32 _ _ q3 q4, q7, q8, bits_xor32 _ _ q5 (by omega), bits_xor32 _ _ q6 (by omega), wrap_add, wrap_add, wrap_add]
        unfold nxt
        rw [hx15, hx2, hx16, hx7]
        rfl
      rw [hv]
      generalize hnx : nxt (Wl b k) k = y
      have hmd := hm.drew.drew
      have eqw : (wr.alloc (.cells #[.int .u32 y] 32)).drew.drew = wr.drew.drew.alloc (.cells #[.int .u32 y] 32) := rfl
      have eqs : wr.heap.size = wr.drew.drew.heap.size := rfl
      rw [eqw, eqs]
      refine VB_app1 tyW hmd.own rfl (by unfold maxLen; omega) (by omega) fun v' w' d1 d2 d3 => ?_
      have hm' := hmd.grow d1 d2 d3
      simp [go_sem, f7, hwk]
      refine Rnd.intro (64 - (k + 1)) (by omega) (hJ _ _ _ ⟨k + 1, by omega, by omega, rfl, by simp, ?_⟩)
      rw [Wl_succ, if_neg (by omega), w32_snoc, hnx]
      simpa using hm'
    · obtain rfl : k = 64 := by omega
      simp [go_sem, f7]
      exact hR _ _ hm
end Go.Proofs.YtnefdmbdkljifaaGreatDoor
