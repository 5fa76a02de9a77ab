/- What package wire's writers compute (put, U16, U32, U64, Fill) and slices.Clone at bytes, as contracts on calls. No condition but on sizes. -/
import Derived.Test.YtppilgkgnofkpaaDoorChecked
import Derived.Test.YtppilgkgnofkpaaDoorVee
set_option linter.unusedSimpArgs false
set_option linter.unusedVariables false

namespace Go.Proofs.YtppilgkgnofkpaaDoor
open Go.RowKit Go.Kin

theorem tyB : Ty1 Tryd.prog 29 5 (.int .u8 0) 1 := ⟨Tryd.underlying29, by kernel_rfl, rfl⟩

def le : Nat → Nat → List UInt8
  | _, 0 => []
  | n, k+1 => UInt8.ofNat n :: le (n / 256) k
theorem le_succ (n k : Nat) : le n (k + 1) = le n k ++ [UInt8.ofNat (n / 256 ^ k)] := by
  induction k generalizing n with
  | zero => simp [le]
  | succ k ih => rw [le, ih (n / 256), le, Nat.div_div_eq_div_mul, Nat.pow_succ, Nat.mul_comm 256]; rfl
theorem le_length (n k : Nat) : (le n k).length = k := by
  induction k generalizing n with
  | zero => rfl
  | succ k ih => simp [le, ih]
theorem bv_ofNat (n : Nat) : bv (UInt8.ofNat n) = .int .u8 ((n % 256 : Nat) : Int) := by simp [bv]

/-- a call that appends bytes onto a row of the call's own -/
def Onto (w : World) (v : Value) (n : Nat) (xs : List UInt8) (m : Nat) (ys : List UInt8) : Value → World → Prop := fun v' w' =>
  w'.ownsRow 0 5 1 v' (n + m) (bvs (xs ++ ys)) ∧ Ch (fun j => v.ownBlock = some j) w w' ∧ (v'.ownBlock = v.ownBlock ∨ Fresh w.heap.size v')
theorem Onto.refl {w : World} {v : Value} {n : Nat} {xs : List UInt8} (h : w.ownsRow 0 5 1 v n (bvs xs)) : Onto w v n xs 0 [] v w := ⟨by simpa using h, Ch.refl _ _, .inl rfl⟩
theorem Onto.fresh {w w' : World} {v v' : Value} {n m : Nat} {xs ys : List UInt8} (h : Onto w v n xs m ys v' w') {B : Nat} (hf : Fresh B v) (hB : B ≤ w.heap.size) : Fresh B v' := by
  rcases h.2.2 with h | h
  · intro k hk; exact hf k (by rw [← h]; exact hk)
  · exact h.mono hB
theorem Onto.one {w w1 w2 : World} {v v1 v2 : Value} {n m : Nat} {xs ys : List UInt8} {c : UInt8} {u : Value} (h : Onto w v n xs m ys v1 w1) (hu : u = bv c)
    (h1 : w2.ownsRow 0 5 1 v2 (n + m + 1) (bvs (xs ++ ys) ++ [u])) (h2 : Ch (fun k => v1.ownBlock = some k) w1 w2) (h3 : v2.ownBlock = v1.ownBlock ∨ Fresh w1.heap.size v2) : Onto w v n xs (m + 1) (ys ++ [c]) v2 w2 := by
  subst hu
  obtain ⟨k1, k2, k3⟩ := h
  refine ⟨by rw [← List.append_assoc, bvs_append]; exact h1, k2.trans' h2 (fun j hj e => ?_), ?_⟩
  · rcases k3 with k3 | k3
    · rw [← k3]; exact e
    · have := k3 j e; omega
  · rcases h3 with h3 | h3
    · rcases k3 with k3 | k3
      · exact .inl (h3.trans k3)
      · exact .inr fun j hj => k3 j (by rw [← h3]; exact hj)
    · exact .inr (h3.mono k2.size)

theorem put16 (v : Value) (n : Nat) (xs : List UInt8) (x : Nat) (wide : Nat) (w : World) (hx : x < 65536) (hw : wide ≤ 8) (hn : n ≤ 1000000000)
    (hown : w.ownsRow 0 5 1 v n (bvs xs)) :
    Ret Tryd.prog 128 #[v, .int .u16 x, .int .i64 wide] w (Onto w v n xs wide (le x wide)) := by
  refine v_enter Tryd.func128 Tryd.ntmps128 rfl (by simp) fun R' hR => ?_
  simp [go_sem]
  refine v_loop (fun r f wr => ∃ k y : Nat, k ≤ wide ∧ r = wide - k ∧ y = x / 256 ^ k ∧ f 7 = .int .i64 wide ∧ f 8 = .int .i64 k ∧ f 1 = .int .u16 y ∧ Onto w v n xs k (le x k) (f 0) wr) wide ⟨0, x, Nat.zero_le _, rfl, by simp, by simp, by simp, by simp, Onto.refl hown⟩ ?_
  rintro J hJ _ f wr ⟨k, y, hk, rfl, hy, h7, h8, h1, ho⟩
  have hy2 : y < 65536 := by rw [hy]; exact Nat.lt_of_le_of_lt (Nat.div_le_self _ _) hx
  have hy3 : y / 256 = x / 256 ^ (k + 1) := by rw [hy, Nat.div_div_eq_div_mul, Nat.pow_succ]
  have hle := le_succ x k
  rw [← hy] at hle
  simp [go_sem, h7, h8]
  refine VIf_dec (fun hlt => ?_) (fun hge => ?_)
  · simp [go_sem, h1]
    refine VB_app1 tyB ho.1 rfl (by unfold maxLen; omega) (by omega) fun v' w' k1 k2 k3 => ?_
    simp [go_sem, h8, h1]
    refine Rnd.intro (wide - (k + 1)) (by omega) (hJ _ _ _ ⟨k + 1, y / 256, by omega, rfl, hy3, by simpa using h7, by simp [IntKind.wrap_i64]; omega, by simp, ?_⟩)
    rw [hle]
    exact ho.one (by rw [bv_ofNat]; simp [IntKind.wrap_u8]) k1 k2 k3
  · simp [go_sem]
    obtain rfl : k = wide := by omega
    exact hR _ _ ho

theorem wu16 (v : Value) (n : Nat) (xs : List UInt8) (x : Nat) (w : World) (hx : x < 65536) (hn : n ≤ 1000000000)
    (hown : w.ownsRow 0 5 1 v n (bvs xs)) :
    Ret Tryd.prog 107 #[v, .int .u16 x] w (Onto w v n xs 2 (le x 2)) := by
  refine v_enter Tryd.func107 Tryd.ntmps107 rfl (by simp) fun R' hR => ?_
  simp [go_sem]
  refine (put16 v n xs x 2 _ hx (by omega) hn hown).mono fun v' w' h => ?_
  simp [go_sem]
  exact hR _ _ h

theorem put32 (v : Value) (n : Nat) (xs : List UInt8) (x : Nat) (wide : Nat) (w : World) (hx : x < 4294967296) (hw : wide ≤ 8) (hn : n ≤ 1000000000)
    (hown : w.ownsRow 0 5 1 v n (bvs xs)) :
    Ret Tryd.prog 130 #[v, .int .u32 x, .int .i64 wide] w (Onto w v n xs wide (le x wide)) := by
  refine v_enter Tryd.func130 Tryd.ntmps130 rfl (by simp) fun R' hR => ?_
  simp [go_sem]
  refine v_loop (fun r f wr => ∃ k y : Nat, k ≤ wide ∧ r = wide - k ∧ y = x / 256 ^ k ∧ f 7 = .int .i64 wide ∧ f 8 = .int .i64 k ∧ f 1 = .int .u32 y ∧ Onto w v n xs k (le x k) (f 0) wr) wide ⟨0, x, Nat.zero_le _, rfl, by simp, by simp, by simp, by simp, Onto.refl hown⟩ ?_
  rintro J hJ _ f wr ⟨k, y, hk, rfl, hy, h7, h8, h1, ho⟩
  have hy2 : y < 4294967296 := by rw [hy]; exact Nat.lt_of_le_of_lt (Nat.div_le_self _ _) hx
  have hy3 : y / 256 = x / 256 ^ (k + 1) := by rw [hy, Nat.div_div_eq_div_mul, Nat.pow_succ]
  have hle := le_succ x k
  rw [← hy] at hle
  simp [go_sem, h7, h8]
  refine VIf_dec (fun hlt => ?_) (fun hge => ?_)
  · simp [go_sem, h1]
    refine VB_app1 tyB ho.1 rfl (by unfold maxLen; omega) (by omega) fun v' w' k1 k2 k3 => ?_
    simp [go_sem, h8, h1]
    refine Rnd.intro (wide - (k + 1)) (by omega) (hJ _ _ _ ⟨k + 1, y / 256, by omega, rfl, hy3, by simpa using h7, by simp [IntKind.wrap_i64]; omega, by simp, ?_⟩)
    rw [hle]
    exact ho.one (by rw [bv_ofNat]; simp [IntKind.wrap_u8]) k1 k2 k3
  · simp [go_sem]
    obtain rfl : k = wide := by omega
    exact hR _ _ ho

theorem wu32 (v : Value) (n : Nat) (xs : List UInt8) (x : Nat) (w : World) (hx : x < 4294967296) (hn : n ≤ 1000000000)
    (hown : w.ownsRow 0 5 1 v n (bvs xs)) :
    Ret Tryd.prog 109 #[v, .int .u32 x] w (Onto w v n xs 4 (le x 4)) := by
  refine v_enter Tryd.func109 Tryd.ntmps109 rfl (by simp) fun R' hR => ?_
  simp [go_sem]
  refine (put32 v n xs x 4 _ hx (by omega) hn hown).mono fun v' w' h => ?_
  simp [go_sem]
  exact hR _ _ h

theorem put64 (v : Value) (n : Nat) (xs : List UInt8) (x : Nat) (wide : Nat) (w : World) (hx : x < 18446744073709551616) (hw : wide ≤ 8) (hn : n ≤ 1000000000)
    (hown : w.ownsRow 0 5 1 v n (bvs xs)) :
    Ret Tryd.prog 129 #[v, .int .u64 x, .int .i64 wide] w (Onto w v n xs wide (le x wide)) := by
  refine v_enter Tryd.func129 Tryd.ntmps129 rfl (by simp) fun R' hR => ?_
  simp [go_sem]
  refine v_loop (fun r f wr => ∃ k y : Nat, k ≤ wide ∧ r = wide - k ∧ y = x / 256 ^ k ∧ f 7 = .int .i64 wide ∧ f 8 = .int .i64 k ∧ f 1 = .int .u64 y ∧ Onto w v n xs k (le x k) (f 0) wr) wide ⟨0, x, Nat.zero_le _, rfl, by simp, by simp, by simp, by simp, Onto.refl hown⟩ ?_
  rintro J hJ _ f wr ⟨k, y, hk, rfl, hy, h7, h8, h1, ho⟩
  have hy2 : y < 18446744073709551616 := by rw [hy]; exact Nat.lt_of_le_of_lt (Nat.div_le_self _ _) hx
  have hy3 : y / 256 = x / 256 ^ (k + 1) := by rw [hy, Nat.div_div_eq_div_mul, Nat.pow_succ]
  have hle := le_succ x k
  rw [← hy] at hle
  simp [go_sem, h7, h8]
  refine VIf_dec (fun hlt => ?_) (fun hge => ?_)
  · simp [go_sem, h1]
    refine VB_app1 tyB ho.1 rfl (by unfold maxLen; omega) (by omega) fun v' w' k1 k2 k3 => ?_
    simp [go_sem, h8, h1]
    refine Rnd.intro (wide - (k + 1)) (by omega) (hJ _ _ _ ⟨k + 1, y / 256, by omega, rfl, hy3, by simpa using h7, by simp [IntKind.wrap_i64]; omega, by simp, ?_⟩)
    rw [hle]
    exact ho.one (by rw [bv_ofNat]; simp [IntKind.wrap_u8]) k1 k2 k3
  · simp [go_sem]
    obtain rfl : k = wide := by omega
    exact hR _ _ ho

theorem wu64 (v : Value) (n : Nat) (xs : List UInt8) (x : Nat) (w : World) (hx : x < 18446744073709551616) (hn : n ≤ 1000000000)
    (hown : w.ownsRow 0 5 1 v n (bvs xs)) :
    Ret Tryd.prog 108 #[v, .int .u64 x] w (Onto w v n xs 8 (le x 8)) := by
  refine v_enter Tryd.func108 Tryd.ntmps108 rfl (by simp) fun R' hR => ?_
  simp [go_sem]
  refine (put64 v n xs x 8 _ hx (by omega) hn hown).mono fun v' w' h => ?_
  simp [go_sem]
  exact hR _ _ h

theorem fill_any (v : Value) (n : Nat) (xs : List UInt8) (m : Int) (w : World) (hn : n ≤ 1000000000) (hm : m ≤ 1000000000) (hx : xs.length = n)
    (hown : w.ownsRow 0 5 1 v n (bvs xs)) :
    Ret Tryd.prog 110 #[v, .int .i64 m] w (Onto w v n xs (m.toNat - n) (List.replicate (m.toNat - n) 0)) := by
  refine v_enter Tryd.func110 Tryd.ntmps110 rfl (by simp) fun R' hR => ?_
  simp [go_sem]
  refine v_loop (fun r f wr => ∃ k : Nat, k ≤ m.toNat - n ∧ r = m.toNat - n - k ∧ f 1 = .int .i64 m ∧ Onto w v n xs k (List.replicate k 0) (f 0) wr) (m.toNat - n) ⟨0, Nat.zero_le _, rfl, by simp, by simpa using Onto.refl hown⟩ ?_
  rintro J hJ _ f wr ⟨k, hk, rfl, h1, ho⟩
  have hl := Sl.len (Sl.of_own ho.1) Tryd.underlying29 3
  simp [go_sem, h1, hl]
  refine VIf_dec (fun hlt => ?_) (fun hge => ?_)
  · simp [go_sem]
    refine VB_app1 tyB ho.1 rfl (by unfold maxLen; omega) (by omega) fun v' w' k1 k2 k3 => ?_
    simp [go_sem]
    refine Rnd.intro (m.toNat - n - (k + 1)) (by omega) (hJ _ _ _ ⟨k + 1, by omega, rfl, by simpa using h1, ?_⟩)
    rw [List.replicate_succ']
    simp
    exact ho.one rfl k1 k2 k3
  · simp [go_sem]
    obtain rfl : k = m.toNat - n := by omega
    exact hR _ _ ho

/-- slices.Clone at bytes: a row of the call's own. -/
theorem clone_any (v : Value) (n : Nat) (xs : List UInt8) (w : World) (hn : n ≤ 1000000000) (hx : xs.length = n) (hs : Sl w v n (bvs xs)) :
    Ret Tryd.prog 61 #[v] w fun v' w' => w'.ownsRow 0 5 1 v' n (bvs xs) ∧ Ch Nw w w' ∧ Fresh w.heap.size v' := by
  refine v_enter Tryd.func61 Tryd.ntmps61 rfl (by simp) fun R' hR => ?_
  obtain ⟨A, c, rfl, h1, h2, h3⟩ := id hs
  cases A with
  | none =>
    have hne : n = 0 := by
      rcases Nat.eq_zero_or_pos n with h | h
      · exact h
      · obtain ⟨ad, h', _⟩ := h3 (by rw [bvs_length]; omega)
        cases h'
    subst hne
    obtain rfl : xs = [] := List.eq_nil_of_length_eq_zero hx
    have hb := fun w => Lib.run_eql_slice_nil (P := Tryd.prog) w 29 5 none 0 c 0 0 Tryd.underlying29
    simp [go_sem, hb]
    exact hR _ _ ⟨World.ownsRow_nil _ _ _ _, Ch.refl _ _, fun k hk => by simp [Value.ownBlock] at hk⟩
  | some ad =>
    have hb := fun w => Lib.run_eql_slice_nil (P := Tryd.prog) w 29 5 (some ad) n c 0 0 Tryd.underlying29
    simp [go_sem, hb]
    refine VB_appn tyB (World.ownsRow_made w #[] 0 (Nat.zero_le _) (Nat.zero_le _) rfl) (hs.alloc _) (by rw [bvs_length]; exact hx) (bvs_one _) (by unfold maxLen; omega) (by omega) fun v' w' k1 k2 k3 => ?_
    simp [go_sem]
    refine hR _ _ ⟨by simpa using k1, ((Ch.refl Nw w).alloc _).trans' k2 fun j hj e => ?_, ?_⟩
    · simp [Value.ownBlock] at e; omega
    · rcases k3 with k3 | k3
      · intro k hk
        rw [k3] at hk
        simp [Value.ownBlock] at hk
        omega
      · exact k3.mono (by simp)
end Go.Proofs.YtppilgkgnofkpaaDoor
