/- What package wire's Reader answers, as contracts on calls: a reader's block holds what is left and the first error. No condition but on sizes. -/
import Derived.Test.YtnefdmbdkljifaaGreatDoorChecked
import Derived.Test.YtnefdmbdkljifaaGreatDoorVee
set_option linter.unusedSimpArgs false
set_option linter.unusedVariables false

/- What package wire's writers compute (put, U16, U32, U64, Fill) and slices.Clone at bytes, as contracts on calls. No condition but on sizes. -/
namespace Go.Proofs.YtnefdmbdkljifaaGreatDoor
open Go.RowKit Go.Kin

theorem tyB : Ty1 Tryz.prog 62 5 (.int .u8 0) 1 := ⟨Tryz.underlying62, by kernel_rfl, rfl⟩

def le : Nat → Nat → List UInt8
  | _, 0 => []
  | n, k+1 => UInt8.ofNat n :: le (n / 256) k
theorem le_succ (n k : Nat) : le n (k + 1) = le n k ++ [UInt8.ofNat (n / 256 ^ k)] := by
  induction k generalizing n with
  | zero => simp [le]
  | succ k ih => rw [le, ih (n / 256), le, Nat.div_div_eq_div_mul, Nat.pow_succ, Nat.mul_comm 256]; rfl
theorem le_length (n k : Nat) : (le n k).length = k := by
  induction k generalizing n with
  | zero => rfl
  | succ k ih => simp [le, ih]
theorem bv_ofNat (n : Nat) : bv (UInt8.ofNat n) = .int .u8 ((n % 256 : Nat) : Int) := by simp [bv]

/-- a call that appends bytes onto a row of the call's own -/
def Onto (w : World) (v : Value) (n : Nat) (xs : List UInt8) (m : Nat) (ys : List UInt8) : Value → World → Prop := fun v' w' =>
  w'.ownsRow 0 5 1 v' (n + m) (bvs (xs ++ ys)) ∧ Ch (fun j => v.ownBlock = some j) w w' ∧ (v'.ownBlock = v.ownBlock ∨ Fresh w.heap.size v')
theorem Onto.refl {w : World} {v : Value} {n : Nat} {xs : List UInt8} (h : w.ownsRow 0 5 1 v n (bvs xs)) : Onto w v n xs 0 [] v w := ⟨by simpa using h, Ch.refl _ _, .inl rfl⟩
theorem Onto.fresh {w w' : World} {v v' : Value} {n m : Nat} {xs ys : List UInt8} (h : Onto w v n xs m ys v' w') {B : Nat} (hf : Fresh B v) (hB : B ≤ w.heap.size) : Fresh B v' := by
  rcases h.2.2 with h | h
  · intro k hk; exact hf k (by rw [← h]; exact hk)
  · exact h.mono hB
theorem Onto.one {w w1 w2 : World} {v v1 v2 : Value} {n m : Nat} {xs ys : List UInt8} {c : UInt8} {u : Value} (h : Onto w v n xs m ys v1 w1) (hu : u = bv c)
    (h1 : w2.ownsRow 0 5 1 v2 (n + m + 1) (bvs (xs ++ ys) ++ [u])) (h2 : Ch (fun k => v1.ownBlock = some k) w1 w2) (h3 : v2.ownBlock = v1.ownBlock ∨ Fresh w1.heap.size v2) : Onto w v n xs (m + 1) (ys ++ [c]) v2 w2 := by
  subst hu
  obtain ⟨k1, k2, k3⟩ := h
  refine ⟨by rw [← List.append_assoc, bvs_append]; exact h1, k2.trans' h2 (fun j hj e => ?_), ?_⟩
  · rcases k3 with k3 | k3
    · rw [← k3]; exact e
    · have := k3 j e; omega
  · rcases h3 with h3 | h3
    · rcases k3 with k3 | k3
      · exact .inl (h3.trans k3)
      · exact .inr fun j hj => k3 j (by rw [← h3]; exact hj)
    · exact .inr (h3.mono k2.size)

theorem put16 (v : Value) (n : Nat) (xs : List UInt8) (x : Nat) (wide : Nat) (w : World) (hx : x < 65536) (hw : wide ≤ 8) (hn : n ≤ 1000000000)
    (hown : w.ownsRow 0 5 1 v n (bvs xs)) :
    Ret Tryz.prog 83 #[v, .int .u16 x, .int .i64 wide] w (Onto w v n xs wide (le x wide)) := by
  refine v_enter Tryz.func83 Tryz.ntmps83 rfl (by simp) fun R' hR => ?_
  simp [go_sem]
  refine v_loop (fun r f wr => ∃ k y : Nat, k ≤ wide ∧ r = wide - k ∧ y = x / 256 ^ k ∧ f 7 = .int .i64 wide ∧ f 8 = .int .i64 k ∧ f 1 = .int .u16 y ∧ Onto w v n xs k (le x k) (f 0) wr) wide ⟨0, x, Nat.zero_le _, rfl, by simp, by simp, by simp, by simp, Onto.refl hown⟩ ?_
  rintro J hJ _ f wr ⟨k, y, hk, rfl, hy, h7, h8, h1, ho⟩
  have hy2 : y < 65536 := by rw [hy]; exact Nat.lt_of_le_of_lt (Nat.div_le_self _ _) hx
  have hy3 : y / 256 = x / 256 ^ (k + 1) := by rw [hy, Nat.div_div_eq_div_mul, Nat.pow_succ]
  have hle := le_succ x k
  rw [← hy] at hle
  simp [go_sem, h7, h8]
  refine VIf_dec (fun hlt => ?_) (fun hge => ?_)
  · simp [go_sem, h1]
    refine VB_app1 tyB ho.1 rfl (by unfold maxLen; omega) (by omega) fun v' w' k1 k2 k3 => ?_
    simp [go_sem, h8, h1]
    refine Rnd.intro (wide - (k + 1)) (by omega) (hJ _ _ _ ⟨k + 1, y / 256, by omega, rfl, hy3, by simpa using h7, by simp [IntKind.wrap_i64]; omega, by simp, ?_⟩)
    rw [hle]
    exact ho.one (by rw [bv_ofNat]; simp [IntKind.wrap_u8]) k1 k2 k3
  · simp [go_sem]
    obtain rfl : k = wide := by omega
    exact hR _ _ ho

theorem wu16 (v : Value) (n : Nat) (xs : List UInt8) (x : Nat) (w : World) (hx : x < 65536) (hn : n ≤ 1000000000)
    (hown : w.ownsRow 0 5 1 v n (bvs xs)) :
    Ret Tryz.prog 61 #[v, .int .u16 x] w (Onto w v n xs 2 (le x 2)) := by
  refine v_enter Tryz.func61 Tryz.ntmps61 rfl (by simp) fun R' hR => ?_
  simp [go_sem]
  refine (put16 v n xs x 2 _ hx (by omega) hn hown).mono fun v' w' h => ?_
  simp [go_sem]
  exact hR _ _ h

theorem put32 (v : Value) (n : Nat) (xs : List UInt8) (x : Nat) (wide : Nat) (w : World) (hx : x < 4294967296) (hw : wide ≤ 8) (hn : n ≤ 1000000000)
    (hown : w.ownsRow 0 5 1 v n (bvs xs)) :
    Ret Tryz.prog 84 #[v, .int .u32 x, .int .i64 wide] w (Onto w v n xs wide (le x wide)) := by
  refine v_enter Tryz.func84 Tryz.ntmps84 rfl (by simp) fun R' hR => ?_
  simp [go_sem]
  refine v_loop (fun r f wr => ∃ k y : Nat, k ≤ wide ∧ r = wide - k ∧ y = x / 256 ^ k ∧ f 7 = .int .i64 wide ∧ f 8 = .int .i64 k ∧ f 1 = .int .u32 y ∧ Onto w v n xs k (le x k) (f 0) wr) wide ⟨0, x, Nat.zero_le _, rfl, by simp, by simp, by simp, by simp, Onto.refl hown⟩ ?_
  rintro J hJ _ f wr ⟨k, y, hk, rfl, hy, h7, h8, h1, ho⟩
  have hy2 : y < 4294967296 := by rw [hy]; exact Nat.lt_of_le_of_lt (Nat.div_le_self _ _) hx
  have hy3 : y / 256 = x / 256 ^ (k + 1) := by rw [hy, Nat.div_div_eq_div_mul, Nat.pow_succ]
  have hle := le_succ x k
  rw [← hy] at hle
  simp [go_sem, h7, h8]
  refine VIf_dec (fun hlt => ?_) (fun hge => ?_)
  · simp [go_sem, h1]
    refine VB_app1 tyB ho.1 rfl (by unfold maxLen; omega) (by omega) fun v' w' k1 k2 k3 => ?_
    simp [go_sem, h8, h1]
    refine Rnd.intro (wide - (k + 1)) (by omega) (hJ _ _ _ ⟨k + 1, y / 256, by omega, rfl, hy3, by simpa using h7, by simp [IntKind.wrap_i64]; omega, by simp, ?_⟩)
    rw [hle]
    exact ho.one (by rw [bv_ofNat]; simp [IntKind.wrap_u8]) k1 k2 k3
  · simp [go_sem]
    obtain rfl : k = wide := by omega
    exact hR _ _ ho

theorem wu32 (v : Value) (n : Nat) (xs : List UInt8) (x : Nat) (w : World) (hx : x < 4294967296) (hn : n ≤ 1000000000)
    (hown : w.ownsRow 0 5 1 v n (bvs xs)) :
    Ret Tryz.prog 62 #[v, .int .u32 x] w (Onto w v n xs 4 (le x 4)) := by
  refine v_enter Tryz.func62 Tryz.ntmps62 rfl (by simp) fun R' hR => ?_
  simp [go_sem]
  refine (put32 v n xs x 4 _ hx (by omega) hn hown).mono fun v' w' h => ?_
  simp [go_sem]
  exact hR _ _ h

theorem put64 (v : Value) (n : Nat) (xs : List UInt8) (x : Nat) (wide : Nat) (w : World) (hx : x < 18446744073709551616) (hw : wide ≤ 8) (hn : n ≤ 1000000000)
    (hown : w.ownsRow 0 5 1 v n (bvs xs)) :
    Ret Tryz.prog 63 #[v, .int .u64 x, .int .i64 wide] w (Onto w v n xs wide (le x wide)) := by
  refine v_enter Tryz.func63 Tryz.ntmps63 rfl (by simp) fun R' hR => ?_
  simp [go_sem]
  refine v_loop (fun r f wr => ∃ k y : Nat, k ≤ wide ∧ r = wide - k ∧ y = x / 256 ^ k ∧ f 7 = .int .i64 wide ∧ f 8 = .int .i64 k ∧ f 1 = .int .u64 y ∧ Onto w v n xs k (le x k) (f 0) wr) wide ⟨0, x, Nat.zero_le _, rfl, by simp, by simp, by simp, by simp, Onto.refl hown⟩ ?_
  rintro J hJ _ f wr ⟨k, y, hk, rfl, hy, h7, h8, h1, ho⟩
  have hy2 : y < 18446744073709551616 := by rw [hy]; exact Nat.lt_of_le_of_lt (Nat.div_le_self _ _) hx
  have hy3 : y / 256 = x / 256 ^ (k + 1) := by rw [hy, Nat.div_div_eq_div_mul, Nat.pow_succ]
  have hle := le_succ x k
  rw [← hy] at hle
  simp [go_sem, h7, h8]
  refine VIf_dec (fun hlt => ?_) (fun hge => ?_)
  · simp [go_sem, h1]
    refine VB_app1 tyB ho.1 rfl (by unfold maxLen; omega) (by omega) fun v' w' k1 k2 k3 => ?_
    simp [go_sem, h8, h1]
    refine Rnd.intro (wide - (k + 1)) (by omega) (hJ _ _ _ ⟨k + 1, y / 256, by omega, rfl, hy3, by simpa using h7, by simp [IntKind.wrap_i64]; omega, by simp, ?_⟩)
    rw [hle]
    exact ho.one (by rw [bv_ofNat]; simp [IntKind.wrap_u8]) k1 k2 k3
  · simp [go_sem]
    obtain rfl : k = wide := by omega
    exact hR _ _ ho

theorem wu64 (v : Value) (n : Nat) (xs : List UInt8) (x : Nat) (w : World) (hx : x < 18446744073709551616) (hn : n ≤ 1000000000)
    (hown : w.ownsRow 0 5 1 v n (bvs xs)) :
    Ret Tryz.prog 37 #[v, .int .u64 x] w (Onto w v n xs 8 (le x 8)) := by
  refine v_enter Tryz.func37 Tryz.ntmps37 rfl (by simp) fun R' hR => ?_
  simp [go_sem]
  refine (put64 v n xs x 8 _ hx (by omega) hn hown).mono fun v' w' h => ?_
  simp [go_sem]
  exact hR _ _ h

theorem fill_any (v : Value) (n : Nat) (xs : List UInt8) (m : Int) (w : World) (hn : n ≤ 1000000000) (hm : m ≤ 1000000000) (hx : xs.length = n)
    (hown : w.ownsRow 0 5 1 v n (bvs xs)) :
    Ret Tryz.prog 35 #[v, .int .i64 m] w (Onto w v n xs (m.toNat - n) (List.replicate (m.toNat - n) 0)) := by
  refine v_enter Tryz.func35 Tryz.ntmps35 rfl (by simp) fun R' hR => ?_
  simp [go_sem]
  refine v_loop (fun r f wr => ∃ k : Nat, k ≤ m.toNat - n ∧ r = m.toNat - n - k ∧ f 1 = .int .i64 m ∧ Onto w v n xs k (List.replicate k 0) (f 0) wr) (m.toNat - n) ⟨0, Nat.zero_le _, rfl, by simp, by simpa using Onto.refl hown⟩ ?_
  rintro J hJ _ f wr ⟨k, hk, rfl, h1, ho⟩
  have hl := Sl.len (Sl.of_own ho.1) Tryz.underlying62 3
  simp [go_sem, h1, hl]
  refine VIf_dec (fun hlt => ?_) (fun hge => ?_)
  · simp [go_sem]
    refine VB_app1 tyB ho.1 rfl (by unfold maxLen; omega) (by omega) fun v' w' k1 k2 k3 => ?_
    simp [go_sem]
    refine Rnd.intro (m.toNat - n - (k + 1)) (by omega) (hJ _ _ _ ⟨k + 1, by omega, rfl, by simpa using h1, ?_⟩)
    rw [List.replicate_succ']
    simp
    exact ho.one rfl k1 k2 k3
  · simp [go_sem]
    obtain rfl : k = m.toNat - n := by omega
    exact hR _ _ ho

/-- slices.Clone at bytes: a row of the call's own. -/
theorem clone_any (v : Value) (n : Nat) (xs : List UInt8) (w : World) (hn : n ≤ 1000000000) (hx : xs.length = n) (hs : Sl w v n (bvs xs)) :
    Ret Tryz.prog 64 #[v] w fun v' w' => w'.ownsRow 0 5 1 v' n (bvs xs) ∧ Ch Nw w w' ∧ Fresh w.heap.size v' := by
  refine v_enter Tryz.func64 Tryz.ntmps64 rfl (by simp) fun R' hR => ?_
  obtain ⟨A, c, rfl, h1, h2, h3⟩ := id hs
  cases A with
  | none =>
    have hne : n = 0 := by
      rcases Nat.eq_zero_or_pos n with h | h
      · exact h
      · obtain ⟨ad, h', _⟩ := h3 (by rw [bvs_length]; omega)
        cases h'
    subst hne
    obtain rfl : xs = [] := List.eq_nil_of_length_eq_zero hx
    have hb := fun w => Lib.run_eql_slice_nil (P := Tryz.prog) w 62 5 none 0 c 0 0 Tryz.underlying62
    simp [go_sem, hb]
    exact hR _ _ ⟨World.ownsRow_nil _ _ _ _, Ch.refl _ _, fun k hk => by simp [Value.ownBlock] at hk⟩
  | some ad =>
    have hb := fun w => Lib.run_eql_slice_nil (P := Tryz.prog) w 62 5 (some ad) n c 0 0 Tryz.underlying62
    simp [go_sem, hb]
    refine VB_appn tyB (World.ownsRow_made w #[] 0 (Nat.zero_le _) (Nat.zero_le _) rfl) (hs.alloc _) (by rw [bvs_length]; exact hx) (bvs_one _) (by unfold maxLen; omega) (by omega) fun v' w' k1 k2 k3 => ?_
    simp [go_sem]
    refine hR _ _ ⟨by simpa using k1, ((Ch.refl Nw w).alloc _).trans' k2 fun j hj e => ?_, ?_⟩
    · simp [Value.ownBlock] at e; omega
    · rcases k3 with k3 | k3
      · intro k hk
        rw [k3] at hk
        simp [Value.ownBlock] at hk
        omega
      · exact k3.mono (by simp)
end Go.Proofs.YtnefdmbdkljifaaGreatDoor

namespace Go.Proofs.YtnefdmbdkljifaaGreatDoor
open Go.RowKit Go.Kin

/-- block g is a reader: l is left, of bytes that lie in block o, e its error -/
def Rdr (w : World) (g o : Nat) (l : List UInt8) (e : Int) : Prop :=
  ∃ v, w.heap[g]? = some (.cells #[v, .int .i64 e] 147 (0, 0)) ∧ Sl w v l.length (bvs l) ∧ v.ownBlock ≠ some g ∧ ∀ k, v.ownBlock = some k → k = o
def only (g : Nat) : Nat → Prop := fun k => k = g

theorem Rdr.lt {w : World} {g o : Nat} {l : List UInt8} {e : Int} (h : Rdr w g o l e) : g < w.heap.size := by
  obtain ⟨v, h1, _⟩ := h
  exact lt_of_block h1

theorem Rdr.ch {S : Nat → Prop} {w w' : World} {g o : Nat} {l : List UInt8} {e : Int} (h : Rdr w g o l e) (hc : Ch S w w') (hg : ¬ S g) (ho : ¬ S o) : Rdr w' g o l e := by
  obtain ⟨v, h1, h2, h3, h4⟩ := h
  exact ⟨v, hc.obj h1 hg, h2.ch hc (fun k hk e => ho (by rw [← h4 k hk]; exact e)), h3, h4⟩

theorem blk_cells {w : World} {g : Nat} {v u : Value} {T : Nat} (hb : w.heap[g]? = some (.cells #[v, u] T (0, 0))) :
    w.cell? ⟨g, 0, none⟩ = some v ∧ w.cell? ⟨g, 1, none⟩ = some u ∧ w.frozen? ⟨g, 0, none⟩ = false ∧ w.frozen? ⟨g, 1, none⟩ = false := by
  simp [World.cell?, World.frozen?, hb]
theorem blk_set0 {w : World} {g : Nat} {v u x : Value} {T : Nat} (hb : w.heap[g]? = some (.cells #[v, u] T (0, 0))) : (w.setCell ⟨g, 0, none⟩ x).heap[g]? = some (.cells #[x, u] T (0, 0)) := by
  simp [World.setCell, Array.getElem?_modify, hb]
theorem blk_set1 {w : World} {g : Nat} {v u x : Value} {T : Nat} (hb : w.heap[g]? = some (.cells #[v, u] T (0, 0))) : (w.setCell ⟨g, 1, none⟩ x).heap[g]? = some (.cells #[v, x] T (0, 0)) := by
  simp [World.setCell, Array.getElem?_modify, hb]

theorem fail_yes (g : Nat) {o : Nat} (l : List UInt8) (e : Int) (w : World) (h : Rdr w g o l 0) :
    Ret Tryz.prog 71 #[.pointer (some ⟨g, 0, none⟩), .int .i64 e] w fun v' w' => v' = .tuple #[] ∧ Rdr w' g o [] e ∧ Ch (only g) w w' := by
  obtain ⟨v, hb, hs, hne, hno⟩ := h
  refine v_enter Tryz.func71 Tryz.ntmps71 rfl (by simp) fun R' hR => ?_
  obtain ⟨h0, h1, f0, f1⟩ := blk_cells hb
  simp [go_sem, h0, h1, f0, f1]
  refine hR _ _ ⟨rfl, ⟨.slice none 0 0, ?_, Sl.nil _, by simp [Value.ownBlock]⟩, ?_⟩
  · exact blk_set1 (blk_set0 hb)
  · exact ((Ch.refl (only g) w).setCell (p := ⟨g, 0, none⟩) (.inl rfl) _).setCell (p := ⟨g, 1, none⟩) (.inl rfl) _
theorem fail_no (g : Nat) {o : Nat} (l : List UInt8) (e e0 : Int) (w : World) (h : Rdr w g o l e0) (he : e0 ≠ 0) :
    Ret Tryz.prog 71 #[.pointer (some ⟨g, 0, none⟩), .int .i64 e] w fun v' w' => v' = .tuple #[] ∧ w' = w := by
  obtain ⟨v, hb, hs, hne, hno⟩ := h
  refine v_enter Tryz.func71 Tryz.ntmps71 rfl (by simp) fun R' hR => ?_
  obtain ⟨h0, h1, f0, f1⟩ := blk_cells hb
  have he' : (e0 == 0) = false := by simpa using he
  simp [go_sem, h1, he']
  exact hR _ _ ⟨rfl, rfl⟩
/-- what fail does -/
def failS (l : List UInt8) (e0 e : Int) : List UInt8 × Int := if e0 = 0 then ([], e) else (l, e0)
theorem fail_any (g : Nat) {o : Nat} (l : List UInt8) (e e0 : Int) (w : World) (h : Rdr w g o l e0) :
    Ret Tryz.prog 71 #[.pointer (some ⟨g, 0, none⟩), .int .i64 e] w fun v' w' => v' = .tuple #[] ∧ Rdr w' g o (failS l e0 e).1 (failS l e0 e).2 ∧ Ch (only g) w w' := by
  unfold failS
  by_cases he : e0 = 0
  · subst he
    exact (fail_yes g l e w h).mono fun v' w' h => by simpa using h
  · refine (fail_no g l e e0 w h he).mono ?_
    rintro v' w' ⟨rfl, rfl⟩
    rw [if_neg he]
    exact ⟨rfl, h, Ch.refl _ _⟩

/-- what take, and so Raw, answers, and what is left -/
def rawS (l : List UInt8) (e : Int) (n : Nat) : List UInt8 × List UInt8 × Int :=
  if e ≠ 0 then ([], l, e) else if l.length < n then ([], [], 4) else (l.take n, l.drop n, 0)

theorem take_any (g : Nat) {o : Nat} (l : List UInt8) (e : Int) (n : Nat) (w : World) (hl : l.length ≤ 1000000000) (h : Rdr w g o l e) :
    Ret Tryz.prog 85 #[.pointer (some ⟨g, 0, none⟩), .int .i64 n] w fun v' w' =>
      Sl w' v' (rawS l e n).1.length (bvs (rawS l e n).1) ∧ v'.ownBlock ≠ some g ∧ Rdr w' g o (rawS l e n).2.1 (rawS l e n).2.2 ∧ Ch (only g) w w' := by
  have h' := h
  obtain ⟨v, hb, hs, hne, hno⟩ := h
  obtain ⟨h0, h1, f0, f1⟩ := blk_cells hb
  have hlen := hs.len Tryz.underlying62 3
  refine v_enter Tryz.func85 Tryz.ntmps85 rfl (by simp) fun R' hR => ?_
  by_cases hlt : l.length < n
  · simp [go_sem, h0, hlen, hlt]
    refine (fail_any g l 4 e w h').mono ?_
    rintro v' w' ⟨rfl, hr, hc⟩
    have hne' : (failS l e 4).2 ≠ 0 := by unfold failS; split <;> simp [*]
    have hr' := hr
    obtain ⟨v2, hb2, hs2, hn2, hno2⟩ := hr
    obtain ⟨h20, h21, f20, f21⟩ := blk_cells hb2
    have he' : ((failS l e 4).2 != 0) = true := by simpa using hne'
    simp [go_sem, h21, he']
    refine hR (.slice none 0 0) _ ⟨?_, by simp [Value.ownBlock], ?_, hc⟩
    · unfold rawS
      split <;> simp [bvs, Sl.nil]
    · unfold rawS failS at *
      by_cases he : e = 0
      · simpa [he, hlt] using hr'
      · simpa [he] using hr'
  · by_cases he : e = 0
    · subst he
      obtain ⟨v1, hs1, ho1, hr1⟩ := hs.cut3 tyB (bvs_length l) n (by omega)
      obtain ⟨v2, hs2, ho2, _, _, hr2⟩ := hs.cut tyB (bvs_length l) n l.length (by omega) (Nat.le_refl _)
      have hr2 := hr2 rfl
      obtain ⟨A2, c2, rfl, _⟩ := id hs2
      simp [go_sem, h0, h1, f0, hlen, hlt, hr1, hr2]
      have hn1 : v1.ownBlock ≠ some g := by rw [ho1]; exact hne
      have hn2 : (Value.slice A2 (l.length - n) c2).ownBlock ≠ some g := by rw [ho2]; exact hne
      have hc : Ch (only g) w (w.setCell ⟨g, 0, none⟩ (.slice A2 (l.length - n) c2)) := (Ch.refl (only g) w).setCell (p := ⟨g, 0, none⟩) (.inl rfl) _
      have nn : ∀ {v : Value}, v.ownBlock ≠ some g → ∀ k, v.ownBlock = some k → ¬ only g k := fun h k hk e => h (by rw [hk, e])
      have e1 : rawS l 0 n = (l.take n, l.drop n, 0) := by simp [rawS, hlt]
      rw [e1] at hR
      refine hR v1 _ ⟨?_, hn1, ⟨_, blk_set0 hb, ?_, hn2, by rw [ho2]; exact hno⟩, hc⟩
      · have := hs1.ch hc (nn hn1)
        simpa [bvs, List.map_take, show min n l.length = n by omega] using this
      · have := hs2.ch hc (nn hn2)
        rw [show l.length = (bvs l).length from (bvs_length l).symm, List.take_length] at this
        simpa [bvs, List.map_drop] using this
    · have he' : (e != 0) = true := by simpa using he
      simp [go_sem, h0, h1, hlen, hlt, he']
      refine hR (.slice none 0 0) _ ⟨?_, by simp [Value.ownBlock], ?_, Ch.refl _ _⟩
      · simp [rawS, he, bvs, Sl.nil]
      · simpa [rawS, he] using h'

/-- Raw at a reader. -/
theorem raw_any (g : Nat) {o : Nat} (l : List UInt8) (e : Int) (n : Int) (w : World) (hn : n ≤ 9223372036854775807) (hl : l.length ≤ 1000000000) (h : Rdr w g o l e) :
    Ret Tryz.prog 66 #[.pointer (some ⟨g, 0, none⟩), .int .i64 n] w fun v' w' =>
      w'.ownsRow 0 5 1 v' (rawS l e n.toNat).1.length (bvs (rawS l e n.toNat).1) ∧ Fresh w.heap.size v' ∧ Rdr w' g o (rawS l e n.toNat).2.1 (rawS l e n.toNat).2.2 ∧ Ch (only g) w w' := by
  refine v_enter Tryz.func66 Tryz.ntmps66 rfl (by simp) fun R' hR => ?_
  simp [go_sem]
  rw [show (if n < 0 then 0 else n) = ((n.toNat : Nat) : Int) by split <;> omega]
  refine (take_any g l e n.toNat w hl h).mono ?_
  rintro v1 w1 ⟨hs1, hn1, hr1, hc1⟩
  simp [go_sem]
  have hl1 : (rawS l e n.toNat).1.length ≤ 1000000000 := by
    unfold rawS
    split
    · simp
    · split
      · simp
      · simp; omega
  refine (clone_any v1 _ _ w1 hl1 rfl hs1).mono ?_
  rintro v2 w2 ⟨k1, k2, k3⟩
  simp [go_sem]
  have hf : Fresh w.heap.size v2 := k3.mono hc1.size
  refine hR _ _ ⟨k1, hf, ?_, hc1.trans' k2 fun _ _ e => e.elim⟩
  obtain ⟨v3, b1, b2, b3⟩ := hr1
  exact ⟨v3, k2.obj b1 (fun e => e), b2.ch k2 (fun _ _ e => e), b3⟩

theorem raw_nil (n : Int) (w : World) : Ret Tryz.prog 66 #[.pointer none, .int .i64 n] w fun v' w' => v' = .slice none 0 0 ∧ w' = w := by
  refine v_enter Tryz.func66 Tryz.ntmps66 rfl (by simp) fun R' hR => ?_
  simp [go_sem]
  exact hR _ _ ⟨rfl, rfl⟩

theorem new_any (v : Value) (l : List UInt8) (w : World) (hl : l.length ≤ 1000000000) (hs : Sl w v l.length (bvs l)) :
    Ret Tryz.prog 38 #[v] w fun v' w' => ∃ g o, v' = .pointer (some ⟨g, 0, none⟩) ∧ w.heap.size ≤ g ∧ w.heap.size ≤ o ∧ o < w'.heap.size ∧ Rdr w' g o l 0 ∧ Ch Nw w w' := by
  refine v_enter Tryz.func38 Tryz.ntmps38 rfl (by simp) fun R' hR => ?_
  simp [go_sem]
  refine (clone_any v _ _ w hl rfl hs).mono ?_
  rintro v1 w1 ⟨k1, k2, k3⟩
  obtain ⟨A, c, rfl, _⟩ := Sl.of_own k1
  simp [go_sem]
  have hz := k2.size
  cases A with
  | none =>
    refine hR _ _ ⟨w1.heap.size, w1.heap.size, rfl, k2.size, k2.size, by simp, ⟨_, heap_alloc_new w1 _, (Sl.of_own k1).alloc _, fun e => by simp [Value.ownBlock] at e, fun k e => by simp [Value.ownBlock] at e⟩, k2.alloc _⟩
  | some ad =>
    have h1 := (k1.lt ad.block rfl).2
    have h2 := k3 ad.block rfl
    refine hR _ _ ⟨w1.heap.size, ad.block, rfl, k2.size, h2, by simp; omega, ⟨_, heap_alloc_new w1 _, (Sl.of_own k1).alloc _, fun e => ?_, fun k e => ?_⟩, k2.alloc _⟩
    · simp [Value.ownBlock] at e; omega
    · simp [Value.ownBlock] at e; omega

theorem bad_any (g : Nat) {o : Nat} (l : List UInt8) (e : Int) (w : World) (h : Rdr w g o l e) :
    Ret Tryz.prog 70 #[.pointer (some ⟨g, 0, none⟩)] w fun v' w' => v' = .tuple #[] ∧ Rdr w' g o (failS l e 5).1 (failS l e 5).2 ∧ Ch (only g) w w' := by
  refine v_enter Tryz.func70 Tryz.ntmps70 rfl (by simp) fun R' hR => ?_
  simp [go_sem]
  refine (fail_any g l 5 e w h).mono ?_
  rintro v1 w1 ⟨rfl, k1, k2⟩
  simp [go_sem]
  exact hR _ _ ⟨rfl, k1, k2⟩
theorem bad_nil (w : World) : Ret Tryz.prog 70 #[.pointer none] w fun v' w' => v' = .tuple #[] ∧ w' = w := by
  refine v_enter Tryz.func70 Tryz.ntmps70 rfl (by simp) fun R' hR => ?_
  simp [go_sem]
  exact hR _ _ ⟨rfl, rfl⟩
theorem left_any (g : Nat) {o : Nat} (l : List UInt8) (e : Int) (w : World) (h : Rdr w g o l e) :
    Ret Tryz.prog 42 #[.pointer (some ⟨g, 0, none⟩)] w fun v' w' => v' = .int .i64 l.length ∧ w' = w := by
  obtain ⟨v, hb, hs, hne, hno⟩ := h
  obtain ⟨h0, h1, f0, f1⟩ := blk_cells hb
  have hlen := hs.len Tryz.underlying62 3
  refine v_enter Tryz.func42 Tryz.ntmps42 rfl (by simp) fun R' hR => ?_
  simp [go_sem, h0, hlen]
  exact hR _ _ ⟨rfl, rfl⟩
theorem left_nil (w : World) : Ret Tryz.prog 42 #[.pointer none] w fun v' w' => v' = .int .i64 0 ∧ w' = w := by
  refine v_enter Tryz.func42 Tryz.ntmps42 rfl (by simp) fun R' hR => ?_
  simp [go_sem]
  exact hR _ _ ⟨rfl, rfl⟩
theorem err_any (g : Nat) {o : Nat} (l : List UInt8) (e : Int) (w : World) (h : Rdr w g o l e) :
    Ret Tryz.prog 72 #[.pointer (some ⟨g, 0, none⟩)] w fun v' w' => v' = .int .i64 e ∧ w' = w := by
  obtain ⟨v, hb, hs, hne, hno⟩ := h
  obtain ⟨h0, h1, f0, f1⟩ := blk_cells hb
  refine v_enter Tryz.func72 Tryz.ntmps72 rfl (by simp) fun R' hR => ?_
  simp [go_sem, h1]
  exact hR _ _ ⟨rfl, rfl⟩
theorem err_nil (w : World) : Ret Tryz.prog 72 #[.pointer none] w fun v' w' => v' = .int .i64 2 ∧ w' = w := by
  refine v_enter Tryz.func72 Tryz.ntmps72 rfl (by simp) fun R' hR => ?_
  simp [go_sem]
  exact hR _ _ ⟨rfl, rfl⟩
def endS (l : List UInt8) (e : Int) : List UInt8 × Int := if 0 < l.length then failS l e 5 else (l, e)
theorem end_any (g : Nat) {o : Nat} (l : List UInt8) (e : Int) (w : World) (h : Rdr w g o l e) :
    Ret Tryz.prog 43 #[.pointer (some ⟨g, 0, none⟩)] w fun v' w' => v' = .int .i64 (endS l e).2 ∧ Rdr w' g o (endS l e).1 (endS l e).2 ∧ Ch (only g) w w' := by
  refine v_enter Tryz.func43 Tryz.ntmps43 rfl (by simp) fun R' hR => ?_
  simp [go_sem]
  refine (left_any g l e w h).mono ?_
  rintro v1 w1 ⟨rfl, rfl⟩
  by_cases hl : 0 < l.length
  · simp [go_sem, hl]
    refine (fail_any g l 5 e w1 h).mono ?_
    rintro v2 w2 ⟨rfl, k1, k2⟩
    simp [go_sem]
    refine (err_any g _ _ w2 k1).mono ?_
    rintro v3 w3 ⟨rfl, rfl⟩
    simp [go_sem]
    exact hR _ _ (by simpa [endS, hl] using ⟨k1, k2⟩)
  · simp [go_sem, hl]
    refine (err_any g _ _ w1 h).mono ?_
    rintro v3 w3 ⟨rfl, rfl⟩
    simp [go_sem]
    exact hR _ _ (by simpa [endS, hl] using ⟨h, Ch.refl _ _⟩)
theorem end_nil (w : World) : Ret Tryz.prog 43 #[.pointer none] w fun v' w' => v' = .int .i64 2 ∧ w' = w := by
  refine v_enter Tryz.func43 Tryz.ntmps43 rfl (by simp) fun R' hR => ?_
  simp [go_sem]
  refine (left_nil w).mono ?_
  rintro v1 w1 ⟨rfl, rfl⟩
  simp [go_sem]
  refine (err_nil _).mono ?_
  rintro v1 w1 ⟨rfl, rfl⟩
  simp [go_sem]
  exact hR _ _ ⟨rfl, rfl⟩
end Go.Proofs.YtnefdmbdkljifaaGreatDoor
