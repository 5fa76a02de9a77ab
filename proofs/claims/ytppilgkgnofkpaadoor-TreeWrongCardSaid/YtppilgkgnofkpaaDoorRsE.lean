/- The document's hash: Filled, as a contract on the call. Conditions: sizes. -/
import Derived.Test.YtppilgkgnofkpaaDoorRsD
import Derived.Test.YtppilgkgnofkpaaDoorShaF
set_option linter.unusedSimpArgs false
set_option linter.unusedVariables false

namespace Go.Proofs.YtppilgkgnofkpaaDoor
open Go.RowKit Go.Kin

/-- the last bytes of a number, the greatest first -/
def tl (x : Nat) : Nat → List UInt8
  | 0 => []
  | j + 1 => UInt8.ofNat (x / 256 ^ j) :: tl x j
theorem tl_length (x j : Nat) : (tl x j).length = j := by
  induction j with
  | zero => rfl
  | succ j ih => simp [tl, ih]
theorem tl_eight (x : Nat) : tl x 8 = bej x 8 := by simp [tl, bej, List.range_succ]
theorem filled_any (v : Value) (b : List UInt8) (w : World) (hs : Sl w v b.length (bvs b)) (hlen : b.length ≤ 1000000) :
    Ret Tryd.prog 96 #[v] w fun v' w' => Mine 5 w v' (b ++ padS b.length).length (bvs (b ++ padS b.length)) w' := by
  refine v_enter Tryd.func96 Tryd.ntmps96 rfl (by simp) fun R' hR => ?_
  have hln := hs.len Tryd.underlying29 3
  simp [go_sem]
  refine VB_copyOf tyB hs (bvs_length b) (bvs_one _) (by unfold maxLen; omega) (by omega) fun v3 w1 d1 d2 d3 => ?_
  have hm0 : Mine 5 w v3 b.length (bvs b) w1 := ⟨d1, d2, d3⟩
  have hone : ∀ {u : World} {v : Value} {n : Nat} {l : List UInt8} (c : UInt8) {K : Value → World → Prop} {ty : TypeId}, Mine 5 w v n (bvs l) u → n ≤ 2000000 → (∀ v' u', Mine 5 w v' (n + 1) (bvs (l ++ [c])) u' → K v' u') → VB Tryd.prog .append #[29, 29] ty #[v, .slice (some ⟨u.heap.size, 0, none⟩) 1 1] (u.alloc (.cells #[.int .u8 c.toNat] 5)) K := by
    intro u v n l c K ty h1 h3 h4
    refine VB_app1 tyB h1.own rfl (by unfold maxLen; omega) (by omega) fun v' u' d4 d5 d6 => ?_
    have h5 := h1.grow d4 d5 d6
    exact h4 _ _ (by rw [bvs_append]; exact h5)
  simp [go_sem]
  refine hone 128 hm0 (by omega) fun v4 w2 hm1 => ?_
  simp [go_sem]
  generalize hpz : (119 - b.length % 64) % 64 = pz
  have hpzl : pz < 64 := by omega
  refine v_loop (fun r f u => ∃ j, j ≤ pz ∧ r = pz - j ∧ f 0 = v ∧ Mine 5 w (f 3) (b.length + 1 + j) (bvs (b ++ [128] ++ zb j)) u) pz
    ⟨0, by omega, rfl, by simp, by simpa [zb] using hm1⟩ ?_
  rintro J hJ _ f u ⟨j, hj, rfl, f0, hm⟩
  have hlm := hm.sl.len Tryd.underlying29 3
  have hrem : ((b.length : Int) + 1 + j).tmod 64 = (((b.length + 1 + j) % 64 : Nat) : Int) := by rw [Int.tmod_eq_emod_of_nonneg (by omega)]; omega
  by_cases hjz : j < pz
  · simp [go_sem, hlm, hrem]
    rw [show (((b.length : Int) + 1 + j) % 64 != 56) = true by rw [bne, beq_false_of_ne (by omega)]; rfl]
    simp [go_sem]
    refine hone 0 hm (by omega) fun v' u' hm' => ?_
    simp [go_sem]
    refine Rnd.intro (pz - (j + 1)) (by omega) (hJ _ _ _ ⟨j + 1, by omega, rfl, by simp [f0], ?_⟩)
    have e : b ++ [128] ++ zb (j + 1) = b ++ [128] ++ zb j ++ [0] := by
      rw [show zb (j + 1) = zb j ++ [0] by unfold zb; rw [List.replicate_succ']]; simp
    rw [e]
    simpa [Nat.add_assoc] using hm'
  · obtain rfl : j = pz := by omega
    have hne2 : (((b.length : Int) + 1 + j) % 64 != 56) = false := by
      have : ((b.length : Int) + 1 + j) % 64 = 56 := by omega
      rw [this]
      decide
    have hcu : IntKind.u64.wrap (b.length : Int) = b.length := by rw [IntKind.wrap_u64]; omega
    have hcm : IntKind.u64.wrap ((b.length : Int) * 8) = ((8 * b.length : Nat) : Int) := by rw [IntKind.wrap_u64]; omega
    simp [go_sem, hlm, hrem, hne2, f0, hln, hcu]
    rw [hcm]
    obtain ⟨x, hx⟩ : ∃ x, 8 * b.length = x := ⟨_, rfl⟩
    have hxl : x ≤ 8000000 := by omega
    have hpad : b ++ padS b.length = b ++ [128] ++ zb j ++ tl x 8 := by unfold padS; rw [hpz, hx, tl_eight]; simp
    rw [hpad] at hR
    rw [hx]
    have hPl : (b ++ [128] ++ zb j).length = b.length + 1 + j := by simp [zb_length]; omega
    generalize b ++ [128] ++ zb j = P at *
    obtain ⟨a, ha⟩ : ∃ a, f 3 = a := ⟨_, rfl⟩
    rw [ha] at hm
    refine v_loop (fun r g y => ∃ i, i ≤ 8 ∧ r = 8 - i ∧ g 3 = a ∧ g 4 = .int .u64 (x / 256 ^ i : Nat) ∧ g 6 = .int .i64 i ∧ Mine 5 u (g 5) i (bvs (tl x i)) y) 8
      ⟨0, by omega, rfl, by simp [ha], by simp, by simp, by simpa [tl, bvs] using Mine.nil _ (Ch.refl Nw u)⟩ ?_
    clear hJ J
    rintro J hJ _ g y ⟨i, hi, rfl, g3, g4, g6, ht⟩
    by_cases hi8 : i < 8
    · have hii : (i : Int) < 8 := by omega
      have hwi : IntKind.i64.wrap ((i : Int) + 1) = ((i + 1 : Nat) : Int) := by simp [IntKind.wrap_i64]; omega
      have hlt : x / 256 ^ i ≤ x := Nat.div_le_self _ _
      have hnx : x / 256 ^ (i + 1) = x / 256 ^ i / 256 := by rw [Nat.pow_succ, Nat.div_div_eq_div_mul]
      have htl : tl x (i + 1) = UInt8.ofNat (x / 256 ^ i) :: tl x i := rfl
      obtain ⟨x', hx'⟩ : ∃ x', x / 256 ^ (i + 1) = x' := ⟨_, rfl⟩
      rw [hx'] at hnx
      generalize x / 256 ^ i = z at *
      have hr : ((z : Nat) : Int).tmod 256 = ((z % 256 : Nat) : Int) := by rw [Int.tmod_eq_emod_of_nonneg (by omega)]; omega
      have hu8 : IntKind.u8.wrap ((z : Int) % 256) = ((UInt8.ofNat z).toNat : Int) := by rw [IntKind.wrap_u8, UInt8.toNat_ofNat']; omega
      have hq : IntKind.u64.wrap ((z : Int) / 256) = (x' : Int) := by rw [IntKind.wrap_u64]; omega
      generalize hc : UInt8.ofNat z = c at *
      simp [go_sem, g4, g6, hii, hr]
      rw [hu8]
      have hown := Sl.lit y 5 [c] 1 rfl (by decide)
      have hty := ht.sl.ch ((Ch.refl Nw y).alloc (.cells (bvs [c]).toArray 5)) fun _ _ e => e
      refine VB_appn tyB hown hty (by rw [bvs_length, tl_length]) (bvs_one _) (by unfold maxLen; omega) (by omega) fun v' w' e1 e2 e3 => ?_
      have cy : Ch Nw y w' := ((Ch.refl Nw y).alloc (.cells (bvs [c]).toArray 5)).trans' e2 fun jj hjj e => by simp [Value.ownBlock] at e; omega
      have hfv : Fresh y.heap.size v' := by
        rcases e3 with e3 | e3
        · intro kk hkk; rw [e3] at hkk; simp [Value.ownBlock] at hkk; omega
        · exact e3.mono (by simp)
      rw [← bvs_append] at e1
      simp [go_sem, g4, g6, hwi, hq]
      refine Rnd.intro (8 - (i + 1)) (by omega) (hJ _ _ _ ⟨i + 1, by omega, rfl, by simp [g3], by simp [hx'], by simp, ?_⟩)
      rw [htl]
      exact ⟨by simpa [Nat.add_comm] using e1, ht.ch.trans cy, by simpa using hfv.mono ht.ch.size⟩
    · obtain rfl : i = 8 := by omega
      simp [go_sem, g6, g3]
      have hma := hm.step ht.ch
      refine VB_appn tyB hma.own ht.sl (by rw [bvs_length, tl_length]) (bvs_one _) (by unfold maxLen; omega) (by omega) fun v' w' e1 e2 e3 => ?_
      have hmf := hma.grow e1 e2 e3
      simp [go_sem]
      refine hR _ _ ?_
      rw [bvs_append, List.length_append, hPl, tl_length]
      exact hmf
end Go.Proofs.YtppilgkgnofkpaaDoor
