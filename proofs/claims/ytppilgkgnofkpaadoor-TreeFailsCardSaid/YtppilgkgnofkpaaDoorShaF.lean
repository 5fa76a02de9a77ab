/- A hash: Sum, as a contract on the call. Conditions: the variable sha.constants holds what the text lays; sizes. -/
import Derived.Test.YtppilgkgnofkpaaDoorShaE
set_option linter.unusedSimpArgs false
set_option linter.unusedVariables false

namespace Go.Proofs.YtppilgkgnofkpaaDoor
open Go.RowKit Go.Kin

theorem absorb_rest_len : ∀ (n : Nat) (s : St) (l : List UInt8), l.length ≤ n → (absorb s l).2.length = l.length % 64 := by
  intro n
  induction n with
  | zero => intro s l h; rw [absorb_end (by omega)]; show l.length = _; omega
  | succ n ih =>
    intro s l h
    by_cases h64 : 64 ≤ l.length
    · rw [absorb_step h64, ih _ _ (by rw [List.length_drop]; omega), List.length_drop]; omega
    · rw [absorb_end (by omega)]; show l.length = _; omega
def bej (x j : Nat) : List UInt8 := (List.range j).map fun i => UInt8.ofNat (x / 2 ^ (56 - 8 * i))
theorem bej_succ (x j : Nat) : bej x (j + 1) = bej x j ++ [UInt8.ofNat (x / 2 ^ (56 - 8 * j))] := by simp [bej, List.range_succ]
theorem bej_length (x j : Nat) : (bej x j).length = j := by simp [bej]
/-- what a message is filled with -/
def padS (n : Nat) : List UInt8 := [128] ++ zb ((119 - n % 64) % 64) ++ bej (8 * n) 8
def wb (x : Nat) : List UInt8 := [UInt8.ofNat (x / 16777216), UInt8.ofNat (x / 65536), UInt8.ofNat (x / 256), UInt8.ofNat x]
def outS (s : St) : List UInt8 := wb s.a ++ (wb s.b ++ (wb s.c ++ (wb s.d ++ (wb s.e ++ (wb s.f ++ (wb s.g ++ wb s.h))))))
theorem outS_length (s : St) : (outS s).length = 32 := rfl
/-- a message's digest -/
def shaS (m : List UInt8) : List UInt8 := outS (absorb first (m ++ padS m.length)).1
theorem shaS_length (m : List UInt8) : (shaS m).length = 32 := rfl
def wd (s : St) (k : Nat) : Nat := [s.a, s.b, s.c, s.d, s.e, s.f, s.g, s.h].getD k 0
/-- the first k words, as bytes -/
def outK (s : St) (k : Nat) : List UInt8 := (outS s).take (4 * k) ++ zb (32 - 4 * k)
theorem outK_step (s : St) {k : Nat} (hk : k < 8) : ((((outK s k).set (4 * k) (UInt8.ofNat (wd s k / 16777216))).set (4 * k + 1) (UInt8.ofNat (wd s k / 65536))).set (4 * k + 2) (UInt8.ofNat (wd s k / 256))).set (4 * k + 3) (UInt8.ofNat (wd s k)) = outK s (k + 1) := by
  match k, hk with
  | 0, _ => rfl
  | 1, _ => rfl
  | 2, _ => rfl
  | 3, _ => rfl
  | 4, _ => rfl
  | 5, _ => rfl
  | 6, _ => rfl
  | 7, _ => rfl
theorem wd_at (s : St) {k : Nat} (hk : k < 8) : (stv s)[k]? = some (.int .u32 (wd s k : Nat)) := by
  match k, hk with
  | 0, _ => rfl
  | 1, _ => rfl
  | 2, _ => rfl
  | 3, _ => rfl
  | 4, _ => rfl
  | 5, _ => rfl
  | 6, _ => rfl
  | 7, _ => rfl
theorem wd_lt {s : St} (ok : StOk s) {k : Nat} (hk : k < 8) : wd s k < 4294967296 := by
  match k, hk with
  | 0, _ => exact ok.a
  | 1, _ => exact ok.b
  | 2, _ => exact ok.c
  | 3, _ => exact ok.d
  | 4, _ => exact ok.e
  | 5, _ => exact ok.f
  | 6, _ => exact ok.g
  | 7, _ => exact ok.h
theorem outK_length (s : St) {k : Nat} (hk : k ≤ 8) : (outK s k).length = 32 := by
  simp [outK, outS_length, zb_length]; omega
attribute [irreducible] outS
theorem put_any (q k x : Nat) (l : List UInt8) (T : TypeId) (w : World) (hk : k < 8) (hl : l.length = 32) (hx : x < 4294967296) (hb : w.heap[q]? = some (.cells (bvs l).toArray T (0, 0))) :
    Ret Tryd.prog 111 #[.int .i64 k, .int .u32 x, .pointer (some ⟨q, 0, none⟩)] w fun v' w' => v' = .tuple #[] ∧ Ch (only q) w w' ∧
      w'.heap[q]? = some (.cells (bvs ((((l.set (4 * k) (UInt8.ofNat (x / 16777216))).set (4 * k + 1) (UInt8.ofNat (x / 65536))).set (4 * k + 2) (UInt8.ofNat (x / 256))).set (4 * k + 3) (UInt8.ofNat x))).toArray T (0, 0)) := by
  refine v_enter Tryd.func111 Tryd.ntmps111 rfl (by simp) fun R' hR => ?_
  have i0 : IntKind.i64.wrap (4 * (k : Int)) = 4 * (k : Int) := by rw [IntKind.wrap_i64]; omega
  have i1 : IntKind.i64.wrap (4 * (k : Int) + 1) = 4 * (k : Int) + 1 := by rw [IntKind.wrap_i64]; omega
  have i2 : IntKind.i64.wrap (4 * (k : Int) + 2) = 4 * (k : Int) + 2 := by rw [IntKind.wrap_i64]; omega
  have i3 : IntKind.i64.wrap (4 * (k : Int) + 3) = 4 * (k : Int) + 3 := by rw [IntKind.wrap_i64]; omega
  have j0 : 4 * (k : Int) < 32 := by omega
  have j1 : 4 * (k : Int) + 1 < 32 := by omega
  have j2 : 4 * (k : Int) + 2 < 32 := by omega
  have j3 : 4 * (k : Int) + 3 < 32 := by omega
  have n0 : (0 : Int) ≤ 4 * (k : Int) := by omega
  have n1 : (0 : Int) ≤ 4 * (k : Int) + 1 := by omega
  have n2 : (0 : Int) ≤ 4 * (k : Int) + 2 := by omega
  have n3 : (0 : Int) ≤ 4 * (k : Int) + 3 := by omega
  have t0 : (4 * (k : Int)).toNat = 4 * k := by omega
  have t1 : (4 * (k : Int) + 1).toNat = 4 * k + 1 := by omega
  have t2 : (4 * (k : Int) + 2).toNat = 4 * k + 2 := by omega
  have t3 : (4 * (k : Int) + 3).toNat = 4 * k + 3 := by omega
  have v0 : IntKind.u8.wrap ((x : Int) / 16777216) = ((x / 16777216 % 256 : Nat) : Int) := by rw [IntKind.wrap_u8]; omega
  have v1 : IntKind.u8.wrap ((x : Int) / 65536) = ((x / 65536 % 256 : Nat) : Int) := by rw [IntKind.wrap_u8]; omega
  have v2 : IntKind.u8.wrap ((x : Int) / 256) = ((x / 256 % 256 : Nat) : Int) := by rw [IntKind.wrap_u8]; omega
  have v3 : IntKind.u8.wrap (x : Int) = ((x % 256 : Nat) : Int) := by rw [IntKind.wrap_u8]; omega
  have hg : ∀ i, i < 32 → ∃ c, (bvs l).toArray[i]? = some (bv c) := fun i hi => by
    refine ⟨l[i]'(by omega), ?_⟩
    rw [List.getElem?_toArray]
    exact bvs_get (List.getElem?_eq_getElem (by omega))
  obtain ⟨c0, q0⟩ := hg (4 * k) (by omega)
  obtain ⟨c1, q1⟩ := hg (4 * k + 1) (by omega)
  obtain ⟨c2, q2⟩ := hg (4 * k + 2) (by omega)
  obtain ⟨c3, q3⟩ := hg (4 * k + 3) (by omega)
  have p0 := (cell_blk hb (4 * k)).trans q0
  have p1 := (cell_blk hb (4 * k + 1)).trans q1
  have p2 := (cell_blk hb (4 * k + 2)).trans q2
  have p3 := (cell_blk hb (4 * k + 3)).trans q3
  have z := fun i => frz_blk hb i
  simp [go_sem, i0, i1, i2, i3, j0, j1, j2, j3, n0, n1, n2, n3, t0, t1, t2, t3, p0, p1, p2, p3, z]
  rw [v0, v1, v2, v3]
  refine hR _ _ ⟨rfl, ((((Ch.refl (only q) w).setCell (p := ⟨q, 4 * k, none⟩) (.inl rfl) _).setCell (p := ⟨q, 4 * k + 1, none⟩) (.inl rfl) _).setCell (p := ⟨q, 4 * k + 2, none⟩) (.inl rfl) _).setCell (p := ⟨q, 4 * k + 3, none⟩) (.inl rfl) _, ?_⟩
  rw [hp_setCell, hp_setCell, hp_setCell, hp_setCell, hb]
  simp only [setOf_cells, ← bv_ofNat, bvs_set]
/-- a hash's digest -/
theorem sum_any (g : Nat) (m : List UInt8) (w : World) (hH : Hsh w g m) (hlen : m.length ≤ 1000000) (hk : Lk w) (hgk : g ≠ 2) :
    Ret Tryd.prog 89 #[.pointer (some ⟨g, 0, none⟩)] w fun v' w' => v' = .agg (bvs (shaS m)).toArray ∧ Ch Nw w w' := by
  obtain ⟨s, v0, on, hb, hs0, hv0, hst, oks⟩ := hH
  refine v_enter Tryd.func89 Tryd.ntmps89 rfl (by simp) fun R' hR => ?_
  obtain ⟨Z, hZ⟩ : ∃ z, (bvs (zb 32)).toArray = z := ⟨_, rfl⟩
  have hzc : zc Tryd.prog 25 = Z := by rw [← hZ]; kernel_rfl
  have hzz : (Tryd.prog.info? 25).map (fun i => i.zero.isSome) = some true := by kernel_rfl
  simp [go_sem, hzz, hzc]
  have c1 := (Ch.refl Nw w).alloc (.cells Z 25)
  have b1 := hp_alloc w (.cells Z 25)
  have hb1 := c1.hp hb id
  have hs1 := hs0.ch c1 fun _ _ e => e
  have hw1 := hk.ch c1 id
  have hz1 : (w.alloc (.cells Z 25)).heap.size = w.heap.size + 1 := by simp
  revert b1 c1 hb1 hs1 hw1 hz1
  generalize w.alloc (.cells Z 25) = w1
  generalize hq : w.heap.size = q
  intro c1 b1 hb1 hs1 hw1 hz1
  have e1 := fun i => cell_blk hb1 i
  have hrn := absorb_rest_len m.length first m (Nat.le_refl _)
  have hfin : shaS m = outS (absorb (if on = true then s else first) ((absorb first m).2 ++ padS m.length)).1 := by
    unfold shaS
    rw [absorb_app m.length first m _ (Nat.le_refl _), hst]
  generalize hrest : (absorb first m).2 = rest at *
  have hl0 := hs1.len Tryd.underlying29 3
  obtain ⟨A, hsA, hoA, hrA⟩ := hs1.cutFull tyB
  refine v_draw' [(0, none), (1, none), (2, none), (3, none), (4, none), (5, none), (6, none), (7, none), (8, none), (9, none), (10, none), (11, none), (12, none), (13, none), (14, none), (15, some [0, 1, 2, 3, 4, 5, 6, 7, 8, 9, 10, 11, 12, 13, 14]), (16, some []), (17, none)] (by kernel_rfl) (by kernel_rfl) ?_
  have cL := (Ch.refl Nw w1).alloc (.cells #[.int .u8 128] 5)
  have hb2 := cL.hp hb1 id
  have e2 := fun i => cell_blk hb2 i
  simp [go_sem, e1, e2, hcs, hl0, hrA]
  have bL := hp_alloc w1 (.cells #[.int .u8 128] 5)
  have hsL := (Sl.of_blk bL (n := 1) (c := 1) (off := 0) (xs := bvs [128]) (Nat.le_refl _) (by decide) rfl).drew
  have hsA' := ((hsA.ch cL fun _ _ e => e).drew)
  have hr64 : rest.length < 64 := by rw [hrn]; exact Nat.mod_lt _ (by decide)
  have hb2d : ((w1.alloc (.cells #[.int .u8 128] 5)).drew).heap[g]? = some (.cells (hcs s v0 m.length on) 196 (0, 0)) := hb2
  have b1d : ((w1.alloc (.cells #[.int .u8 128] 5)).drew).heap[q]? = some (.cells Z 25 (0, 0)) := cL.hp b1 id
  have cLd := (c1.trans cL).drew
  revert hsL hsA' hb2d b1d cLd
  generalize (w1.alloc (.cells #[.int .u8 128] 5)).drew = w2
  intro hsL hsA' hb2d b1d cLd
  refine VB_fullOwn tyB hsA' (bvs_length _) hsL rfl (by decide) (bvs_one _) (by unfold maxLen; omega) (by omega) fun v4 w4 k1 k2 k3 => ?_
  have hm4 : Mine 5 w2 v4 (rest.length + 1) (bvs (rest ++ [128])) w4 := ⟨by rw [bvs_append]; exact k1, k2, k3⟩
  have Ub : ∀ {u : World}, Ch Nw w2 u → u.heap[g]? = some (.cells (hcs s v0 m.length on) 196 (0, 0)) ∧ u.heap[q]? = some (.cells Z 25 (0, 0)) := fun h => ⟨h.hp hb2d id, h.hp b1d id⟩
  simp [go_sem]
  have hone : ∀ {u : World} {v : Value} {n : Nat} {l : List UInt8} (c : UInt8) {K : Value → World → Prop} {ty : TypeId}, Mine 5 w2 v n (bvs l) u → n ≤ 1000 → (∀ v' u', Mine 5 w2 v' (n + 1) (bvs (l ++ [c])) u' → K v' u') → VB Tryd.prog .append #[29, 29] ty #[v, .slice (some ⟨u.heap.size, 0, none⟩) 1 1] (u.alloc (.cells #[.int .u8 c.toNat] 5)) K := by
    intro u v n l c K ty h1 h3 h4
    refine VB_app1 tyB h1.own rfl (by unfold maxLen; omega) (by omega) fun v' u' d4 d5 d6 => ?_
    have h5 := h1.grow d4 d5 d6
    exact h4 _ _ (by rw [bvs_append]; exact h5)
  generalize hpz : (119 - rest.length) % 64 = pz
  refine v_loop (fun r f u => ∃ j, j ≤ pz ∧ r = pz - j ∧ f 0 = .pointer (some ⟨g, 0, none⟩) ∧ f 2 = .pointer (some ⟨q, 0, none⟩) ∧ Mine 5 w2 (f 3) (rest.length + 1 + j) (bvs (rest ++ [128] ++ zb j)) u) pz
    ⟨0, by omega, rfl, by simp, by simp, by simpa [zb] using hm4⟩ ?_
  rintro J hJ _ f u ⟨j, hj, rfl, f0, f2, hm⟩
  have hlm := hm.sl.len Tryd.underlying29 3
  have hrem : ((rest.length : Int) + 1 + j).tmod 64 = (((rest.length + 1 + j) % 64 : Nat) : Int) := by rw [Int.tmod_eq_emod_of_nonneg (by omega)]; omega
  by_cases hjz : j < pz
  · have hne : ((((rest.length + 1 + j) % 64 : Nat) : Int) != 56) = true := by
      rw [bne, beq_false_of_ne (by omega)]; rfl
    simp [go_sem, hlm, hrem]
    rw [show (((rest.length : Int) + 1 + j) % 64 != 56) = true by rw [bne, beq_false_of_ne (by omega)]; rfl]
    simp [go_sem]
    refine hone 0 hm (by omega) fun v' u' hm' => ?_
    simp [go_sem]
    refine Rnd.intro (pz - (j + 1)) (by omega) (hJ _ _ _ ⟨j + 1, by omega, rfl, by simp [f0], by simp [f2], ?_⟩)
    have e : rest ++ [128] ++ zb (j + 1) = rest ++ [128] ++ zb j ++ [0] := by
      rw [show zb (j + 1) = zb j ++ [0] by unfold zb; rw [List.replicate_succ']]; simp
    rw [e]
    simpa [Nat.add_assoc] using hm'
  · obtain rfl : j = pz := by omega
    have hne : ((((rest.length + 1 + j) % 64 : Nat) : Int) != 56) = false := by
      rw [show (rest.length + 1 + j) % 64 = 56 by omega]; rfl
    simp [go_sem, hlm, hrem]
    have hne2 : (((rest.length : Int) + 1 + j) % 64 != 56) = false := by
      have : ((rest.length : Int) + 1 + j) % 64 = 56 := by omega
      rw [this]
      decide
    rw [hne2]
    simp [go_sem]
    have hpad : padS m.length = [128] ++ zb j ++ bej (8 * m.length) 8 := by unfold padS; rw [← hrn, hpz]
    clear hJ J hne hrem hlm
    obtain ⟨L1, hL1⟩ : ∃ l, rest ++ [128] ++ zb j = l := ⟨_, rfl⟩
    obtain ⟨n1, hn1⟩ : ∃ n, rest.length + 1 + j = n := ⟨_, rfl⟩
    have hL1n : L1.length = n1 := by rw [← hL1, ← hn1]; simp [zb_length]; omega
    rw [hL1, hn1] at hm
    have hn56 : n1 % 64 = 56 := by omega
    have hn1b : n1 ≤ 200 := by omega
    refine v_loop (fun r f u => ∃ i, i ≤ 8 ∧ r = 8 - i ∧ f 0 = .pointer (some ⟨g, 0, none⟩) ∧ f 2 = .pointer (some ⟨q, 0, none⟩) ∧ f 4 = .int .i64 (56 - 8 * (i : Int)) ∧ Mine 5 w2 (f 3) (n1 + i) (bvs (L1 ++ bej (8 * m.length) i)) u) 8
      ⟨0, by omega, rfl, by simp [f0], by simp [f2], by simp, by simpa [bej] using hm⟩ ?_
    clear hm f0 f2 f
    rintro J hJ _ f u ⟨i, hi, rfl, f0, f2, f4, hm⟩
    by_cases hi8 : i < 8
    · have hii : (0 : Int) ≤ 56 - 8 * (i : Int) := by omega
      have hii' : 8 * (i : Int) ≤ 56 := by omega
      have f4' : f 4 = .int .i64 ((56 - 8 * i : Nat) : Int) := by rw [f4, show 56 - 8 * (i : Int) = ((56 - 8 * i : Nat) : Int) by omega]
      have hbu := (Ub hm.ch).1
      have e9 : u.cell? ⟨g, 9, none⟩ = some (.int .u64 (m.length : Nat)) := (cell_blk hbu 9).trans (by simp [hcs])
      have m8 : IntKind.u64.wrap (8 * (m.length : Int)) = ((8 * m.length : Nat) : Int) := by rw [IntKind.wrap_u64]; omega
      have w8 : IntKind.i64.wrap (((56 - 8 * i : Nat) : Int) - 8) = 56 - 8 * ((i + 1 : Nat) : Int) := by rw [IntKind.wrap_i64]; omega
      have z56 : (0 : Int) ≤ ((56 - 8 * i : Nat) : Int) := by omega
      generalize hc : 56 - 8 * i = cc at *
      simp [go_sem, f0, f4', e9, m8, z56]
      have hby : IntKind.u8.wrap (8 * (m.length : Int) / 2 ^ cc) = ((UInt8.ofNat (8 * m.length / 2 ^ cc)).toNat : Int) := by
        rw [show 8 * (m.length : Int) / 2 ^ cc = ((8 * m.length / 2 ^ cc : Nat) : Int) by simp, IntKind.wrap_u8, UInt8.toNat_ofNat']
        omega
      rw [hby]
      refine hone _ hm (by omega) fun v' u' hm' => ?_
      simp [go_sem, f4', w8]
      refine Rnd.intro (8 - (i + 1)) (by omega) (hJ _ _ _ ⟨i + 1, by omega, rfl, by simp [f0], by simp [f2], by simp, ?_⟩)
      rw [bej_succ, hc, ← List.append_assoc]
      simpa [Nat.add_assoc] using hm'
    · obtain rfl : i = 8 := by omega
      have hii' : ¬ 8 * ((8 : Nat) : Int) ≤ 56 := by omega
      simp [go_sem, f4]
      have hbu := (Ub hm.ch).1
      rw [f0]
      refine (now_any g s v0 m.length on u hbu).mono ?_
      rintro _ u3 ⟨rfl, c3⟩
      have okn : StOk (if on = true then s else first) := by cases on <;> simp [first_ok, oks]
      have hL2 : rest ++ padS m.length = L1 ++ bej (8 * m.length) 8 := by rw [hpad, ← hL1]; simp
      rw [hL2] at hfin
      obtain ⟨L2, hL2e⟩ : ∃ l, L1 ++ bej (8 * m.length) 8 = l := ⟨_, rfl⟩
      have hL2l : L2.length = n1 + 8 := by rw [← hL2e, List.length_append, hL1n, bej_length]
      rw [hL2e] at hfin hm
      generalize hS0 : (if on = true then s else first) = S0 at *
      simp [go_sem, stv]
      have c4 := (Ch.refl Nw u3).alloc (.cells #[.int .u32 S0.a, .int .u32 S0.b, .int .u32 S0.c, .int .u32 S0.d, .int .u32 S0.e, .int .u32 S0.f, .int .u32 S0.g, .int .u32 S0.h] 194)
      have b5 := hp_alloc u3 (.cells #[.int .u32 S0.a, .int .u32 S0.b, .int .u32 S0.c, .int .u32 S0.d, .int .u32 S0.e, .int .u32 S0.f, .int .u32 S0.g, .int .u32 S0.h] 194)
      have hm3 := (hm.step c3).step c4
      clear c4
      revert b5 hm3
      generalize u3.alloc (.cells #[.int .u32 S0.a, .int .u32 S0.b, .int .u32 S0.c, .int .u32 S0.d, .int .u32 S0.e, .int .u32 S0.f, .int .u32 S0.g, .int .u32 S0.h] 194) = u4
      generalize hq5 : u3.heap.size = q5
      intro b5 hm3
      have hq52 : w2.heap.size ≤ q5 := by rw [← hq5]; exact (hm.ch.trans c3).size
      have hv3 : ∀ kk, (f 3).ownBlock = some kk → kk < q5 := fun kk hkk => by
        have := own_block_lt (hm.step c3).own kk hkk
        omega
      clear hbu
      refine v_loop (fun r f' x => ∃ (l : List UInt8) (S : St), r = l.length ∧ l.length % 64 = 0 ∧ l.length ≤ 1000 ∧ f' 2 = .pointer (some ⟨q, 0, none⟩) ∧ f' 5 = .pointer (some ⟨q5, 0, none⟩) ∧ Sl x (f' 3) l.length (bvs l) ∧ (f' 3).ownBlock = (f 3).ownBlock ∧ x.heap[q5]? = some (.cells (stv S) 194 (0, 0)) ∧ StOk S ∧ absorb S0 L2 = absorb S l ∧ Ch Nw w2 x) L2.length
        ⟨L2, S0, rfl, by omega, by omega, by simp [f2], by simp, by have := hm3.sl; rw [← hL2l] at this; simpa using this, by simp, b5, okn, rfl, hm3.ch⟩ ?_
      rintro J hJ _ f' x ⟨l, S, rfl, hl64, hlb, g2, g5, hsl, hol, hbx, okS, habs, cx⟩
      have hll := hsl.len Tryd.underlying29 3
      by_cases h0 : 0 < l.length
      · have h0' : (0 : Int) < l.length := by omega
        have h64 : 64 ≤ l.length := by omega
        obtain ⟨v5, hs5, ho5, _, hr5, _⟩ := hsl.cut tyB (bvs_length l) 0 64 (by omega) h64
        replace hr5 : ∀ w', (Instr.sliceAt 29 (f' 3) none (some (.int .i64 64)) none).run Tryd.prog w' = .ok v5 w' := hr5 rfl
        obtain ⟨v6, hs6, ho6, _, _, hr6⟩ := hsl.cut tyB (bvs_length l) 64 l.length h64 (Nat.le_refl _)
        replace hr6 : ∀ w', (Instr.sliceAt 29 (f' 3) (some (.int .i64 64)) none none).run Tryd.prog w' = .ok v6 w' := hr6 rfl
        have hs5 : Sl x v5 64 (bvs (l.take 64)) := by
          rw [bvs, List.map_take]
          simpa [bvs] using hs5
        have hs6 : Sl x v6 (l.drop 64).length (bvs (l.drop 64)) := by
          rw [List.length_drop, bvs, List.map_drop]
          have h := hs6
          rw [show l.length = (bvs l).length from (bvs_length l).symm, List.take_length] at h
          simpa [bvs] using h
        have hl64' : (l.take 64).length = 64 := by rw [List.length_take]; omega
        have e5 := fun i => cell_blk hbx i
        simp [go_sem, hll, h0', h0]
        refine v_draw' [(0, none), (1, none), (2, none), (3, some []), (4, some [])] (by kernel_rfl) (by kernel_rfl) ?_
        simp [go_sem, g5, hr5, e5, stv]
        refine (shatake_any S v5 (l.take 64) x.drew okS hl64' hs5.drew (hk.ch ((cLd.trans cx).drew) id)).mono ?_
        rintro _ x2 ⟨rfl, c2⟩
        have c2 := (Ch.refl Nw x).drew.trans c2
        have hb2 := c2.hp hbx id
        have okt := takeS_ok S (l.take 64)
        have habt : absorb S0 L2 = absorb (takeS S (l.take 64)) (l.drop 64) := by rw [habs, absorb_step h64]
        generalize ht : takeS S (l.take 64) = t at *
        have hb3 := st8_stv (s' := t) hb2
        have cS := st8_ch (s := t) (g := q5) (Ch.refl (only q5) x2) (.inl rfl)
        have e2 := fun i => cell_blk hb2 i
        have z2 := fun i => frz_blk hb2 i
        simp [go_sem, g5, stv, e2, z2, hr6]
        have ho6' : v6.ownBlock = (f 3).ownBlock := by rw [ho6, hol]
        refine Rnd.intro (l.drop 64).length (by rw [List.length_drop]; omega) (hJ _ _ (st8 x2 q5 t) ⟨l.drop 64, t, rfl, by rw [List.length_drop]; omega, by rw [List.length_drop]; omega, by simp [g2], by simp [g5], ?_, by simpa using ho6', hb3, okt, habt, (cx.trans c2).trans' cS (fun jj hjj e => by simp only [only] at e; omega)⟩)
        have := (hs6.ch c2 fun _ _ e => e).ch cS (fun kk hkk e => by
          rw [ho6'] at hkk
          have := hv3 kk hkk
          simp only [only] at e
          omega)
        simpa using this
      · have h0' : ¬ (0 : Int) < l.length := by omega
        have hl0 : l = [] := List.length_eq_zero_iff.1 (by omega)
        subst hl0
        rw [habs, absorb_end (by decide)] at hfin
        have c6 := (Ch.refl Nw x).alloc (.cells Z 25)
        have b6 := hp_alloc x (.cells Z 25)
        have hb6 := c6.hp hbx id
        have hbq := c6.hp (Ub cx).2 id
        have e6 := fun i => cell_blk hb6 i
        have hcx := cx.trans c6
        have hZs : Z.size = 32 := by rw [← hZ]; simp [bvs_length, zb_length]
        have hxq : w2.heap.size ≤ x.heap.size := cx.size
        have hqx : q < x.heap.size := lt_of_block (Ub cx).2
        simp [go_sem, hll, hzz, hzc, g5, e6, stv]
        clear c6 e6
        revert b6 hb6 hbq hcx
        generalize x.alloc (.cells Z 25) = x6
        generalize x.heap.size = q6 at *
        intro b6 hb6 hbq hcx
        refine v_loop (fun r f'' y => ∃ k, k ≤ 8 ∧ r = 8 - k ∧ f'' 2 = .pointer (some ⟨q, 0, none⟩) ∧ f'' 6 = .pointer (some ⟨q6, 0, none⟩) ∧ f'' 7 = .func (.func 111) #[] #[.pointer (some ⟨q6, 0, none⟩)] ∧ f'' 65 = .agg (stv S) ∧ f'' 66 = .int .i64 k ∧
          y.heap[q6]? = some (.cells (bvs (outK S k)).toArray 25 (0, 0)) ∧ y.heap[q]? = some (.cells Z 25 (0, 0)) ∧ Ch Nw w2 y) 8
          ⟨0, by omega, rfl, by simp [g2], by simp, by simp, by simp [stv], by simp, by rw [show outK S 0 = zb 32 from rfl, hZ]; exact b6, hbq, hcx⟩ ?_
        clear hJ J
        rintro J hJ _ f'' y ⟨k, hk8, rfl, h2, h6, h7, h65, h66, hy6, hyq, cy⟩
        by_cases hk' : k < 8
        · have hki : (k : Int) < 8 := by omega
          have hwk : IntKind.i64.wrap ((k : Int) + 1) = ((k + 1 : Nat) : Int) := by simp [IntKind.wrap_i64]; omega
          have hidx := fun w => run_index_agg (P := Tryd.prog) (kd := .i64) Tryd.underlying194 Tryd.sizeOf23 Tryd.isAgg23 hk' (wd_at S hk') w
          simp [go_sem, h7, h65, h66, hki, hidx]
          have hfn : ∀ (a : List Value) (w : World), (callFunc 111 a.toArray).run Tryd.prog w = .ok (.enter 111 a.toArray) w := fun a w => by simp [go_sem]
          rw [VCall_closure _ _ _ _ [.pointer (some ⟨q6, 0, none⟩)] _ (hfn _ _)]
          refine (put_any q6 k (wd S k) (outK S k) _ y hk' (outK_length S hk8) (wd_lt okS hk') hy6).mono ?_
          rintro _ y2 ⟨rfl, c2, hy2⟩
          rw [outK_step S hk'] at hy2
          simp [go_sem, h66, hwk]
          exact Rnd.intro (8 - (k + 1)) (by omega) (hJ _ _ _ ⟨k + 1, by omega, rfl, by simp [h2], by simp [h6], by simp [h7], by simp [h65], by simp, hy2, c2.hp hyq (by simp only [only]; omega), cy.trans' c2 (fun jj hjj e => by simp only [only] at e; omega)⟩)
        · obtain rfl : k = 8 := by omega
          have hout : outK S 8 = shaS m := by
            rw [hfin]
            unfold outK
            simp only []
            rw [List.take_of_length_le (by rw [outS_length]; decide)]
            simp [zb]
          rw [hout] at hy6
          obtain ⟨Y, hY⟩ : ∃ z, (bvs (shaS m)).toArray = z := ⟨_, rfl⟩
          have hYs : Y.size = 32 := by rw [← hY]; simp [bvs_length, shaS_length]
          have hYo : ones Y = true := by rw [← hY]; exact ones_bvs _
          have hYa : Y.extract 0 32 = Y := by rw [show (32 : Nat) = Y.size from hYs.symm]; simp
          rw [hY] at hy6 hR
          have b9 : (y.setRow q Y).heap[q]? = some (.cells Y 25 (0, 0)) := by rw [hp_setRow, hyq]; rfl
          simp [go_sem, h2, h6, h66, hy6, hyq, hYs, hYa, hZs, hYo, blit_whole, b9]
          exact hR _ _ ⟨rfl, (cLd.trans cy).setRow (g := q) (.inr (by omega)) _⟩
end Go.Proofs.YtppilgkgnofkpaaDoor
