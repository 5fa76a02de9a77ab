/- The 64 numbers of a piece: package sha's numbers, as a contract on the call. No condition but that the values are of their types. -/
import Derived.Test.YtppilgkgnofkpaaDoorShaA
set_option linter.unusedSimpArgs false
set_option linter.unusedVariables false

namespace Go.Proofs.YtppilgkgnofkpaaDoor
open Go.RowKit Go.Kin

def w32 (l : List Nat) : List Value := l.map fun n : Nat => Value.int .u32 n
theorem w32_length (l : List Nat) : (w32 l).length = l.length := List.length_map ..
@[simp] theorem w32_ones (l : List Nat) : ones (w32 l).toArray = true := ones_of (by
  intro u hu
  obtain ⟨c, _, rfl⟩ := List.mem_map.1 hu
  rfl)
theorem w32_get {l : List Nat} {i x : Nat} (h : l[i]? = some x) : (w32 l).toArray[i]? = some (.int .u32 x) := by
  rw [List.getElem?_toArray, w32, List.getElem?_map, h]; rfl
theorem w32_set (l : List Nat) (i x : Nat) : (w32 l).toArray.setIfInBounds i (.int .u32 x) = (w32 (l.set i x)).toArray := by
  apply Array.ext'
  simp [w32, List.map_set]
def add32 (a b : Nat) : Nat := (a + b) % 4294967296
theorem add32_lt (a b : Nat) : add32 a b < 4294967296 := Nat.mod_lt _ (by decide)
theorem wrap_add (a b : Nat) : IntKind.u32.wrap ((a : Int) + b) = (add32 a b : Int) := by
  unfold add32
  rw [IntKind.wrap_u32]
  omega
def gb (b : List UInt8) (i : Nat) : Nat := (b.getD i 0).toNat
theorem gb_lt (b : List UInt8) (i : Nat) : gb b i < 256 := UInt8.toNat_lt _
/-- four bytes, the greatest first -/
def wat (b : List UInt8) (i : Nat) : Nat := ((gb b (4 * i) * 16777216 ||| gb b (4 * i + 1) * 65536) ||| gb b (4 * i + 2) * 256) ||| gb b (4 * i + 3)
theorem wat_lt (b : List UInt8) (i : Nat) : wat b i < 4294967296 := by
  have h0 := gb_lt b (4 * i)
  have h1 := gb_lt b (4 * i + 1)
  have h2 := gb_lt b (4 * i + 2)
  have h3 := gb_lt b (4 * i + 3)
  exact Nat.or_lt_two_pow (n := 32) (Nat.or_lt_two_pow (Nat.or_lt_two_pow (by omega) (by omega)) (by omega)) (by omega)
def sg0 (x : Nat) : Nat := (rot x 7 ^^^ rot x 18) ^^^ (x / 8)
def sg1 (x : Nat) : Nat := (rot x 17 ^^^ rot x 19) ^^^ (x / 1024)
def nxt (W : List Nat) (k : Nat) : Nat := add32 (add32 (add32 (W.getD (k - 16) 0) (sg0 (W.getD (k - 15) 0))) (W.getD (k - 7) 0)) (sg1 (W.getD (k - 2) 0))
/-- the first k numbers of a piece -/
def Wl (b : List UInt8) : Nat → List Nat
  | 0 => []
  | k + 1 => Wl b k ++ [if k < 16 then wat b k else nxt (Wl b k) k]
theorem Wl_length (b : List UInt8) (k : Nat) : (Wl b k).length = k := by
  induction k with
  | zero => rfl
  | succ k ih => simp [Wl, ih]
theorem Wl_lt (b : List UInt8) (k : Nat) : ∀ x ∈ Wl b k, x < 4294967296 := by
  induction k with
  | zero => simp [Wl]
  | succ k ih =>
    intro x hx
    simp only [Wl, List.mem_append, List.mem_singleton] at hx
    rcases hx with hx | rfl
    · exact ih x hx
    · split
      · exact wat_lt _ _
      · exact add32_lt _ _
def Wz (b : List UInt8) (k : Nat) : List Nat := Wl b k ++ List.replicate (64 - k) 0
theorem Wz_length (b : List UInt8) {k : Nat} (h : k ≤ 64) : (Wz b k).length = 64 := by simp [Wz, Wl_length]; omega
theorem Wz_set (b : List UInt8) {k : Nat} (h : k < 64) : (Wz b k).set k (if k < 16 then wat b k else nxt (Wl b k) k) = Wz b (k + 1) := by
  unfold Wz
  rw [List.set_append_right _ _ (by rw [Wl_length]; omega), Wl_length, Nat.sub_self, show 64 - k = (64 - (k + 1)) + 1 by omega, List.replicate_succ, List.set_cons_zero]
  simp [Wl]
theorem Wz_at (b : List UInt8) {k i : Nat} (h : i < k) : (Wz b k)[i]? = some ((Wl b k).getD i 0) := by
  unfold Wz
  rw [List.getElem?_append_left (by rw [Wl_length]; exact h), List.getD_eq_getElem?_getD, List.getElem?_eq_getElem (by rw [Wl_length]; exact h)]
  rfl
theorem Wl_at_lt (b : List UInt8) {k i : Nat} (h : i < k) : (Wl b k).getD i 0 < 4294967296 := by
  rw [List.getD_eq_getElem?_getD, List.getElem?_eq_getElem (by rw [Wl_length]; exact h)]
  exact Wl_lt b k _ (List.getElem_mem _)
theorem hz_w64 : (Tryd.prog.info? 219).map (fun i => i.zero.isSome) = some true := by kernel_rfl
theorem zc_w64 : zc Tryd.prog 219 = (w32 (List.replicate 64 0)).toArray := by kernel_rfl
theorem numbers_any (v : Value) (b : List UInt8) (w : World) (hb : b.length = 64) (hs : Sl w v 64 (bvs b)) :
    Ret Tryd.prog 126 #[v] w fun v' w' => v' = .agg (w32 (Wl b 64)).toArray ∧ Ch Nw w w' := by
  refine v_enter Tryd.func126 Tryd.ntmps126 rfl (by simp) fun R' hR => ?_
  obtain ⟨Z, hZ⟩ : ∃ z, (w32 (List.replicate 64 0)).toArray = z := ⟨_, rfl⟩
  have hzc := zc_w64
  rw [hZ] at hzc
  simp [go_sem, hz_w64, hzc]
  have c1 := ((Ch.refl Nw w).alloc (.cells Z 219)).alloc (.cells Z 219)
  have b0 := al2_0 w (.cells Z 219) (.cells Z 219)
  have b1 := al2_1 w (.cells Z 219) (.cells Z 219)
  revert c1 b0 b1
  generalize (w.alloc (.cells Z 219)).alloc (.cells Z 219) = w1
  generalize hg : w.heap.size = g
  intro c1 b0 b1
  have hZs : Z.size = 64 := by rw [← hZ]; simp [w32_length]
  refine v_loop (fun r f wr => ∃ k, k ≤ 64 ∧ r = 64 - k ∧ f 0 = v ∧ f 2 = .pointer (some ⟨g, 0, none⟩) ∧ f 3 = .pointer (some ⟨g + 1, 0, none⟩) ∧ f 7 = .int .i64 k ∧
    Ch Nw w wr ∧ wr.heap[g]? = some (.cells Z 219 (0, 0)) ∧ wr.heap[g + 1]? = some (.cells (w32 (Wz b k)).toArray 219 (0, 0))) 64
    ⟨0, by omega, rfl, by simp, by simp, by simp, by simp, c1, b0, by rw [show Wz b 0 = List.replicate 64 0 from rfl, hZ]; exact b1⟩ ?_
  rintro J hJ _ f wr ⟨k, hk, rfl, f0, f2, f3, f7, hc, b0, hbk⟩
  by_cases hk64 : k < 64
  · have hki : (k : Int) < 64 := by omega
    have hwk : IntKind.i64.wrap ((k : Int) + 1) = ((k + 1 : Nat) : Int) := by simp [IntKind.wrap_i64]; omega
    have hsr : Sl wr v 64 (bvs b) := hs.ch hc fun _ _ e => e
    have hset := Wz_set b hk64
    have hcz := fun i => frz_blk hbk i
    have hin : wr.cell? ⟨g + 1, k, none⟩ = some (.int .u32 (0 : Nat)) := by
      rw [cell_blk hbk]
      refine w32_get ?_
      unfold Wz
      rw [List.getElem?_append_right (by rw [Wl_length]; omega), Wl_length, List.getElem?_replicate, if_pos (by omega)]
    have fin : ∀ (x : Nat) (f' : Nat → Value), (if k < 16 then wat b k else nxt (Wl b k) k) = x → f' 0 = v → f' 2 = .pointer (some ⟨g, 0, none⟩) → f' 3 = .pointer (some ⟨g + 1, 0, none⟩) → f' 7 = .int .i64 ((k + 1 : Nat) : Int) → J (64 - (k + 1)) f' (wr.setCell ⟨g + 1, k, none⟩ (.int .u32 x)).drew := fun x f' hx a0 a2 a3 a7 => by
      refine hJ _ _ _ ⟨k + 1, by omega, rfl, a0, a2, a3, a7, (hc.setCell (.inr (by show w.heap.size ≤ g + 1; omega)) _).drew, ?_, ?_⟩
      · rw [hp_drew, hp_setCell_ne _ _ _ _ (by show g ≠ g + 1; omega), b0]
      · rw [hp_drew, hp_setCell, hbk, setOf_cells, w32_set, ← hx, hset]
    have fin2 : ∀ (x : Nat) (f' : Nat → Value), (if k < 16 then wat b k else nxt (Wl b k) k) = x → f' 0 = v → f' 2 = .pointer (some ⟨g, 0, none⟩) → f' 3 = .pointer (some ⟨g + 1, 0, none⟩) → f' 7 = .int .i64 ((k + 1 : Nat) : Int) → J (64 - (k + 1)) f' (wr.setCell ⟨g + 1, k, none⟩ (.int .u32 x)).drew.drew := fun x f' hx a0 a2 a3 a7 => by
      refine hJ _ _ _ ⟨k + 1, by omega, rfl, a0, a2, a3, a7, (hc.setCell (.inr (by show w.heap.size ≤ g + 1; omega)) _).drew.drew, ?_, ?_⟩
      · rw [hp_drew, hp_drew, hp_setCell_ne _ _ _ _ (by show g ≠ g + 1; omega), b0]
      · rw [hp_drew, hp_drew, hp_setCell, hbk, setOf_cells, w32_set, ← hx, hset]
    clear hJ
    by_cases h16 : k < 16
    · have h16' : (k : Int) < 16 := by omega
      have hat : ∀ j : Nat, j < 4 → ∃ a, (∀ w', (Instr.indexAt 29 v (.int .i64 (4 * (k : Int) + (j : Int)))).run Tryd.prog w' = .ok (.pointer (some a)) w') ∧ wr.cell? a = some (.int .u8 (gb b (4 * k + j) : Int)) := fun j hj => by
        have hc : b[4 * k + j]? = some (b.getD (4 * k + j) 0) := by rw [List.getD_eq_getElem?_getD, List.getElem?_eq_getElem (by omega)]; rfl
        obtain ⟨a, h1, h2, _⟩ := hsr.at tyB (by rw [bvs_length, hb]) (u := .int .u8 (b.getD (4 * k + j) 0).toNat) (bvs_get hc)
        refine ⟨a, fun w' => ?_, h2⟩
        have := h1 w'
        rwa [show ((4 * k + j : Nat) : Int) = 4 * (k : Int) + (j : Int) by omega] at this
      obtain ⟨a0, p0, x0⟩ := hat 0 (by omega)
      obtain ⟨a1, p1, x1⟩ := hat 1 (by omega)
      obtain ⟨a2, p2, x2⟩ := hat 2 (by omega)
      obtain ⟨a3, p3, x3⟩ := hat 3 (by omega)
      replace p0 : ∀ w', (Instr.indexAt 29 v (.int .i64 (4 * (k : Int)))).run Tryd.prog w' = .ok (.pointer (some a0)) w' := fun w' => by
        have := p0 w'
        simpa using this
      replace p1 : ∀ w', (Instr.indexAt 29 v (.int .i64 (4 * (k : Int) + 1))).run Tryd.prog w' = .ok (.pointer (some a1)) w' := p1
      replace p2 : ∀ w', (Instr.indexAt 29 v (.int .i64 (4 * (k : Int) + 2))).run Tryd.prog w' = .ok (.pointer (some a2)) w' := p2
      replace p3 : ∀ w', (Instr.indexAt 29 v (.int .i64 (4 * (k : Int) + 3))).run Tryd.prog w' = .ok (.pointer (some a3)) w' := p3
      have i0 : IntKind.i64.wrap (4 * (k : Int)) = 4 * (k : Int) := by rw [IntKind.wrap_i64]; omega
      have i1 : IntKind.i64.wrap (4 * (k : Int) + 1) = 4 * (k : Int) + 1 := by rw [IntKind.wrap_i64]; omega
      have i2 : IntKind.i64.wrap (4 * (k : Int) + 2) = 4 * (k : Int) + 2 := by rw [IntKind.wrap_i64]; omega
      have i3 : IntKind.i64.wrap (4 * (k : Int) + 3) = 4 * (k : Int) + 3 := by rw [IntKind.wrap_i64]; omega
      obtain ⟨g0, hg0⟩ : ∃ x, gb b (4 * k) = x := ⟨_, rfl⟩
      obtain ⟨g1, hg1⟩ : ∃ x, gb b (4 * k + 1) = x := ⟨_, rfl⟩
      obtain ⟨g2, hg2⟩ : ∃ x, gb b (4 * k + 2) = x := ⟨_, rfl⟩
      obtain ⟨g3, hg3⟩ : ∃ x, gb b (4 * k + 3) = x := ⟨_, rfl⟩
      rw [Nat.add_zero, hg0] at x0
      rw [hg1] at x1
      rw [hg2] at x2
      rw [hg3] at x3
      have l0 : g0 < 256 := by rw [← hg0]; exact gb_lt _ _
      have l1 : g1 < 256 := by rw [← hg1]; exact gb_lt _ _
      have l2 : g2 < 256 := by rw [← hg2]; exact gb_lt _ _
      have l3 : g3 < 256 := by rw [← hg3]; exact gb_lt _ _
      have u0 : IntKind.u32.wrap (g0 : Int) = g0 := by rw [IntKind.wrap_u32]; omega
      have u1 : IntKind.u32.wrap (g1 : Int) = g1 := by rw [IntKind.wrap_u32]; omega
      have u2 : IntKind.u32.wrap (g2 : Int) = g2 := by rw [IntKind.wrap_u32]; omega
      have u3 : IntKind.u32.wrap (g3 : Int) = g3 := by rw [IntKind.wrap_u32]; omega
      have hv : bits .or .u32 (bits .or .u32 (bits .or .u32 (IntKind.u32.wrap ((g0 : Int) * 16777216)) (IntKind.u32.wrap ((g1 : Int) * 65536))) (IntKind.u32.wrap ((g2 : Int) * 256))) (g3 : Int) = ((wat b k : Nat) : Int) := by
        have s0 : IntKind.u32.wrap ((g0 : Int) * 16777216) = ((g0 * 16777216 : Nat) : Int) := by rw [IntKind.wrap_u32]; omega
        have s1 : IntKind.u32.wrap ((g1 : Int) * 65536) = ((g1 * 65536 : Nat) : Int) := by rw [IntKind.wrap_u32]; omega
        have s2 : IntKind.u32.wrap ((g2 : Int) * 256) = ((g2 * 256 : Nat) : Int) := by rw [IntKind.wrap_u32]; omega
        have o1 : g0 * 16777216 ||| g1 * 65536 < 4294967296 := Nat.or_lt_two_pow (n := 32) (by omega) (by omega)
        have o2 : (g0 * 16777216 ||| g1 * 65536) ||| g2 * 256 < 4294967296 := Nat.or_lt_two_pow (n := 32) o1 (by omega)
        rw [s0, s1, s2, bits_or32 _ _ (by omega) (by omega), bits_or32 _ _ o1 (by omega), bits_or32 _ _ o2 (by omega)]
        unfold wat
        rw [hg0, hg1, hg2, hg3]
      simp [go_sem, f7, hki, h16']
      refine v_draw' [(0, none), (1, none), (2, none), (3, none), (4, none), (5, none), (6, none), (7, none), (8, none), (9, none), (10, none), (11, none), (12, none), (13, none), (14, none), (15, none), (16, none), (17, none), (18, none), (19, none), (20, none), (21, none), (22, none), (23, none), (24, none), (25, none), (26, none), (27, none), (28, none), (29, none), (30, none), (31, none), (32, none), (33, none), (34, none), (35, some [])] (by kernel_rfl) (by kernel_rfl) ?_
      simp [go_sem, f0, f3, f7, i0, i1, i2, i3, p0, p1, p2, p3, x0, x1, x2, x3, u0, u1, u2, u3, hki, hv, hin, hcz, hwk]
      exact Rnd.intro _ (by omega) (fin _ _ (if_pos h16) (by simp [f0]) (by simp [f2]) (by simp [f3]) (by simp))
    · have h16' : ¬ (k : Int) < 16 := by omega
      have cw : ∀ i, i < k → wr.cell? ⟨g + 1, i, none⟩ = some (.int .u32 ((Wl b k).getD i 0 : Nat)) := fun i hi => by
        rw [cell_blk hbk]
        exact w32_get (Wz_at b hi)
      have i15 : IntKind.i64.wrap ((k : Int) - 15) = ((k - 15 : Nat) : Int) := by rw [IntKind.wrap_i64]; omega
      have i2 : IntKind.i64.wrap ((k : Int) - 2) = ((k - 2 : Nat) : Int) := by rw [IntKind.wrap_i64]; omega
      have i16 : IntKind.i64.wrap ((k : Int) - 16) = ((k - 16 : Nat) : Int) := by rw [IntKind.wrap_i64]; omega
      have i7 : IntKind.i64.wrap ((k : Int) - 7) = ((k - 7 : Nat) : Int) := by rw [IntKind.wrap_i64]; omega
      have j15 : ((k - 15 : Nat) : Int) < 64 := by omega
      have j2 : ((k - 2 : Nat) : Int) < 64 := by omega
      have j16 : ((k - 16 : Nat) : Int) < 64 := by omega
      have j7 : ((k - 7 : Nat) : Int) < 64 := by omega
      obtain ⟨x15, hx15⟩ : ∃ x, (Wl b k).getD (k - 15) 0 = x := ⟨_, rfl⟩
      obtain ⟨x2, hx2⟩ : ∃ x, (Wl b k).getD (k - 2) 0 = x := ⟨_, rfl⟩
      obtain ⟨x16, hx16⟩ : ∃ x, (Wl b k).getD (k - 16) 0 = x := ⟨_, rfl⟩
      obtain ⟨x7, hx7⟩ : ∃ x, (Wl b k).getD (k - 7) 0 = x := ⟨_, rfl⟩
      have y15 := cw (k - 15) (by omega)
      have y2 := cw (k - 2) (by omega)
      have y16 := cw (k - 16) (by omega)
      have y7 := cw (k - 7) (by omega)
      rw [hx15] at y15
      rw [hx2] at y2
      rw [hx16] at y16
      rw [hx7] at y7
      have l15 : x15 < 4294967296 := by rw [← hx15]; exact Wl_at_lt b (by omega)
      have l2 : x2 < 4294967296 := by rw [← hx2]; exact Wl_at_lt b (by omega)
      have l16 : x16 < 4294967296 := by rw [← hx16]; exact Wl_at_lt b (by omega)
      have l7 : x7 < 4294967296 := by rw [← hx7]; exact Wl_at_lt b (by omega)
      simp [go_sem, f7, hki, h16']
      refine v_draw' [(0, none), (1, none), (2, none), (3, none), (4, none), (5, none), (6, none), (7, none), (8, none), (9, none)] (by kernel_rfl) (by kernel_rfl) ?_
      simp [go_sem, f3, f7, i15, i2, j15, j2, y15, y2]
      refine v_draw' [(0, none), (1, none), (2, none), (3, none), (4, none), (5, none), (7, none), (10, none), (11, none), (14, none), (15, none), (16, none), (17, none), (19, none), (21, none), (24, none), (25, none), (6, some [0, 1, 2, 3, 4, 7, 10, 11, 14, 15, 16, 17, 19, 21, 24, 25]), (8, some [0, 1, 2, 3, 4, 10, 11, 14, 15, 16, 17, 19, 21, 24, 25]), (9, none), (12, none), (13, none), (18, none), (20, some [0, 1, 2, 3, 4, 10, 11, 14, 15, 16, 17, 21, 24, 25, 9, 12, 13, 18]), (22, some [0, 1, 2, 3, 4, 10, 11, 14, 15, 16, 17, 24, 25, 9, 12, 13, 18]), (23, none), (26, none), (27, none), (28, none), (29, some [])] (by kernel_rfl) (by kernel_rfl) ?_
      simp [go_sem, f3, f7, i16, i7, j16, j7, y16, y7]
      refine (turn_any x15 7 _ l15 (by decide) (by decide)).mono ?_
      rintro _ _ ⟨rfl, rfl⟩
      simp [go_sem, f3, f7, i16, i7, j16, j7, y16, y7]
      refine (turn_any x15 18 _ l15 (by decide) (by decide)).mono ?_
      rintro _ _ ⟨rfl, rfl⟩
      simp [go_sem, f3, f7, i16, i7, j16, j7, y16, y7]
      refine (turn_any x2 17 _ l2 (by decide) (by decide)).mono ?_
      rintro _ _ ⟨rfl, rfl⟩
      simp [go_sem, f3, f7, i16, i7, j16, j7, y16, y7]
      refine (turn_any x2 19 _ l2 (by decide) (by decide)).mono ?_
      rintro _ _ ⟨rfl, rfl⟩
      simp [go_sem, f3, f7, i16, i7, j16, j7, y16, y7, hki, hin, hcz, hwk]
      have hv : IntKind.u32.wrap (IntKind.u32.wrap (IntKind.u32.wrap ((x16 : Int) + bits .xor .u32 (bits .xor .u32 (rot x15 7 : Int) (rot x15 18)) ((x15 : Int) / 8)) + x7) + bits .xor .u32 (bits .xor .u32 (rot x2 17 : Int) (rot x2 19)) ((x2 : Int) / 1024)) = ((nxt (Wl b k) k : Nat) : Int) := by
        have q1 := rot_lt x15 7 l15
        have q2 := rot_lt x15 18 l15
        have q3 := rot_lt x2 17 l2
        have q4 := rot_lt x2 19 l2
        have q5 : rot x15 7 ^^^ rot x15 18 < 4294967296 := Nat.xor_lt_two_pow (n := 32) q1 q2
        have q6 : rot x2 17 ^^^ rot x2 19 < 4294967296 := Nat.xor_lt_two_pow (n := 32) q3 q4
        have q7 : (x15 : Int) / 8 = ((x15 / 8 : Nat) : Int) := by omega
        have q8 : (x2 : Int) / 1024 = ((x2 / 1024 : Nat) : Int) := by omega
        rw [bits_xor32 _ _ q1 q2, bits_xor32 _ _ q3 q4, q7, q8, bits_xor32 _ _ q5 (by omega), bits_xor32 _ _ q6 (by omega), wrap_add, wrap_add, wrap_add]
        unfold nxt
        rw [hx15, hx2, hx16, hx7]
        rfl
      rw [hv]
      exact Rnd.intro _ (by omega) (fin2 _ _ (if_neg (by omega)) (by simp [f0]) (by simp [f2]) (by simp [f3]) (by simp))
  · obtain rfl : k = 64 := by omega
    have hWs : (w32 (Wl b 64)).toArray.size = 64 := by simp [w32_length, Wl_length]
    obtain ⟨Y, hY⟩ : ∃ z, (w32 (Wl b 64)).toArray = z := ⟨_, rfl⟩
    have hYo : ones Y = true := by rw [← hY]; exact w32_ones _
    rw [show Wz b 64 = Wl b 64 by simp [Wz]] at hbk
    rw [hY] at hbk hWs hR
    have hWa : Y.extract 0 64 = Y := by rw [show (64 : Nat) = Y.size from hWs.symm]; simp
    have b9 : (wr.setRow g Y).heap[g]? = some (.cells Y 219 (0, 0)) := by rw [hp_setRow, b0]; rfl
    simp [go_sem, f2, f3, f7, hbk, hWs, hWa, b0, hZs, hYo, blit_whole, b9]
    exact hR _ _ ⟨rfl, hc.setRow (g := g) (.inr (by omega)) _⟩
attribute [irreducible] Wl
end Go.Proofs.YtppilgkgnofkpaaDoor
