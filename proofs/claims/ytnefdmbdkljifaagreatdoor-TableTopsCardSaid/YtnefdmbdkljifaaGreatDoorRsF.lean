/- The document's hash: Sum and Digest, as contracts on calls. Conditions: sizes. -/
import Derived.Test.YtnefdmbdkljifaaGreatDoorRsE
import Derived.Test.YtnefdmbdkljifaaGreatDoorTrL
import Derived.Test.YtnefdmbdkljifaaGreatDoorShaB
set_option linter.unusedSimpArgs false
set_option linter.unusedVariables false

namespace Go.Proofs.YtnefdmbdkljifaaGreatDoor
open Go.RowKit Go.Kin

/-- a byte of a state's digest -/
def ob (s : St) (i : Nat) : UInt8 := UInt8.ofNat (wd s (i / 4) / 256 ^ (3 - i % 4))
theorem omega_no {p : Prop} (n : Nat) (h : n + 32 < 32) : p := absurd h (by omega)
theorem outS_at (s : St) : ∀ i, i < 32 → (outS s)[i]? = some (ob s i) := by
  intro i hi
  unfold outS
  match i, hi with
  | 0, _ => rfl
  | 1, _ => rfl
  | 2, _ => rfl
  | 3, _ => exact (show some (UInt8.ofNat (wd s 0)) = some (UInt8.ofNat (wd s 0 / 1)) from by rw [Nat.div_one])
  | 4, _ => rfl
  | 5, _ => rfl
  | 6, _ => rfl
  | 7, _ => exact (show some (UInt8.ofNat (wd s 1)) = some (UInt8.ofNat (wd s 1 / 1)) from by rw [Nat.div_one])
  | 8, _ => rfl
  | 9, _ => rfl
  | 10, _ => rfl
  | 11, _ => exact (show some (UInt8.ofNat (wd s 2)) = some (UInt8.ofNat (wd s 2 / 1)) from by rw [Nat.div_one])
  | 12, _ => rfl
  | 13, _ => rfl
  | 14, _ => rfl
  | 15, _ => exact (show some (UInt8.ofNat (wd s 3)) = some (UInt8.ofNat (wd s 3 / 1)) from by rw [Nat.div_one])
  | 16, _ => rfl
  | 17, _ => rfl
  | 18, _ => rfl
  | 19, _ => exact (show some (UInt8.ofNat (wd s 4)) = some (UInt8.ofNat (wd s 4 / 1)) from by rw [Nat.div_one])
  | 20, _ => rfl
  | 21, _ => rfl
  | 22, _ => rfl
  | 23, _ => exact (show some (UInt8.ofNat (wd s 5)) = some (UInt8.ofNat (wd s 5 / 1)) from by rw [Nat.div_one])
  | 24, _ => rfl
  | 25, _ => rfl
  | 26, _ => rfl
  | 27, _ => exact (show some (UInt8.ofNat (wd s 6)) = some (UInt8.ofNat (wd s 6 / 1)) from by rw [Nat.div_one])
  | 28, _ => rfl
  | 29, _ => rfl
  | 30, _ => rfl
  | 31, _ => exact (show some (UInt8.ofNat (wd s 7)) = some (UInt8.ofNat (wd s 7 / 1)) from by rw [Nat.div_one])
  | n + 32, h => exact omega_no n h
def outT (s : St) (i : Nat) : List UInt8 := (outS s).take i ++ zb (32 - i)
theorem outT_length (s : St) {i : Nat} (h : i ≤ 32) : (outT s i).length = 32 := by
  unfold outT
  rw [List.length_append, List.length_take, outS_length, zb_length]
  omega
theorem outT_step (s : St) {i : Nat} (h : i < 32) : (outT s i).set i (ob s i) = outT s (i + 1) := by
  unfold outT
  have hl : ((outS s).take i).length = i := by rw [List.length_take, outS_length]; omega
  rw [List.set_append_right _ _ (by omega), hl, Nat.sub_self, show 32 - i = (32 - (i + 1)) + 1 by omega, List.take_add_one, outS_at s i h]
  simp [zb, List.replicate_succ]
theorem stL_wd (s : St) {k : Nat} (h : k < 8) : (stL s).getD k 0 = wd s k := rfl
theorem rsum_any (v : Value) (b : List UInt8) (w : World) (hs : Sl w v b.length (bvs b)) (hlen : b.length ≤ 1000000) :
    Ret Tryz.prog 130 #[v] w fun v' w' => v' = .agg (bvs (shaS b)).toArray ∧ Ch Nw w w' := by
  refine v_enter Tryz.func130 Tryz.ntmps130 rfl (by simp) fun R' hR => ?_
  obtain ⟨Z, hZ⟩ : ∃ z, (bvs (zb 32)).toArray = z := ⟨_, rfl⟩
  have hzc : zc Tryz.prog 34 = Z := by rw [← hZ]; kernel_rfl
  have hzz : (Tryz.prog.info? 34).map (fun i => i.zero.isSome) = some true := by kernel_rfl
  have hZs : Z.size = 32 := by rw [← hZ]; simp [bvs_length, zb_length]
  have c1 := (Ch.refl Nw w).alloc (.cells Z 34)
  have b2 := hp_alloc w (.cells Z 34)
  simp [go_sem, hzc, hzz]
  have c2 := c1.alloc (.cells #[.int .u32 1779033703, .int .u32 3144134277, .int .u32 1013904242, .int .u32 2773480762, .int .u32 1359893119, .int .u32 2600822924, .int .u32 528734635, .int .u32 1541459225] 32)
  have bS := hp_alloc (w.alloc (.cells Z 34)) (.cells #[.int .u32 1779033703, .int .u32 3144134277, .int .u32 1013904242, .int .u32 2773480762, .int .u32 1359893119, .int .u32 2600822924, .int .u32 528734635, .int .u32 1541459225] 32)
  rw [show (w.alloc (.cells Z 34)).heap.size = w.heap.size + 1 by simp] at bS
  have hs3 : Sl _ (.slice (some ⟨w.heap.size + 1, 0, none⟩) 8 8) 8 (w32 (stL first)) := Sl.of_blk bS (Nat.le_refl _) (by decide) rfl
  have b2 := ((Ch.refl Nw (w.alloc (.cells Z 34))).alloc (.cells #[.int .u32 1779033703, .int .u32 3144134277, .int .u32 1013904242, .int .u32 2773480762, .int .u32 1359893119, .int .u32 2600822924, .int .u32 528734635, .int .u32 1541459225] 32)).hp b2 id
  revert c2 hs3 b2
  clear bS c1
  generalize (w.alloc (.cells Z 34)).alloc (.cells #[.int .u32 1779033703, .int .u32 3144134277, .int .u32 1013904242, .int .u32 2773480762, .int .u32 1359893119, .int .u32 2600822924, .int .u32 528734635, .int .u32 1541459225] 32) = w1
  generalize hq : w.heap.size = q
  intro c2 hs3 b2
  refine (filled_any v b w1 (hs.ch c2 fun _ _ e => e) hlen).mono ?_
  rintro v4 w2 hm4
  have hmod : (b ++ padS b.length).length % 64 = 0 := by
    unfold padS
    simp only [List.length_append, zb_length, bej_length, List.length_cons, List.length_nil]
    omega
  have hml : (b ++ padS b.length).length ≤ 1000200 := by
    unfold padS
    simp only [List.length_append, zb_length, bej_length, List.length_cons, List.length_nil]
    omega
  have hsha : shaS b = outS (absorb first (b ++ padS b.length)).1 := rfl
  rw [hsha] at hR
  have hs4 := hm4.sl
  have b2 := hm4.ch.hp b2 id
  have hs3 := hs3.ch hm4.ch fun _ _ e => e
  have c3 := c2.trans hm4.ch
  clear hsha
  generalize b ++ padS b.length = M at *
  have hlM := hs4.len Tryz.underlying62 3
  simp [go_sem]
  refine v_loop (fun r f u => ∃ (k : Nat) (S : St), 64 * k ≤ M.length ∧ r = M.length - 64 * k ∧ f 2 = .pointer (some ⟨q, 0, none⟩) ∧ f 4 = v4 ∧ f 5 = .int .i64 ((64 * k : Nat) : Int) ∧ Sl u (f 3) 8 (w32 (stL S)) ∧ StOk S ∧ absorb first M = absorb S (M.drop (64 * k)) ∧ Ch Nw w2 u) M.length
    ⟨0, first, by omega, by omega, by simp, by simp, by simp, by simpa using hs3, first_ok, by simp, Ch.refl _ _⟩ ?_
  rintro J hJ _ f u ⟨k, S, hk, rfl, f2, f4, f5, hs3', okS, hab, cu⟩
  by_cases hlt : 64 * k < M.length
  · have hlt' : ((64 * k : Nat) : Int) < M.length := by omega
    have h64 : 64 * k + 64 ≤ M.length := by omega
    obtain ⟨v5, hs5, ho5, hr5, _, _⟩ := (hs4.ch cu fun _ _ e => e).cut tyB (bvs_length M) (64 * k) (64 * k + 64) (by omega) h64
    have hwk : IntKind.i64.wrap (((64 * k : Nat) : Int) + 64) = ((64 * k + 64 : Nat) : Int) := by rw [IntKind.wrap_i64]; omega
    have hs5 : Sl u v5 64 (bvs ((M.drop (64 * k)).take 64)) := by
      have e : ((bvs M).take (64 * k + 64)).drop (64 * k) = bvs ((M.drop (64 * k)).take 64) := by
        rw [bvs, bvs, List.map_take, List.map_drop, List.drop_take, show 64 * k + 64 - 64 * k = 64 by omega]
      rw [e] at hs5
      rwa [show 64 * k + 64 - 64 * k = 64 by omega] at hs5
    have hl64 : ((M.drop (64 * k)).take 64).length = 64 := by rw [List.length_take, List.length_drop]; omega
    have hstep : absorb S (M.drop (64 * k)) = absorb (takeS S ((M.drop (64 * k)).take 64)) (M.drop (64 * (k + 1))) := by
      rw [absorb_step (by rw [List.length_drop]; omega), List.drop_drop, show 64 * k + 64 = 64 * (k + 1) by omega]
    have okt := takeS_ok S ((M.drop (64 * k)).take 64)
    rw [show 64 * (k + 1) = 64 * k + 64 by omega] at hstep
    have hJ' := fun f u => hJ (M.length - (64 * k + 64)) f u
    obtain ⟨n, hn⟩ : ∃ n, 64 * k = n := ⟨_, rfl⟩
    rw [hn] at hlt hlt' h64 hr5 hwk hs5 hl64 hstep okt f5
    have hwk : IntKind.i64.wrap ((n : Int) + 64) = (n : Int) + 64 := by rw [hwk]; omega
    have hr5 : ∀ w', (Instr.sliceAt 62 v4 (some (.int .i64 n)) (some (.int .i64 ((n : Int) + 64))) none).run Tryz.prog w' = .ok v5 w' := fun w' => by
      have := hr5 w'
      rwa [show ((n + 64 : Nat) : Int) = (n : Int) + 64 by omega] at this
    simp [go_sem, f4, f5, hlM, hlt', hwk, hr5]
    have hs3u := hs3'
    obtain ⟨a3, ha3⟩ : ∃ a, f 3 = a := ⟨_, rfl⟩
    rw [ha3] at hs3u
    simp only [ha3]
    refine (rtk_any S a3 v5 _ u okS hl64 hs3u hs5).mono ?_
    rintro v6 w6 hm6
    generalize takeS S ((M.drop n).take 64) = S' at *
    simp [go_sem, f5, hwk]
    refine Rnd.intro (M.length - (n + 64)) (by omega) (hJ _ _ _ ⟨k + 1, S', by omega, by omega, by simp [f2], by simp [f4], by simp; omega, by simpa using hm6.sl, okt, ?_, cu.trans hm6.ch⟩)
    rw [hab, hn, hstep, show 64 * (k + 1) = n + 64 by omega]
  · have hend : 64 * k = M.length := by omega
    rw [List.drop_of_length_le (by omega), absorb_end (s := S) (l := []) (by decide)] at hab
    rw [hab] at hR
    have hge : ¬ ((64 * k : Nat) : Int) < M.length := by omega
    obtain ⟨n, hn⟩ : ∃ n, 64 * k = n := ⟨_, rfl⟩
    rw [hn] at hge f5
    obtain ⟨a3, ha3⟩ : ∃ a, f 3 = a := ⟨_, rfl⟩
    rw [ha3] at hs3'
    have cA := (Ch.refl Nw u).alloc (.cells Z 34)
    have b6 := hp_alloc u (.cells Z 34)
    have bq := cA.hp (cu.hp b2 id) id
    have hs3a := hs3'.ch cA fun _ _ e => e
    have cB := (c3.trans cu).trans cA
    have hqu : q < u.heap.size := lt_of_block (cu.hp b2 id)
    have hown3 : ∀ kk, a3.ownBlock = some kk → kk ≠ u.heap.size := fun kk hkk => by
      obtain ⟨A, c, rfl, _, _, h3⟩ := id hs3'
      obtain ⟨ad, rfl, h4⟩ := h3 (by rw [w32_length, stL_length]; decide)
      have := World.block_lt_of_cell? u _ (h4 0 _ rfl)
      simp [Value.ownBlock] at hkk
      simp [block_of_add] at this
      omega
    simp [go_sem, f4, f5, hlM, hge, hzc, hzz]
    revert b6 bq hs3a cB
    clear cA
    generalize u.alloc (.cells Z 34) = u1
    generalize u.heap.size = q6 at *
    intro b6 bq hs3a cB
    refine v_loop (fun r g y => ∃ i, i ≤ 32 ∧ r = 32 - i ∧ g 2 = .pointer (some ⟨q, 0, none⟩) ∧ g 3 = a3 ∧ g 6 = .pointer (some ⟨q6, 0, none⟩) ∧ g 7 = .int .i64 i ∧ y.heap[q6]? = some (.cells (bvs (outT S i)).toArray 34 (0, 0)) ∧ Ch (only q6) u1 y) 32
      ⟨0, by omega, rfl, by simp [f2], by simp [ha3], by simp, by simp, by rw [show outT S 0 = zb 32 from rfl, hZ]; exact b6, Ch.refl _ _⟩ ?_
    clear hJ J
    rintro J hJ _ g y ⟨i, hi, rfl, g2, g3, g6, g7, hy, cy⟩
    by_cases hi32 : i < 32
    · have hii : (i : Int) < 32 := by omega
      have hwi : IntKind.i64.wrap ((i : Int) + 1) = ((i + 1 : Nat) : Int) := by simp [IntKind.wrap_i64]; omega
      have hq4 : IntKind.i64.wrap ((i : Int) / 4) = (i : Int) / 4 := by rw [IntKind.wrap_i64]; omega
      have hr4 : (i : Int).tmod 4 = (i : Int) % 4 := Int.tmod_eq_emod_of_nonneg (by omega)
      obtain ⟨A1, p1, y1, hA1⟩ := w32_at (hs3a.ch cy fun kk hkk e => by simp only [only] at e; exact hown3 kk hkk (by omega)) (stL_length S) (i := i / 4) (by omega)
      have p1 : ∀ w', (Instr.indexAt 85 a3 (.int .i64 ((i : Int) / 4))).run Tryz.prog w' = .ok (.pointer (some A1)) w' := fun w' => by
        have := p1 w'
        rwa [show ((i / 4 : Nat) : Int) = (i : Int) / 4 by omega] at this
      rw [stL_wd S (by omega)] at y1
      have hwd := wd_lt okS (k := i / 4) (by omega)
      have hset := outT_step S hi32
      have hob : ob S i = UInt8.ofNat (wd S (i / 4) / 256 ^ (3 - i % 4)) := rfl
      obtain ⟨x, hx⟩ : ∃ x, wd S (i / 4) = x := ⟨_, rfl⟩
      rw [hx] at y1 hwd hob
      simp [go_sem, g3, g7, hii, hq4, hr4, p1, y1]
      obtain ⟨m, hm⟩ : ∃ m, i % 4 = m := ⟨_, rfl⟩
      have hm3 : m ≤ 3 := by omega
      have hmi : (i : Int) % 4 = m := by omega
      rw [hm] at hob
      refine v_loop (fun r h z => ∃ j, m ≤ j ∧ j ≤ 3 ∧ r = 3 - j ∧ h 2 = .pointer (some ⟨q, 0, none⟩) ∧ h 3 = a3 ∧ h 6 = .pointer (some ⟨q6, 0, none⟩) ∧ h 7 = .int .i64 i ∧ h 8 = .int .u32 (x / 256 ^ (j - m) : Nat) ∧ h 9 = .int .i64 j ∧ z = y) (3 - m)
        ⟨m, by omega, by omega, rfl, by simp [g2], by simp [g3], by simp [g6], by simp [g7], by simp, by simp [hmi], rfl⟩ ?_
      rintro J' hJ' _ h z ⟨j, hmj, hj, rfl, h2, h3, h6, h7, h8, h9, rfl⟩
      by_cases hj3 : j < 3
      · have hji : (j : Int) < 3 := by omega
        have hwj : IntKind.i64.wrap ((j : Int) + 1) = ((j + 1 : Nat) : Int) := by simp [IntKind.wrap_i64]; omega
        have hnx : x / 256 ^ (j + 1 - m) = x / 256 ^ (j - m) / 256 := by rw [show j + 1 - m = (j - m) + 1 by omega, Nat.pow_succ, Nat.div_div_eq_div_mul]
        have hlt : x / 256 ^ (j - m) ≤ x := Nat.div_le_self _ _
        obtain ⟨x2, hx2⟩ : ∃ z, x / 256 ^ (j + 1 - m) = z := ⟨_, rfl⟩
        rw [hx2] at hnx
        generalize x / 256 ^ (j - m) = x1 at *
        have hqd : IntKind.u32.wrap ((x1 : Int) / 256) = (x2 : Int) := by rw [IntKind.wrap_u32]; omega
        simp [go_sem, h8, h9, hji, hwj, hqd]
        exact Rnd.intro (3 - (j + 1)) (by omega) (hJ' _ _ _ ⟨j + 1, by omega, by omega, rfl, by simp [h2], by simp [h3], by simp [h6], by simp [h7], by simp [hx2], by simp, rfl⟩)
      · obtain rfl : j = 3 := by omega
        have hlt : x / 256 ^ (3 - m) ≤ x := Nat.div_le_self _ _
        generalize x / 256 ^ (3 - m) = x1 at *
        have hr : ((x1 : Nat) : Int).tmod 256 = ((x1 % 256 : Nat) : Int) := by rw [Int.tmod_eq_emod_of_nonneg (by omega)]; omega
        have hu8 : IntKind.u8.wrap ((x1 : Int) % 256) = ((ob S i).toNat : Int) := by rw [hob, IntKind.wrap_u8, UInt8.toNat_ofNat']; omega
        obtain ⟨c0, hc0⟩ : ∃ c, (bvs (outT S i)).toArray[i]? = some (bv c) := ⟨(outT S i)[i]'(by rw [outT_length S hi]; omega), by
          rw [List.getElem?_toArray]
          exact bvs_get (List.getElem?_eq_getElem _)⟩
        have pc := (cell_blk hy i).trans hc0
        have zc := frz_blk hy i
        simp [go_sem, h6, h7, h8, h9, hr, hii, hwi, pc, zc]
        rw [hu8]
        refine Rnd.intro (32 - (i + 1)) (by omega) (hJ _ _ _ ⟨i + 1, by omega, rfl, by simp [h2], by simp [h3], by simp [h6], by simp, ?_, cy.setCell (p := ⟨q6, i, none⟩) (.inl rfl) _⟩)
        rw [hp_setCell, hy, setOf_cells, show Value.int .u8 ((ob S i).toNat : Int) = bv (ob S i) from rfl, bvs_set, hset]
    · obtain rfl : i = 32 := by omega
      rw [show outT S 32 = outS S by unfold outT; rw [List.take_of_length_le (by rw [outS_length]; decide)]; simp [zb]] at hy
      have bq := cy.hp bq (by simp only [only]; omega)
      obtain ⟨Y, hY⟩ : ∃ z, (bvs (outS S)).toArray = z := ⟨_, rfl⟩
      have hYs : Y.size = 32 := by rw [← hY]; simp [bvs_length, outS_length]
      have hYo : ones Y = true := by rw [← hY]; exact ones_bvs _
      have hYa : Y.extract 0 32 = Y := by rw [show (32 : Nat) = Y.size from hYs.symm]; simp
      rw [hY] at hy hR
      have b9 : (y.setRow q Y).heap[q]? = some (.cells Y 34 (0, 0)) := by rw [hp_setRow, bq]; rfl
      simp [go_sem, g2, g6, g7, hy, bq, hYs, hYa, hZs, hYo, blit_whole, b9]
      exact hR _ _ ⟨rfl, (cB.trans' cy fun j hj e => by simp only [only] at e; have := c3.size; have := cu.size; omega).setRow (g := q) (.inr (by omega)) _⟩
theorem rdigest_any (p : Pt) (v : Value) (b : List UInt8) (w : World) (ok : PtOk p) (hs : Sl w v b.length (bvs b)) (hlen : b.length ≤ 900000) :
    Ret Tryz.prog 129 #[.agg (pt p), v] w fun v' w' => v' = .agg (bvs (digS p b)).toArray ∧ Ch Nw w w' := by
  refine v_enter Tryz.func129 Tryz.ntmps129 rfl (by simp) fun R' hR => ?_
  obtain ⟨Z, hZ⟩ : ∃ z, (bvs (zb 32)).toArray = z := ⟨_, rfl⟩
  have hzc : zc Tryz.prog 34 = Z := by rw [← hZ]; kernel_rfl
  have hzz : (Tryz.prog.info? 34).map (fun i => i.zero.isSome) = some true := by kernel_rfl
  have hZs : Z.size = 32 := by rw [← hZ]; simp [bvs_length, zb_length]
  have hpl := putP_length ok
  have hps := pt_size ok
  have hpa := pt_all ok
  have c1 := ((Ch.refl Nw w).alloc (.cells (pt p) 37)).alloc (.cells Z 34)
  have b0 := al2_0 w (.cells (pt p) 37) (.cells Z 34)
  have b4 := al2_1 w (.cells (pt p) 37) (.cells Z 34)
  simp [go_sem, hzc, hzz, hps, hpa]
  revert c1 b0 b4
  generalize (w.alloc (.cells (pt p) 37)).alloc (.cells Z 34) = w1
  generalize hq : w.heap.size = q at *
  intro c1 b0 b4
  refine (rbytes_any p w1 ok).mono ?_
  rintro v6 w2 hm6
  obtain ⟨s2, hs2, ho2, _, hr2, _⟩ := hm6.sl.cut tyB (by simp [bvs_length, hpl]) 0 16 (by decide) (by decide)
  replace hr2 : ∀ w', (Instr.sliceAt 62 v6 none (some (.int .i64 16)) none).run Tryz.prog w' = .ok s2 w' := hr2 rfl
  have hl16 : ((putP p).take 16).length = 16 := by rw [List.length_take]; omega
  have hs2 : Sl w2 s2 16 (bvs ((putP p).take 16)) := by
    rw [bvs, List.map_take]
    simpa [bvs] using hs2
  simp [go_sem, hr2]
  refine VB_copyOf tyB hs2 (by rw [bvs_length, hl16]) (bvs_one _) (by decide) (by decide) fun v8 w3 d1 d2 d3 => ?_
  have c13 := (c1.trans hm6.ch).trans d2
  simp [go_sem]
  refine VB_appn tyB d1 (hs.ch c13 fun _ _ e => e) (bvs_length b) (bvs_one _) (by unfold maxLen; omega) (by omega) fun v9 w4 e1 e2 e3 => ?_
  have c4 : Ch Nw w w4 := c13.trans' e2 fun j hj e => by have := d3 j e; have := (c1.trans hm6.ch).size; omega
  have hs9 := Sl.of_own e1
  rw [← bvs_append, show 16 + b.length = ((putP p).take 16 ++ b).length by rw [List.length_append, hl16]] at hs9
  simp [go_sem]
  refine (rsum_any v9 _ w4 hs9 (by rw [List.length_append, hl16]; omega)).mono ?_
  rintro _ w5 ⟨rfl, c5⟩
  have hb4 := c5.hp ((c13.trans' e2 fun j hj e => by have := d3 j e; have := (c1.trans hm6.ch).size; omega : Ch Nw w w4) |> fun _ => (((hm6.ch.trans d2).trans' e2 fun j hj e => by have := d3 j e; have := hm6.ch.size; omega).hp b4 id)) id
  rw [show shaS ((putP p).take 16 ++ b) = digS p b from rfl]
  obtain ⟨Y, hY⟩ : ∃ z, (bvs (digS p b)).toArray = z := ⟨_, rfl⟩
  have hYs : Y.size = 32 := by rw [← hY]; simp [bvs_length, digS_length]
  have hYo : ones Y = true := by rw [← hY]; exact ones_bvs _
  have hYa : Y.extract 0 32 = Y := by rw [show (32 : Nat) = Y.size from hYs.symm]; simp
  rw [hY] at hR ⊢
  have b9 : (w5.setRow (q + 1) Y).heap[q + 1]? = some (.cells Y 34 (0, 0)) := by rw [hp_setRow, hb4]; rfl
  simp [go_sem, hb4, hYs, hYa, hZs, hYo, blit_whole, b9]
  exact hR _ _ ⟨rfl, (c4.trans c5).setRow (g := q + 1) (.inr (by omega)) _⟩
end Go.Proofs.YtnefdmbdkljifaaGreatDoor
