/- A table that is known, walked; steps of a shelf that is kept. Conditions: the variables ptr.wide and tree.hole hold what the text lays. -/
import Derived.Test.YtnefdmbdkljifaaGreatDoorTbV
import Derived.Test.YtnefdmbdkljifaaGreatDoorKep
set_option linter.unusedSimpArgs false
set_option linter.unusedVariables false

namespace Go.Kin
open Go Go.RowKit
theorem blit2 {Z cs ds : Array Value} (hZ : Z.size = cs.size + ds.size) : blit (blit Z 0 cs) cs.size ds = cs ++ ds := by
  apply Array.ext'
  simp [blit]
  omega
theorem run_buildSlice2 {P : Program} {t e size : Nat} {cs ds : Array Value} {z : Value} (ht : P.underlying t = some (.slice e)) (hs : ∀ w, (sizeOf e).run P w = .ok size w) (hz : (P.info? e).bind (·.zero) = some z) (hc : cs.size = size) (hd : ds.size = size) (h0 : 0 < size) (h24 : size ≤ 8388608) (w : World) :
    (Instr.buildSlice t 2 #[(0, .agg cs), (1, .agg ds)]).run P w = .ok (.slice (some ⟨w.heap.size, 0, none⟩) 2 2) (w.alloc (.cells (cs ++ ds) e)) := by
  cases hi : P.info? e with
  | none => simp [hi] at hz
  | some i =>
    simp [hi] at hz
    have hf : ∀ Z : Array Value, Z.size = 2 * size → fillB (fun i => some (i * size, size)) Z [(0, .agg cs), (1, .agg ds)] = some (cs ++ ds) := fun Z hZ => by
      have e1 : (blit Z 0 cs).size = 2 * size := by rw [blit_size (by omega), hZ]
      have e2 := blit2 (Z := Z) (cs := cs) (ds := ds) (by omega)
      rw [hc] at e2
      have g1 : size ≤ Z.size := by omega
      have g2 : size + size ≤ (blit Z 0 cs).size := by omega
      simp [fillB, Value.cells, hc, hd, g1, g2, e2]
    have hf := hf ((Array.range (2 * size)).map fun x => z.cells[x % z.cells.size]!) (by simp)
    rw [← fill_eq] at hf
    have q1 : ¬ 2 * size = 0 := by omega
    have q2 : ¬ 16777216 < 2 * size := by omega
    simp [Instr.buildSlice, run_underlying ht, hs, zeroValue, typeInfo, hi, hz, q1, q2, newRow, show ¬ size = 0 by omega]
    simp only [hf]
    simp
/-- a slice of two values, built: as a constant -/
def VBs2 (P : Program) (t : TypeId) (v v2 : Value) (w : World) (K : Value → World → Prop) : Prop := VR ((Instr.buildSlice t 2 #[(0, v), (1, v2)]).run P w) K
theorem VX_bsl2 (P : Program) (ρ : Operand → Value) (w : World) (K : Value → World → Prop) (d : Option Tmp) (ty : TypeId) (pos : String) (aft : Array Edge) (g : Option (Nat × Bool)) (t : TypeId) (x y : Operand) :
    VX P ρ ⟨d, .buildSlice t 2 [(0, x), (1, y)].toArray, ty, pos, aft, g⟩ w K = VBs2 P t (ρ x) (ρ y) w K := by
  rw [VX_buildSlice]
  rfl
theorem VBs2_run {P : Program} {t : TypeId} {v v2 v' : Value} {w w' : World} {K : Value → World → Prop} (h : (Instr.buildSlice t 2 #[(0, v), (1, v2)]).run P w = .ok v' w') (hk : K v' w') : VBs2 P t v v2 w K := by
  unfold VBs2 VR
  rw [h]
  exact hk
attribute [irreducible] VBs2
end Go.Kin
namespace Go.Proofs.YtnefdmbdkljifaaGreatDoor
open Go.RowKit Go.Kin

theorem bld_ino2 (k n : Nat) {w : World} {K : Value → World → Prop} : VBld Tryz.prog 56 [(0, .int .u8 k), (1, .int .u16 n)] w K = K (.agg (ino ⟨k, n, 0, ptz⟩)) w := by
  refine VBld_struct Tryz.underlying56 hz_ino (places := #[(0, 1), (1, 1), (2, 1), (3, 41)]) (by simp [go_sem]) ?_
  have hz : (ino inz).size = 44 := ino_size inz_ok
  simp [fillB, zc_ino, Value.cells, hz, blit_size, blit_ino2]
section
variable {g : Nat} {W W0 w w0 : World} {K Bk : Nat → Prop} {s : Shf}
theorem kept_gl {O : Nat → Prop} (envW : TEnv W) (hW : ∀ k, O k → W.heap.size ≤ k) : GlOk (ShH g W0 Bk) O := .inl fun k hk e => by
  have := hW k e
  have := envW.lt k hk
  omega
theorem kset (kp : Keep W w0 w K (ShH g W0 Bk s)) (envW : TEnv W) (hm : 9000 ≤ shM s) (p : Pt) (ok : PtOk p) (lv : Value) (l : List (Nat × In)) (hl : Lst w lv itL 45 l) (hin : ∀ x ∈ l, ItOk x) (hlK : ∀ j, lv.ownBlock = some j → K j) (hll : l.length ≤ 1000) :
    Ret Tryz.prog 8 #[shV g, .agg (pt p), lv] w fun v' w' => (v' = .tuple #[.agg (pt (btset shRd shNw shOd s p l).2.1), .int .i64 (btset shRd shNw shOd s p l).2.2] ∧ PtOk (btset shRd shNw shOd s p l).2.1) ∧ Keep W w0 w' K (ShH g W0 Bk (btset shRd shNw shOd s p l).1) :=
  kp.step fun O hS hW hK => (btset_any (shSnk g W0 Bk) hm (ShH.ok _ _ _) hS p ok lv l hl hin (fun j hj => ⟨hK j (hlK j hj), Nat.lt_of_lt_of_le (kp.lt j (hlK j hj)) kp.ck.size⟩) hll (envW.ch kp.ch fun _ _ e => e) (kept_gl envW hW)).mono fun v' w' ⟨h1, h2, h3, h4⟩ => ⟨⟨h1, h2⟩, h3, h4⟩
theorem kget (kp : Keep W w0 w K (ShH g W0 Bk s)) (envW : TEnv W) (hm : 48 ≤ shM s) (p : Pt) (ok : PtOk p) (n : Nat) (hn : n < 65536) :
    Ret Tryz.prog 13 #[shV g, .agg (pt p), .int .u16 n] w fun v' w' => v' = .tuple #[.agg (ino (btget shRd s p n).2.1), .int .i64 (btget shRd s p n).2.2] ∧ Keep W w0 w' K (ShH g W0 Bk (btget shRd s p n).1) :=
  kp.step fun O hS hW hK => btget_any (shSnk g W0 Bk).rd hm (ShH.ok _ _ _) hS p ok n hn (envW.ch kp.ch fun _ _ e => e) (kept_gl envW hW)
theorem kall (kp : Keep W w0 w K (ShH g W0 Bk s)) (envW : TEnv W) (hm : 1200 ≤ shM s) (p : Pt) (ok : PtOk p) :
    Ret Tryz.prog 14 #[shV g, .agg (pt p)] w fun v' w' => ∃ vi vn, v' = .tuple #[vi, vn, .int .i64 (btall shRd s p).2.2.2] ∧ w'.ownsRow 0 76 45 vi (btall shRd s p).2.1.length (rowsL itv (btall shRd s p).2.1) ∧ w'.ownsRow 0 37 41 vn (btall shRd s p).2.2.1.length (rowsL pt (btall shRd s p).2.2.1) ∧
      Keep W w' w' (fun k => K k ∨ vi.ownBlock = some k ∨ vn.ownBlock = some k) (ShH g W0 Bk (btall shRd s p).1) ∧ Ch (fun k => ¬ K k) w0 w' := by
  have h := kp.stepO (R := fun v' w' O' => ∃ vi vn, v' = .tuple #[vi, vn, .int .i64 (btall shRd s p).2.2.2] ∧ w'.ownsRow 0 76 45 vi (btall shRd s p).2.1.length (rowsL itv (btall shRd s p).2.1) ∧ w'.ownsRow 0 37 41 vn (btall shRd s p).2.2.1.length (rowsL pt (btall shRd s p).2.2.1) ∧ (∀ k, vi.ownBlock = some k → ¬ O' k) ∧ ∀ k, vn.ownBlock = some k → ¬ O' k) (H' := ShH g W0 Bk (btall shRd s p).1) fun O hS hW hK =>
    (btall_any (shSnk g W0 Bk).rd hm (ShH.ok _ _ _) hS p ok (envW.ch kp.ch fun _ _ e => e) (kept_gl envW hW)).mono fun v' w' ⟨vi, vn, O', h1, h2, h3, h4, h5, h6, h7, h8⟩ => ⟨O', ⟨vi, vn, h1, h2, h3, fun k hk => (h6 k hk).1, fun k hk => (h7 k hk).1⟩, h4, h5, h8⟩
  refine h.mono ?_
  rintro v' w' ⟨O', ⟨vi, vn, h1, h2, h3, h4, h5⟩, h6, h7, h8⟩
  exact ⟨vi, vn, h1, h2, h3, h6 _ fun k hk => by
    rcases hk with hk | hk | hk
    · exact h7 k hk
    · exact ⟨h4 k hk, own_in h2 k hk⟩
    · exact ⟨h5 k hk, own_in h3 k hk⟩, h8⟩
end
set_option maxRecDepth 100000 in
set_option maxHeartbeats 8000000 in
theorem kwakes_any (w : World) (env : TEnv w) : Ret Tryz.prog 7 #[] w fun v' w' => v' = .bool true ∧ Ch Nw w w' := by
  refine v_enter Tryz.func7 Tryz.ntmps7 rfl (by simp) fun R' hR => ?_
  have hns := ino_size wti_ok
  have hna := ino_all wti_ok
  have hnz := ino_size inz_ok
  have hzs := pt_size ptz_ok
  have hza := pt_all ptz_ok
  have hi1 : ItOk (1, wti) := ⟨by decide, wti_ok⟩
  have hi5 : ItOk (5, wti) := ⟨by decide, wti_ok⟩
  have bi1 : ∀ {w : World} {K : Value → World → Prop}, VBld Tryz.prog 76 [(0, .int .u16 1), (1, .agg (ino wti))] w K = K (.agg (itv (1, wti))) w := fun {w K} => bld_it (1, wti) hi1
  have bi5 : ∀ {w : World} {K : Value → World → Prop}, VBld Tryz.prog 76 [(0, .int .u16 5), (1, .agg (ino wti))] w K = K (.agg (itv (5, wti))) w := fun {w K} => bld_it (5, wti) hi5
  have bn : ∀ {w : World} {K : Value → World → Prop}, VBld Tryz.prog 56 [(0, .int .u8 1), (1, .int .u16 1)] w K = K (.agg (ino wti)) w := fun {w K} => bld_ino2 1 1
  obtain ⟨n12, hn12⟩ : ∃ x, wti = x := ⟨_, rfl⟩
  rw [hn12] at hns hna hi1 hi5 bi1 bi5 bn
  have b0 := al2_0 w (.cells #[.slice none 0 0, .slice none 0 0, .slice none 0 0, .slice none 0 0, .int .i64 (-1), .slice none 0 0] 30) (.cells (ino n12) 56)
  have b1 := al2_1 w (.cells #[.slice none 0 0, .slice none 0 0, .slice none 0 0, .slice none 0 0, .int .i64 (-1), .slice none 0 0] 30) (.cells (ino n12) 56)
  have ca := ((Ch.refl Nw w).alloc (.cells #[.slice none 0 0, .slice none 0 0, .slice none 0 0, .slice none 0 0, .int .i64 (-1), .slice none 0 0] 30)).alloc (.cells (ino n12) 56)
  have sa : ((w.alloc (.cells #[.slice none 0 0, .slice none 0 0, .slice none 0 0, .slice none 0 0, .int .i64 (-1), .slice none 0 0] 30)).alloc (.cells (ino n12) 56)).heap.size = w.heap.size + 2 := by simp
  obtain ⟨w1, hw1⟩ : ∃ w1, (w.alloc (.cells #[.slice none 0 0, .slice none 0 0, .slice none 0 0, .slice none 0 0, .int .i64 (-1), .slice none 0 0] 30)).alloc (.cells (ino n12) 56) = w1 := ⟨_, rfl⟩
  rw [hw1] at b0 b1 ca sa
  have hsr := setRow_alloc (w.alloc (.cells #[.slice none 0 0, .slice none 0 0, .slice none 0 0, .slice none 0 0, .int .i64 (-1), .slice none 0 0] 30)) (ino inz) (ino n12) 56 (0, 0)
  rw [show (w.alloc (.cells #[.slice none 0 0, .slice none 0 0, .slice none 0 0, .slice none 0 0, .int .i64 (-1), .slice none 0 0] 30)).heap.size = w.heap.size + 1 by simp, hw1] at hsr
  simp [↓VX_bsl2, go_sem, bld_sh, bn, hz_ino, zc_ino, hns, hna, hnz, blit_whole, hsr, b1, bld_pt0, bi1, bi5]
  clear hsr hw1
  obtain ⟨g, hg⟩ : ∃ g, w.heap.size = g := ⟨_, rfl⟩
  rw [hg] at b0 b1 sa ⊢
  have hgl : ∀ k, glT k → k < g := fun k hk => by have := env.lt k hk; omega
  have kp1 : Keep w w1 w1 (Kin.one (g + 1)) (ShH g w (fun _ => False) sh0) := ⟨⟨Kin.one g, ShH.new w b0, fun k hk => by simp only [Kin.one] at hk; omega, fun k hk e => by simp only [Kin.one] at hk e; omega⟩, fun k hk => by simp only [Kin.one] at hk; omega, Ch.refl _ _, ca⟩
  refine VBs2_run (run_buildSlice2 (size := 45) (z := .agg (itv (0, inz))) Tryz.underlying43 Tryz.sizeOf76 (by kernel_rfl) (itv_size hi1) (itv_size hi5) (by decide) (by decide) _) ?_
  have c2 := (Ch.refl Nw w1).alloc (.cells (itv (1, n12) ++ itv (5, n12)) 76)
  have b2 := hp_alloc w1 (.cells (itv (1, n12) ++ itv (5, n12)) 76)
  have s2 : (w1.alloc (.cells (itv (1, n12) ++ itv (5, n12)) 76)).heap.size = g + 3 := by simp [sa]
  rw [sa] at b2 ⊢
  have hin2 : ∀ x ∈ [(1, n12), (5, n12)], ItOk x := fun x hx => by
    simp at hx
    rcases hx with rfl | rfl
    · exact hi1
    · exact hi5
  have hsz : ∀ x ∈ [(1, n12), (5, n12)], (itv x).size = 45 := fun x hx => itv_size (hin2 x hx)
  have own2 : (w1.alloc (.cells (itv (1, n12) ++ itv (5, n12)) 76)).ownsRow 0 76 45 (.slice (some ⟨g + 2, 0, none⟩) 2 2) [(1, n12), (5, n12)].length (rowsL itv [(1, n12), (5, n12)]) := by
    have e : (itv (1, n12) ++ itv (5, n12)).toList = rowsL itv [(1, n12), (5, n12)] := by simp [rowsL]
    have e2 : (itv (1, n12) ++ itv (5, n12)).size = 2 * 45 := by rw [Array.size_append, itv_size hi1, itv_size hi5]
    have e3 := rowsL_length [(1, n12), (5, n12)] hsz
    exact ⟨e3, .inr ⟨g + 2, 2, _, rfl, Nat.zero_le _, b2, Nat.le_refl _, by decide, e2, by rw [e]; exact List.take_of_length_le (by rw [e3]; exact Nat.le_refl _)⟩⟩
  have kp2 := kp1.more (ShH.ok _ _ _ _) c2
  have b12 := c2.obj b1 id
  generalize w1.alloc (.cells (itv (1, n12) ++ itv (5, n12)) 76) = w2 at *
  have hl2 : Lst w2 (.slice (some ⟨g + 2, 0, none⟩) 2 2) itL 45 [(1, n12), (5, n12)] := Lst.of_own own2 hsz
  obtain ⟨K2, hK2⟩ : ∃ K2 : Nat → Prop, (fun k => Kin.one (g + 1) k ∨ (w1.heap.size ≤ k ∧ k < w2.heap.size)) = K2 := ⟨_, rfl⟩
  rw [hK2] at kp2
  have k21 : K2 (g + 1) := by rw [← hK2]; exact .inl rfl
  have k22 : K2 (g + 2) := by rw [← hK2]; exact .inr ⟨by omega, by omega⟩
  have hset := wt_set
  rw [wtI, hn12] at hset
  simp [go_sem]
  refine (kset kp2 env (by simp [shM, sh0]) ptz ptz_ok _ _ hl2 hin2 (fun j hj => by simp [Value.ownBlock] at hj; subst hj; exact k22) (by simp)).mono ?_
  rw [hset]
  rintro _ w3 ⟨⟨rfl, okr⟩, kp3⟩
  have kp3 : Keep w w2 w3 K2 (ShH g w (fun _ => False) wts) := kp3
  have okr : PtOk wtr := okr
  have b13 := kp3.blk k21 b12
  obtain ⟨O3, hS3, _, _⟩ := kp3.ex
  obtain ⟨vB, vD, vM, vG, vR, hb3, hM3, _, _, hMO, hgO, _⟩ := hS3.reads
  have lnM := hM3.len Tryz.underlying28 3
  have okm : ∀ p ∈ wts.made, PtOk p := fun p hp => by
    simp [wts] at hp
    rcases hp with rfl | rfl | rfl | rfl
    · exact wtp0_ok
    · exact wtp1_ok
    · exact wtq_ok
    · exact wtr_ok
  obtain ⟨bM, oM, cM, csM, TM, frM, hvM, hbM, hx3, hz3, _⟩ := ptLst_set hM3 okm (i := 3) (p := wtr) rfl
  obtain ⟨A0, c0, hv0, _, _, hrM⟩ := id hM3
  rw [hvM] at hv0
  injection hv0 with e1 _ e3
  subst e1 e3
  obtain ⟨bM', oM', hAM, _, hcM⟩ := hrM (by decide)
  injection hAM with hAM
  injection hAM with h1a h1b
  subst h1a h1b
  have c00 : w3.cell? ⟨bM, oM, none⟩ = some (.int .u8 4) := hcM 0 wtp0 0 _ rfl rfl
  rw [hvM] at hb3
  have k2c : w3.cell? ⟨g, 2, none⟩ = some (.slice (some ⟨bM, oM, none⟩) 4 cM) := cell_blk hb3 2
  have lnM : ∀ w', (Builtin.len_ #[28] 3 #[.slice (some ⟨bM, oM, none⟩) 4 cM]).run Tryz.prog w' = .ok (.int .i64 4) w' := fun w' => by
    rw [show (.slice (some ⟨bM, oM, none⟩) 4 cM : Value) = vM from hvM.symm]
    exact lnM w'
  obtain ⟨n3, h3, tab⟩ := wt_tab
  obtain ⟨r, hr⟩ : ∃ r, wtr = r := ⟨_, rfl⟩
  rw [hr] at okr hx3 tab ⊢
  have hrs := pt_size okr
  have hra := pt_all okr
  have heqr : ∀ w, (Op.equalIn 10000 37 (.agg (pt r)) (.agg (pt r))).run Tryz.prog w = .ok true w := fun w => by rw [eq_pt w okr okr, decide_eq_true rfl]
  have c4 := (Ch.refl Nw w3).alloc (.cells (pt r) 37)
  have b4 := hp_alloc w3 (.cells (pt r) 37)
  have s4 : (w3.alloc (.cells (pt r) 37)).heap.size = w3.heap.size + 1 := by simp
  obtain ⟨w4, hw4⟩ : ∃ w4, w3.alloc (.cells (pt r) 37) = w4 := ⟨_, rfl⟩
  rw [hw4] at c4 b4 s4
  have kp4 := kp3.base.more (ShH.ok _ _ _ _) c4
  have b14 := c4.obj b13 id
  have c00 := c4.cell c00 id
  have hbM := c4.obj hbM id
  have k2c := c4.cell k2c id
  simp [go_sem, hz_pt, zc_pt, hrs, hra, hzs, blit_whole, hw4]
  obtain ⟨g4, hg4⟩ : ∃ g4, w3.heap.size = g4 := ⟨_, rfl⟩
  obtain ⟨K4, hK4⟩ : ∃ K4 : Nat → Prop, (fun k => K2 k ∨ (w3.heap.size ≤ k ∧ k < w4.heap.size)) = K4 := ⟨_, rfl⟩
  rw [hK4] at kp4
  have k41 : K4 (g + 1) := by rw [← hK4]; exact .inl k21
  have k4r : K4 g4 := by rw [← hK4, ← hg4]; exact .inr ⟨Nat.le_refl _, by omega⟩
  rw [hg4] at b4 ⊢
  clear hw4
  refine v_draw' [(0, none), (1, none), (2, none), (3, none), (4, none), (5, none), (6, none), (7, none), (8, none), (9, none), (10, none), (11, none), (12, none), (13, none), (14, none), (15, none), (16, none), (17, none), (18, none), (19, none), (20, none), (21, none), (22, none), (23, none), (24, none), (25, none), (26, none), (27, none), (28, none), (29, none)] (by kernel_rfl) (by kernel_rfl) ?_
  have cd4 : Ch Nw w4 w4.drew := (Ch.refl _ _).drew
  have kp5 := kp4.stay (ShH.ok _ _ _ _) cd4
  obtain ⟨w5, hw5⟩ : ∃ w5, w4.drew = w5 := ⟨_, rfl⟩
  rw [hw5] at cd4 kp5 ⊢
  have b15 := cd4.obj b14 id
  have b45 := cd4.obj b4 id
  have c005 := cd4.cell c00 id
  have hbM5 := cd4.obj hbM id
  have k2c5 := cd4.cell k2c id
  simp [go_sem, k2c5, lnM, c005, hbM5, hx3, hz3, b45, hrs, hra, heqr]
  have kp5 := kp5.base
  have hm0 : shM wts = 999999992 := rfl
  obtain ⟨l1, hl1, hget1⟩ := TabP.get (s := wts) tab rfl (n := 5) (by decide) (by decide)
  rw [wtv_5, hn12] at hget1
  refine (kget kp5 env (by omega) r okr 5 (by decide)).mono ?_
  rw [hget1]
  rintro _ w6 ⟨rfl, kp6⟩
  have kp6 : Keep w w5 w6 K4 (ShH g w (fun _ => False) (wts.more l1)) := kp6
  have b16 := kp6.blk k41 b15
  have b46 := kp6.blk k4r b45
  have c7 := (Ch.refl Nw w6).alloc (.cells (ino n12) 56)
  have b7 := hp_alloc w6 (.cells (ino n12) 56)
  have s7 : (w6.alloc (.cells (ino n12) 56)).heap.size = w6.heap.size + 1 := by simp
  obtain ⟨w7, hw7⟩ : ∃ w7, w6.alloc (.cells (ino n12) 56) = w7 := ⟨_, rfl⟩
  rw [hw7] at c7 b7 s7
  have kp7 := kp6.base.more (ShH.ok _ _ _ _) c7
  have b17 := c7.obj b16 id
  have b47 := c7.obj b46 id
  simp [go_sem, hz_ino, zc_ino, hns, hna, hnz, blit_whole, hw7, b47, hrs, hra]
  clear hw7
  obtain ⟨g7, hg7⟩ : ∃ g7, w6.heap.size = g7 := ⟨_, rfl⟩
  obtain ⟨K7, hK7⟩ : ∃ K7 : Nat → Prop, (fun k => K4 k ∨ (w6.heap.size ≤ k ∧ k < w7.heap.size)) = K7 := ⟨_, rfl⟩
  rw [hK7] at kp7
  have k71 : K7 (g + 1) := by rw [← hK7]; exact .inl k41
  have k74 : K7 g4 := by rw [← hK7]; exact .inl k4r
  have k77 : K7 g7 := by rw [← hK7, ← hg7]; exact .inr ⟨Nat.le_refl _, by omega⟩
  rw [hg7] at b7 ⊢
  have hm1 := shM_more wts l1
  obtain ⟨l2, hl2', hget2⟩ := TabP.get (s := wts.more l1) tab rfl (n := 2) (by decide) (by decide)
  rw [wtv_2, Shf.more_more] at hget2
  refine (kget kp7 env (by omega) r okr 2 (by decide)).mono ?_
  rw [hget2]
  rintro _ w8 ⟨rfl, kp8⟩
  have kp8 : Keep w w7 w8 K7 (ShH g w (fun _ => False) (wts.more (l1 ++ l2))) := kp8
  have b18 := kp8.blk k71 b17
  have b48 := kp8.blk k74 b47
  have b78 := kp8.blk k77 b7
  have c9 := (Ch.refl Nw w8).alloc (.cells (ino inz) 56)
  have b9 := hp_alloc w8 (.cells (ino inz) 56)
  have s9 : (w8.alloc (.cells (ino inz) 56)).heap.size = w8.heap.size + 1 := by simp
  obtain ⟨w9, hw9⟩ : ∃ w9, w8.alloc (.cells (ino inz) 56) = w9 := ⟨_, rfl⟩
  rw [hw9] at c9 b9 s9
  have kp9 := kp8.base.more (ShH.ok _ _ _ _) c9
  have b19 := c9.obj b18 id
  have b49 := c9.obj b48 id
  have b79 := c9.obj b78 id
  have hnza := ino_all inz_ok
  simp [go_sem, hz_ino, zc_ino, hnz, hnza, blit_whole]
  rw [hw9]
  clear hw9
  simp [go_sem, b49, hrs, hra]
  obtain ⟨g9, hg9⟩ : ∃ g9, w8.heap.size = g9 := ⟨_, rfl⟩
  obtain ⟨K9, hK9⟩ : ∃ K9 : Nat → Prop, (fun k => K7 k ∨ (w8.heap.size ≤ k ∧ k < w9.heap.size)) = K9 := ⟨_, rfl⟩
  rw [hK9] at kp9
  have k91 : K9 (g + 1) := by rw [← hK9]; exact .inl k71
  have k97 : K9 g7 := by rw [← hK9]; exact .inl k77
  have k99 : K9 g9 := by rw [← hK9, ← hg9]; exact .inr ⟨Nat.le_refl _, by omega⟩
  rw [hg9] at b9 ⊢
  have hm2 := shM_more wts (l1 ++ l2)
  rw [List.length_append] at hm2
  obtain ⟨l3, hl3, hall⟩ := TabP.all (s := wts.more (l1 ++ l2)) tab rfl
  have hblk := tab.blocks
  rw [wtv_blk] at hblk
  rw [wtv_its, wtI, hn12] at hall
  obtain ⟨ps, hps⟩ : ∃ ps, nodesOf r n3 ++ (lvsOf h3 64).map (·.2) = ps := ⟨_, rfl⟩
  rw [hps] at hall hblk
  refine (kall kp9 env (by omega) r okr).mono ?_
  rw [hall]
  rintro _ w10 ⟨vi, vn, rfl, own_i, own_n, kp10, c10⟩
  have b110 := c10.obj b19 fun e => e k91
  have b710 := c10.obj b79 fun e => e k97
  have b910 := c10.obj b9 fun e => e k99
  have own_i : w10.ownsRow 0 76 45 vi [(1, n12), (5, n12)].length (rowsL itv [(1, n12), (5, n12)]) := own_i
  have own_n : w10.ownsRow 0 37 41 vn ps.length (rowsL pt ps) := own_n
  have hLi : Lst w10 vi (fun x => (itv x).toList) 45 [(1, n12), (5, n12)] := Lst.of_own own_i hsz
  have lni := hLi.len Tryz.underlying43 3
  obtain ⟨bl, ofl, cl, csl, Tl, frl, hvel, hbwl, hexl, hcsl⟩ := hLi.elem (by decide) hsz (i := 1) (a := (5, n12)) rfl
  rw [hvel] at lni
  have lni : ∀ w', (Builtin.len_ #[43] 3 #[.slice (some ⟨bl, ofl, none⟩) 2 cl]).run Tryz.prog w' = .ok (.int .i64 2) w' := lni
  have hvel : vi = .slice (some ⟨bl, ofl, none⟩) 2 cl := hvel
  have lnn : ∀ w', (Builtin.len_ #[28] 3 #[vn]).run Tryz.prog w' = .ok (.int .i64 4) w' := fun w' => by
    have := (Sl.of_own own_n).len Tryz.underlying28 3 w'
    rw [hblk] at this
    exact this
  subst hvel
  have heq5 : ∀ w, (Op.equalIn 10000 76 (.agg (itv (5, n12))) (.agg (itv (5, n12)))).run Tryz.prog w = .ok true w := fun w => by rw [eq_it w hi5 hi5, decide_eq_true rfl]
  have heqn : ∀ w, (Op.equalIn 10000 56 (.agg (ino n12)) (.agg (ino n12))).run Tryz.prog w = .ok true w := fun w => by rw [eq_ino w hi5.i hi5.i, decide_eq_true rfl]
  have heqz : ∀ w, (Op.equalIn 10000 56 (.agg (ino inz)) (.agg (ino inz))).run Tryz.prog w = .ok true w := fun w => by rw [eq_ino w inz_ok inz_ok, decide_eq_true rfl]
  have h5s := itv_size hi5
  have h5o := itv_ones (x := (5, n12))
  have cW := kp10.ch
  simp [go_sem]
  refine v_draw' [(0, none), (1, none), (2, none), (3, none), (4, none), (5, none), (6, none), (7, none), (8, none), (9, none), (10, none), (11, none), (12, none), (13, none), (14, none), (15, none), (16, none), (17, none), (18, none), (19, none), (20, none), (21, none), (22, none), (23, none), (24, none), (25, none), (26, none), (27, none), (28, none), (29, none), (30, none), (31, none), (32, none), (33, none), (34, none), (35, none), (36, none), (37, none), (38, none)] (by kernel_rfl) (by kernel_rfl) ?_
  have cd : Ch Nw w10 w10.drew := (Ch.refl _ _).drew
  obtain ⟨w11, hw11⟩ : ∃ w11, w10.drew = w11 := ⟨_, rfl⟩
  rw [hw11] at cd ⊢
  have b111 := cd.obj b110 id
  have b711 := cd.obj b710 id
  have b911 := cd.obj b910 id
  have hbl11 := cd.obj hbwl id
  simp [go_sem, b711, b111, b911, hns, hna, hnz, hnza, heqn, heqz, bld_ino0, lni, lnn, hbl11, hexl, hcsl, h5s, h5o, bi5, heq5]
  exact hR _ _ ⟨rfl, cW.trans cd⟩
end Go.Proofs.YtnefdmbdkljifaaGreatDoor
