/- A pointer's digest, and what is sealed and fits by it (digest, Seal, Fits), walked. Conditions: the variable sha.constants holds what the text lays; sizes. -/
import Derived.Test.YtppilgkgnofkpaaDoorShaF
import Derived.Test.YtppilgkgnofkpaaDoorPtG
set_option linter.unusedSimpArgs false
set_option linter.unusedVariables false

namespace Go.Proofs.YtppilgkgnofkpaaDoor
open Go.RowKit Go.Kin

theorem Hsh.ch {w w' : World} {g : Nat} {m : List UInt8} (h : Hsh w g m) (hc : Ch Nw w w') : Hsh w' g m := by
  obtain ⟨s, v, on, h1, h2, h3⟩ := h
  exact ⟨s, v, on, hc.hp h1 id, h2.ch hc fun _ _ e => e, h3⟩
theorem Lk.lt {w : World} (h : Lk w) : 2 < w.heap.size := by
  unfold Lk at h
  exact World.block_lt_of_cell? w _ (h 0 (by decide))
/-- the digest of a tag and a block -/
def digS (p : Pt) (b : List UInt8) : List UInt8 := shaS ((putP p).take 16 ++ b)
theorem digS_length (p : Pt) (b : List UInt8) : (digS p b).length = 32 := shaS_length _
theorem digest_any (p : Pt) (v : Value) (b : List UInt8) (w : World) (ok : PtOk p) (hs : Sl w v b.length (bvs b)) (hv : ∀ k, v.ownBlock = some k → k < w.heap.size) (hlen : b.length ≤ 900000) (hk : Lk w) :
    Ret Tryd.prog 70 #[.agg (pt p), v] w fun v' w' => v' = .agg (bvs (digS p b)).toArray ∧ Ch Nw w w' := by
  refine v_enter Tryd.func70 Tryd.ntmps70 rfl (by simp) fun R' hR => ?_
  obtain ⟨Z, hZ⟩ : ∃ z, (bvs (zb 32)).toArray = z := ⟨_, rfl⟩
  have hzc : zc Tryd.prog 25 = Z := by rw [← hZ]; kernel_rfl
  have hzz : (Tryd.prog.info? 25).map (fun i => i.zero.isSome) = some true := by kernel_rfl
  have hZs : Z.size = 32 := by rw [← hZ]; simp [bvs_length, zb_length]
  have hpl := putP_length ok
  simp [go_sem, hzc, hzz]
  have c1 := ((Ch.refl Nw w).alloc (.cells (pt p) 28)).alloc (.cells Z 25)
  have b0 := ((Ch.refl Nw (w.alloc (.cells (pt p) 28))).alloc (.cells Z 25)).hp (hp_alloc w (.cells (pt p) 28)) id
  have b4 := hp_alloc (w.alloc (.cells (pt p) 28)) (.cells Z 25)
  rw [show (w.alloc (.cells (pt p) 28)).heap.size = w.heap.size + 1 by simp] at b4
  revert c1 b0 b4
  generalize (w.alloc (.cells (pt p) 28)).alloc (.cells Z 25) = w1
  generalize hq0 : w.heap.size = q0 at *
  intro c1 b0 b4
  refine (newsha_any w1).mono ?_
  rintro _ w2 ⟨rfl, hH, c2⟩
  have hg1 : q0 + 1 < w1.heap.size := lt_of_block b4
  generalize w1.heap.size = g at *
  have b0' := c2.hp b0 id
  have hps := pt_size ok
  have hpa := pt_all ok
  simp [go_sem, b0', hps, hpa]
  refine (pput_any (.slice none 0 0) 0 [] p w2 ok (by decide) rfl (World.ownsRow_nil _ _ _ _)).mono ?_
  rintro s1 w3 ⟨h1, h2, h3⟩
  have c3 : Ch Nw w2 w3 := h2.mono fun k _ e => by simp [Value.ownBlock] at e
  have hH3 := hH.ch c3
  have hs1 := Sl.of_own h1
  rw [List.nil_append, Nat.zero_add] at hs1
  have hgl2 : g < w2.heap.size := by obtain ⟨_, _, _, h, _⟩ := hH; exact lt_of_block h
  have hs1o : s1.ownBlock ≠ some g := by
    rcases h3 with h3 | h3
    · rw [h3]; simp [Value.ownBlock]
    · intro h
      have := h3 g h
      omega
  obtain ⟨s2, hs2, ho2, _, hr2, _⟩ := hs1.cut tyB (by simp [bvs_length, hpl]) 0 16 (by decide) (by decide)
  replace hr2 : ∀ w', (Instr.sliceAt 29 s1 none (some (.int .i64 16)) none).run Tryd.prog w' = .ok s2 w' := hr2 rfl
  have hl16 : ((putP p).take 16).length = 16 := by rw [List.length_take]; omega
  have hs2 : Sl w3 s2 ((putP p).take 16).length (bvs ((putP p).take 16)) := by
    rw [hl16, bvs, List.map_take]
    simpa [bvs] using hs2
  have c13 := (c1.trans c2).trans c3
  have hgk : g ≠ 2 := by have := hk.lt; omega
  simp [go_sem, hr2]
  refine (write_any g [] s2 ((putP p).take 16) w3 hH3 hs2 (by rw [ho2]; exact hs1o) (by rw [hl16]; decide) (hk.ch c13 id) hgk).mono ?_
  rintro _ w4 ⟨rfl, hH4, c4⟩
  rw [List.nil_append] at hH4
  have hvg : ∀ k, v.ownBlock = some k → ¬ only g k := fun k hk' e => by
    have := hv k hk'
    simp only [only] at e
    omega
  have c14 : Ch Nw w w4 := c13.trans' c4 fun j hj e => by simp only [only] at e; omega
  simp [go_sem]
  refine (write_any g _ v b w4 hH4 ((hs.ch c14 fun _ _ e => e)) (fun h => hvg g h rfl) (by rw [hl16]; omega) (hk.ch c14 id) hgk).mono ?_
  rintro _ w5 ⟨rfl, hH5, c5⟩
  have c15 : Ch Nw w w5 := c14.trans' c5 fun j hj e => by simp only [only] at e; omega
  simp [go_sem]
  refine (sum_any g _ w5 hH5 (by rw [List.length_append, hl16]; omega) (hk.ch c15 id) hgk).mono ?_
  rintro _ w6 ⟨rfl, c6⟩
  have hb4 := c6.hp (c5.hp (c4.hp (c3.hp (c2.hp b4 id) id) (by simp only [only]; omega)) (by simp only [only]; omega)) id
  rw [show shaS ((putP p).take 16 ++ b) = digS p b from rfl]
  obtain ⟨Y, hY⟩ : ∃ z, (bvs (digS p b)).toArray = z := ⟨_, rfl⟩
  have hYs : Y.size = 32 := by rw [← hY]; simp [bvs_length, digS_length]
  have hYo : ones Y = true := by rw [← hY]; exact ones_bvs _
  have hYa : Y.extract 0 32 = Y := by rw [show (32 : Nat) = Y.size from hYs.symm]; simp
  rw [hY] at hR ⊢
  have b9 : (w6.setRow (q0 + 1) Y).heap[q0 + 1]? = some (.cells Y 25 (0, 0)) := by rw [hp_setRow, hb4]; rfl
  simp [go_sem, hb4, hYs, hYa, hZs, hYo, blit_whole, b9]
  exact hR _ _ ⟨rfl, (c15.trans c6).setRow (g := q0 + 1) (.inr (by omega)) _⟩
/-- the pointer that a block fits -/
def sealP (p : Pt) (b : List UInt8) : Pt := { p with h := digS p b }
theorem sealP_ok {p : Pt} (ok : PtOk p) (b : List UInt8) : PtOk (sealP p b) := ⟨ok.k, ok.l, ok.o, ok.f, ok.b, digS_length p b, ok.a, ok.at'⟩
theorem fits_any (p : Pt) (v : Value) (b : List UInt8) (w : World) (ok : PtOk p) (hs : Sl w v b.length (bvs b)) (hv : ∀ k, v.ownBlock = some k → k < w.heap.size) (hlen : b.length ≤ 900000) (hk : Lk w) :
    Ret Tryd.prog 42 #[.agg (pt p), v] w fun v' w' => v' = .bool (decide (b.length = 512) && decide (digS p b = p.h)) ∧ Ch Nw w w' := by
  refine v_enter Tryd.func42 Tryd.ntmps42 rfl (by simp) fun R' hR => ?_
  have hps := pt_size ok
  have hpa := pt_all ok
  have hln := hs.len Tryd.underlying29 3
  have c1 := (Ch.refl Nw w).alloc (.cells (pt p) 28)
  have b0 := hp_alloc w (.cells (pt p) 28)
  simp [go_sem, hps, hpa]
  revert c1 b0
  generalize w.alloc (.cells (pt p) 28) = w1
  generalize hq0 : w.heap.size = q0 at *
  intro c1 b0
  refine v_draw' [(0, none), (1, none), (2, none), (3, none), (4, none), (5, none), (7, none), (8, none), (6, some [7, 8]), (9, none), (10, none), (11, none)] (by kernel_rfl) (by kernel_rfl) ?_
  have b0d : w1.drew.heap[q0]? = some (.cells (pt p) 28 (0, 0)) := b0
  have hph := pt_h ok
  by_cases h5 : b.length = 512
  · have h5' : ((b.length : Int) == 512) = true := by rw [h5]; rfl
    simp [go_sem, hln, h5', b0, b0d, hps, hpa, hph]
    have hv1 : ∀ k, v.ownBlock = some k → k < w1.heap.size := fun k h => by have := hv k h; have := c1.size; omega
    refine (digest_any p v b w1.drew ok (hs.ch c1.drew fun _ _ e => e) hv1 hlen (hk.ch c1.drew id)).mono ?_
    rintro _ w2 ⟨rfl, c2⟩
    have b2 := c2.hp b0d id
    have heq : ∀ w, (Op.equalIn 10000 25 (.agg (bvs (digS p b)).toArray) (.agg (bvs p.h).toArray)).run Tryd.prog w = .ok (decide (digS p b = p.h)) w := fun w => run_equalIn_bvs w 9998 _ _ 32 Tryd.underlying25 Tryd.underlying5 Tryd.sizeOf5 Tryd.isAgg5 _ _ (digS_length p b) ok.h
    simp [go_sem, b2, hps, hph, heq, h5]
    exact hR _ _ ⟨by simp [h5], c1.drew.trans c2⟩
  · have h5' : ((b.length : Int) == 512) = false := beq_false_of_ne (by omega)
    simp [go_sem, hln, h5', h5]
    exact hR _ _ ⟨by simp [h5], c1.drew⟩
end Go.Proofs.YtppilgkgnofkpaaDoor
