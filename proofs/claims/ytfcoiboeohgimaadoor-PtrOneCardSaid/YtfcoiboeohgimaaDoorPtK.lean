/- Pointers that are known (the law's wakes), walked. Conditions: the variables sha.constants and ptr.wide hold what the text lays. -/
import Derived.Test.YtfcoiboeohgimaaDoorPtJ
namespace Go.Proofs.YtfcoiboeohgimaaDoor
open Go.RowKit Go.Kin

theorem pwakes_any (w : World) (hw : Lw w) (hk : Lk w) : Ret Tryd.prog 33 #[] w fun v' w' => v' = .bool true ∧ Ch Nw w w' := by
  refine v_enter Tryd.func33 Tryd.ntmps33 rfl (by simp) fun R' hR => ?_
  have hs1 := pt_size wkq_ok
  have ha1 := pt_all wkq_ok
  have hsz := pt_size ptz_ok
  have okz := wkq_ok
  have hmay := wkq_may
  have hne := wkq_ne
  have hbld := fun w K => bld_wkq (w := w) (K := K)
  generalize wkq = p at *
  have oks := sealP_ok okz zeros
  have hss := pt_size oks
  have hsa := pt_all oks
  simp [go_sem, hbld, hz_pt, zc_pt, hsz, hs1, ha1, blit_whole]
  have c1 := (Ch.refl Nw w).alloc (.cells (pt p) 28)
  have b1 := hp_alloc w (.cells (pt p) 28)
  revert c1 b1
  generalize w.alloc (.cells (pt p) 28) = w1
  generalize w.heap.size = q1
  intro c1 b1
  rw [mk512]
  have c2 := (Ch.refl Nw w1).alloc (.cells (bvs zeros).toArray 5)
  have b2 := hp_alloc w1 (.cells (bvs zeros).toArray 5)
  have b1 := c2.hp b1 id
  have c2 := c1.trans c2
  have hq2 : w.heap.size ≤ w1.heap.size := c1.size
  simp [go_sem]
  revert c2 b1 b2
  generalize w1.alloc (.cells (bvs zeros).toArray 5) = w2
  generalize w1.heap.size = q2 at *
  intro b2 b1 c2
  simp [go_sem, b1, hs1, ha1]
  have hlt2 := lt_of_block b2
  refine (seal_any p (.slice (some ⟨q2, 0, none⟩) 512 512) zeros w2 okz (sl512 b2 zeros_length) (fun k h => by simp [Value.ownBlock] at h; omega) (by rw [zeros_length]; decide) (hk.ch c2 id)).mono ?_
  rintro _ w3 ⟨rfl, c3⟩
  have b1 := c3.hp b1 id
  have b2 := c3.hp b2 id
  have c3 := c2.trans c3
  generalize hs : sealP p zeros = s at *
  simp [go_sem, hz_pt, zc_pt, hsz, hss, hsa, blit_whole]
  have c4 := (Ch.refl Nw w3).alloc (.cells (pt s) 28)
  have b3 := hp_alloc w3 (.cells (pt s) 28)
  have b1 := c4.hp b1 id
  have b2 := c4.hp b2 id
  have c4 := c3.trans c4
  revert c4 b1 b2 b3
  generalize w3.alloc (.cells (pt s) 28) = w4
  have hq3 : q2 < w3.heap.size := lt_of_block b2
  generalize w3.heap.size = q3 at *
  intro b3 b1 b2 c4
  refine (pput_any (.slice none 0 0) 0 [] s w4 oks (by decide) rfl (World.ownsRow_nil _ _ _ _)).mono ?_
  rintro v5 w5 ⟨h1, h2, h3⟩
  have c5 : Ch Nw w4 w5 := h2.mono fun k _ e => by simp [Value.ownBlock] at e
  have hsl := Sl.of_own h1
  have hfr := own_block_lt h1
  have hl64 : (putP s).length = 64 := putP_length oks
  rw [List.nil_append, Nat.zero_add, ← hl64] at hsl
  have b1 := c5.hp b1 id
  have b2 := c5.hp b2 id
  have b3 := c5.hp b3 id
  have c5' := c4.trans c5
  have hq24 : q2 < w4.heap.size := by have := lt_of_block b2; have := c5.size; have := lt_of_block ‹w4.heap[q2]? = _›; omega
  have hv5 : ∀ k, v5.ownBlock = some k → ¬ only q2 k := fun k hk' e => by
    rcases h3 with h3 | h3
    · rw [h3] at hk'; simp [Value.ownBlock] at hk'
    · have := h3 k hk'
      simp only [only] at e
      omega
  have hc9 : w5.cell? ⟨q2, 9, none⟩ = some (.int .u8 0) := (cell_blk b2 9).trans (by rw [List.getElem?_toArray]; exact bvs_get (c := 0) (by unfold zeros; rfl))
  have hf9 := frz_blk b2 9
  have cS := (Ch.refl (only q2) w5).setCell (p := ⟨q2, 9, none⟩) (.inl rfl) (.int .u8 1)
  have b1s := cS.hp b1 (by simp only [only]; intro e; subst e; rw [b1] at b2; simp at b2)
  have b3s := cS.hp b3 (by simp only [only]; omega)
  have hsls := hsl.ch cS hv5
  have b2s : (w5.setCell ⟨q2, 9, none⟩ (.int .u8 1)).heap[q2]? = some (.cells (bvs zone).toArray 5 (0, 0)) := by
    rw [hp_setCell, b2, setOf_cells, show Value.int .u8 1 = bv 1 from rfl, bvs_set]
    unfold zeros zone
    rfl
  have c6 : Ch Nw w (w5.setCell ⟨q2, 9, none⟩ (.int .u8 1)) := c5'.trans' cS fun j hj e => by simp only [only] at e; omega
  simp [go_sem, hc9, hf9]
  revert b1s b2s b3s hsls c6
  generalize w5.setCell ⟨q2, 9, none⟩ (.int .u8 1) = w6
  intro b1 b3 hsl b2 c6
  refine v_draw' [(0, none), (1, some []), (2, none), (3, none), (4, some []), (5, none), (6, none), (7, none), (8, none), (9, none), (10, none), (11, none), (12, none), (13, none), (16, none), (14, some [16]), (15, some [16]), (17, none), (18, none), (19, none), (20, none), (21, some [20]), (22, some []), (23, none), (24, none), (25, none), (26, none), (27, some []), (28, none), (29, none), (30, none), (31, some []), (32, none), (33, none), (34, none)] (by kernel_rfl) (by kernel_rfl) ?_
  have c6 := c6.drew
  have hsl : Sl w6.drew v5 (putP s).length (bvs (putP s)) := hsl
  replace b1 : w6.drew.heap[q1]? = _ := b1
  replace b2 : w6.drew.heap[q2]? = _ := b2
  replace b3 : w6.drew.heap[q3]? = _ := b3
  revert b1 b2 b3 hsl c6
  generalize w6.drew = w6
  intro c6 hsl b1 b2 b3
  simp [go_sem, b1, hs1, ha1]
  refine (may_any p w6 okz (hw.ch c6 id)).mono ?_
  rintro _ w7 ⟨rfl, c7⟩
  rw [hmay]
  have hb0 := fun w K => bld_pt0 (w := w) (K := K)
  simp [go_sem, hb0]
  refine (may_any ptz w7 ptz_ok (hw.ch (c6.trans c7) id)).mono ?_
  rintro _ w8 ⟨rfl, c8⟩
  rw [ptz_may]
  have c8 := c7.trans c8
  have hsl8 := hsl.ch c8 fun _ _ e => e
  have hlen := hsl8.len Tryd.underlying30 3
  rw [hl64] at hlen
  have b3' := c8.hp b3 id
  simp [go_sem, hlen, b3', hss, hsa]
  refine (new_any v5 (putP s) w8 (by omega) hsl8).mono ?_
  rintro _ w9 ⟨g, o, rfl, hg, ho, ho9, hr, c9⟩
  have c9' := c8.trans c9
  have b9 := c9.hp b3' id
  simp [go_sem, b9, hss, hsa]
  refine (ptake_any g o (putP s) 0 w9 (by omega) (hw.ch (c6.trans c9') id) (by have := (hw.ch (c6.trans c8) id).lt; omega) hr ho9).mono ?_
  rintro _ wA ⟨rfl, _, cA⟩
  have hms : mayP s = true := by rw [← hs, seal_may]; exact hmay
  rw [pS_put oks hms]
  have cA' : Ch Nw w6 wA := c9'.trans' cA fun j hj e => by have := c8.size; simp only [only] at e; omega
  have bA3 := cA'.hp b3 id
  have heq := fun w => eq_pt w oks oks
  have cM := (Ch.refl Nw wA).alloc (.cells (bvs zeros).toArray 5)
  have bM := hp_alloc wA (.cells (bvs zeros).toArray 5)
  have hzM : (wA.alloc (.cells (bvs zeros).toArray 5)).heap.size = wA.heap.size + 1 := by simp
  simp [go_sem, bA3, hss, hsa, heq]
  rw [mk512]
  simp [go_sem]
  have cM' := cA'.trans cM
  revert bM cM' hzM
  generalize wA.alloc (.cells (bvs zeros).toArray 5) = wM
  generalize wA.heap.size = qM
  intro bM hzM cM'
  have bM3 := cM'.hp b3 id
  simp [go_sem, bM3, hss, hsa]
  refine (fits_any s (.slice (some ⟨qM, 0, none⟩) 512 512) zeros wM oks (sl512 bM zeros_length) (fun k h => by simp [Value.ownBlock] at h; omega) (by rw [zeros_length]; decide) (hk.ch (c6.trans cM') id)).mono ?_
  rintro _ wN ⟨rfl, cN⟩
  have hd1 : digS s zeros = s.h := by rw [← hs, dig_seal]; rfl
  have hd2 : digS s zone ≠ s.h := by rw [← hs, dig_seal]; exact hne
  have cN' := cM'.trans cN
  have bN3 := cN'.hp b3 id
  have bN2 := cN'.hp b2 id
  have hltN := lt_of_block bN2
  rw [show (decide (zeros.length = 512) && decide (digS s zeros = s.h)) = true by simp [zeros_length, hd1]]
  simp [go_sem, bN3, hss, hsa]
  refine (fits_any s (.slice (some ⟨q2, 0, none⟩) 512 512) zone wN oks (sl512 bN2 zone_length) (fun k h => by simp [Value.ownBlock] at h; omega) (by rw [zone_length]; decide) (hk.ch (c6.trans cN') id)).mono ?_
  rintro _ wO ⟨rfl, cO⟩
  rw [show (decide (zone.length = 512) && decide (digS s zone = s.h)) = false by simp [hd2]]
  have cO' := c6.trans (cN'.trans cO)
  simp [go_sem]
  refine (wide_any 1 wO (by decide) (hw.ch cO' id)).mono ?_
  rintro _ _ ⟨rfl, rfl⟩
  simp [go_sem, wideN]
  exact hR _ _ ⟨rfl, cO'⟩
end Go.Proofs.YtfcoiboeohgimaaDoor
