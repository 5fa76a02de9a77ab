/- Inodes that are known (wakes), walked. Conditions: the variables ptr.wide and inode.leaves hold what the text lays. -/
import Derived.Test.YtfcoiboeohgimaaDoorInL
namespace Go.Proofs.YtfcoiboeohgimaaDoor
open Go.RowKit Go.Kin

def wki : In := ⟨1, 1, 513, ptz⟩
theorem wki_ok : InOk wki := ⟨by decide, by decide, by decide, ptz_ok⟩
def wkb : List In := ibz.set 0 wki
theorem wkb_ok : IbOk wkb := ibz_ok.set 0 wki_ok
theorem wkb_all : wkb.all mayI = true := by decide +kernel
theorem wki_may : mayI wki = true := by decide +kernel
theorem wk3_ok : InOk ⟨3, 0, 0, ptz⟩ := ⟨by decide, by decide, by decide, ptz_ok⟩
theorem wk3_may : mayI ⟨3, 0, 0, ptz⟩ = false := by decide +kernel
theorem wkb_bytes : (bytesI wkb)[0]? = some 1 ∧ (bytesI wkb)[2]? = some 1 ∧ (bytesI wkb)[4]? = some 1 ∧ (bytesI wkb)[5]? = some 2 := by decide +kernel
theorem iwakes_any (w : World) (hw : Lw w) (hl : Ll w) : Ret Tryd.prog 27 #[] w fun v' w' => v' = .bool true ∧ Ch Nw w w' := by
  refine v_enter Tryd.func27 Tryd.ntmps27 rfl (by simp) fun R' hR => ?_
  have hs1 := ino_size wki_ok
  have ha1 := ino_all wki_ok
  have hsz := ino_size inz_ok
  have hb3 := fun w K => bld_ino3 1 1 513 (w := w) (K := K)
  simp only [show (⟨1, 1, 513, ptz⟩ : In) = wki from rfl] at hb3
  replace hb3 : ∀ w K, VBld Tryd.prog 53 [(0, .int .u8 1), (1, .int .u16 1), (2, .int .u32 513)] w K = K (.agg (ino wki)) w := hb3
  have hbb := fun w K => bld_ib1 wki wki_ok (w := w) (K := K)
  simp only [show ibz.set 0 wki = wkb from rfl] at hbb
  simp [go_sem, hb3, hz_ino, zc_ino, hsz, hs1, ha1, blit_whole, hbb]
  have c1 := (Ch.refl Nw w).alloc (.cells (ino wki) 53)
  have b1 := hp_alloc w (.cells (ino wki) 53)
  revert c1 b1
  generalize w.alloc (.cells (ino wki) 53) = w1
  generalize w.heap.size = q
  intro c1 b1
  refine (ibput_any wkb w1 wkb_ok (hw.ch c1 id)).mono ?_
  rintro _ w2 ⟨s, e, rfl, c2, ⟨rfl, _, hsl⟩ | ⟨_, hno, _⟩⟩
  case inr => rw [wkb_all] at hno; cases hno
  have hbl : (bytesI wkb).length = 512 := by rw [bytesI_length _ wkb_ok.all, wkb_ok.len]
  have c12 := c1.trans c2
  simp [go_sem]
  refine (ibtake_any s (bytesI wkb) w2 (by omega) hsl (hw.ch c12 id)).mono ?_
  rintro _ w3 ⟨rfl, c3⟩
  rw [ib4_put wkb_ok wkb_all]
  have hs2 := ib_size wkb_ok
  simp [go_sem, hz_ib, zc_ib, ib_size ibz_ok, hs2, blit_whole]
  have c4 := (Ch.refl Nw w3).alloc (.cells (ib wkb) 55)
  have b4 := hp_alloc w3 (.cells (ib wkb) 55)
  have b1 := c4.hp (c3.hp (c2.hp b1 id) id) id
  have hsl4 := (hsl.ch c3 fun _ _ e => e).ch c4 fun _ _ e => e
  have c14 := (c12.trans c3).trans c4
  clear c4
  revert b1 b4 hsl4 c14
  generalize w3.alloc (.cells (ib wkb) 55) = w4
  generalize w3.heap.size = q4
  intro b4 b1 hsl4 c14
  simp [go_sem, b1, hs1, ha1]
  refine (imay_any wki w4 wki_ok (hw.ch c14 id)).mono ?_
  rintro _ w5 ⟨rfl, c5⟩
  have hb1 := fun w K => bld_ino1 3 (w := w) (K := K)
  replace hb1 : ∀ w K, VBld Tryd.prog 53 [(0, .int .u8 3)] w K = K (.agg (ino ⟨3, 0, 0, ptz⟩)) w := hb1
  rw [wki_may]
  simp [go_sem, hb1]
  refine (imay_any ⟨3, 0, 0, ptz⟩ w5 wk3_ok (hw.ch (c14.trans c5) id)).mono ?_
  rintro _ w6 ⟨rfl, c6⟩
  rw [wk3_may]
  have c46 := c5.trans c6
  have hsl6 := hsl4.ch c46 fun _ _ e => e
  have b1 := c46.hp b1 id
  have b4 := c46.hp b4 id
  have hlen := hsl6.len Tryd.underlying30 3
  rw [hbl] at hlen
  have hat := fun (i : Nat) (c : UInt8) (h : (bytesI wkb)[i]? = some c) => hsl6.at tyB (bvs_length _) (u := .int .u8 c.toNat) (bvs_get h)
  obtain ⟨a0, p0, x0, _⟩ := hat 0 1 wkb_bytes.1
  obtain ⟨a2, p2, x2, _⟩ := hat 2 1 wkb_bytes.2.1
  obtain ⟨a4, p4, x4, _⟩ := hat 4 1 wkb_bytes.2.2.1
  obtain ⟨a5, p5, x5, _⟩ := hat 5 2 wkb_bytes.2.2.2
  replace p0 : ∀ w', (Instr.indexAt 30 s (.int .i64 0)).run Tryd.prog w' = .ok (.pointer (some a0)) w' := p0
  replace p2 : ∀ w', (Instr.indexAt 30 s (.int .i64 2)).run Tryd.prog w' = .ok (.pointer (some a2)) w' := p2
  replace p4 : ∀ w', (Instr.indexAt 30 s (.int .i64 4)).run Tryd.prog w' = .ok (.pointer (some a4)) w' := p4
  replace p5 : ∀ w', (Instr.indexAt 30 s (.int .i64 5)).run Tryd.prog w' = .ok (.pointer (some a5)) w' := p5
  replace x0 : w6.cell? a0 = some (.int .u8 1) := x0
  replace x2 : w6.cell? a2 = some (.int .u8 1) := x2
  replace x4 : w6.cell? a4 = some (.int .u8 1) := x4
  replace x5 : w6.cell? a5 = some (.int .u8 2) := x5
  have hg0 := ib_get wkb_ok (k := 0) (x := wki) rfl
  simp only [Nat.zero_mul, Nat.zero_add] at hg0
  have heq := fun w => eq_ino w wki_ok wki_ok
  simp [go_sem, hlen, p0, p2, p4, p5, x0, x2, x4, x5, b1, b4, hs1, ha1, hs2, hg0, heq]
  refine (count_any 513 w6 (by decide)).mono ?_
  rintro _ _ ⟨rfl, rfl⟩
  simp [go_sem]
  refine (leaf_any 2 _ (by decide) (hl.ch (c14.trans c46) id)).mono ?_
  rintro _ _ ⟨rfl, rfl⟩
  simp [go_sem, leafN]
  exact hR _ _ ⟨rfl, c14.trans c46⟩
end Go.Proofs.YtfcoiboeohgimaaDoor
