/- InodeBack, walked. Conditions: the variables ptr.wide and inode.leaves hold what the text lays. -/
import Derived.Test.YtfcoiboeohgimaaDoorInH
namespace Go.Proofs.YtfcoiboeohgimaaDoor
open Go.RowKit Go.Kin

theorem inodeBack_any (xs : List In) (v : Value) (l : List UInt8) (w : World) (ok : IbOk xs) (hs : Sl w v l.length (bvs l)) (hw : Lw w) (hl : Ll w) :
    Ret Tryd.prog 9 #[.agg (ib xs), v] w fun v' w' => v' = .bool true ∧ Ch Nw w w' := by
  refine v_enter Tryd.func9 Tryd.ntmps9 rfl (by simp) fun R' hR => ?_
  have hlen := hs.len Tryd.underlying30 3
  have sx := fun {w : World} {v : Value} {l : List UInt8} {n : Nat} (h : Sl w v n (bvs l)) (hn : l.length = n) => h.str (P := Tryd.prog) hn Tryd.underlying30 Tryd.underlying5 Tryd.underlying9
  by_cases h6 : 600 < l.length
  · have h6' : (600 : Int) < l.length := by omega
    simp [go_sem, hlen, h6']
    have c1 := (Ch.refl Nw w).alloc (.cells (ib xs) 52)
    refine (iwakes_any _ (hw.ch c1 id) (hl.ch c1 id)).mono ?_
    rintro _ w2 ⟨rfl, c2⟩
    simp [go_sem]
    exact hR _ _ ⟨rfl, c1.trans c2⟩
  have h6' : ¬ (600 : Int) < l.length := by omega
  have hsz := ib_size ok
  have hall := ib_all ok
  have hzz := ib_size ibz_ok
  have hza := ib_all ibz_ok
  simp [go_sem, hlen, h6', hz_ib, zc_ib]
  have c1 := ((Ch.refl Nw w).alloc (.cells (ib xs) 52)).alloc (.cells (ib ibz) 55)
  have b0 := al2_0 w (.cells (ib xs) 52) (.cells (ib ibz) 55)
  have b1 := al2_1 w (.cells (ib xs) 52) (.cells (ib ibz) 55)
  revert c1 b0 b1
  generalize (w.alloc (.cells (ib xs) 52)).alloc (.cells (ib ibz) 55) = w1
  generalize hg : w.heap.size = g
  intro c1 b0 b1
  refine v_loop (fun r f wr => ∃ k, k ≤ 4 ∧ r = 4 - k ∧ f 1 = v ∧ f 2 = .pointer (some ⟨g, 0, none⟩) ∧ f 5 = .pointer (some ⟨g + 1, 0, none⟩) ∧ f 6 = .int .i64 k ∧
    wr.heap[g]? = some (.cells (ib xs) 52 (0, 0)) ∧ wr.heap[g + 1]? = some (.cells (ib (upto xs k)) 55 (0, 0)) ∧ Ch Nw w wr) 4
    ⟨0, by omega, rfl, by simp, by simp, by simp, by simp, b0, by simpa [upto, ibz] using b1, c1⟩ ?_
  clear b0 b1
  rintro J hJ _ f wr ⟨k, hk, rfl, f1, f2, f5, f6, b0, b1, hc⟩
  by_cases hk4 : k < 4
  · have hki : (k : Int) < 4 := by omega
    obtain ⟨x, hx, okx⟩ := ok.at' hk4
    have hs1 := ino_size okx
    have hget := ib_get ok hx
    have hfit : k * 44 + 44 ≤ 176 := by omega
    have hwk : IntKind.i64.wrap ((k : Int) + 1) = ((k + 1 : Nat) : Int) := by simp [IntKind.wrap_i64]; omega
    have okU := upto_ok ok hk
    have hsU := ib_size okU
    have hbl := ib_blit okU hk4 okx
    rw [upto_set ok hk4 hx] at hbl
    simp [go_sem, f2, f6, hki, b0, hsz, hfit, hget]
    refine (of_any x wr okx).mono ?_
    rintro _ w2 ⟨rfl, c2⟩
    have b0 := c2.hp b0 id
    have b1 := c2.hp b1 id
    have cR := (Ch.refl (only (g + 1)) w2).setRow (g := g + 1) (.inl rfl) (ib (upto xs (k + 1)))
    have b0 := cR.hp b0 (by simp only [only]; omega)
    have b1' : (w2.setRow (g + 1) (ib (upto xs (k + 1)))).heap[g + 1]? = some (.cells (ib (upto xs (k + 1))) 55 (0, 0)) := by rw [hp_setRow, b1]; rfl
    have hc := (hc.trans c2).setRow (g := g + 1) (.inr (by omega)) (ib (upto xs (k + 1)))
    simp [go_sem, f5, f6, hki, b1, hsU, hs1, hfit, hbl, hwk]
    exact Rnd.intro _ (by omega) (hJ _ _ _ ⟨k + 1, by omega, rfl, by simp [f1], by simp [f2], by simp [f5], by simp, b0, b1', hc⟩)
  obtain rfl : k = 4 := by omega
  rw [upto_all ok] at b1
  have hw2 := hw.ch hc id
  simp [go_sem, f5, f6, b1, hsz, hall]
  clear hJ J
  refine (ibput_any xs wr ok hw2).mono ?_
  rintro _ w3 ⟨s, e, rfl, c3, hN⟩
  simp [go_sem]
  refine v_meet (fun f' u => f' 1 = v ∧ Ch Nw wr u) ?_ ?_
  · rcases hN with ⟨rfl, ha, hsl⟩ | ⟨rfl, ha, rfl⟩
    · have hbl : (bytesI xs).length = 512 := by rw [bytesI_length _ ok.all, ok.len]
      simp [go_sem]
      refine (ibtake_any s (bytesI xs) w3 (by omega) hsl (hw2.ch c3 id)).mono ?_
      rintro _ w4 ⟨rfl, c4⟩
      rw [ib4_put ok ha]
      simp [go_sem, hz_ib, zc_ib, hzz, hsz, blit_whole]
      have c5 := (c3.trans c4).alloc (.cells (ib xs) 55)
      have b5 := c5.hp b1 id
      have heq := fun w => eq_ib w ok ok
      simp [go_sem, f5, b5, hsz, hall, heq]
      exact ⟨f1, c5⟩
    · simp [go_sem]
      exact ⟨f1, c3⟩
  clear f1 f2 f5 f6 f
  rintro f u ⟨f1, cu⟩
  have cw := hc.trans cu
  simp [go_sem, f1]
  refine (ibtake_any v l u (by omega) (hs.ch cw fun _ _ e => e) (hw.ch cw id)).mono ?_
  rintro _ w4 ⟨rfl, c4⟩
  have okm := ib4_ok l
  have hsm := ib_size okm
  have ham := ib_all okm
  simp [go_sem, hz_ib, zc_ib, hzz, hsm, blit_whole]
  have c5 := (cw.trans c4).alloc (.cells (ib (ib4 l).1) 55)
  have b5 := hp_alloc w4 (.cells (ib (ib4 l).1) 55)
  revert c5 b5
  generalize w4.alloc (.cells (ib (ib4 l).1) 55) = w5
  generalize w4.heap.size = q5
  intro c5 b5
  rcases ib4_2 l with h0 | ⟨h5, hz⟩
  · obtain ⟨_, ha, hb⟩ := ib4_e h0
    simp [go_sem, h0, b5, hsm, ham]
    refine (ibput_any _ w5 okm (hw.ch c5 id)).mono ?_
    rintro _ w6 ⟨s6, e6, rfl, c6, ⟨rfl, _, hsl⟩ | ⟨_, hno, _⟩⟩
    · rw [hb] at hsl
      have st1 := sx hsl rfl
      have st2 := sx ((hs.ch c5 fun _ _ e => e).ch c6 fun _ _ e => e) rfl
      simp [go_sem, f1, st1, st2]
      refine (iwakes_any w6 (hw.ch (c5.trans c6) id) (hl.ch (c5.trans c6) id)).mono ?_
      rintro _ w7 ⟨rfl, c7⟩
      simp [go_sem]
      exact hR _ _ ⟨rfl, (c5.trans c6).trans c7⟩
    · rw [ha] at hno; cases hno
  · rw [hz] at b5
    have heq := fun w => eq_ib w ibz_ok ibz_ok
    simp [go_sem, h5, b5, hzz, hza, bld_ib0, heq]
    refine (iwakes_any w5 (hw.ch c5 id) (hl.ch c5 id)).mono ?_
    rintro _ w7 ⟨rfl, c7⟩
    simp [go_sem]
    exact hR _ _ ⟨rfl, c5.trans c7⟩
end Go.Proofs.YtfcoiboeohgimaaDoor
