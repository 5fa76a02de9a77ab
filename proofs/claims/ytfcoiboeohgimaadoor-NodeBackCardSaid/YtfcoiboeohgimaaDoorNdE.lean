/- NodeBack, walked. Condition: the variable ptr.wide holds what the text lays. -/
import Derived.Test.YtfcoiboeohgimaaDoorNdW
namespace Go.Proofs.YtfcoiboeohgimaaDoor
open Go.RowKit Go.Kin

theorem NPut.form {ps : List Pt} {w w' : World} {v' : Value} (ok : NdOk ps) (h : NPut ps w v' w') : ∃ s e, v' = .tuple #[s, .int .i64 e] ∧ Ch Nw w w' ∧ ((e = 0 ∧ ps.all okP = true ∧ Sl w' s (bytesN ps).length (bvs (bytesN ps))) ∨ (e = 5 ∧ ps.all okP = false)) := by
  rcases h with ⟨ha, s, rfl, hm⟩ | ⟨ha, rfl, hc⟩
  · refine ⟨s, 0, rfl, hm.ch, .inl ⟨rfl, ha, ?_⟩⟩
    rw [bytesN_length _ ok.all, ok.len]
    exact hm.sl
  · exact ⟨_, 5, rfl, hc, .inr ⟨rfl, ha⟩⟩
theorem nodeBack_any (ps : List Pt) (v : Value) (l : List UInt8) (i : Int) (p : Pt) (w : World) (ok : NdOk ps) (okp : PtOk p) (hi : -9223372036854775808 ≤ i ∧ i ≤ 9223372036854775807) (hs : Sl w v l.length (bvs l)) (hw : Lw w) :
    Ret Tryd.prog 5 #[.agg (nd ps), v, .int .i64 i, .agg (pt p)] w fun v' w' => v' = .bool true ∧ Ch Nw w w' := by
  refine v_enter Tryd.func5 Tryd.ntmps5 rfl (by simp) fun R' hR => ?_
  have hlen := hs.len Tryd.underlying30 3
  have sx := fun {w : World} {v : Value} {l : List UInt8} {n : Nat} (h : Sl w v n (bvs l)) (hn : l.length = n) => h.str (P := Tryd.prog) hn Tryd.underlying30 Tryd.underlying5 Tryd.underlying9
  by_cases h6 : 600 < l.length
  · have h6' : (600 : Int) < l.length := by omega
    simp [go_sem, hlen, h6']
    have c1 := ((Ch.refl Nw w).alloc (.cells (nd ps) 29)).alloc (.cells (pt p) 28)
    refine (nwakes_any _ (hw.ch c1 id)).mono ?_
    rintro _ w2 ⟨rfl, c2⟩
    simp [go_sem]
    exact hR _ _ ⟨rfl, c1.trans c2⟩
  have h6' : ¬ (600 : Int) < l.length := by omega
  have hsn := nd_size ok
  have han := nd_all ok
  have hsz := nd_size ndz_ok
  simp [go_sem, hlen, h6', hz_nd, zc_nd, hsn, han, hsz, blit_whole]
  generalize hg : w.heap.size = g
  have c1 := ((((Ch.refl Nw w).alloc (.cells (nd ps) 29)).alloc (.cells (pt p) 28)).alloc (.cells (nd ndz) 35)).setRow (g := g + 1 + 1) (.inr (by omega)) (nd ps)
  have b0 := al3_0 w (.cells (nd ps) 29) (.cells (pt p) 28) (.cells (nd ndz) 35)
  have b1 := al3_1 w (.cells (nd ps) 29) (.cells (pt p) 28) (.cells (nd ndz) 35)
  have b2 := al3_2 w (.cells (nd ps) 29) (.cells (pt p) 28) (.cells (nd ndz) 35)
  rw [hg] at b0 b1 b2
  have hs1 := hs.ch c1 fun _ _ e => e
  revert c1 b0 b1 b2 hs1
  generalize ((w.alloc (.cells (nd ps) 29)).alloc (.cells (pt p) 28)).alloc (.cells (nd ndz) 35) = wA
  intro c1 b0 b1 b2 hs1
  have cR := (Ch.refl (only (g + 1 + 1)) wA).setRow (g := g + 1 + 1) (.inl rfl) (nd ps)
  have b0 := cR.hp b0 (by simp only [only]; omega)
  have b1 := cR.hp b1 (by simp only [only]; omega)
  have b2 : (wA.setRow (g + 1 + 1) (nd ps)).heap[g + 1 + 1]? = some (.cells (nd ps) 35 (0, 0)) := by
    rw [hp_setRow, show wA.heap[g + 1 + 1]? = _ from b2]; rfl
  clear cR
  revert c1 b0 b1 b2 hs1
  generalize wA.setRow (g + 1 + 1) (nd ps) = w1
  intro c1 hs1 b0 b1 b2
  refine (nput_any ps w1 ok (hw.ch c1 id)).mono ?_
  intro v2 w2 hN
  obtain ⟨s, e, rfl, c2, hN⟩ := hN.form ok
  simp [go_sem]
  have keep : ∀ {u : World}, Ch Nw w1 u → u.heap[g]? = some (.cells (nd ps) 29 (0, 0)) ∧ u.heap[g + 1]? = some (.cells (pt p) 28 (0, 0)) ∧ u.heap[g + 1 + 1]? = some (.cells (nd ps) 35 (0, 0)) ∧ Sl u v l.length (bvs l) ∧ Lw u := fun h =>
    ⟨h.hp b0 id, h.hp b1 id, h.hp b2 id, hs1.ch h fun _ _ e => e, hw.ch (c1.trans h) id⟩
  refine v_meet (fun f u => f 1 = v ∧ f 2 = .int .i64 i ∧ f 4 = .pointer (some ⟨g, 0, none⟩) ∧ f 7 = .pointer (some ⟨g + 1, 0, none⟩) ∧ f 9 = .pointer (some ⟨g + 1 + 1, 0, none⟩) ∧ Ch Nw w1 u) ?_ ?_
  · rcases hN with ⟨rfl, ha, hsl⟩ | ⟨rfl, ha⟩
    · have hbl : (bytesN ps).length = 512 := by rw [bytesN_length _ ok.all, ok.len]
      simp [go_sem]
      refine (ntake_any s (bytesN ps) w2 (by omega) hsl (hw.ch (c1.trans c2) id)).mono ?_
      rintro _ w3 ⟨rfl, c3⟩
      rw [nd8_put ok ha]
      simp [go_sem, hz_nd, zc_nd, hsz, hsn, blit_whole]
      have c4 := (c2.trans c3).alloc (.cells (nd ps) 35)
      have b4 := hp_alloc w3 (.cells (nd ps) 35)
      obtain ⟨k0, k1, k2, _⟩ := keep c4
      have heq := fun w => eq_nd w ok ok
      simp [go_sem, k2, hsn, han, heq]
      exact c4
    · simp [go_sem]
      exact c2
  rintro f u ⟨f1, f2, f4, f7, f9, c3⟩
  obtain ⟨k0, k1, k2, k3, k4⟩ := keep c3
  simp [go_sem, f1]
  refine (ntake_any v l u (by omega) k3 k4).mono ?_
  rintro _ w4 ⟨rfl, c4⟩
  have okm := nd8_ok l
  have hsm := nd_size okm
  have ham := nd_all okm
  simp [go_sem, hz_nd, zc_nd, hsz, hsm, blit_whole]
  have c5 := (c3.trans c4).alloc (.cells (nd (nd8 l).1) 35)
  have b5 := hp_alloc w4 (.cells (nd (nd8 l).1) 35)
  revert c5 b5
  generalize w4.alloc (.cells (nd (nd8 l).1) 35) = w5
  generalize w4.heap.size = q5
  intro c5 b5
  refine v_meet (fun f u => f 1 = v ∧ f 2 = .int .i64 i ∧ f 4 = .pointer (some ⟨g, 0, none⟩) ∧ f 7 = .pointer (some ⟨g + 1, 0, none⟩) ∧ f 9 = .pointer (some ⟨g + 1 + 1, 0, none⟩) ∧ Ch Nw w1 u) ?_ ?_
  · rcases nd8_2 l with h0 | h5
    · obtain ⟨_, ha, hb⟩ := nd8_e h0
      obtain ⟨_, _, _, k3, k4⟩ := keep c5
      simp [go_sem, h0, b5, hsm, ham]
      refine (nput_any _ w5 okm k4).mono ?_
      intro v6 w6 hN
      obtain ⟨s6, e6, rfl, c6, hN⟩ := hN.form okm
      rcases hN with ⟨rfl, _, hsl⟩ | ⟨_, hno⟩
      · rw [hb] at hsl
        have st1 := sx hsl rfl
        have st2 := sx (k3.ch c6 fun _ _ e => e) rfl
        simp [go_sem, f1, st1, st2]
        exact ⟨f2, f4, f7, f9, c5.trans c6⟩
      · rw [ha] at hno; cases hno
    · simp [go_sem, h5]
      exact ⟨f1, f2, f4, f7, f9, c5⟩
  clear f1 f2 f4 f7 f9 f
  rintro f u ⟨f1, f2, f4, f7, f9, c3⟩
  obtain ⟨k0, k1, k2, k3, k4⟩ := keep c3
  have hsp := pt_size okp
  have hap := pt_all okp
  simp [go_sem, f2, f7, f9, k1, k2, hsn, han, hsp, hap]
  refine (with_any ps i p u ok okp).mono ?_
  rintro _ w7 ⟨rfl, c7⟩
  generalize hQ : (if 0 ≤ i ∧ i < 8 then ps.set i.toNat p else ps) = Q
  have okq : NdOk Q := by
    rw [← hQ]
    split
    · exact ok.set _ okp
    · exact ok
  have hsq := nd_size okq
  simp [go_sem, hz_nd, zc_nd, hsz, hsq, blit_whole]
  have c8 := (c3.trans c7).alloc (.cells (nd Q) 35)
  have b8 := hp_alloc w7 (.cells (nd Q) 35)
  revert c8 b8
  generalize w7.alloc (.cells (nd Q) 35) = w8
  generalize w7.heap.size = q8
  intro c8 b8
  refine v_loop (fun r f wr => ∃ k, k ≤ 8 ∧ r = 8 - k ∧ f 2 = .int .i64 i ∧ f 4 = .pointer (some ⟨g, 0, none⟩) ∧ f 7 = .pointer (some ⟨g + 1, 0, none⟩) ∧ f 18 = .pointer (some ⟨q8, 0, none⟩) ∧ f 19 = .int .i64 k ∧ Ch Nw w1 wr ∧ wr.heap[q8]? = some (.cells (nd Q) 35 (0, 0))) 8
    ⟨0, by omega, rfl, by simp [f2], by simp [f4], by simp [f7], by simp, by simp, c8, b8⟩ ?_
  clear f2 f4 f7 f9 f1 f c8 b8
  rintro J hJ _ f wr ⟨k, hk, rfl, f2, f4, f7, f18, f19, c8, b8⟩
  obtain ⟨k0, k1, k2, k3, k4⟩ := keep c8
  by_cases hk8 : k < 8
  · have hki : (k : Int) < 8 := by omega
    have hwk : IntKind.i64.wrap ((k : Int) + 1) = ((k + 1 : Nat) : Int) := by simp [IntKind.wrap_i64]; omega
    obtain ⟨x, hx, okx⟩ := ok.at' hk8
    obtain ⟨y, hy, oky⟩ := okq.at' hk8
    have gx := nd_get ok hx
    have gy := nd_get okq hy
    have hfit : k * 41 + 41 ≤ 328 := by omega
    simp [go_sem, f19, hki]
    refine v_draw' [(0, none), (1, none), (2, none), (3, none), (4, none), (5, none), (6, none), (7, none), (8, none), (9, none), (10, none), (11, none), (12, none), (13, none), (14, none), (15, none), (16, none), (17, none), (18, none), (19, none), (20, none), (21, none), (22, none), (23, none)] (by kernel_rfl) (by kernel_rfl) ?_
    by_cases hik : (k : Int) = i
    · subst hik
      have hyp : y = p := by
        rw [← hQ, if_pos (by omega)] at hy
        simp [show k < ps.length by rw [ok.len]; omega] at hy
        exact hy.symm
      subst hyp
      have heq := fun w => eq_pt w okp okp
      simp [go_sem, f2, f4, f7, f18, f19, b8, k0, k1, hki, hfit, hsq, hsn, gx, gy, hsp, hap, heq, hwk]
      exact Rnd.intro _ (by omega) (hJ _ _ _ ⟨k + 1, by omega, rfl, by simp [f2], by simp [f4], by simp [f7], by simp [f18], by simp, c8.drew, b8⟩)
    · have hyx : y = x := by
        rw [← hQ] at hy
        split at hy
        · rename_i h
          rw [List.getElem?_set_ne (by omega), hx] at hy
          exact (Option.some.inj hy).symm
        · rw [hx] at hy
          exact (Option.some.inj hy).symm
      subst hyx
      have heq := fun w => eq_pt w okx okx
      have hne : ((k : Int) == i) = false := beq_false_of_ne hik
      simp [go_sem, f2, f4, f7, f18, f19, b8, k0, k1, hki, hfit, hsq, hsn, gx, gy, hsp, hap, heq, hwk, hne, bne]
      exact Rnd.intro _ (by omega) (hJ _ _ _ ⟨k + 1, by omega, rfl, by simp [f2], by simp [f4], by simp [f7], by simp [f18], by simp, c8.drew, b8⟩)
  · obtain rfl : k = 8 := by omega
    simp [go_sem, f19]
    refine (nwakes_any wr k4).mono ?_
    rintro _ w9 ⟨rfl, c9⟩
    simp [go_sem]
    exact hR _ _ ⟨rfl, (c1.trans c8).trans c9⟩
end Go.Proofs.YtfcoiboeohgimaaDoor
