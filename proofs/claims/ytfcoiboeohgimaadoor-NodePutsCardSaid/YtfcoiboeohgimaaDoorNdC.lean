/- NodePuts, walked. Condition: the variable ptr.wide holds what the text lays. -/
import Derived.Test.YtfcoiboeohgimaaDoorNdW
namespace Go.Proofs.YtfcoiboeohgimaaDoor
open Go.RowKit Go.Kin

theorem nodePuts_any (ps : List Pt) (w : World) (ok : NdOk ps) (hw : Lw w) : Ret Tryd.prog 3 #[.agg (nd ps)] w fun v' w' => v' = .bool true ∧ Ch Nw w w' := by
  refine v_enter Tryd.func3 Tryd.ntmps3 rfl (by simp) fun R' hR => ?_
  have hsz := nd_size ok
  have hall := nd_all ok
  have sx := fun {w : World} {v : Value} {l : List UInt8} {n : Nat} (h : Sl w v n (bvs l)) (hn : l.length = n) => h.str (P := Tryd.prog) hn Tryd.underlying30 Tryd.underlying5 Tryd.underlying9
  simp [go_sem]
  have c1 := (Ch.refl Nw w).alloc (.cells (nd ps) 29)
  have b1 := hp_alloc w (.cells (nd ps) 29)
  revert c1 b1
  generalize w.alloc (.cells (nd ps) 29) = w1
  generalize hg : w.heap.size = g
  intro c1 b1
  have hz1 := lt_of_block b1
  refine v_loop (fun r f wr => ∃ k, k ≤ 8 ∧ r = 8 - k ∧ f 1 = .pointer (some ⟨g, 0, none⟩) ∧ f 4 = .int .i64 (cnt (ps.take k)) ∧ f 5 = .bool ((ps.take k).all okP) ∧ f 6 = .int .i64 k ∧ Mine 5 w1 (f 3) (64 * k) (bvs (bytesN (ps.take k))) wr) 8
    ⟨0, by omega, rfl, by simp, by simp [cnt], by simp, by simp, by simpa [bytesN, bvs] using Mine.nil _ (Ch.refl _ w1)⟩ ?_
  rintro J hJ _ f wr ⟨k, hk, rfl, h1, h4, h5, h6, hm⟩
  have b0 := b1
  have b1 := hm.ch.hp b1 id
  by_cases hk8 : k < 8
  · have hki : (k : Int) < 8 := by omega
    obtain ⟨p, hp, okp⟩ := ok.at' hk8
    have hs1 := pt_size okp
    have ha1 := pt_all okp
    have hget := nd_get ok hp
    have hfit : k * 41 + 41 ≤ 328 := by omega
    have hwk : IntKind.i64.wrap ((k : Int) + 1) = ((k + 1 : Nat) : Int) := by simp [IntKind.wrap_i64]; omega
    have htk : ps.take (k + 1) = ps.take k ++ [p] := by rw [List.take_add_one, hp]; rfl
    have hcl := cnt_le (ps.take k)
    rw [List.length_take, ok.len] at hcl
    have hwc : IntKind.i64.wrap ((cnt (ps.take k) : Int) + 1) = ((cnt (ps.take k) + 1 : Nat) : Int) := by simp [IntKind.wrap_i64]; omega
    have heq := fun w => eq_pt w okp ptz_ok
    have hsw : ∀ {u : World}, Mine 5 w1 (f 3) (64 * k) (bvs (bytesN (ps.take k))) u → ∀ {v2 : Value} {u2 : World}, Mine 5 u v2 64 (bvs (putP p)) u2 → ∀ {K : Value → World → Prop} {ty : TypeId}, (∀ v3 u3, Mine 5 w1 v3 (64 * (k + 1)) (bvs (bytesN (ps.take (k + 1)))) u3 → K v3 u3) → VB Tryd.prog .append #[30, 30] ty #[f 3, v2] u2 K := by
      intro u h1 v2 u2 h2 K ty h3
      have hm2 := h1.step h2.ch
      refine VB_appn tyB hm2.own h2.sl (by rw [bvs_length, putP_length okp]) (bvs_one _) (by unfold maxLen; omega) (by omega) fun v3 w3 d4 d5 d6 => ?_
      refine h3 _ _ ?_
      have := hm2.grow d4 d5 d6
      rw [htk, bytesN, List.flatMap_append, bvs_append, Nat.mul_add]
      simpa [bytesN] using this
    have next : ∀ f' u, f' 1 = .pointer (some ⟨g, 0, none⟩) → f' 4 = .int .i64 (cnt (ps.take (k + 1))) → f' 5 = .bool ((ps.take (k + 1)).all okP) → f' 6 = .int .i64 ((k + 1 : Nat) : Int) → Mine 5 w1 (f' 3) (64 * (k + 1)) (bvs (bytesN (ps.take (k + 1)))) u → J (8 - (k + 1)) f' u := fun f' u a1 a4 a5 a6 a7 => hJ _ _ _ ⟨k + 1, by omega, rfl, a1, a4, a5, a6, a7⟩
    have hcS := cnt_snoc (ps.take k) p
    rw [← htk] at hcS
    have haS : (ps.take (k + 1)).all okP = ((ps.take k).all okP && okP p) := by rw [htk, List.all_append]; simp
    clear hJ
    cases hak : (ps.take k).all okP
    · rw [hak] at h5 haS
      simp [go_sem, h1, h5, h6, hki, b1, hsz, hfit, hget]
      refine (rbytes_any p wr okp).mono ?_
      intro v2 u2 hm2
      simp [go_sem]
      refine hsw hm hm2 fun v3 u3 hm3 => ?_
      have b3 := hm3.ch.hp b0 id
      by_cases hz : p = ptz
      · subst hz
        simp [go_sem, h1, h4, h6, hki, b3, hsz, hfit, hget, heq, bld_pt0, hwk]
        refine Rnd.intro _ (by omega) (next _ _ (by simp [h1]) (by simp [h4, hcS]) (by simp [h5, haS]) (by simp) (by simpa using hm3))
      · simp [go_sem, h1, h4, h6, hki, b3, hsz, hfit, hget, heq, bld_pt0, hwk, hz, hwc]
        refine Rnd.intro _ (by omega) (next _ _ (by simp [h1]) (by simp [h4, hcS, hz]) (by simp [h5, haS]) (by simp) (by simpa using hm3))
    · rw [hak] at h5 haS
      simp [go_sem, h1, h5, h6, hki, b1, hsz, hfit, hget]
      refine (good_any p wr okp).mono ?_
      rintro _ u1 ⟨rfl, cu⟩
      have hm1 := hm.step cu
      have b2 := cu.hp b1 id
      simp [go_sem, h1, h6, hki, b2, hsz, hfit, hget]
      refine (rbytes_any p u1 okp).mono ?_
      intro v2 u2 hm2
      simp [go_sem]
      refine hsw hm1 hm2 fun v3 u3 hm3 => ?_
      have b3 := hm3.ch.hp b0 id
      by_cases hz : p = ptz
      · subst hz
        simp [go_sem, h1, h4, h6, hki, b3, hsz, hfit, hget, heq, bld_pt0, hwk]
        refine Rnd.intro _ (by omega) (next _ _ (by simp [h1]) (by simp [h4, hcS]) (by simp [h5, haS]) (by simp) (by simpa using hm3))
      · simp [go_sem, h1, h4, h6, hki, b3, hsz, hfit, hget, heq, bld_pt0, hwk, hz, hwc]
        refine Rnd.intro _ (by omega) (next _ _ (by simp [h1]) (by simp [h4, hcS, hz]) (by simp [h5, haS]) (by simp) (by simpa using hm3))
  · obtain rfl : k = 8 := by omega
    rw [List.take_of_length_le (by rw [ok.len]; omega)] at h4 h5 hm
    simp [go_sem, h1, h6, b1, hsz, hall]
    have hw2 := hw.ch (c1.trans hm.ch) id
    refine (nput_any ps wr ok hw2).mono ?_
    rintro _ w3 (⟨ha, s, rfl, h3⟩ | ⟨ha, rfl, c3⟩)
    · have hbl : (bytesN ps).length = 512 := by rw [bytesN_length _ ok.all, ok.len]
      have s1 := sx h3.sl hbl
      have s2 := sx (hm.step h3.ch).sl hbl
      have b3 := h3.ch.hp b1 id
      rw [ha] at h5
      simp [go_sem, h5, s1, s2, h1, b3, hsz, hall]
      refine (empty_any ps w3 ok).mono ?_
      rintro _ w4 ⟨rfl, c4⟩
      have b4 := c4.hp b3 id
      have hce : ((cnt ps : Int) == 0) = decide (ps = ndz) := by
        have hz : cnt ps = 0 ↔ ps = ndz := by
          unfold cnt
          rw [List.length_eq_zero_iff, List.filter_eq_nil_iff]
          constructor
          · intro h
            unfold ndz
            rw [← ok.len, List.eq_replicate_iff]
            exact ⟨rfl, fun p hp => by simpa using h p hp⟩
          · intro h p hp
            rw [h] at hp
            rw [(List.mem_replicate.1 hp).2]
            simp
        by_cases h : ps = ndz
        · rw [hz.2 h, decide_eq_true h]; rfl
        · rw [decide_eq_false h]
          exact beq_false_of_ne fun e => h (hz.1 (by omega))
      simp [go_sem, h4, hce, h1, b4, hsz, hall]
      refine (len_any ps w4 ok).mono ?_
      rintro _ w5 ⟨rfl, c5⟩
      simp [go_sem, h4]
      refine (nwakes_any w5 (hw2.ch ((h3.ch.trans c4).trans c5) id)).mono ?_
      rintro _ w6 ⟨rfl, c6⟩
      simp [go_sem]
      exact hR _ _ ⟨rfl, ((((c1.trans hm.ch).trans h3.ch).trans c4).trans c5).trans c6⟩
    · rw [ha] at h5
      simp [go_sem, h5]
      refine (nwakes_any w3 (hw2.ch c3 id)).mono ?_
      rintro _ w4 ⟨rfl, c4⟩
      simp [go_sem]
      exact hR _ _ ⟨rfl, ((c1.trans hm.ch).trans c3).trans c4⟩
end Go.Proofs.YtfcoiboeohgimaaDoor
