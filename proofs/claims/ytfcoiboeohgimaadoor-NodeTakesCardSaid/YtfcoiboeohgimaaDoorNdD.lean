/- NodeTakes, walked. Condition: the variable ptr.wide holds what the text lays. -/
import Derived.Test.YtfcoiboeohgimaaDoorNdW
namespace Go.Proofs.YtfcoiboeohgimaaDoor
open Go.RowKit Go.Kin

theorem refEnd_e (l : List UInt8) (e : Int) : (if e = 0 ∧ 0 < l.length then 5 else e) = (endS l e).2 := by
  unfold endS failS
  by_cases h1 : e = 0 <;> by_cases h2 : 0 < l.length <;> simp [h1, h2]
theorem nodeTakes_any (v : Value) (l : List UInt8) (w : World) (hs : Sl w v l.length (bvs l)) (hown : ∀ k, v.ownBlock = some k → k < w.heap.size) (hw : Lw w) :
    Ret Tryd.prog 4 #[v] w fun v' w' => v' = .bool true ∧ Ch Nw w w' := by
  refine v_enter Tryd.func4 Tryd.ntmps4 rfl (by simp) fun R' hR => ?_
  have hlen := hs.len Tryd.underlying30 3
  by_cases h6 : 600 < l.length
  · have h6' : (600 : Int) < l.length := by omega
    simp [go_sem, hlen, h6']
    refine (nwakes_any w hw).mono ?_
    rintro _ w2 ⟨rfl, c2⟩
    simp [go_sem]
    exact hR _ _ ⟨rfl, c2⟩
  have h6' : ¬ (600 : Int) < l.length := by omega
  simp [go_sem, hlen, h6']
  refine (ntake_any v l w (by omega) hs hw).mono ?_
  rintro _ w1 ⟨rfl, c1⟩
  have okg := nd8_ok l
  have hsg := nd_size okg
  have hag := nd_all okg
  have hsz := nd_size ndz_ok
  have haz := nd_all ndz_ok
  obtain ⟨A, n, c, hv⟩ : ∃ A n c, v = .slice A n c := by
    obtain ⟨A, c, h, _⟩ := id hs
    exact ⟨A, _, c, h⟩
  subst hv
  simp [go_sem, hz_nd, zc_nd, hsg, hsz, blit_whole]
  generalize hg : w1.heap.size = g
  have c2 := ((((Ch.refl Nw w1).alloc (.cells (nd (nd8 l).1) 35)).alloc (.cells (nd ndz) 35)).alloc (.cells #[.slice A n c, .int .i64 0] 43))
  have b0 := al3_0 w1 (.cells (nd (nd8 l).1) 35) (.cells (nd ndz) 35) (.cells #[.slice A n c, .int .i64 0] 43)
  have b1 := al3_1 w1 (.cells (nd (nd8 l).1) 35) (.cells (nd ndz) 35) (.cells #[.slice A n c, .int .i64 0] 43)
  have b2 := al3_2 w1 (.cells (nd (nd8 l).1) 35) (.cells (nd ndz) 35) (.cells #[.slice A n c, .int .i64 0] 43)
  have c12 := c1.trans c2
  have hs3 := hs.ch c12 fun _ _ e => e
  have hgz := c1.size
  have hgw : w1.heap.size = g := hg
  revert c2 b0 b1 b2 c12 hs3
  generalize (((w1.alloc (.cells (nd (nd8 l).1) 35)).alloc (.cells (nd ndz) 35)).alloc (.cells #[.slice A n c, .int .i64 0] 43)) = w2
  rw [hg]
  intro c2 b0 b1 b2 c12 hs3
  have hz2 := lt_of_block b2
  generalize hown' : (Value.slice A n c).ownBlock = own at *
  have R2 : RC w2 (g + 1 + 1) l 0 own := ⟨_, b2, hs3, .inl hown'⟩
  have lit : ∀ {w : World} {v : Value} {n : Nat} {xs : List Value}, Sl w v n xs → ∃ A m c, v = .slice A m c := fun h => by
    obtain ⟨A, c, h, _⟩ := id h
    exact ⟨A, _, c, h⟩
  refine v_loop (fun r f wr => ∃ k, k ≤ 8 ∧ r = 8 - k ∧ f 3 = .pointer (some ⟨g, 0, none⟩) ∧ f 4 = .int .i64 (nd8 l).2 ∧ f 5 = .pointer (some ⟨g + 1, 0, none⟩) ∧ f 6 = .pointer (some ⟨g + 1 + 1, 0, none⟩) ∧ f 7 = .int .i64 k ∧
    RC wr (g + 1 + 1) (ndS k l 0).2.1 (ndS k l 0).2.2 own ∧ wr.heap[g]? = some (.cells (nd (nd8 l).1) 35 (0, 0)) ∧ wr.heap[g + 1]? = some (.cells (nd ((ndS k l 0).1 ++ List.replicate (8 - k) ptz)) 35 (0, 0)) ∧ Ch Nw w wr) 8
    ⟨0, by omega, rfl, by simp, by simp, by simp, by simp, by simp, by simpa [ndS] using R2, b0, by simpa [ndS, ndz] using b1, c12⟩ ?_
  clear R2 b0 b1 b2 c12 c2 hs3
  rintro J hJ _ f wr ⟨k, hk, rfl, e3, e4, e5, e6, e7, R2, b0, b1, cc⟩
  by_cases hk8 : k < 8
  · have hki : (k : Int) < 8 := by omega
    have hwk : IntKind.i64.wrap ((k : Int) + 1) = ((k + 1 : Nat) : Int) := by simp [IntKind.wrap_i64]; omega
    obtain ⟨s2, b2, hs2, ho2⟩ := R2
    obtain ⟨A2, n2, C2, rfl⟩ := lit hs2
    have q2 := fun i => cell_blk b2 i
    have hll := ndS_left k l 0
    simp [go_sem, e6, e7, hki, q2]
    have hownr : ∀ k, own = some k → k < w.heap.size := hown
    refine (rtake_any _ (ndS k l 0).2.1 (ndS k l 0).2.2 own wr (by omega) ⟨_, rfl, hs2, ho2⟩ (fun k hk => Nat.lt_of_lt_of_le (hownr k hk) cc.size)).mono ?_
    rintro _ u1 ⟨_, rfl, ⟨s3, rfl, hs4, ho4⟩, cu⟩
    obtain ⟨A4, n4, C4, rfl⟩ := lit hs4
    have b0 := cu.hp b0 id
    have b1 := cu.hp b1 id
    have b2 := cu.hp b2 id
    have okp := ptS_ok (ndS k l 0).2.1 (ndS k l 0).2.2
    have hsp := pt_size okp
    have hap := pt_all okp
    simp [go_sem, hz_pt, zc_pt, pt_size ptz_ok, hsp, blit_whole]
    have cA := ((Ch.refl Nw u1).alloc (.cells (pt ptz) 28)).alloc (.cells #[.slice none 0 0, .int .i64 0] 43)
    have b8 := al2_0 u1 (.cells (pt ptz) 28) (.cells #[.slice none 0 0, .int .i64 0] 43)
    have b9 := al2_1 u1 (.cells (pt ptz) 28) (.cells #[.slice none 0 0, .int .i64 0] 43)
    have b0 := cA.hp b0 id
    have b1 := cA.hp b1 id
    have b2 := cA.hp b2 id
    have hs4 := hs4.ch cA fun _ _ e => e
    have cc := (cc.trans cu).trans cA
    have hgu : g + 1 + 1 < u1.heap.size := lt_of_block (cu.hp (by assumption) id)
    clear cA
    revert b8 b9 b0 b1 b2 hs4 cc hgu
    generalize (u1.alloc (.cells (pt ptz) 28)).alloc (.cells #[.slice none 0 0, .int .i64 0] 43) = uA
    generalize u1.heap.size = q8
    intro b8 b9 b0 b1 b2 hs4 cc hgu
    generalize hP : (ptS (ndS k l 0).2.1 (ndS k l 0).2.2).1 = P at *
    generalize hE : (ptS (ndS k l 0).2.1 (ndS k l 0).2.2).2.2 = E at *
    have cB := (Ch.refl (only q8) uA).setRow (g := q8) (.inl rfl) (pt P)
    have nq : ∀ j, j ≠ q8 → ¬ only q8 j := fun j h e => h e
    have hownq : ∀ k, own = some k → k < g := fun k hk => by have := hownr k hk; omega
    have b9 := cB.hp b9 (nq _ (by omega))
    have b0 := cB.hp b0 (nq _ (by omega))
    have b1 := cB.hp b1 (nq _ (by omega))
    have b2 := cB.hp b2 (nq _ (by omega))
    have hs4 := hs4.ch cB (own_or (fun k hk e => by have := hownq k hk; simp only [only] at e; omega) ho4)
    have cc := cc.setRow (g := q8) (.inr (by omega)) (pt P)
    have b8 : (uA.setRow q8 (pt P)).heap[q8]? = some (.cells (pt P) 28 (0, 0)) := by rw [hp_setRow, b8]; rfl
    clear cB
    revert b8 b9 b0 b1 b2 hs4 cc
    generalize uA.setRow q8 (pt P) = uB
    intro b9 b0 b1 b2 hs4 cc b8
    have q9 := fun i => cell_blk b9 i
    have z9 := fun i => frz_blk b9 i
    have cB := put2_ch (s := .slice A4 n4 C4) (e := E) (q := q8 + 1) (Ch.refl (only (q8 + 1)) uB) (.inl rfl)
    have nq : ∀ j, j ≠ q8 + 1 → ¬ only (q8 + 1) j := fun j h e => h e
    have b8 := cB.hp b8 (nq _ (by omega))
    have b0 := cB.hp b0 (nq _ (by omega))
    have b1 := cB.hp b1 (nq _ (by omega))
    have b2 := cB.hp b2 (nq _ (by omega))
    have hs4 := hs4.ch cB (own_or (fun k hk e => by have := hownq k hk; simp only [only] at e; omega) ho4)
    have cc := put2_ch (s := .slice A4 n4 C4) (e := E) (q := q8 + 1) cc (.inr (by omega))
    have b9 : (put2 uB (q8 + 1) (.slice A4 n4 C4) E).heap[q8 + 1]? = some (.cells #[.slice A4 n4 C4, .int .i64 E] 43 (0, 0)) := blk_set1 (blk_set0 b9)
    obtain ⟨u2, hu2⟩ : ∃ u, put2 uB (q8 + 1) (.slice A4 n4 C4) E = u := ⟨_, rfl⟩
    rw [hu2] at b8 b9 b0 b1 b2 hs4 cc
    simp only [put2] at hu2
    clear cB
    have q2 := fun i => cell_blk b2 i
    have z2 := fun i => frz_blk b2 i
    have okm := mid_ok k (by omega) l
    have hsm := nd_size okm
    have hbl := nd_blit okm hk8 okp
    have hfit : k * 41 + 41 ≤ 328 := by omega
    have h8 : (put2 u2 (g + 1 + 1) (.slice A4 n4 C4) E).heap[q8]? = some (.cells (pt P) 28 (0, 0)) := by
      refine (hp_setCell_ne _ _ _ _ ?_).trans ((hp_setCell_ne _ _ _ _ ?_).trans b8)
      all_goals
        show q8 ≠ g + 1 + 1
        intro e
        omega
    have h1 : (put2 u2 (g + 1 + 1) (.slice A4 n4 C4) E).heap[g + 1]? = some (.cells (nd ((ndS k l 0).1 ++ List.replicate (8 - k) ptz)) 35 (0, 0)) :=
      (hp_setCell_ne _ _ _ _ (by show g + 1 ≠ g + 1 + 1; omega)).trans ((hp_setCell_ne _ _ _ _ (by show g + 1 ≠ g + 1 + 1; omega)).trans b1)
    have h0 : (put2 u2 (g + 1 + 1) (.slice A4 n4 C4) E).heap[g]? = some (.cells (nd (nd8 l).1) 35 (0, 0)) :=
      (hp_setCell_ne _ _ _ _ (by show g ≠ g + 1 + 1; omega)).trans ((hp_setCell_ne _ _ _ _ (by show g ≠ g + 1 + 1; omega)).trans b0)
    have hownq : ∀ k, own = some k → k < g := fun k hk => by have := hownr k hk; omega
    have R6 := put2_rc (e := E) b2 hs4 ho4 fun k hk e => by have := hownq k hk; omega
    have cc := put2_ch (s := .slice A4 n4 C4) (e := E) (q := g + 1 + 1) cc (.inr (by omega))
    obtain ⟨u3, hu3⟩ : ∃ u, put2 u2 (g + 1 + 1) (.slice A4 n4 C4) E = u := ⟨_, rfl⟩
    rw [hu3] at h8 h1 h0 R6 cc
    simp only [put2] at hu3
    have q9' := fun i => cell_blk b9 i
    simp [go_sem, q9, z9, hu2, e5, e6, e7, q2, z2, q9', hu3, h8, h1, hsp, hap, hsm, hki, hbl, hfit, hwk]
    have cS := (Ch.refl (only (g + 1)) u3).setRow (g := g + 1) (.inl rfl) (nd (((ndS k l 0).1 ++ List.replicate (8 - k) ptz).set k P))
    refine Rnd.intro (8 - (k + 1)) (by omega) (hJ _ _ _ ⟨k + 1, by omega, rfl, by simpa using e3, by simpa using e4, by simpa using e5, by simpa using e6, by simp, (show RC u3 (g + 1 + 1) (ndS (k + 1) l 0).2.1 (ndS (k + 1) l 0).2.2 own by simp only [ndS, hE]; exact R6).ch cS (by simp only [only]; omega) (fun k hk e => by have := hownq k hk; simp only [only] at e; omega), cS.hp h0 (by simp only [only]; omega), ?_, cc.setRow (.inr (by omega)) _⟩)
    have hle : ((ndS k l 0).1 ++ List.replicate (8 - k) ptz).set k P = (ndS (k + 1) l 0).1 ++ List.replicate (8 - (k + 1)) ptz := by
      rw [List.set_append_right _ _ (by rw [ndS_length]; omega), ndS_length, Nat.sub_self, show 8 - k = (8 - (k + 1)) + 1 by omega, List.replicate_succ, List.set_cons_zero]
      simp [ndS, hP]
    rw [hp_setRow, h1, hle]
    rfl
  · obtain rfl : k = 8 := by omega
    obtain ⟨s2, b2, hs2, ho2⟩ := R2
    obtain ⟨A2, n2, C2, rfl⟩ := lit hs2
    have q2 := fun i => cell_blk b2 i
    simp [go_sem, e6, e7, q2]
    refine (refEnd _ (ndS 8 l 0).2.1 (ndS 8 l 0).2.2 own wr ⟨_, rfl, hs2, ho2⟩).mono ?_
    rintro _ u1 ⟨⟨s3, rfl, hs4, ho4⟩, cu⟩
    obtain ⟨A4, n4, C4, rfl⟩ := lit hs4
    rw [refEnd_e]
    have hfld : ∀ (e : Int) w, (Instr.field 43 (.agg #[.slice A4 n4 C4, .int .i64 e]) 1).run Tryd.prog w = .ok (.int .i64 e) w := fun e w => run_field_one (i := 1) Tryd.underlying43 (f := ⟨"E", 33, 1, false, "", "", 24⟩) (by rfl) Tryd.isAgg33 rfl w
    have b0 := cu.hp b0 id
    have b1 := cu.hp b1 id
    have ok8 : NdOk (ndS 8 l 0).1 := ⟨ndS_length _ _ _, ndS_ok _ _ _⟩
    have hnd : nd ((ndS 8 l 0).1 ++ List.replicate (8 - 8) ptz) = nd (ndS 8 l 0).1 := by simp
    rw [hnd] at b1
    have cc := cc.trans cu
    have hw1 := hw.ch cc id
    by_cases he : (endS (ndS 8 l 0).2.1 (ndS 8 l 0).2.2).2 = 0
    · have e8 : nd8 l = ((ndS 8 l 0).1, 0) := by unfold nd8; rw [if_pos he]
      rw [e8] at e4 b0
      have heq := fun w => eq_nd w ok8 ok8
      have hs8 := nd_size ok8
      have ha8 := nd_all ok8
      simp [go_sem, hfld, he, e3, e4, e5, b0, b1, hs8, ha8, heq]
      refine (nwakes_any u1 hw1).mono ?_
      rintro _ w9 ⟨rfl, c9⟩
      simp [go_sem]
      exact hR _ _ ⟨rfl, cc.trans c9⟩
    · have e8 : nd8 l = (ndz, 5) := by unfold nd8; rw [if_neg he]
      rw [e8] at e4 b0
      have he' : ((endS (ndS 8 l 0).2.1 (ndS 8 l 0).2.2).2 != 0) = true := by simpa using he
      have heq := fun w => eq_nd w ndz_ok ndz_ok
      simp [go_sem, hfld, he', e3, e4, b0, hsz, haz, bld_nd0, heq]
      refine (nwakes_any u1 hw1).mono ?_
      rintro _ w9 ⟨rfl, c9⟩
      simp [go_sem]
      exact hR _ _ ⟨rfl, cc.trans c9⟩
end Go.Proofs.YtfcoiboeohgimaaDoor
