/- What ptr's Take answers, as a contract on the call. Conditions: the variable ptr.wide holds what the text lays; sizes. -/
import Derived.Test.YtnefdmbdkljifaaGreatDoorShaB
set_option linter.unusedSimpArgs false
set_option linter.unusedVariables false

namespace Go.Proofs.YtnefdmbdkljifaaGreatDoor
open Go.RowKit Go.Kin

theorem ptake_any (g o : Nat) (l : List UInt8) (e : Int) (w : World) (hl : l.length ≤ 1000000) (hw : Lw w) (hgl : g ≠ 1) (hr : Rdr w g o l e) (ho : o < w.heap.size) :
    Ret Tryz.prog 40 #[.pointer (some ⟨g, 0, none⟩)] w fun v' w' => v' = .agg (pt (ptS l e).1) ∧ Rdr w' g o (ptS l e).2.1 (ptS l e).2.2 ∧ Ch (only g) w w' := by
  refine v_enter Tryz.func40 Tryz.ntmps40 rfl (by simp) fun R' hR => ?_
  simp [go_sem, hz_pt, zc_pt]
  have hb1 := hp_alloc w (.cells (pt ptz) 37)
  have hc1 := (Ch.refl Nw w).alloc (.cells (pt ptz) 37)
  have hr1 := hr.ch hc1 id id
  have hl1 := hw.ch hc1 id
  have hglt := hr.lt
  have hs1 : (w.alloc (.cells (pt ptz) 37)).heap.size = w.heap.size + 1 := by simp
  revert hb1 hc1 hr1 hl1 hs1
  generalize w.alloc (.cells (pt ptz) 37) = w1
  generalize hq : w.heap.size = q at *
  intro hb1 hc1 hr1 hl1 hs1
  refine (raw_any g l e 64 w1 (by decide) (by omega) hr1).mono ?_
  rw [show (64 : Int).toNat = 64 by decide]
  rintro v2 w2 ⟨d1, d2, d3, d4⟩
  have hs2 := Sl.of_own d1
  have hlen2 := hs2.len Tryz.underlying62 3
  have hb2 := d4.hp hb1 (by simp only [only]; omega)
  have hsz := pt_size ptz_ok
  have hall := pt_all ptz_ok
  by_cases hlt : (rawS l e 64).1.length < 64
  · have hlti : ((rawS l e 64).1.length : Int) < 64 := by omega
    have e0 : ptS l e = (ptz, (rawS l e 64).2) := by unfold ptS; rw [if_pos hlt]
    simp [go_sem, hlen2, hlti, bld_pt0, hb2, hsz, blit_whole]
    have hb3 : (w2.setRow q (pt ptz)).heap[q]? = some (.cells (pt ptz) 37 (0, 0)) := by rw [hp_setRow, hb2]; rfl
    have hq3 := (Ch.refl (only q) w2).setRow (.inl rfl) (pt ptz)
    simp [go_sem, hb3, hsz, hall]
    refine hR _ _ ⟨by rw [e0], ?_, ((hc1.mono fun _ _ e => e.elim).trans d4).setRow (.inr (by omega)) _⟩
    rw [e0]
    exact d3.ch hq3 (by simp only [only]; omega) (by simp only [only]; omega)
  have he : e = 0 := by
    apply Classical.byContradiction
    intro h
    simp [rawS, h] at hlt
  subst he
  have hlen : ¬ l.length < 64 := by
    intro h
    simp [rawS, h] at hlt
  have hraw : rawS l 0 64 = (l.take 64, l.drop 64, 0) := by simp [rawS, hlen]
  rw [hraw] at d1 d3 hs2 hlen2 hlt
  simp only at d1 d3 hs2 hlen2 hlt
  generalize hbdef : l.take 64 = b at *
  have hb : b.length = 64 := by rw [← hbdef]; simp; omega
  have hlti : ¬ (b.length : Int) < 64 := by omega
  have eS : ptS l 0 = if tkOk b then (ptOf b, l.drop 64, 0) else (ptz, [], 5) := by
    unfold ptS
    rw [hraw]
    simp only [hb, Nat.lt_irrefl, if_false]
  simp [go_sem, hlen2, hlti]
  have ok := ptOf_ok hb
  refine (new_any v2 b w2 (by omega) hs2).mono ?_
  rintro _ w3 ⟨gr, or, rfl, k1, k1o, k1z, k2, k3⟩
  have hq2 : q < w2.heap.size := lt_of_block hb2
  have hg2 : g < w2.heap.size := d3.lt
  have r1 : rawS b 0 1 = (b.take 1, b.drop 1, 0) := by simp [rawS, hb]
  have r2 : rawS (b.drop 1) 0 1 = ((b.drop 1).take 1, b.drop 2, 0) := by simp [rawS, hb]
  have r3 : rawS (b.drop 2) 0 2 = ((b.drop 2).take 2, b.drop 4, 0) := by simp [rawS, hb]
  have r4 : rawS (b.drop 4) 0 4 = ((b.drop 4).take 4, b.drop 8, 0) := by simp [rawS, hb]
  have r5 : rawS (b.drop 8) 0 8 = ((b.drop 8).take 8, b.drop 16, 0) := by simp [rawS, hb]
  have r6 : rawS (b.drop 16) 0 (32 : Int).toNat = ((b.drop 16).take 32, b.drop 48, 0) := by simp [rawS, hb]
  obtain ⟨vk, hvk⟩ : ∃ x, fromLe (b.take 1) = x := ⟨_, rfl⟩
  obtain ⟨vl, hvl⟩ : ∃ x, fromLe ((b.drop 1).take 1) = x := ⟨_, rfl⟩
  obtain ⟨vo, hvo⟩ : ∃ x, fromLe ((b.drop 2).take 2) = x := ⟨_, rfl⟩
  obtain ⟨vf, hvf⟩ : ∃ x, fromLe ((b.drop 4).take 4) = x := ⟨_, rfl⟩
  obtain ⟨vb, hvb⟩ : ∃ x, fromLe ((b.drop 8).take 8) = x := ⟨_, rfl⟩
  simp [go_sem]
  refine (ru8 gr b 0 w3 (by omega) k2).mono ?_
  rintro _ w4 ⟨rfl, m4, c4⟩
  simp only [r1] at m4
  rw [r1, hvk]
  simp [go_sem]
  refine (ru8 gr _ 0 w4 (by simp; omega) m4).mono ?_
  rintro _ w5 ⟨rfl, m5, c5⟩
  simp only [r2] at m5
  rw [r2, hvl]
  simp [go_sem]
  refine (ru16 gr _ 0 w5 (by simp; omega) m5).mono ?_
  rintro _ w6 ⟨rfl, m6, c6⟩
  simp only [r3] at m6
  rw [r3, hvo]
  simp [go_sem]
  refine (ru32 gr _ 0 w6 (by simp; omega) m6).mono ?_
  rintro _ w7 ⟨rfl, m7, c7⟩
  simp only [r4] at m7
  rw [r4, hvf]
  simp [go_sem]
  refine (ru64 gr _ 0 w7 (by simp; omega) m7).mono ?_
  rintro _ w8 ⟨rfl, m8, c8⟩
  simp only [r5] at m8
  rw [r5, hvb]
  have ok0 : PtOk ⟨vk, vl, vo, vf, vb, zb 32, [0, 0, 0, 0]⟩ := by
    rw [← hvk, ← hvl, ← hvo, ← hvf, ← hvb]
    exact ⟨ok.k, ok.l, ok.o, ok.f, ok.b, rfl, rfl, ptz_ok.at'⟩
  generalize hp0 : (⟨vk, vl, vo, vf, vb, zb 32, [0, 0, 0, 0]⟩ : Pt) = p0 at ok0
  simp [go_sem, bld_pt5, hp0, hz_pt, zc_pt, hsz, pt_size ok0, blit_whole]
  have c38 : Ch (only gr) w3 w8 := (((c4.trans c5).trans c6).trans c7).trans c8
  have cN8 : Ch Nw w2 w8 := k3.trans' c38 fun j hj e => by simp only [only] at e; omega
  have hz8 := cN8.size
  have hor8 : or < w8.heap.size := Nat.lt_of_lt_of_le k1z c38.size
  have hgr8 : gr < w8.heap.size := m8.lt
  have hb9 := hp_alloc w8 (.cells (pt p0) 37)
  have c9 := (Ch.refl Nw w8).alloc (.cells (pt p0) 37)
  have m9 := m8.ch c9 id id
  have hs9 : (w8.alloc (.cells (pt p0) 37)).heap.size = w8.heap.size + 1 := by simp
  have cN9 := cN8.trans c9
  revert hb9 m9 hs9 cN9
  generalize w8.alloc (.cells (pt p0) 37) = w9
  generalize hx : w8.heap.size = x at *
  intro hb9 m9 hs9 cN9
  refine (raw_any gr _ 0 32 w9 (by decide) (by simp; omega) m9).mono ?_
  rw [r6]
  rintro v10 w10 ⟨f1, f2, f3, f4⟩
  have hHl : ((b.drop 16).take 32).length = 32 := ok.h
  simp only [hHl] at f1
  obtain ⟨g6, cap6, cur6, rfl, hb6, e1, e2, e3, e4⟩ := own_blk f1 (by omega)
  have hb9' := f4.hp hb9 (by simp only [only]; omega)
  have harr : ∀ w, (Instr.arrayAt 34 (.slice (some ⟨g6, 0, none⟩) 32 cap6)).run Tryz.prog w = .ok (.pointer (some ⟨g6, 0, none⟩)) w := fun w => run_arrayAt w _ _ _ _ _ _ Tryz.underlying34 (by omega)
  simp [go_sem, harr, hb6, e3, e4, hb9', bvs_length, hHl, pt_size ok0, blit_pt_h ok0.h hHl]
  have hq11 := (Ch.refl (only x) w10).setRow (.inl rfl) (pt { p0 with h := (b.drop 16).take 32 })
  have hr11 := f3.ch hq11 (by simp only [only]; omega) (by simp only [only]; omega)
  have cN11 := (cN9.trans' f4 (fun j hj e => by simp only [only] at e; omega)).setRow (.inr hz8) (pt { p0 with h := (b.drop 16).take 32 })
  have hb11 : (w10.setRow x (pt { p0 with h := (b.drop 16).take 32 })).heap[x]? = some (.cells (pt { p0 with h := (b.drop 16).take 32 }) 37) := by rw [hp_setRow, hb9']; rfl
  have e0 : ∀ k, k ≤ 4 → k = 0 → pt { p0 with h := (b.drop 16).take 32 } = pt ⟨vk, vl, vo, vf, vb, (b.drop 16).take 32, (atOf b).take k ++ List.replicate (4 - k) 0⟩ := by
    rintro k _ rfl
    rw [← hp0]
    rfl
  rw [e0 0 (by omega) rfl] at hb11 hr11 cN11
  rw [e0 0 (by omega) rfl]
  revert hr11 cN11 hb11
  generalize w10.setRow x (pt ⟨vk, vl, vo, vf, vb, (b.drop 16).take 32, (atOf b).take 0 ++ List.replicate (4 - 0) 0⟩) = w11
  intro hr11 cN11 hb11
  clear hq11 hb6 hb9 hb9' f1 f2 f3 f4 m9 m8 m7 m6 m5 m4 c38 cN8 cN9 k2 k3 c4 c5 c6 c7 c8 c9 harr
  refine v_loop (fun r f wr => ∃ k, k ≤ 4 ∧ r = 4 - k ∧ f 0 = .pointer (some ⟨g, 0, none⟩) ∧ f 2 = .pointer (some ⟨q, 0, none⟩) ∧ f 4 = .pointer (some ⟨gr, 0, none⟩) ∧ f 5 = .pointer (some ⟨x, 0, none⟩) ∧ f 31 = .int .i64 k ∧
    Rdr wr gr or (b.drop (48 + 2 * k)) 0 ∧ Ch Nw w2 wr ∧ wr.heap[x]? = some (.cells (pt ⟨vk, vl, vo, vf, vb, (b.drop 16).take 32, (atOf b).take k ++ List.replicate (4 - k) 0⟩) 37)) 4
    ⟨0, by omega, rfl, by simp, by simp, by simp, by simp, by simp, hr11, cN11, hb11⟩ ?_
  clear hr11 cN11 hb11
  rintro J hJ _ f wr ⟨k, hk, rfl, h0, h2, h4, h5, h31, hr, hc, hbx⟩
  by_cases hk4 : k < 4
  · have hki : (k : Int) < 4 := by omega
    simp [go_sem, h4, h31, hki]
    refine (ru16 gr _ 0 wr (by simp; omega) hr).mono ?_
    have r3 : rawS (b.drop (48 + 2 * k)) 0 2 = ((b.drop (48 + 2 * k)).take 2, b.drop (48 + 2 * (k + 1)), 0) := by
      simp [rawS, hb, show ¬ 64 - (48 + 2 * k) < 2 by omega, Nat.mul_add, Nat.add_assoc]
    rw [r3]
    rintro _ w7 ⟨rfl, d1, d2⟩
    have hb5' := d2.hp hbx (by simp only [only]; omega)
    have hcell := fun i => cell_blk hb5' i
    have hfz := fun i => frz_blk hb5' i
    have hAl : (atOf b).length = 4 := rfl
    have okk : PtOk ⟨vk, vl, vo, vf, vb, (b.drop 16).take 32, (atOf b).take k ++ List.replicate (4 - k) 0⟩ := by
      rw [← hvk, ← hvl, ← hvo, ← hvf, ← hvb]
      refine ⟨ok.k, ok.l, ok.o, ok.f, ok.b, hHl, by simp [hAl]; omega, fun y hy => ?_⟩
      rcases List.mem_append.1 hy with h | h
      · exact ok.at' y (List.mem_of_mem_take h)
      · rw [(List.mem_replicate.1 h).2]; decide
    have hin : (pt ⟨vk, vl, vo, vf, vb, (b.drop 16).take 32, (atOf b).take k ++ List.replicate (4 - k) 0⟩)[37 + k]? = some (.int .u16 (0 : Nat)) := by
      refine pt_a okk ?_
      simp only
      rw [List.getElem?_append_right (by rw [List.length_take]; omega), List.length_take, List.getElem?_replicate, if_pos (by omega)]
    simp [go_sem, h5, h31, hki, hcell, hfz, hin]
    have hq7 := (Ch.refl (only x) w7).setCell (p := ⟨x, 37 + k, none⟩) (.inl rfl) (.int .u16 (fromLe ((b.drop (48 + 2 * k)).take 2) : Nat))
    refine Rnd.intro (4 - (k + 1)) (by omega) (hJ _ _ _ ⟨k + 1, by omega, rfl, by simpa using h0, by simpa using h2, by simpa using h4, by simpa using h5, by simp [IntKind.wrap_i64]; omega,
      d1.ch hq7 (by simp only [only]; omega) (by simp only [only]; omega), (hc.trans' d2 (fun j hj e => by simp only [only] at e; omega)).setCell (.inr hz8) _, ?_⟩)
    rw [hp_setCell, hb5', setOf_cells, set_pt_a hHl]
    congr 3
    simp only
    have hx : (atOf b)[k]? = some (fromLe ((b.drop (48 + 2 * k)).take 2)) := by
      match k, hk4 with
      | 0, _ => rfl
      | 1, _ => rfl
      | 2, _ => rfl
      | 3, _ => rfl
    rw [List.set_append_right _ _ (by rw [List.length_take]; omega), List.length_take, hAl, show k - min k 4 = 0 by omega, show (atOf b).take (k + 1) = (atOf b).take k ++ (atOf b)[k]?.toList from List.take_add_one, hx, show 4 - k = (4 - (k + 1)) + 1 by omega, List.replicate_succ, List.set_cons_zero]
    simp
  · obtain rfl : k = 4 := by omega
    have hpe : (⟨vk, vl, vo, vf, vb, (b.drop 16).take 32, (atOf b).take 4 ++ List.replicate (4 - 4) 0⟩ : Pt) = ptOf b := by
      rw [← hvk, ← hvl, ← hvo, ← hvf, ← hvb]
      rfl
    rw [hpe] at hbx
    simp [go_sem, h4, h31]
    refine (left_any gr _ 0 wr hr).mono ?_
    rintro _ _ ⟨rfl, rfl⟩
    have hl8 : (b.drop (48 + 2 * 4)).length = 8 := by simp [hb]
    simp [go_sem, hl8]
    refine (noughts_any gr _ 0 8 _ (by decide) (by rw [hl8]; decide) hr).mono ?_
    have hnS : noughtS (b.drop (48 + 2 * 4)) 0 (8 : Int).toNat = ([], if nz (b.drop 56) then 5 else 0) := by
      have : rawS (b.drop (48 + 2 * 4)) 0 (8 : Int).toNat = (b.drop 56, [], 0) := by simp [rawS, hb]; exact List.take_of_length_le (by simp [hb])
      unfold noughtS
      rw [this]
      cases nz (b.drop 56) <;> simp [failS]
    rw [hnS]
    rintro _ w8' ⟨rfl, n1, n2⟩
    simp only at n1
    simp [go_sem, h4]
    refine (end_any gr _ _ w8' n1).mono ?_
    have heS : endS [] (if nz (b.drop 56) then 5 else 0) = ([], if nz (b.drop 56) then 5 else 0) := by simp [endS]
    rw [heS]
    rintro _ w9' ⟨rfl, n3, n4⟩
    have cend := (hc.trans' n2 fun j hj e => by simp only [only] at e; omega).trans' n4 fun j hj e => by simp only [only] at e; omega
    have hbx' := n4.hp (n2.hp hbx (by simp only [only]; omega)) (by simp only [only]; omega)
    have hsz' := pt_size ok
    have hall' := pt_all ok
    have hrd := d3.ch cend id id
    have hbq := cend.hp hb2 id
    have heq := fun w => eq_pt w ok ptz_ok
    have fin : ∀ {u : World}, Ch Nw w2 u → Ch (only g) w u := fun h => ((hc1.mono fun _ _ e => e.elim).trans d4).trans (h.mono fun _ _ e => e.elim)
    by_cases hnz : nz (b.drop 56) = true
    · have htk : ¬ tkOk b = true := by simp [tkOk, hnz]
      simp [go_sem, hnz, h0]
      refine (bad_any g _ 0 _ hrd).mono ?_
      have hfS : failS (l.drop 64) 0 5 = ([], 5) := by simp [failS]
      rw [hfS]
      rintro _ w12 ⟨rfl, b1, b2⟩
      have hbq2 := b2.hp hbq (by simp only [only]; omega)
      have hb3 : (w12.setRow q (pt ptz)).heap[q]? = some (.cells (pt ptz) 37 (0, 0)) := by rw [hp_setRow, hbq2]; rfl
      have hq3 := (Ch.refl (only q) w12).setRow (.inl rfl) (pt ptz)
      simp [go_sem, h2, hbq2, bld_pt0, hsz, blit_whole, hb3, hall]
      refine hR _ _ ⟨by rw [eS, if_neg htk], ?_, ((fin cend).trans b2).setRow (.inr (by omega)) _⟩
      rw [eS, if_neg htk]
      exact b1.ch hq3 (by simp only [only]; omega) (by simp only [only]; omega)
    · simp only [Bool.not_eq_true] at hnz
      by_cases hpz : ptOf b = ptz
      · have htk : tkOk b = true := by simp [tkOk, hnz, hpz]
        rw [hpz] at hbx'
        have heqz := fun w => eq_pt w ptz_ok ptz_ok
        have hb3 : (w9'.setRow q (pt ptz)).heap[q]? = some (.cells (pt ptz) 37 (0, 0)) := by rw [hp_setRow, hbq]; rfl
        have hq3 := (Ch.refl (only q) w9').setRow (.inl rfl) (pt ptz)
        simp [go_sem, hnz, h0, h2, h5, hbx', hsz, hall, bld_pt0, heqz, hbq, blit_whole, hb3]
        refine hR _ _ ⟨by rw [eS, if_pos htk, hpz], ?_, (fin cend).setRow (.inr (by omega)) _⟩
        rw [eS, if_pos htk]
        exact hrd.ch hq3 (by simp only [only]; omega) (by simp only [only]; omega)
      · simp [go_sem, hnz, h0, h2, h5, hbx', hsz', hall', bld_pt0, heq, hpz]
        refine (may_any (ptOf b) _ ok ?_).mono ?_
        · exact (hl1.ch d4 (by simp only [only]; exact fun e => hgl e.symm)).ch cend id
        rintro _ w13 ⟨rfl, c13⟩
        cases hm : mayP (ptOf b)
        · have htk : ¬ tkOk b = true := by simp [tkOk, hnz, hpz, hm]
          have hrd2 := hrd.ch c13 id id
          have hbq3 := c13.hp hbq id
          simp [go_sem, h0]
          refine (bad_any g _ 0 _ hrd2).mono ?_
          have hfS : failS (l.drop 64) 0 5 = ([], 5) := by simp [failS]
          rw [hfS]
          rintro _ w12 ⟨rfl, b1, b2⟩
          have hbq2 := b2.hp hbq3 (by simp only [only]; omega)
          have hb3 : (w12.setRow q (pt ptz)).heap[q]? = some (.cells (pt ptz) 37 (0, 0)) := by rw [hp_setRow, hbq2]; rfl
          have hq3 := (Ch.refl (only q) w12).setRow (.inl rfl) (pt ptz)
          simp [go_sem, h2, hbq2, bld_pt0, hsz, blit_whole, hb3, hall]
          refine hR _ _ ⟨by rw [eS, if_neg htk], ?_, ((fin (cend.trans c13)).trans b2).setRow (.inr (by omega)) _⟩
          rw [eS, if_neg htk]
          exact b1.ch hq3 (by simp only [only]; omega) (by simp only [only]; omega)
        · have htk : tkOk b = true := by simp [tkOk, hnz, hpz, hm]
          have hbx2 := c13.hp hbx' id
          have hbq2 := c13.hp hbq id
          have hb3 : (w13.setRow q (pt (ptOf b))).heap[q]? = some (.cells (pt (ptOf b)) 37 (0, 0)) := by rw [hp_setRow, hbq2]; rfl
          have hq3 := (Ch.refl (only q) w13).setRow (.inl rfl) (pt (ptOf b))
          simp [go_sem, h2, h5, hbx2, hsz', hsz, hall', hbq2, blit_whole, hb3]
          refine hR _ _ ⟨by rw [eS, if_pos htk], ?_, (fin (cend.trans c13)).setRow (.inr (by omega)) _⟩
          rw [eS, if_pos htk]
          exact (hrd.ch c13 id id).ch hq3 (by simp only [only]; omega) (by simp only [only]; omega)
end Go.Proofs.YtnefdmbdkljifaaGreatDoor
