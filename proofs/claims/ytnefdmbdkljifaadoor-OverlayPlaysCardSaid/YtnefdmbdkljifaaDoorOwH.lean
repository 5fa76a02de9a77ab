/- Does an overlay tell what deeds over the ground say? No condition. -/
import Derived.Test.YtnefdmbdkljifaaDoorOwG
import Derived.Test.YtnefdmbdkljifaaDoorOvL
set_option linter.unusedSimpArgs false
set_option linter.unusedVariables false

namespace Go.Proofs.YtnefdmbdkljifaaDoor
open Go.RowKit Go.Kin Go.Maps

theorem says (l : List Dd) (h : DdsOk l) : (∀ n, (ovD l).ino n = rIno l.reverse n) ∧ (∀ n, (ovD l).wiped n = rWiped l n) ∧ (∀ n o, ((ovD l).lf (n, o)).isSome = rSet l.reverse n o) ∧
    ∀ n o, rLf l.reverse n o = match (ovD l).lf (n, o) with | some b => some b | none => if (ovD l).wiped n then some [] else none := by
  have := ovD_says l.reverse fun x hx => h x (by simpa using hx)
  rw [List.reverse_reverse] at this
  refine ⟨this.1, fun n => (this.2.1 n).trans ?_, this.2.2.1, this.2.2.2⟩
  unfold rWiped
  rw [List.any_reverse]
theorem Sl.chLt {S : Nat → Prop} {w w' : World} {v : Value} {n : Nat} {xs : List Value} (h : Sl w v n xs) (hc : Ch S w w') (hn : ∀ k, k < w.heap.size → v.ownBlock = some k → ¬ S k) : Sl w' v n xs := by
  obtain ⟨A, c, rfl, h1, h2, h3⟩ := h
  refine ⟨A, c, rfl, h1, h2, fun hp => ?_⟩
  obtain ⟨ad, rfl, hr⟩ := h3 hp
  refine ⟨ad, rfl, fun j u hu => hc.cell (hr j u hu) ?_⟩
  have := World.block_lt_of_cell? w _ (hr j u hu)
  rw [block_of_add] at this ⊢
  exact hn _ this rfl
section
variable {u : World} {g bad d o : Nat} {Z : Nat → Prop} {tl : Tl} {l : List Dd} {lv : Value}
set_option maxRecDepth 100000 in
set_option maxHeartbeats 8000000 in
theorem tells_any (h : TlAt u g bad Z (d + 1) (oV o) (ovT (ovD l) (gT bad))) (hg : GrAt u g bad) (hZ : ¬ Z g) (hl : Lst u lv dv 48 l) (hlg : ∀ b, lv.ownBlock = some b → b ≠ g) (ok : InsOk l) (okd : DdsOk l) (hlen : l.length ≤ 100000) (num : Num) (off : Off) :
    Ret Tryd.prog 14 #[oP o, oP g, lv, .int .u16 num.val, .int .u32 off.val] u fun v' w' => v' = .bool true ∧ GrAt w' g bad ∧ Ch (Kin.one g) u w' := by
  refine v_enter Tryd.func14 Tryd.ntmps14 rfl (by simp) fun R' hR => ?_
  have hgl : g < u.heap.size := by
    obtain ⟨x, hx⟩ := hg
    exact lt_of_block hx
  have up : ∀ {u u'}, Ch (Kin.one g) u u' → TlAt u g bad Z (d + 1) (oV o) (ovT (ovD l) (gT bad)) → TlAt u' g bad Z (d + 1) (oV o) (ovT (ovD l) (gT bad)) := fun hc h => TlAt.ch hc (fun k hk e => by simp only [Kin.one] at e; subst e; exact hZ hk) _ _ _ h
  have lup : ∀ {u u'}, Ch (Kin.one g) u u' → Lst u lv dv 48 l → Lst u' lv dv 48 l := fun hc h => h.ch hc fun b hb e e2 => hlg b e e2
  have n2g : ∀ {u u'}, Ch Nw u u' → Ch (Kin.one g) u u' := fun c => c.mono fun _ _ e => e.elim
  have hokI := h.ok num
  obtain ⟨s1, s2, s3, s4⟩ := says l okd
  obtain ⟨yi, ye, hyy⟩ : ∃ y e, (ovT (ovD l) (gT bad)).ino num = (y, e) := ⟨_, _, rfl⟩
  obtain ⟨bs, be, hbb⟩ : ∃ y e, (ovT (ovD l) (gT bad)).lf num off = (y, e) := ⟨_, _, rfl⟩
  rw [hyy] at hokI
  have hti := t_ino h hg hZ num
  rw [hyy] at hti
  simp [go_sem]
  refine hti.mono ?_
  rintro _ w1 ⟨rfl, g1, c1⟩
  have hs : (ino yi).size = 44 := ino_size hokI
  have hay : (ino yi).extract 0 44 = ino yi := ino_all hokI
  have hs0 := ino_size inz_ok
  have b1 := hp_alloc w1 (.cells (ino yi) 49)
  have ca := (Ch.refl Nw w1).alloc (.cells (ino yi) 49)
  have ga := g1.ch ca id
  simp [go_sem, VAl_big, hz_ino, zc_ino, hs0, hs, blit_whole]
  obtain ⟨q, hq⟩ : ∃ q, w1.heap.size = q := ⟨_, rfl⟩
  rw [hq] at b1 ⊢
  generalize w1.alloc (.cells (ino yi) 49) = w2 at *
  have hqg : q ≠ g := by have := c1.size; omega
  have cu2 : Ch (Kin.one g) u w2 := c1.trans (n2g ca)
  have h2 := up cu2 h
  have htl := t_leaf h2 ga hZ num off
  rw [hbb] at htl
  refine htl.mono ?_
  rintro _ w3 ⟨⟨x, rfl, hx, hfx⟩, g3, c3⟩
  have h3 := up c3 h2
  have b3 := c3.obj b1 hqg
  have hxg : ∀ k, x.ownBlock = some k → ¬ Kin.one g k := fun k hk e => by
    simp only [Kin.one] at e
    have := hfx k hk
    have := cu2.size
    omega
  have htm := t_map h3 g3 hZ num off
  rw [hbb] at htm
  simp [go_sem]
  refine htm.mono ?_
  rintro _ w4 ⟨rfl, g4, c4⟩
  have b4 := c4.obj b3 hqg
  have hx4 := hx.ch c4 hxg
  have cu4 : Ch (Kin.one g) u w4 := (cu2.trans c3).trans c4
  have hl4 := lup cu4 hl
  have hro := rok_any num 0 w4
  rw [show (((0 : Off).val : Nat) : Int) = 0 from rfl] at hro
  simp [go_sem]
  refine hro.mono ?_
  rintro _ w5 ⟨rfl, hw⟩
  subst w5
  have hxl := hx4.len Tryd.underlying44 3
  simp only at hxl hx4
  cases hok0 : okN num 0 with
  | false =>
    have hok1 : okN num off = false := by
      cases hh : okN num off with
      | false => rfl
      | true => rw [okN_0 hh] at hok0; cases hok0
    have e1 : (ovT (ovD l) (gT bad)).ino num = (inz, 1) := by unfold ovT; simp only [hok0, Bool.false_eq_true, if_false]
    have e2 : (ovT (ovD l) (gT bad)).lf num off = ([], 1) := by unfold ovT; simp only [hok1, Bool.false_eq_true, if_false]
    rw [hyy] at e1
    rw [hbb] at e2
    cases e1
    cases e2
    simp at hxl
    simp [go_sem, hxl]
    exact hR _ _ ⟨rfl, g4, cu4⟩
  | true =>
    have e1 : (ovT (ovD l) (gT bad)).ino num = match (ovD l).ino num with | some n => (n, 0) | none => (gT bad).ino num := by
      unfold ovT
      simp only [hok0, if_true]
      cases (ovD l).ino num <;> rfl
    rw [hyy] at e1
    simp [go_sem]
    refine (rino_any hl4 ok hlen num).mono ?_
    rintro _ w6 ⟨rfl, c6⟩
    rw [← s1 num]
    have okD : InOk (((ovD l).ino num).getD inz) := by
      cases hi : (ovD l).ino num with
      | none => exact inz_ok
      | some n =>
        rw [hi] at e1
        cases e1
        exact hokI
    obtain ⟨dn, hdn⟩ : ∃ dn, ((ovD l).ino num).getD inz = dn := ⟨_, rfl⟩
    rw [hdn] at okD ⊢
    have hsd := ino_size okD
    have had := ino_all okD
    have b6 := c6.obj b4 id
    have ba := hp_alloc w6 (.cells (ino dn) 41)
    have ca6 := (Ch.refl Nw w6).alloc (.cells (ino dn) 41)
    simp [go_sem, VAl_big, hz_rino, zc_rino, hs0, hsd, had, blit_whole]
    have c46 : Ch Nw w4 (w6.alloc (.cells (ino dn) 41)) := c6.trans ca6
    generalize w6.alloc (.cells (ino dn) 41) = w7 at *
    refine (of_any dn okD w7).mono ?_
    rintro _ w8 ⟨rfl, c8⟩
    have c48 := c46.trans c8
    have b8 := c48.obj b4 id
    have g8 := g4.ch c48 id
    have hx8 := hx4.ch c48 fun _ _ e => e
    have hl8 := hl4.ch c48 fun _ _ _ e => e
    have bb := hp_alloc w8 (.cells (ino dn) 49)
    have cb := (Ch.refl Nw w8).alloc (.cells (ino dn) 49)
    simp [go_sem, VAl_big, hz_ino, zc_ino, hs0, hsd, had, blit_whole]
    obtain ⟨q2, hq2⟩ : ∃ q2, w8.heap.size = q2 := ⟨_, rfl⟩
    rw [hq2] at bb ⊢
    have b9 := cb.obj b8 id
    have g9 := g8.ch cb id
    have hx9 := hx8.ch cb fun _ _ e => e
    have hl9 := hl8.ch cb fun _ _ _ e => e
    have c49 := c48.trans cb
    have hqq : q ≠ q2 := by have := lt_of_block b8; omega
    have hq2g : q2 ≠ g := by
      have := c48.size
      have := cu4.size
      omega
    have hq2u : u.heap.size ≤ q2 := by
      have := c48.size
      have := cu4.size
      omega
    generalize w8.alloc (.cells (ino dn) 49) = w9 at *
    obtain ⟨I, hI⟩ : ∃ I : (Nat → Value) → World → Prop, I = fun f u' => (f 1 = oP g ∧ f 2 = lv ∧ f 3 = .int .u16 num.val ∧ f 4 = .int .u32 off.val ∧ f 11 = .pointer (some ⟨q, 0, none⟩) ∧ f 12 = .int .i64 ye ∧ f 13 = x ∧ f 14 = .int .i64 be ∧ f 15 = .bool (decide (bs ≠ [])) ∧ f 16 = .int .i64 be ∧ f 19 = .pointer (some ⟨q2, 0, none⟩) ∧ f 20 = .int .i64 ye) ∧
        u'.heap[q]? = some (.cells (ino yi) 49 (0, 0)) ∧ u'.heap[q2]? = some (.cells (ino yi) 49 (0, 0)) ∧ GrAt u' g bad ∧ Sl u' x bs.length (bvs bs) ∧ Lst u' lv dv 48 l ∧ Ch (Kin.one g) u u' := ⟨_, rfl⟩
    refine v_meet I ?_ ?_
    · cases hi : (ovD l).ino num with
      | some n =>
        rw [hi] at e1 hdn
        cases e1
        simp at hdn
        subst hdn
        simp [go_sem]
        rw [hI]
        exact ⟨by simp, b9, bb, g9, hx9, hl9, cu4.trans (n2g c49)⟩
      | none =>
        rw [hi] at e1
        have hgi := gino_any g bad num w9 g9
        rw [← show (yi, ye) = (gT bad).ino num from e1] at hgi
        simp [go_sem]
        refine hgi.mono ?_
        rintro _ w10 ⟨rfl, g10, c10⟩
        have b10 := c10.obj b9 hqg
        have bb10 := c10.obj bb hq2g
        have hx10 := hx9.ch c10 hxg
        have hl10 := lup c10 hl9
        have cs : Ch (Kin.one q2) w10 (w10.setRow q2 (ino yi)) := (Ch.refl (Kin.one q2) w10).setRow (.inl rfl) _
        have cu10 : Ch (Kin.one g) u w10 := (cu4.trans (n2g c49)).trans c10
        simp [go_sem, bb10, hsd, hs, hay, blit_whole]
        rw [hI]
        have cf : Ch (Kin.one g) u (w10.setRow q2 (ino yi)) := cu10.trans' cs fun j hj e => by
          simp only [Kin.one] at e
          omega
        have c3f : Ch (fun k => k = g ∨ k = q2) w8 (w10.setRow q2 (ino yi)) := ((cb.mono fun _ _ e => e.elim).trans (c10.mono fun _ _ e => .inl e)).trans (cs.mono fun _ _ e => .inr e)
        refine ⟨by simp, cs.obj b10 hqq, by rw [hp_setRow, bb10]; rfl, g10.ch cs fun e => hq2g e.symm, Sl.chLt hx8 c3f fun k hk hk2 e => ?_, lup cf hl, cf⟩
        rcases e with e | e
        · exact hxg k hk2 e
        · omega
    rw [hI]
    clear hI I
    rintro f u' ⟨⟨f1, f2, f3, f4, f11, f12, f13, f14, f15, f16, f19, f20⟩, bq, bq2, gu, hxu, hlu, cu⟩
    have heq := fun w => eq_ino w hokI hokI
    have hxl := hxu.len Tryd.underlying44 3
    simp [go_sem, f11, f12, f19, f20, bq, bq2, hs, hay, heq, f3, f4]
    refine (rok_any num off u').mono ?_
    rintro _ w5 ⟨rfl, hw⟩
    subst w5
    cases hok1 : okN num off with
    | false =>
      have e2 : (ovT (ovD l) (gT bad)).lf num off = ([], 1) := by unfold ovT; simp only [hok1, Bool.false_eq_true, if_false]
      rw [hbb] at e2
      cases e2
      simp at hxl
      simp [go_sem, f13, f14, f15, f16, hxl]
      exact hR _ _ ⟨rfl, gu, cu⟩
    | true =>
      have e2 : (ovT (ovD l) (gT bad)).lf num off = match (ovD l).lf (num, off) with | some x => (x, 0) | none => if (ovD l).wiped num then ([], 0) else (gT bad).lf num off := by
        unfold ovT
        simp only [hok1, if_true]
        cases (ovD l).lf (num, off) <;> rfl
      rw [hbb] at e2
      have e3 := s4 num off
      have hstr := hxu.str (P := Tryd.prog) rfl Tryd.underlying44 Tryd.underlying5 Tryd.underlying9
      simp [go_sem, f2, f3, f4]
      refine (rlf_any hlu ok hlen num off).mono ?_
      rintro _ w5 ⟨rfl, hw⟩
      subst w5
      cases hlf : (ovD l).lf (num, off) with
      | some b =>
        rw [hlf] at e2 e3
        cases e2
        rw [show rLf l.reverse num off = some bs from e3]
        have hbe : ((!decide (bs = [])) == !List.isEmpty bs) = true := by cases bs <;> simp
        simp [go_sem, f13, f14, f15, f16, hstr, hbe]
        exact hR _ _ ⟨rfl, gu, cu⟩
      | none =>
        rw [hlf] at e2 e3
        simp only at e2 e3
        cases hwp : (ovD l).wiped num with
        | true =>
          rw [hwp, if_pos rfl] at e2 e3
          cases e2
          rw [e3]
          simp [go_sem, f13, f14, f15, f16, hstr]
          exact hR _ _ ⟨rfl, gu, cu⟩
        | false =>
          rw [hwp, if_neg (by decide)] at e2 e3
          rw [e3]
          have hgl' := gleaf_any g bad num off u' gu
          rw [← e2] at hgl'
          simp [go_sem, f1, f3, f4]
          refine hgl'.mono ?_
          rintro _ w6 ⟨⟨y, rfl, hy, hfy⟩, g6, c6⟩
          have hgm := gmap_any g bad num off w6 g6
          rw [← e2] at hgm
          simp only at hy
          have hyg : ∀ k, y.ownBlock = some k → ¬ Kin.one g k := fun k hk e => by
            simp only [Kin.one] at e
            have := hfy k hk
            have := cu.size
            omega
          have hx6 := hxu.ch c6 hxg
          simp [go_sem, f1, f3, f4]
          refine hgm.mono ?_
          rintro _ w7 ⟨rfl, g7, c7⟩
          have hstr7 := (hx6.ch c7 hxg).str (P := Tryd.prog) rfl Tryd.underlying44 Tryd.underlying5 Tryd.underlying9
          have hstr8 := (hy.ch c7 hyg).str (P := Tryd.prog) rfl Tryd.underlying44 Tryd.underlying5 Tryd.underlying9
          simp [go_sem, f13, f14, f15, f16, hstr7, hstr8]
          exact hR _ _ ⟨rfl, g7, (cu.trans c6).trans c7⟩
end
end Go.Proofs.YtnefdmbdkljifaaDoor
