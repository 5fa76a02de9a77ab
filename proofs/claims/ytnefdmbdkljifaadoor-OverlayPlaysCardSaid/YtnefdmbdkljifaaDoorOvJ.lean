/- Trials of overlays, ended. No condition but on sizes. -/
import Derived.Test.YtnefdmbdkljifaaDoorOwA
set_option linter.unusedSimpArgs false
set_option linter.unusedVariables false

namespace Go.Proofs.YtnefdmbdkljifaaDoor
open Go.RowKit Go.Kin Go.Maps

/-- an overlay of which the numbers of E are wiped, but those that are left -/
def Ov.part (D E : Ov) (left : Num → Bool) : Ov := { D with lf := fun a => if E.wiped a.1 && !left a.1 then none else D.lf a, wiped := fun a => D.wiped a || (E.wiped a && !left a) }
theorem Ov.part_none (D E : Ov) : D.part E E.wiped = D := by
  unfold Ov.part
  simp
theorem Ov.part_wipe (D E : Ov) (left : Num → Bool) (a : Num) (hE : E.wiped a = true) (hok : okN a 0 = true) : (D.part E left).wipe a = D.part E fun c => left c && decide (c ≠ a) := by
  unfold Ov.wipe
  rw [if_pos hok]
  unfold Ov.part
  simp only
  congr 1
  · funext c
    by_cases hc : c.1 = a
    · subst hc
      simp [hE]
    · simp [hc]
  · funext c
    by_cases hc : c = a
    · subst hc
      simp [hE]
    · simp [hc]
theorem fin_wiped {E : Ov} (a : Num) : (if E.wiped a = true then some (Value.bool true) else none).isSome = E.wiped a := by
  cases E.wiped a <;> rfl
section
variable {w w' : World} {S : Nat → Prop} {o t n m : Nat} {base base' of : Value} {D E : Ov} {X Y X' Y' : Nat → Prop} {z z' : Oz}
set_option maxRecDepth 100000 in
set_option maxHeartbeats 4000000 in
theorem end_any (h : OvP w o base of n D X Y z) (ht : OvP w t base' (.pointer (some ⟨o, 0, none⟩)) m E X' Y' z') (hXX : ∀ k, X k → ¬ X' k) (hXY' : ∀ k, Y' k → ¬ X k) (hX'Y : ∀ k, Y k → ¬ X' k) (hn : n + m + m ≤ 1000000) :
    Ret Tryd.prog 13 #[.pointer (some ⟨o, 0, none⟩), .pointer (some ⟨t, 0, none⟩)] w fun v' w' => v' = .int .i64 0 ∧ OvP w' o base of (n + m + m) (D.merge E) X (fun k => Y k ∨ Y' k) z ∧ OvP w' t base' (.pointer none) m E X' Y' z' ∧ Ch (fun k => X k ∨ k = t) w w' := by
  refine v_enter Tryd.func13 Tryd.ntmps13 rfl (by simp) fun R' hR => ?_
  have c1 : w.cell? ⟨t, 1, none⟩ = some (.pointer (some ⟨o, 0, none⟩)) := cell_blk ht.blk 1
  have hXt : X' t := ht.x _ (.inl rfl)
  have fz := fun i => frz_blk ht.blk i
  have hne := neq_same ⟨o, 0, none⟩ w
  have k1 : Ch (Kin.one t) w (w.setCell ⟨t, 1, none⟩ (.pointer none)) := (Ch.refl (Kin.one t) w).setCell (p := ⟨t, 1, none⟩) (.inl rfl) _
  have h1 := h.ch k1 (fun k hk e => hXX k hk (by simp only [Kin.one] at e; subst e; exact hXt)) fun k hk e => hX'Y k hk (by simp only [Kin.one] at e; subst e; exact hXt)
  obtain ⟨ht1, _⟩ := ht.setOf (.pointer none)
  have hs1 : (w.setCell ⟨t, 1, none⟩ (.pointer none)).heap.size = w.heap.size := by simp [World.setCell]
  have c4 : w.cell? ⟨t, 4, none⟩ = some (.map (some z'.bw)) := cell_blk ht.blk 4
  simp [go_sem, c1, hne, fz, c4]
  revert k1 h1 ht1 hs1
  generalize w.setCell ⟨t, 1, none⟩ (.pointer none) = w1
  intro k1 h1 ht1 hs1
  have kX : ∀ {u u'}, Ch X u u' → Ch (fun k => X k ∨ k = t) u u' := fun hc => hc.mono fun _ _ e => .inl e
  have k1' : Ch (fun k => X k ∨ k = t) w w1 := k1.mono fun k _ e => .inr e
  obtain ⟨w2, cnt, hr, hg, hcnt, c2, s2⟩ := ht1.wp.range kysU Tryd.underlying68
  obtain ⟨r, hrr⟩ : ∃ r, w1.heap.size = r := ⟨_, rfl⟩
  rw [hrr] at hr hg
  have hXw' : ¬ X z'.bw := fun e => hXX _ e (ht.x _ (.inr (.inr (.inr rfl))))
  have hXr : ¬ X r := fun e => by have := h1.lt r (.inl e); omega
  have htX : ∀ {u u'}, Ch X u u' → OvP u t base' (.pointer none) m E X' Y' z' → OvP u' t base' (.pointer none) m E X' Y' z' := fun hc hh => hh.ch hc (fun k hk e => hXX k e hk) fun k hk e => hXY' k hk e
  simp [go_sem, hr]
  refine v_loop (fun q f u => ∃ left c, f 0 = .pointer (some ⟨o, 0, none⟩) ∧ f 1 = .pointer (some ⟨t, 0, none⟩) ∧ f 27 = .pointer (some ⟨r, 0, none⟩) ∧ RngV u Tryd.prog 22 kU z'.bw r m (fun a => if E.wiped a then some (.bool true) else none) left q ∧ OvP u o base of c (D.part E left) X Y z ∧ OvP u t base' (.pointer none) m E X' Y' z' ∧ c + q ≤ n + cnt ∧ Ch (fun k => X k ∨ k = t) w u) cnt
    ⟨E.wiped, n, by simp, by simp, by simp, by simpa only [fin_wiped] using hg, by rw [Ov.part_none]; exact h1.ch c2 (fun _ _ e => e) (fun _ _ e => e), ht1.ch c2 (fun _ _ e => e) (fun _ _ e => e), by omega, k1'.trans (c2.mono fun _ _ e => e.elim)⟩ ?_
  rintro J hJ q f u ⟨left, c, f0, f1, f27, hru, hou, htu, hcq, cu⟩
  rcases hru.next kysU 0 with ⟨hl, hnx⟩ | ⟨a, v, u2, q2, hl, hGa, hnx, hru2, hq2, cc2, _, hen⟩
  · have hpe : D.part E left = { D with lf := fun a => if E.wiped a.1 then none else D.lf a, wiped := fun a => D.wiped a || E.wiped a } := by
      unfold Ov.part
      simp [hl]
    rw [hpe] at hou
    have hou := hou.mono (show c ≤ n + m by omega)
    have hod := hou.ch (Ch.refl Nw u).drew (fun _ _ e => e) fun _ _ e => e
    have htd := htu.ch (Ch.refl Nw u).drew (fun _ _ e => e) fun _ _ e => e
    have a3 : u.drew.cell? ⟨o, 3, none⟩ = some (.map (some z.bl)) := cell_blk hod.blk 3
    have b3 : u.drew.cell? ⟨t, 3, none⟩ = some (.map (some z'.bl)) := cell_blk htd.blk 3
    simp [go_sem, f27, hnx]
    refine v_draw' [(0, none), (1, none), (2, none), (3, none), (4, none), (5, none), (6, none), (7, none), (8, some [])] (by kernel_rfl) (by kernel_rfl) ?_
    have a3' : u.cell? ⟨o, 3, none⟩ = some (.map (some z.bl)) := cell_blk hou.blk 3
    have b3' : u.cell? ⟨t, 3, none⟩ = some (.map (some z'.bl)) := cell_blk htu.blk 3
    obtain ⟨FL, g1, g2⟩ := hod.lf
    obtain ⟨FL', g1', g2'⟩ := htd.lf
    have hXl : X z.bl := h.x _ (.inr (.inr (.inl rfl)))
    have hXi : X z.bi := h.x _ (.inr (.inl rfl))
    have hnel : z.bl ≠ z'.bl := fun e => hXX _ hXl (by rw [e]; exact ht.x _ (.inr (.inr (.inl rfl))))
    have hnei : z.bi ≠ z'.bi := fun e => hXX _ hXi (by rw [e]; exact ht.x _ (.inr (.inl rfl)))
    simp [go_sem, f0, f1, a3, b3, a3', b3']
    refine (copyL_any z.bl z'.bl (n + m) m FL FL' u.drew g1 g1' hnel (by omega) (fun a v hv => ?_)).mono ?_
    · cases hE : E.lf a with
      | none => rw [(g2' a).1 hE] at hv; cases hv
      | some b =>
        obtain ⟨v', e1, e2, _⟩ := (g2' a).2 b hE
        rw [e1] at hv
        cases hv
        obtain ⟨A, cap, e, _⟩ := e2
        exact ⟨_, _, _, e⟩
    rintro _ w3 ⟨rfl, hm3, c3⟩
    have c3X : Ch X u.drew w3 := c3.mono fun k _ e => by simp only [Kin.one] at e; subst e; exact hXl
    have h3 := hod.putL (f := fun a => (E.lf a).or (if E.wiped a.1 then none else D.lf a)) (Y' := fun k => Y k ∨ Y' k) (Nat.le_add_right (n + m) m) c3 hm3 (fun a => ?_) (fun a b hb => ?_) (fun k hk => ?_)
    · have ht3 := htX c3X htd
      have h3d := h3.ch (Ch.refl Nw w3).drew (fun _ _ e => e) fun _ _ e => e
      have ht3d := ht3.ch (Ch.refl Nw w3).drew (fun _ _ e => e) fun _ _ e => e
      have i3 : w3.drew.cell? ⟨o, 2, none⟩ = some (.map (some z.bi)) := cell_blk h3d.blk 2
      have j3 : w3.drew.cell? ⟨t, 2, none⟩ = some (.map (some z'.bi)) := cell_blk ht3d.blk 2
      have i3' : w3.cell? ⟨o, 2, none⟩ = some (.map (some z.bi)) := cell_blk h3.blk 2
      have j3' : w3.cell? ⟨t, 2, none⟩ = some (.map (some z'.bi)) := cell_blk ht3.blk 2
      simp [go_sem]
      refine v_draw' [(0, none), (1, none), (2, none), (3, none), (4, none), (5, none), (6, none), (7, none), (8, some [])] (by kernel_rfl) (by kernel_rfl) ?_
      simp [go_sem, f0, f1, i3, j3, i3', j3']
      have hino := (hod.ino.ch c3 h.ne.1).ch (Ch.refl Nw w3).drew id
      refine (copyI_any z.bi z'.bi (n + m) m _ _ w3.drew hino ht3d.ino hnei (by omega) (fun a v hv => ?_)).mono ?_
      · cases hE : E.ino a with
        | none => rw [hE] at hv; cases hv
        | some x =>
          rw [hE] at hv
          cases hv
          exact ⟨x, rfl, ht.inOk a x hE⟩
      rintro _ w5 ⟨rfl, hm5, c5⟩
      have c5X : Ch X w3.drew w5 := c5.mono fun k _ e => by simp only [Kin.one] at e; subst e; exact hXi
      have h5 := h3d.putI (f := fun a => (E.ino a).or (D.ino a)) (Nat.le_refl _) c5 (by
        have e : (fun a => ((E.ino a).or (D.ino a)).map inoV) = orF (fun a => (E.ino a).map inoV) fun a => (D.ino a).map inoV := by
          funext a
          unfold orF
          cases hEa : E.ino a <;> simp [hEa]
        rw [e]
        exact hm5) (fun a x hx => by
          cases hE : E.ino a with
          | none => rw [hE] at hx; exact h.inOk a x hx
          | some y => rw [hE] at hx; cases hx; exact ht.inOk a _ hE)
      have ht5 := htX c5X ht3d
      simp [go_sem]
      exact hR _ _ ⟨rfl, h5, ht5, (cu.trans (kX (Ch.of_drew c3X))).trans (kX (Ch.of_drew c5X))⟩
    · show ((E.lf a).or (if E.wiped a.1 then none else D.lf a) = none → orF FL' FL a = none) ∧ _
      unfold orF
      cases hE : E.lf a with
      | none =>
        rw [(g2' a).1 hE]
        refine ⟨fun e => (g2 a).1 e, fun b hb => ?_⟩
        obtain ⟨v, x1, x2, x3⟩ := (g2 a).2 b hb
        exact ⟨v, x1, x2.ch c3 fun k hk e => by simp only [Kin.one] at e; subst e; exact h.yx _ (x3 _ hk) hXl, fun k hk => .inl (x3 k hk)⟩
      | some b' =>
        obtain ⟨v, x1, x2, x3⟩ := (g2' a).2 b' hE
        rw [x1]
        refine ⟨fun e => (by cases e), fun b hb => ?_⟩
        cases hb
        exact ⟨v, rfl, x2.ch c3 fun k hk e => by simp only [Kin.one] at e; subst e; exact hXY' _ (x3 _ hk) hXl, fun k hk => .inr (x3 k hk)⟩
    · cases hE : E.lf a with
      | none => rw [hE] at hb; exact hou.lfOk a b hb
      | some b' => rw [hE] at hb; cases hb; exact ht.lfOk a _ hE
    · rcases hk with hk | hk
      · exact ⟨h.yx k hk, Nat.lt_of_lt_of_le (hod.lt k (.inr hk)) c3.size⟩
      · exact ⟨hXY' k hk, Nat.lt_of_lt_of_le (htd.lt k (.inr hk)) c3.size⟩
  · have hEa : E.wiped a = true := by
      by_cases hh : E.wiped a = true
      · exact hh
      · rw [if_neg hh] at hGa; cases hGa
    have hok := ht.wpOk a hEa
    have kr : ∀ k, X k ∨ Y k → k < r := fun k hk => by have := h1.lt k hk; omega
    have kr' : ∀ k, X' k ∨ Y' k → k < r := fun k hk => by have := ht1.lt k hk; omega
    have hou2 := hou.ch cc2 (fun k hk e => by simp only [Kin.one] at e; have := kr k (.inl hk); omega) fun k hk e => by simp only [Kin.one] at e; have := kr k (.inr hk); omega
    have htu2 := htu.ch cc2 (fun k hk e => by simp only [Kin.one] at e; have := kr' k (.inl hk); omega) fun k hk e => by simp only [Kin.one] at e; have := kr' k (.inr hk); omega
    simp [go_sem, f27, hnx, hen, kU, f0]
    refine (wipe_any hou2 a (by omega)).mono ?_
    rintro v3 u3 ⟨_, h3, c3⟩
    rw [Ov.part_wipe D E left a hEa hok] at h3
    simp [go_sem]
    refine Rnd.intro q2 hq2 (hJ _ _ _ ⟨_, c + 1, by simp [f0], by simp [f1], by simp [f27], hru2.ch c3 hXw' hXr, h3, htX c3 htu2, by omega, ?_⟩)
    exact (cu.trans' cc2 fun k hk e => by simp only [Kin.one] at e; omega).trans (kX c3)
end
end Go.Proofs.YtnefdmbdkljifaaDoor
