/- What an overlay tells, through all that lies under it. No condition. -/
import Derived.Test.YtnefdmbdkljifaaDoorOvC
import Derived.Test.YtnefdmbdkljifaaDoorWireC
set_option linter.unusedSimpArgs false
set_option linter.unusedVariables false

namespace Go.Proofs.YtnefdmbdkljifaaDoor
open Go.RowKit Go.Kin Go.Maps

/-- a base that tells tl: the ground, or an overlay over a base -/
def TlAt (w : World) (g bad : Nat) (Z : Nat → Prop) : Nat → Value → Tl → Prop
  | 0, v, tl => v = .iface 26 (.pointer (some ⟨g, 0, none⟩)) ∧ tl = gT bad
  | d + 1, v, tl => ∃ o bt bv of n D X Y z tl', v = .iface 29 (.pointer (some ⟨o, 0, none⟩)) ∧ OvP w o (.iface bt bv) of n D X Y z ∧ TlAt w g bad Z d (.iface bt bv) tl' ∧ tl = ovT D tl' ∧ (∀ k, X k ∨ Y k → Z k)
theorem TlAt.ch {w w' : World} {g bad : Nat} {S Z : Nat → Prop} (hc : Ch S w w') (hZ : ∀ k, Z k → ¬ S k) : ∀ (d : Nat) (v : Value) (tl : Tl), TlAt w g bad Z d v tl → TlAt w' g bad Z d v tl
  | 0, _, _, h => h
  | d + 1, v, tl, h => by
    obtain ⟨o, bt, bv, of, n, D, X, Y, z, tl', h1, h2, h3, h4, h5⟩ := h
    exact ⟨o, bt, bv, of, n, D, X, Y, z, tl', h1, h2.ch hc (fun k hk => hZ k (h5 k (.inl hk))) fun k hk => hZ k (h5 k (.inr hk)), TlAt.ch hc hZ d _ _ h3, h4, h5⟩
theorem TlAt.iface {w : World} {g bad : Nat} {Z : Nat → Prop} : ∀ {d : Nat} {v : Value} {tl : Tl}, TlAt w g bad Z d v tl → ∃ t x, v = .iface t x
  | 0, _, _, h => ⟨_, _, h.1⟩
  | _ + 1, _, _, h => by
    obtain ⟨o, bt, bv, of, n, D, X, Y, z, tl', h1, _⟩ := h
    exact ⟨_, _, h1⟩
theorem cmGL (p a b : Value) (w : World) : (callMethod (.iface 26 p) "Leaf" #[a, b]).run Tryd.prog w = .ok (.enter 33 #[p, a, b]) w := by kernel_rfl
theorem cmGM (p a b : Value) (w : World) : (callMethod (.iface 26 p) "Mapped" #[a, b]).run Tryd.prog w = .ok (.enter 34 #[p, a, b]) w := by kernel_rfl
theorem cmGI (p a : Value) (w : World) : (callMethod (.iface 26 p) "Inode" #[a]).run Tryd.prog w = .ok (.enter 31 #[p, a]) w := by kernel_rfl
theorem cmOL (p a b : Value) (w : World) : (callMethod (.iface 29 p) "Leaf" #[a, b]).run Tryd.prog w = .ok (.enter 17 #[p, a, b]) w := by kernel_rfl
theorem cmOM (p a b : Value) (w : World) : (callMethod (.iface 29 p) "Mapped" #[a, b]).run Tryd.prog w = .ok (.enter 29 #[p, a, b]) w := by kernel_rfl
theorem cmOI (p a : Value) (w : World) : (callMethod (.iface 29 p) "Inode" #[a]).run Tryd.prog w = .ok (.enter 28 #[p, a]) w := by kernel_rfl
section
variable {w w' : World} {S Z : Nat → Prop} {o n g bad d : Nat} {bt : TypeId} {bv of : Value} {D : Ov} {X Y : Nat → Prop} {z : Oz} {tl : Tl}
set_option maxRecDepth 100000 in
theorem oleaf_any (h : OvP w o (.iface bt bv) of n D X Y z) (hg : GrAt w g bad) (num : Num) (off : Off)
    (ask : ∀ w1, Ch Nw w w1 → ∀ {K : Value → World → Prop}, (∀ v' w', LfR w1 (tl.lf num off) v' w' → GrAt w' g bad → Ch (Kin.one g) w1 w' → K v' w') → VInv Tryd.prog (.iface bt bv) "Leaf" [.int .u16 num.val, .int .u32 off.val] w1 K) :
    Ret Tryd.prog 17 #[.pointer (some ⟨o, 0, none⟩), .int .u16 num.val, .int .u32 off.val] w fun v' w' => LfR w ((ovT D tl).lf num off) v' w' ∧ GrAt w' g bad ∧ Ch (Kin.one g) w w' := by
  refine v_enter Tryd.func17 Tryd.ntmps17 rfl (by simp) fun R' hR => ?_
  simp [go_sem]
  refine (omay_any o num off w).mono ?_
  rintro _ w1 ⟨rfl, hw1⟩
  subst w1
  cases hok : okN num off with
  | false =>
    have e : (ovT D tl).lf num off = ([], 1) := by unfold ovT; simp only [hok, Bool.false_eq_true, if_false]
    rw [e] at hR
    simp [go_sem]
    exact hR _ _ ⟨⟨_, rfl, Sl.nil _, fun k hk => by simp [Value.ownBlock] at hk⟩, hg, Ch.refl _ _⟩
  | true =>
    simp [go_sem]
    refine (own_any h num off).mono ?_
    rintro _ w1 ⟨⟨u, rfl, hu, hY⟩, c1⟩
    have c1g : Ch (Kin.one g) w w1 := c1.mono fun _ _ e => e.elim
    have hg1 := hg.ch c1 id
    have c0 : w1.cell? ⟨o, 0, none⟩ = some (.iface bt bv) := cell_blk (c1.obj h.blk id) 0
    cases hlf : D.lf (num, off) with
    | some b =>
      have e : (ovT D tl).lf num off = (b, 0) := by unfold ovT; simp only [hok, hlf, if_true]
      rw [e] at hR
      rw [hlf] at hu
      simp [go_sem]
      refine (clone_any u b.length b w1 (by have := h.lfOk _ _ hlf; omega) rfl hu).mono ?_
      rintro v2 w2 ⟨o2, c2, fr2⟩
      simp [go_sem]
      exact hR _ _ ⟨⟨_, rfl, Sl.of_own o2, fr2.mono c1.size⟩, hg1.ch c2 id, c1g.trans (c2.mono fun _ _ e => e.elim)⟩
    | none =>
      cases hwp : D.wiped num with
      | true =>
        have e : (ovT D tl).lf num off = ([], 0) := by unfold ovT; simp only [hok, hlf, hwp, if_true]
        rw [e] at hR
        rw [hlf] at hu
        simp [go_sem]
        refine (clone_any u 0 [] w1 (by omega) rfl hu).mono ?_
        rintro v2 w2 ⟨o2, c2, fr2⟩
        simp [go_sem]
        exact hR _ _ ⟨⟨_, rfl, Sl.of_own o2, fr2.mono c1.size⟩, hg1.ch c2 id, c1g.trans (c2.mono fun _ _ e => e.elim)⟩
      | false =>
        have e : (ovT D tl).lf num off = tl.lf num off := by unfold ovT; simp only [hok, hlf, hwp, if_true, Bool.false_eq_true, if_false]
        rw [e] at hR
        simp [go_sem, c0]
        refine ask w1 c1 fun v2 w2 h2 h3 h4 => ?_
        obtain ⟨u2, rfl, hu2, fr2⟩ := h2
        simp [go_sem]
        exact hR _ _ ⟨⟨_, rfl, hu2, fr2.mono c1.size⟩, h3, c1g.trans h4⟩
set_option maxRecDepth 100000 in
theorem omap_any (h : OvP w o (.iface bt bv) of n D X Y z) (hg : GrAt w g bad) (num : Num) (off : Off)
    (ask : ∀ w1, Ch Nw w w1 → ∀ {K : Value → World → Prop}, (∀ v' w', v' = .tuple #[.bool (decide ((tl.lf num off).1 ≠ [])), .int .i64 (tl.lf num off).2] → GrAt w' g bad → Ch (Kin.one g) w1 w' → K v' w') → VInv Tryd.prog (.iface bt bv) "Mapped" [.int .u16 num.val, .int .u32 off.val] w1 K) :
    Ret Tryd.prog 29 #[.pointer (some ⟨o, 0, none⟩), .int .u16 num.val, .int .u32 off.val] w fun v' w' => v' = .tuple #[.bool (decide (((ovT D tl).lf num off).1 ≠ [])), .int .i64 ((ovT D tl).lf num off).2] ∧ GrAt w' g bad ∧ Ch (Kin.one g) w w' := by
  refine v_enter Tryd.func29 Tryd.ntmps29 rfl (by simp) fun R' hR => ?_
  simp [go_sem]
  refine (omay_any o num off w).mono ?_
  rintro _ w1 ⟨rfl, hw1⟩
  subst w1
  cases hok : okN num off with
  | false =>
    have e : (ovT D tl).lf num off = ([], 1) := by unfold ovT; simp only [hok, Bool.false_eq_true, if_false]
    rw [e] at hR
    simp [go_sem]
    exact hR _ _ ⟨rfl, hg, Ch.refl _ _⟩
  | true =>
    simp [go_sem]
    refine (own_any h num off).mono ?_
    rintro _ w1 ⟨⟨u, rfl, hu, hY⟩, c1⟩
    have c1g : Ch (Kin.one g) w w1 := c1.mono fun _ _ e => e.elim
    have hg1 := hg.ch c1 id
    have c0 : w1.cell? ⟨o, 0, none⟩ = some (.iface bt bv) := cell_blk (c1.obj h.blk id) 0
    have hlu := hu.len Tryd.underlying44 3
    cases hlf : D.lf (num, off) with
    | some b =>
      have e : (ovT D tl).lf num off = (b, 0) := by unfold ovT; simp only [hok, hlf, if_true]
      rw [e] at hR
      rw [hlf] at hlu
      simp at hlu
      simp [go_sem, hlu]
      refine hR _ _ ⟨?_, hg1, c1g⟩
      cases b <;> simp
    | none =>
      cases hwp : D.wiped num with
      | true =>
        have e : (ovT D tl).lf num off = ([], 0) := by unfold ovT; simp only [hok, hlf, hwp, if_true]
        rw [e] at hR
        rw [hlf] at hlu
        simp at hlu
        simp [go_sem, hlu]
        exact hR _ _ ⟨rfl, hg1, c1g⟩
      | false =>
        have e : (ovT D tl).lf num off = tl.lf num off := by unfold ovT; simp only [hok, hlf, hwp, if_true, Bool.false_eq_true, if_false]
        rw [e] at hR
        simp [go_sem, c0]
        refine ask w1 c1 fun v2 w2 h2 h3 h4 => ?_
        subst h2
        simp [go_sem]
        exact hR _ _ ⟨by simp, h3, c1g.trans h4⟩
end
set_option maxRecDepth 100000 in
theorem ask_leaf {g bad : Nat} {Z : Nat → Prop} (hZ : ¬ Z g) (num : Num) (off : Off) : ∀ (d : Nat) (w : World) (v : Value) (tl : Tl), TlAt w g bad Z d v tl → GrAt w g bad → ∀ {K : Value → World → Prop}, (∀ v' w', LfR w (tl.lf num off) v' w' → GrAt w' g bad → Ch (Kin.one g) w w' → K v' w') → VInv Tryd.prog v "Leaf" [.int .u16 num.val, .int .u32 off.val] w K
  | 0, w, v, tl, h, hg, K, hK => by
    obtain ⟨rfl, rfl⟩ := h
    rw [VInv_to (cmGL _ _ _ w)]
    exact (gleaf_any g bad num off w hg).mono fun v' w' h => hK v' w' h.1 h.2.1 h.2.2
  | d + 1, w, v, tl, h, hg, K, hK => by
    obtain ⟨o, bt, bv, of, n, D, X, Y, z, tl', rfl, h2, h3, rfl, h5⟩ := h
    rw [VInv_to (cmOL _ _ _ w)]
    exact (oleaf_any h2 hg num off fun w1 c1 {K} hk => ask_leaf hZ num off d w1 _ _ (TlAt.ch c1 (fun _ _ e => e) d _ _ h3) (hg.ch c1 id) hk).mono fun v' w' h => hK v' w' h.1 h.2.1 h.2.2
set_option maxRecDepth 100000 in
theorem ask_map {g bad : Nat} {Z : Nat → Prop} (hZ : ¬ Z g) (num : Num) (off : Off) : ∀ (d : Nat) (w : World) (v : Value) (tl : Tl), TlAt w g bad Z d v tl → GrAt w g bad → ∀ {K : Value → World → Prop}, (∀ v' w', v' = .tuple #[.bool (decide ((tl.lf num off).1 ≠ [])), .int .i64 (tl.lf num off).2] → GrAt w' g bad → Ch (Kin.one g) w w' → K v' w') → VInv Tryd.prog v "Mapped" [.int .u16 num.val, .int .u32 off.val] w K
  | 0, w, v, tl, h, hg, K, hK => by
    obtain ⟨rfl, rfl⟩ := h
    rw [VInv_to (cmGM _ _ _ w)]
    exact (gmap_any g bad num off w hg).mono fun v' w' h => hK v' w' h.1 h.2.1 h.2.2
  | d + 1, w, v, tl, h, hg, K, hK => by
    obtain ⟨o, bt, bv, of, n, D, X, Y, z, tl', rfl, h2, h3, rfl, h5⟩ := h
    rw [VInv_to (cmOM _ _ _ w)]
    exact (omap_any h2 hg num off fun w1 c1 {K} hk => ask_map hZ num off d w1 _ _ (TlAt.ch c1 (fun _ _ e => e) d _ _ h3) (hg.ch c1 id) hk).mono fun v' w' h => hK v' w' h.1 h.2.1 h.2.2
end Go.Proofs.YtnefdmbdkljifaaDoor
