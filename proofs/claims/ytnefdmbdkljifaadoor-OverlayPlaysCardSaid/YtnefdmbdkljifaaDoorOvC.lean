/- Overlays in memory; what they tell, through all that lies under them. No condition. -/
import Derived.Test.YtnefdmbdkljifaaDoorOvB
set_option linter.unusedSimpArgs false
set_option linter.unusedVariables false

namespace Go.Proofs.YtnefdmbdkljifaaDoor
open Go.RowKit Go.Kin Go.Maps

/-- the blocks of an overlay's maps -/
structure Oz where
  bi : Nat
  bl : Nat
  bw : Nat
def inoV (x : In) : Value := .agg (ino x)
structure OvP (w : World) (o : Nat) (base of : Value) (n : Nat) (D : Ov) (X Y : Nat → Prop) (z : Oz) : Prop where
  blk : w.heap[o]? = some (.cells #[base, of, .map (some z.bi), .map (some z.bl), .map (some z.bw)] 70 (0, 0))
  ino : MapV w Tryd.prog 22 kU z.bi n fun a => (D.ino a).map inoV
  inOk : ∀ a x, D.ino a = some x → InOk x
  lf : ∃ FL, MapV w Tryd.prog 76 kP z.bl n FL ∧ ∀ a, (D.lf a = none → FL a = none) ∧ ∀ b, D.lf a = some b → ∃ v, FL a = some v ∧ Sl w v b.length (bvs b) ∧ ∀ k, v.ownBlock = some k → Y k
  lfOk : ∀ a b, D.lf a = some b → b.length ≤ 512
  wp : MapV w Tryd.prog 22 kU z.bw n fun a => if D.wiped a then some (.bool true) else none
  wpOk : ∀ a, D.wiped a = true → okN a 0 = true
  x : ∀ k, k = o ∨ k = z.bi ∨ k = z.bl ∨ k = z.bw → X k
  ne : z.bi ≠ z.bl ∧ z.bi ≠ z.bw ∧ z.bl ≠ z.bw ∧ o ≠ z.bi ∧ o ≠ z.bl ∧ o ≠ z.bw
  yx : ∀ k, Y k → ¬ X k
  lt : ∀ k, X k ∨ Y k → k < w.heap.size
section
variable {w w' : World} {S : Nat → Prop} {o n : Nat} {base of : Value} {D : Ov} {X Y : Nat → Prop} {z : Oz}
theorem OvP.ch (h : OvP w o base of n D X Y z) (hc : Ch S w w') (hX : ∀ k, X k → ¬ S k) (hY : ∀ k, Y k → ¬ S k) : OvP w' o base of n D X Y z := by
  refine ⟨hc.obj h.blk (hX _ (h.x _ (.inl rfl))), h.ino.ch hc (hX _ (h.x _ (.inr (.inl rfl)))), h.inOk, ?_, h.lfOk, h.wp.ch hc (hX _ (h.x _ (.inr (.inr (.inr rfl))))), h.wpOk, h.x, h.ne, h.yx, fun k hk => Nat.lt_of_lt_of_le (h.lt k hk) hc.size⟩
  obtain ⟨FL, h1, h2⟩ := h.lf
  refine ⟨FL, h1.ch hc (hX _ (h.x _ (.inr (.inr (.inl rfl))))), fun a => ⟨(h2 a).1, fun b hb => ?_⟩⟩
  obtain ⟨v, h3, h4, h5⟩ := (h2 a).2 b hb
  exact ⟨v, h3, h4.ch hc fun k hk => hY k (h5 k hk), h5⟩
theorem zS (w : World) : (zeroValue 44).run Tryd.prog w = .ok (.slice none 0 0) w := by kernel_rfl
theorem zB (w : World) : (zeroValue 4).run Tryd.prog w = .ok (.bool false) w := by kernel_rfl
theorem zI (w : World) : (zeroValue 49).run Tryd.prog w = .ok (.agg (Go.Proofs.YtnefdmbdkljifaaDoor.ino inz)) w := by kernel_rfl
theorem okN_eq (num : Num) (off : Off) : okN num off = (decide (1 ≤ num.val) && decide (num.val ≤ 255) && decide (off.val < 64)) := rfl
theorem omay_any (o : Nat) (num : Num) (off : Off) (w : World) : Ret Tryd.prog 19 #[.pointer (some ⟨o, 0, none⟩), .int .u16 num.val, .int .u32 off.val] w fun v' w' => v' = .int .i64 (if okN num off then 0 else 1) ∧ w' = w := by
  refine v_enter Tryd.func19 Tryd.ntmps19 rfl (by simp) fun R' hR => ?_
  by_cases h1 : 1 ≤ num.val
  · have h1' : ¬ (num.val : Int) < 1 := by omega
    by_cases h2 : num.val ≤ 255
    · have h2' : ¬ (255 : Int) < num.val := by omega
      by_cases h3 : off.val < 64
      · have h3' : ¬ (64 : Int) ≤ off.val := by omega
        simp [go_sem, h1', h2', h3']
        exact hR _ _ ⟨by rw [okN_eq]; simp [h1, h2, h3], rfl⟩
      · have h3' : (64 : Int) ≤ off.val := by omega
        simp [go_sem, h1', h2', h3']
        exact hR _ _ ⟨by rw [okN_eq]; simp [h3], rfl⟩
    · have h2' : (255 : Int) < num.val := by omega
      simp [go_sem, h1', h2']
      exact hR _ _ ⟨by rw [okN_eq]; simp [h2], rfl⟩
  · have h1' : (num.val : Int) < 1 := by omega
    simp [go_sem, h1']
    exact hR _ _ ⟨by rw [okN_eq]; simp [h1], rfl⟩
/-- what is its own -/
def OwnR (D : Ov) (Y : Nat → Prop) (num : Num) (off : Off) (v' : Value) (w' : World) : Prop := ∃ u, v' = .tuple #[u, .bool ((D.lf (num, off)).isSome || D.wiped num)] ∧ Sl w' u ((D.lf (num, off)).getD []).length (bvs ((D.lf (num, off)).getD [])) ∧ ∀ k, u.ownBlock = some k → Y k
theorem own_any (h : OvP w o base of n D X Y z) (num : Num) (off : Off) : Ret Tryd.prog 41 #[.pointer (some ⟨o, 0, none⟩), .int .u16 num.val, .int .u32 off.val] w fun v' w' => OwnR D Y num off v' w' ∧ Ch Nw w w' := by
  refine v_enter Tryd.func41 Tryd.ntmps41 rfl (by simp) fun R' hR => ?_
  have c3 : w.cell? ⟨o, 3, none⟩ = some (.map (some z.bl)) := cell_blk h.blk 3
  have c4 : w.cell? ⟨o, 4, none⟩ = some (.map (some z.bw)) := cell_blk h.blk 4
  obtain ⟨FL, hF, hL⟩ := h.lf
  have hl : (Instr.lookup 67 (.map (some z.bl)) (.agg #[.int .u16 num.val, .int .u32 off.val]) true).run Tryd.prog w = _ := hF.look_ok kysP Tryd.underlying67 (zS w) (num, off)
  have hw : (Instr.lookup 68 (.map (some z.bw)) (.int .u16 num.val) false).run Tryd.prog w.drew = _ := (h.wp.ch (Ch.refl Nw w).drew id).look kysU Tryd.underlying68 (zB w.drew) num
  cases hlf : D.lf (num, off) with
  | some b =>
    obtain ⟨v, h1, h2, h3⟩ := (hL (num, off)).2 b hlf
    obtain ⟨A1, c1, hv, _⟩ := id h2
    rw [h1] at hl
    simp at hl
    subst hv
    simp [go_sem, c3, hl]
    refine v_draw' [(0, none), (1, none), (2, none), (3, none), (4, none), (5, none), (6, none), (7, none), (8, none), (9, none), (10, none), (11, none)] (by kernel_rfl) (by kernel_rfl) ?_
    simp [go_sem]
    exact hR _ _ ⟨⟨_, by rw [hlf]; rfl, by rw [hlf]; exact h2.drew, h3⟩, (Ch.refl Nw w).drew⟩
  | none =>
    rw [(hL (num, off)).1 hlf] at hl
    simp at hl
    simp [go_sem, c3, hl]
    refine v_draw' [(0, none), (1, none), (2, none), (3, none), (4, none), (5, none), (6, none), (7, none), (8, none), (9, none), (10, none), (11, none)] (by kernel_rfl) (by kernel_rfl) ?_
    cases hwp : D.wiped num with
    | true =>
      rw [hwp] at hw
      simp at hw
      simp [go_sem, c4, hw]
      exact hR _ _ ⟨⟨_, by rw [hlf, hwp]; rfl, by rw [hlf]; exact Sl.nil _, fun k hk => by simp [Value.ownBlock] at hk⟩, (Ch.refl Nw w).drew⟩
    | false =>
      rw [hwp] at hw
      simp at hw
      simp [go_sem, c4, hw]
      exact hR _ _ ⟨⟨_, by rw [hlf, hwp]; rfl, by rw [hlf]; exact Sl.nil _, fun k hk => by simp [Value.ownBlock] at hk⟩, (Ch.refl Nw w).drew⟩
end
end Go.Proofs.YtnefdmbdkljifaaDoor
