/- New overlays; inodes and leaves set, numbers wiped. Condition: the variable ptr.wide holds what the text lays. -/
import Derived.Test.YtnefdmbdkljifaaDoorOvG
set_option linter.unusedSimpArgs false
set_option linter.unusedVariables false

namespace Go.Proofs.YtnefdmbdkljifaaDoor
open Go.RowKit Go.Kin Go.Maps

def Ov.setI (D : Ov) (num : Num) (x : In) : Ov := if okN num 0 && mayI x then { D with ino := fun a => if a = num then some x else D.ino a } else D
def Ov.setL (D : Ov) (num : Num) (off : Off) (b : Byts) : Ov := if okN num off && (decide (b.length = 0) || decide (b.length = 512)) then { D with lf := fun a => if a = (num, off) then some b else D.lf a } else D
def Ov.wipe (D : Ov) (num : Num) : Ov := if okN num 0 then { D with lf := fun a => if a.1 = num then none else D.lf a, wiped := fun a => if a = num then true else D.wiped a } else D
theorem new_any (bt : TypeId) (bv : Value) (w : World) : Ret Tryd.prog 5 #[.iface bt bv] w fun v' w' => ∃ o z, v' = .tuple #[.pointer (some ⟨o, 0, none⟩), .int .i64 0] ∧ OvP w' o (.iface bt bv) (.pointer none) 0 Ov.new (fun k => w.heap.size ≤ k ∧ k < w'.heap.size) (fun _ => False) z ∧ Ch Nw w w' := by
  refine v_enter Tryd.func5 Tryd.ntmps5 rfl (by simp) fun R' hR => ?_
  have hmm : ∀ (t : TypeId) (w : World), (Instr.makeMap t none).run Tryd.prog w = .ok (.map (some w.heap.size)) (w.alloc (.map #[] 0)) := fun _ _ => rfl
  have ca := (((Ch.refl Nw w).alloc (.map #[] 0)).alloc (.map #[] 0)).alloc (.map #[] 0)
  have m0 := (((MapV.made w Tryd.prog 22 kU).ch ((Ch.refl Nw _).alloc (.map #[] 0)) fun e => e).ch ((Ch.refl Nw _).alloc (.map #[] 0)) fun e => e)
  have m1 := ((MapV.made (w.alloc (.map #[] 0)) Tryd.prog 76 kP).ch ((Ch.refl Nw _).alloc (.map #[] 0)) fun e => e)
  have m2 := MapV.made ((w.alloc (.map #[] 0)).alloc (.map #[] 0)) Tryd.prog 22 kU
  have hs : (((w.alloc (.map #[] 0)).alloc (.map #[] 0)).alloc (.map #[] 0)).heap.size = w.heap.size + 1 + 1 + 1 := by simp
  have h1 : (w.alloc (.map #[] 0)).heap.size = w.heap.size + 1 := by simp
  have h2 : ((w.alloc (.map #[] 0)).alloc (.map #[] 0)).heap.size = w.heap.size + 1 + 1 := by simp
  rw [h1] at m1
  rw [h2] at m2
  simp [go_sem, hmm]
  revert ca m0 m1 m2 hs
  generalize ((w.alloc (.map #[] 0)).alloc (.map #[] 0)).alloc (.map #[] 0) = w1
  obtain ⟨q, hq⟩ : ∃ q, w.heap.size = q := ⟨_, rfl⟩
  rw [hq]
  intro ca m0 m1 m2 hs
  have ba := hp_alloc w1 (.cells #[.iface bt bv, .pointer none, .map (some q), .map (some (q + 1)), .map (some (q + 1 + 1))] 70)
  have cb := (Ch.refl Nw w1).alloc (.cells #[.iface bt bv, .pointer none, .map (some q), .map (some (q + 1)), .map (some (q + 1 + 1))] 70)
  have hs2 : (w1.alloc (.cells #[.iface bt bv, .pointer none, .map (some q), .map (some (q + 1)), .map (some (q + 1 + 1))] 70)).heap.size = q + 4 := by simp [hs]
  rw [hs] at ba
  generalize w1.alloc (.cells #[.iface bt bv, .pointer none, .map (some q), .map (some (q + 1)), .map (some (q + 1 + 1))] 70) = w2 at *
  refine hR _ _ ⟨q + 1 + 1 + 1, ⟨q, q + 1, q + 1 + 1⟩, rfl, ⟨ba, m0.ch cb id, by simp [Ov.new], ⟨_, m1.ch cb id, fun a => ⟨fun _ => rfl, by simp [Ov.new]⟩⟩, by simp [Ov.new], m2.ch cb id, by simp [Ov.new], ?_, ⟨by simp only; omega, by simp only; omega, by simp only; omega, by simp only; omega, by simp only; omega, by simp only; omega⟩, fun _ e => e.elim, ?_⟩, ca.trans cb⟩
  · intro k hk
    simp only at hk
    omega
  · intro k hk
    rcases hk with hk | hk
    · exact hk.2
    · exact hk.elim
section
variable {w w' : World} {S : Nat → Prop} {o n : Nat} {base of : Value} {D : Ov} {X Y Y' : Nat → Prop} {z : Oz}
theorem OvP.mono (h : OvP w o base of n D X Y z) {m : Nat} (hm : n ≤ m) : OvP w o base of m D X Y z := by
  obtain ⟨FL, h1, h2⟩ := h.lf
  exact ⟨h.blk, h.ino.mono hm, h.inOk, ⟨FL, h1.mono hm, h2⟩, h.lfOk, h.wp.mono hm, h.wpOk, h.x, h.ne, h.yx, h.lt⟩
theorem OvP.putI (h : OvP w o base of n D X Y z) {m : Nat} (hm : n ≤ m) (hc : Ch (Kin.one z.bi) w w') {f : Num → Option In} (hf : MapV w' Tryd.prog 22 kU z.bi m fun a => (f a).map inoV) (ok : ∀ a x, f a = some x → InOk x) : OvP w' o base of m { D with ino := f } X Y z := by
  have hX : ∀ k, Y k → ¬ Kin.one z.bi k := fun k hk e => by simp only [Kin.one] at e; subst e; exact h.yx _ hk (h.x _ (.inr (.inl rfl)))
  obtain ⟨FL, h1, h2⟩ := h.lf
  refine ⟨hc.obj h.blk h.ne.2.2.2.1, hf, ok, ⟨FL, (h1.ch hc fun e => h.ne.1 e.symm).mono hm, fun a => ⟨(h2 a).1, fun b hb => ?_⟩⟩, h.lfOk, (h.wp.ch hc fun e => h.ne.2.1 e.symm).mono hm, h.wpOk, h.x, h.ne, h.yx, fun k hk => Nat.lt_of_lt_of_le (h.lt k hk) hc.size⟩
  obtain ⟨v, h3, h4, h5⟩ := (h2 a).2 b hb
  exact ⟨v, h3, h4.ch hc fun k hk => hX k (h5 k hk), h5⟩
theorem OvP.putW (h : OvP w o base of n D X Y z) {m : Nat} (hm : n ≤ m) (hc : Ch (Kin.one z.bw) w w') {f : Num → Bool} (hf : MapV w' Tryd.prog 22 kU z.bw m fun a => if f a then some (.bool true) else none) (ok : ∀ a, f a = true → okN a 0 = true) : OvP w' o base of m { D with wiped := f } X Y z := by
  have hX : ∀ k, Y k → ¬ Kin.one z.bw k := fun k hk e => by simp only [Kin.one] at e; subst e; exact h.yx _ hk (h.x _ (.inr (.inr (.inr rfl))))
  obtain ⟨FL, h1, h2⟩ := h.lf
  refine ⟨hc.obj h.blk h.ne.2.2.2.2.2, (h.ino.ch hc h.ne.2.1).mono hm, h.inOk, ⟨FL, (h1.ch hc h.ne.2.2.1).mono hm, fun a => ⟨(h2 a).1, fun b hb => ?_⟩⟩, h.lfOk, hf, ok, h.x, h.ne, h.yx, fun k hk => Nat.lt_of_lt_of_le (h.lt k hk) hc.size⟩
  obtain ⟨v, h3, h4, h5⟩ := (h2 a).2 b hb
  exact ⟨v, h3, h4.ch hc fun k hk => hX k (h5 k hk), h5⟩
theorem OvP.putL (h : OvP w o base of n D X Y z) {m : Nat} (hm : n ≤ m) (hc : Ch (Kin.one z.bl) w w') {f : Num × Off → Option Byts} {FL : Num × Off → Option Value} (hf : MapV w' Tryd.prog 76 kP z.bl m FL)
    (hv : ∀ a, (f a = none → FL a = none) ∧ ∀ b, f a = some b → ∃ v, FL a = some v ∧ Sl w' v b.length (bvs b) ∧ ∀ k, v.ownBlock = some k → Y' k) (ok : ∀ a b, f a = some b → b.length ≤ 512) (hy : ∀ k, Y' k → ¬ X k ∧ k < w'.heap.size) : OvP w' o base of m { D with lf := f } X Y' z := by
  exact ⟨hc.obj h.blk h.ne.2.2.2.2.1, (h.ino.ch hc h.ne.1).mono hm, h.inOk, ⟨FL, hf, hv⟩, ok, (h.wp.ch hc fun e => h.ne.2.2.1 e.symm).mono hm, h.wpOk, h.x, h.ne, fun k hk => (hy k hk).1, fun k hk => hk.elim (fun e => Nat.lt_of_lt_of_le (h.lt k (.inl e)) hc.size) fun e => (hy k e).2⟩
set_option maxRecDepth 100000 in
theorem wipe_any (h : OvP w o base of n D X Y z) (num : Num) (hn : n ≤ 1000000) : Ret Tryd.prog 11 #[.pointer (some ⟨o, 0, none⟩), .int .u16 num.val] w fun v' w' => v' = .int .i64 (if okN num 0 then 0 else 1) ∧ OvP w' o base of (n + 1) (D.wipe num) X Y z ∧ Ch X w w' := by
  refine v_enter Tryd.func11 Tryd.ntmps11 rfl (by simp) fun R' hR => ?_
  have ba := hp_alloc w (.cells #[.int .u16 num.val] 22)
  have ca := (Ch.refl Nw w).alloc (.cells #[.int .u16 num.val] 22)
  simp [go_sem]
  obtain ⟨q, hq⟩ : ∃ q, w.heap.size = q := ⟨_, rfl⟩
  rw [hq] at ba ⊢
  generalize w.alloc (.cells #[.int .u16 num.val] 22) = w1 at *
  have h1 := h.ch ca (fun _ _ e => e) fun _ _ e => e
  have cq := fun i => cell_blk ba i
  have hqX : ∀ k, X k ∨ Y k → k < q := fun k hk => by have := h.lt k hk; omega
  have hmay := omay_any o num 0 w1
  have hoff0 : ((0 : Off).val : Int) = 0 := rfl
  rw [hoff0] at hmay
  refine hmay.mono ?_
  rintro _ w2 ⟨rfl, hw2⟩
  subst w2
  cases hok : okN num 0 with
  | false =>
    simp [go_sem]
    have e : D.wipe num = D := by unfold Ov.wipe; rw [hok, if_neg (by decide)]
    exact hR _ _ ⟨by rw [hok]; rfl, by rw [e]; exact h1.mono (by omega), ca.mono fun _ _ e => e.elim⟩
  | true =>
    have c3 : w1.cell? ⟨o, 3, none⟩ = some (.map (some z.bl)) := cell_blk h1.blk 3
    obtain ⟨FL, hF, hL⟩ := h1.lf
    simp [go_sem, c3]
    refine (delf_any z.bl q n num FL w1 hF (cq 0) (fun e => by have := hqX z.bl (.inl (h.x _ (.inr (.inr (.inl rfl))))); omega)).mono ?_
    rintro _ w3 ⟨rfl, hF3, c13⟩
    have hXl : X z.bl := h.x _ (.inr (.inr (.inl rfl)))
    have hXw : X z.bw := h.x _ (.inr (.inr (.inr rfl)))
    have h3 := h1.putL (f := fun a => if a.1 = num then none else D.lf a) (Y' := Y) (Nat.le_refl n) c13 hF3 (fun a => ?_) (fun a b hb => ?_) fun k hk => ⟨h.yx k hk, Nat.lt_of_lt_of_le (h1.lt k (.inr hk)) c13.size⟩
    · have cq3 := c13.cell (cq 0) fun e => by simp only [Kin.one] at e; have := hqX z.bl (.inl hXl); omega
      have c4 : w3.cell? ⟨o, 4, none⟩ = some (.map (some z.bw)) := cell_blk h3.blk 4
      have h3d := h3.ch (Ch.refl Nw w3).drew (fun _ _ e => e) fun _ _ e => e
      obtain ⟨w5, hup, hm5, c5, _⟩ := h3d.wp.put kysU Tryd.underlying68 (by unfold maxLen; omega) num (.bool true)
      have hup : (Instr.mapUpdate 68 (.map (some z.bw)) (.int .u16 num.val) (.bool true)).run Tryd.prog w3.drew = .ok () w5 := hup
      simp [go_sem]
      refine v_draw' [(0, none), (1, none), (2, none), (3, none), (4, none), (5, some [])] (by kernel_rfl) (by kernel_rfl) ?_
      simp [go_sem, c4, cq3, hup]
      have e : D.wipe num = { D with lf := fun a => if a.1 = num then none else D.lf a, wiped := fun a => if a = num then true else D.wiped a } := by unfold Ov.wipe; rw [hok, if_pos rfl]
      refine hR _ _ ⟨by rw [hok]; rfl, ?_, ((ca.mono fun _ _ e => e.elim).trans (c13.mono fun k _ e => by simp only [Kin.one] at e; subst e; exact hXl)).trans ((Ch.of_drew (Ch.mono c5 (fun k _ e => by simp only [Kin.one] at e; subst e; exact hXw))))⟩
      rw [e]
      refine h3d.putW (f := fun a => if a = num then true else D.wiped a) (Nat.le_succ n) c5 ?_ fun a ha => ?_
      · have e2 : (fun a => if (if a = num then true else D.wiped a) = true then some (Value.bool true) else none) = fun a => if a = num then some (Value.bool true) else if D.wiped a = true then some (Value.bool true) else none := by
          funext a
          by_cases ha : a = num <;> simp [ha]
        rw [e2]
        exact hm5
      · split at ha
        · rename_i hh
          rw [hh]
          exact hok
        · exact h.wpOk a ha
    · by_cases ha : a.1 = num
      · simp [ha]
      · simp only [if_neg ha]
        refine ⟨(hL a).1, fun b hb => ?_⟩
        obtain ⟨v, x1, x2, x3⟩ := (hL a).2 b hb
        exact ⟨v, x1, x2.ch c13 fun k hk e => by simp only [Kin.one] at e; subst e; exact h.yx _ (x3 _ hk) hXl, x3⟩
    · split at hb
      · cases hb
      · exact h.lfOk a b hb
set_option maxRecDepth 100000 in
theorem seti_any (h : OvP w o base of n D X Y z) (num : Num) (x : In) (okx : InOk x) (hw : Lw w) (hn : n ≤ 1000000) : Ret Tryd.prog 7 #[.pointer (some ⟨o, 0, none⟩), .int .u16 num.val, .agg (ino x)] w fun v' w' => v' = .int .i64 (if okN num 0 && mayI x then 0 else 1) ∧ OvP w' o base of (n + 1) (D.setI num x) X Y z ∧ Ch X w w' := by
  refine v_enter Tryd.func7 Tryd.ntmps7 rfl (by simp) fun R' hR => ?_
  have hs := ino_size okx
  have hax := ino_all okx
  have ba := hp_alloc w (.cells (ino x) 49)
  have ca := (Ch.refl Nw w).alloc (.cells (ino x) 49)
  simp [go_sem]
  obtain ⟨q, hq⟩ : ∃ q, w.heap.size = q := ⟨_, rfl⟩
  rw [hq] at ba ⊢
  generalize w.alloc (.cells (ino x) 49) = w1 at *
  have h1 := h.ch ca (fun _ _ e => e) fun _ _ e => e
  have caX : Ch X w w1 := ca.mono fun _ _ e => e.elim
  have hmay := omay_any o num 0 w1
  have hoff0 : ((0 : Off).val : Int) = 0 := rfl
  rw [hoff0] at hmay
  refine hmay.mono ?_
  rintro _ w2 ⟨rfl, hw2⟩
  subst w2
  cases hok : okN num 0 with
  | false =>
    simp [go_sem]
    have e : D.setI num x = D := by unfold Ov.setI; rw [hok, Bool.false_and, if_neg (by decide)]
    exact hR _ _ ⟨by rw [hok]; rfl, by rw [e]; exact h1.mono (by omega), caX⟩
  | true =>
    simp [go_sem, ba, hs, hax]
    refine (imay_any x w1 okx (hw.ch ca id)).mono ?_
    rintro _ w3 ⟨rfl, c3⟩
    have h3 := h1.ch c3 (fun _ _ e => e) fun _ _ e => e
    have c3X : Ch X w w3 := caX.trans (c3.mono fun _ _ e => e.elim)
    cases hm : mayI x with
    | false =>
      simp [go_sem]
      have e : D.setI num x = D := by unfold Ov.setI; rw [hm, Bool.and_false, if_neg (by decide)]
      exact hR _ _ ⟨by rw [hok, hm]; rfl, by rw [e]; exact h3.mono (by omega), c3X⟩
    | true =>
      have b3 := c3.obj ba id
      have c2 : w3.cell? ⟨o, 2, none⟩ = some (.map (some z.bi)) := cell_blk h3.blk 2
      have h3d := h3.ch (Ch.refl Nw w3).drew (fun _ _ e => e) fun _ _ e => e
      obtain ⟨w5, hup, hm5, c5, _⟩ := h3d.ino.put kysU Tryd.underlying66 (by unfold maxLen; omega) num (.agg (ino x))
      have hup : (Instr.mapUpdate 66 (.map (some z.bi)) (.int .u16 num.val) (.agg (ino x))).run Tryd.prog w3.drew = .ok () w5 := hup
      have b3d : w3.drew.heap[q]? = some (.cells (ino x) 49 (0, 0)) := b3
      simp [go_sem]
      refine v_draw' [(0, none), (1, none), (2, none), (3, none), (4, none), (5, none), (6, some [])] (by kernel_rfl) (by kernel_rfl) ?_
      simp [go_sem, c2, b3, b3d, hs, hax, hup]
      have e : D.setI num x = { D with ino := fun a => if a = num then some x else D.ino a } := by unfold Ov.setI; rw [hok, hm, Bool.and_self, if_pos rfl]
      refine hR _ _ ⟨by rw [hok, hm]; rfl, ?_, c3X.trans (Ch.of_drew (Ch.mono c5 (fun k _ e => by simp only [Kin.one] at e; subst e; exact h.x _ (.inr (.inl rfl)))))⟩
      rw [e]
      refine h3d.putI (Nat.le_succ n) c5 ?_ fun a y hy => ?_
      · have e2 : (fun a => (if a = num then some x else D.ino a).map inoV) = fun a => if a = num then some (.agg (ino x)) else (D.ino a).map inoV := by
          funext a
          by_cases ha : a = num <;> simp [ha, inoV]
        rw [e2]
        exact hm5
      · split at hy
        · cases hy; exact okx
        · exact h.inOk a y hy
set_option maxRecDepth 100000 in
theorem setl_any (h : OvP w o base of n D X Y z) (num : Num) (off : Off) (b : Byts) (v : Value) (hv : Sl w v b.length (bvs b)) (hb : b.length ≤ 1000000) (hn : n ≤ 1000000) : Ret Tryd.prog 10 #[.pointer (some ⟨o, 0, none⟩), .int .u16 num.val, .int .u32 off.val, v] w fun v' w' => v' = .int .i64 (if okN num off && (decide (b.length = 0) || decide (b.length = 512)) then 0 else 1) ∧ OvP w' o base of (n + 1) (D.setL num off b) X (fun k => Y k ∨ (w.heap.size ≤ k ∧ k < w'.heap.size)) z ∧ Ch X w w' := by
  refine v_enter Tryd.func10 Tryd.ntmps10 rfl (by simp) fun R' hR => ?_
  have hlen := hv.len Tryd.underlying44 3
  have stay : OvP w o base of (n + 1) D X (fun k => Y k ∨ (w.heap.size ≤ k ∧ k < w.heap.size)) z := by
    have h1 := h.mono (Nat.le_succ n)
    obtain ⟨FL, h2, h3⟩ := h1.lf
    refine ⟨h1.blk, h1.ino, h1.inOk, ⟨FL, h2, fun a => ⟨(h3 a).1, fun b hb => ?_⟩⟩, h1.lfOk, h1.wp, h1.wpOk, h1.x, h1.ne, fun k hk => hk.elim (h1.yx k) fun e => by omega, fun k hk => ?_⟩
    · obtain ⟨v, x1, x2, x3⟩ := (h3 a).2 b hb
      exact ⟨v, x1, x2, fun k hk => .inl (x3 k hk)⟩
    · rcases hk with hk | hk | hk
      · exact h1.lt k (.inl hk)
      · exact h1.lt k (.inr hk)
      · exact hk.2
  simp [go_sem]
  refine (omay_any o num off w).mono ?_
  rintro _ w1 ⟨rfl, hw1⟩
  subst w1
  cases hok : okN num off with
  | false =>
    simp [go_sem]
    have e : D.setL num off b = D := by unfold Ov.setL; rw [hok, Bool.false_and, if_neg (by decide)]
    exact hR _ _ ⟨by rw [hok]; rfl, by rw [e]; exact stay, Ch.refl _ _⟩
  | true =>
    by_cases hgood : b.length = 0 ∨ b.length = 512
    case neg =>
      have n0 : ((b.length : Int) == 0) = false := beq_false_of_ne (by omega)
      have n5 : ((b.length : Int) == 512) = false := beq_false_of_ne (by omega)
      have e : D.setL num off b = D := by
        unfold Ov.setL
        rw [if_neg]
        intro hc
        rw [Bool.and_eq_true, Bool.or_eq_true, decide_eq_true_iff, decide_eq_true_iff] at hc
        exact hgood hc.2
      simp [go_sem, hlen, bne, n0, n5]
      exact hR _ _ ⟨by rw [if_neg]; intro hc; rw [Bool.and_eq_true, Bool.or_eq_true, decide_eq_true_iff, decide_eq_true_iff] at hc; exact hgood hc.2, by rw [e]; exact stay, Ch.refl _ _⟩
    have hret : (if okN num off && (decide (b.length = 0) || decide (b.length = 512)) then (0 : Int) else 1) = 0 := by
      rw [if_pos]
      rw [hok, Bool.true_and, Bool.or_eq_true, decide_eq_true_iff, decide_eq_true_iff]
      exact hgood
    have e : D.setL num off b = { D with lf := fun a => if a = (num, off) then some b else D.lf a } := by
      unfold Ov.setL
      rw [if_pos]
      rw [hok, Bool.true_and, Bool.or_eq_true, decide_eq_true_iff, decide_eq_true_iff]
      exact hgood
    rw [e] at hR
    have fin : ∀ v2 w2, w2.ownsRow 0 5 1 v2 b.length (bvs b) → Ch Nw w.drew w2 → Fresh w.heap.size v2 → ∀ {A : Option Addr} {c : Nat}, v2 = .slice A b.length c → ∃ w5, (Instr.mapUpdate 67 (.map (some z.bl)) (.agg #[.int .u16 num.val, .int .u32 off.val]) (.slice A b.length c)).run Tryd.prog w2 = .ok () w5 ∧ OvP w5 o base of (n + 1) { D with lf := fun a => if a = (num, off) then some b else D.lf a } X (fun k => Y k ∨ (w.heap.size ≤ k ∧ k < w5.heap.size)) z ∧ Ch X w w5 := by
      intro v2 w2 o2 c2 f2 A c hv2
      subst hv2
      have c2 : Ch Nw w w2 := Ch.of_drew c2
      have h2 := h.ch c2 (fun _ _ e => e) fun _ _ e => e
      obtain ⟨FL, hF, hL⟩ := h2.lf
      obtain ⟨w5, hup, hm5, c5, s5⟩ := hF.put kysP Tryd.underlying67 (by unfold maxLen; omega) (num, off) (.slice A b.length c)
      have hXl : X z.bl := h.x _ (.inr (.inr (.inl rfl)))
      have hlt := own_blt o2
      have hwl := h.lt z.bl (.inl hXl)
      refine ⟨w5, hup, h2.putL (Nat.le_succ n) c5 hm5 (fun a => ?_) (fun a x hx => ?_) fun k hk => ?_, (c2.mono fun _ _ e => e.elim).trans (c5.mono fun k _ e => by simp only [Kin.one] at e; subst e; exact hXl)⟩
      · by_cases ha : a = (num, off)
        · subst ha
          simp only [if_true]
          refine ⟨fun e => (by cases e), fun x hx => ?_⟩
          cases hx
          exact ⟨_, rfl, (Sl.of_own o2).ch c5 fun k hk e => by simp only [Kin.one] at e; have := f2 k hk; omega, fun k hk => .inr ⟨f2 k hk, by rw [s5]; exact hlt k hk⟩⟩
        · simp only [if_neg ha]
          refine ⟨(hL a).1, fun x hx => ?_⟩
          obtain ⟨v, x1, x2, x3⟩ := (hL a).2 x hx
          exact ⟨v, x1, x2.ch c5 fun k hk e => by simp only [Kin.one] at e; subst e; exact h.yx _ (x3 _ hk) hXl, fun k hk => .inl (x3 k hk)⟩
      · split at hx
        · obtain rfl := Option.some.inj hx
          omega
        · exact h.lfOk a x hx
      · rcases hk with hk | hk
        · exact ⟨h.yx k hk, Nat.lt_of_lt_of_le (h2.lt k (.inr hk)) c5.size⟩
        · exact ⟨fun e => by have := h.lt k (.inl e); omega, hk.2⟩
    have c3 : w.cell? ⟨o, 3, none⟩ = some (.map (some z.bl)) := cell_blk h.blk 3
    have go : ∀ {R2 : Value → World → Prop}, (∀ v2 w2, w2.ownsRow 0 5 1 v2 b.length (bvs b) → Ch Nw w.drew w2 → Fresh w.heap.size v2 → R2 v2 w2) → Ret Tryd.prog 23 #[v] w.drew R2 := fun {R2} hk => by
      refine (clone_any v b.length b w.drew (by omega) rfl hv).mono ?_
      rintro v2 w2 ⟨a1, a2, a3⟩
      exact hk v2 w2 a1 a2 a3
    rcases hgood with h0 | h5
    · have n0 : (b.length : Int) = 0 := by omega
      simp [go_sem, hlen, n0, h0]
      refine v_draw' [(0, none), (1, none), (2, none), (3, none), (4, none), (5, none), (6, none), (7, none), (8, some [0, 1, 2, 3, 4, 5, 6]), (9, some [])] (by kernel_rfl) (by kernel_rfl) ?_
      simp [go_sem, c3]
      refine go fun v2 w2 o2 c2 f2 => ?_
      obtain ⟨A2, k2, hv2⟩ : ∃ A c, v2 = .slice A b.length c := by
        obtain ⟨A, c, e, _⟩ := Sl.of_own o2
        exact ⟨A, c, e⟩
      obtain ⟨w5, hup, h5, k5⟩ := fin v2 w2 o2 c2 f2 hv2
      subst hv2
      have c32 : w2.cell? ⟨o, 3, none⟩ = some (.map (some z.bl)) := (Ch.of_drew c2).cell c3 id
      simp [go_sem, c32, hup]
      exact hR _ _ ⟨by rw [hret], h5, k5⟩
    · have n5 : (b.length : Int) = 512 := by omega
      simp [go_sem, hlen, n5]
      refine v_draw' [(0, none), (1, none), (2, none), (3, none), (4, none), (5, none), (6, none), (7, none), (8, some [0, 1, 2, 3, 4, 5, 6]), (9, some [])] (by kernel_rfl) (by kernel_rfl) ?_
      simp [go_sem, c3]
      refine go fun v2 w2 o2 c2 f2 => ?_
      obtain ⟨A2, k2, hv2⟩ : ∃ A c, v2 = .slice A b.length c := by
        obtain ⟨A, c, e, _⟩ := Sl.of_own o2
        exact ⟨A, c, e⟩
      obtain ⟨w5, hup, h5, k5⟩ := fin v2 w2 o2 c2 f2 hv2
      subst hv2
      have c32 : w2.cell? ⟨o, 3, none⟩ = some (.map (some z.bl)) := (Ch.of_drew c2).cell c3 id
      simp [go_sem, c32, hup]
      exact hR _ _ ⟨by rw [hret], h5, k5⟩
end
end Go.Proofs.YtnefdmbdkljifaaDoor
