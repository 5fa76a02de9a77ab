/- DiskPower. No condition. -/
import Derived.Test.YtmhnlgndgdmebaaDkP
namespace Go.Proofs.Ytmhnlgndgdmebaa
open Go.RowKit Go.Kin

/-- two disks that share power -/
structure Td (W w : World) (c d p n : Nat) (C D : Dk) (P : Pwr) (A B : Nat → Prop) : Prop where
  sc : Sd w c p n C P A
  sd : Sd w d p n D P B
  ab : ∀ k, A k → ¬ B k
  ca : ∀ k, A k → W.heap.size ≤ k
  cb : ∀ k, B k → W.heap.size ≤ k
  pge : W.heap.size ≤ p
  ch : Ch Nw W w
section
variable {W w w' : World} {c d p n : Nat} {C D C' : Dk} {P P' : Pwr} {A B : Nat → Prop}
theorem Td.sym (h : Td W w c d p n C D P A B) : Td W w d c p n D C P B A := ⟨h.sd, h.sc, fun k hb ha => h.ab k ha hb, h.cb, h.ca, h.pge, h.ch⟩
theorem Td.step (h : Td W w c d p n C D P A B) (h1 : Sd w' c p n C' P' (Gr A w w')) (hc : Ch (fun k => A k ∨ k = p) w w') : Td W w' c d p n C' D P' (Gr A w w') B := by
  have hs := h.ch.size
  refine ⟨h1, ⟨h.sd.dk.ch hc fun k hk e => e.elim (fun e => h.ab k e hk) fun e => h.sd.pO (by rw [← e]; exact hk), h1.pw, h.sd.pO⟩, fun k hk hb => hk.elim (fun e => h.ab k e hb) fun e => ?_, fun k hk => hk.elim (h.ca k) fun e => Nat.le_trans hs e.1, h.cb, h.pge, h.ch.trans' hc fun k hk e => ?_⟩
  · have := h.sd.olt k hb; omega
  · rcases e with e | e
    · have := h.ca k e; omega
    · have := h.pge; omega
theorem Td.pow (h : Td W w c d p n C D P A B) (h1 : PwAt w' p P') (hc : Ch (one p) w w') : Td W w' c d p n C D P' A B := by
  refine ⟨⟨h.sc.dk.ch hc fun k hk e => h.sc.pO (by simp only [one] at e; rw [← e]; exact hk), h1, h.sc.pO⟩, ⟨h.sd.dk.ch hc fun k hk e => h.sd.pO (by simp only [one] at e; rw [← e]; exact hk), h1, h.sd.pO⟩, h.ab, h.ca, h.cb, h.pge, h.ch.trans' hc fun k hk e => ?_⟩
  simp only [one] at e
  have := h.pge
  omega
theorem Td.stay (h : Td W w c d p n C D P A B) (hc : Ch Nw w w') : Td W w' c d p n C D P A B := ⟨h.sc.ch hc (fun _ _ e => e) id, h.sd.ch hc (fun _ _ e => e) id, h.ab, h.ca, h.cb, h.pge, h.ch.trans hc⟩
end
/-- two new disks -/
theorem td_new (W w : World) (n p c d : Nat) (w1 w2 : World) (hp : PwAt w p Pwr.on) (hpg : W.heap.size ≤ p) (hw : Ch Nw W w) (h1 : Sd w1 c p n Dk.new Pwr.on (fun k => w.heap.size ≤ k ∧ k < w1.heap.size)) (c1 : Ch Nw w w1) (h2 : Sd w2 d p n Dk.new Pwr.on (fun k => w1.heap.size ≤ k ∧ k < w2.heap.size)) (c2 : Ch Nw w1 w2) :
    Td W w2 c d p n Dk.new Dk.new Pwr.on (fun k => w.heap.size ≤ k ∧ k < w1.heap.size) (fun k => w1.heap.size ≤ k ∧ k < w2.heap.size) :=
  ⟨h1.ch c2 (fun _ _ e => e) id, h2, fun k a b => by omega, fun k a => Nat.le_trans hw.size a.1, fun k b => Nat.le_trans (Nat.le_trans hw.size c1.size) b.1, hpg, (hw.trans c1).trans c2⟩
/-- the power behind so many steps -/
def Pf (F i : Nat) : Pwr := if i ≤ F then ⟨false, (F - i : Nat)⟩ else ⟨true, -1⟩
theorem Pf_step (F i : Nat) : (Pf F i).step = Pf F (i + 1) := by
  unfold Pf Pwr.step
  by_cases h : i ≤ F
  · rw [if_pos h]
    by_cases h2 : i = F
    · subst h2; simp
    · have h3 : i + 1 ≤ F := by omega
      have h4 : ¬ ((F - i : Nat) : Int) = 0 := by omega
      have h5 : (0 : Int) < ((F - i : Nat) : Int) := by omega
      rw [if_pos h3]
      simp only [Bool.false_eq_true, if_false, h4, h5, if_true]
      congr 1
      omega
  · have h2 : ¬ i + 1 ≤ F := by omega
    simp [h, h2]
theorem Pf_off (F i : Nat) : (Pf F i).off = decide (F < i) := by
  unfold Pf
  by_cases h : i ≤ F
  · rw [if_pos h]; simp; omega
  · rw [if_neg h]; simp; omega
theorem Pf_made (F i : Nat) : (Pf F i).made = decide (i < F) := by
  unfold Pf Pwr.made
  by_cases h : i ≤ F
  · rw [if_pos h]
    by_cases h2 : i < F
    · simp [h2]; omega
    · simp [h2]; omega
  · rw [if_neg h]; simp; omega
theorem Pf_fuse (F i : Nat) (h : F ≤ 1000) : (Pf F i).fuse ≤ 9223372036854775807 := by
  unfold Pf
  split
  · simp only; omega
  · simp
/-- a disk without faults, so many writes in its cache -/
structure Ql (D : Dk) (k : Nat) : Prop where
  dead : D.dead = false
  lose : D.lose = false
  astray : D.astray = none
  len : D.cache.length = k
  bad : ∀ x, D.bad x = false
  stuck : ∀ x, D.stuck x = false
theorem Ql.new : Ql Dk.new 0 := ⟨rfl, rfl, rfl, rfl, fun _ => rfl, fun _ => rfl⟩
theorem Ql.write {D : Dk} {k : Nat} (h : Ql D k) {n a : Nat} (ha : a < n) {b : Byts} (hb : b.length = 512) (F i : Nat) : D.writes n (Pf F i) a b = (if i < F then .ok else .dead) ∧ D.wpow n (Pf F i) a b = Pf F (i + 1) ∧ Ql (D.write n (Pf F i) a b) (if i < F then k + 1 else k) := by
  have hw : D.writes n (Pf F i) a b = (if i < F then .ok else .dead) := by
    unfold Dk.writes Dk.able
    rw [h.dead, Pf_off, Pf_made]
    by_cases h1 : F < i
    · rw [if_pos (by simp [h1]), if_neg (by omega)]
    · rw [if_neg (by simp [h1]), if_neg (by omega)]
      by_cases h2 : i < F <;> simp [h2]
  refine ⟨hw, ?_, ?_⟩
  · unfold Dk.wpow Dk.able
    rw [h.dead, Pf_off]
    by_cases h1 : F < i
    · rw [if_pos (by simp [h1])]
      unfold Pf
      rw [if_neg (by omega), if_neg (by omega)]
    · rw [if_neg (by simp [h1]), if_neg (by omega), Pf_step]
  · unfold Dk.write
    rw [hw]
    by_cases h2 : i < F
    · rw [if_pos h2, if_pos rfl, if_pos h2]
      unfold Dk.put
      rw [h.lose, h.astray]
      simp only [Bool.false_eq_true, if_false, Option.getD_none, ha, if_true]
      exact ⟨h.dead, rfl, rfl, by simp [h.len], h.bad, h.stuck⟩
    · rw [if_neg h2, if_neg (by decide), if_neg h2]
      exact h
structure PwI (W : World) (c d p F T i : Nat) (f : Nat → Value) (u : World) : Prop where
  f0 : f 0 = .int .u8 F
  f1 : f 1 = .int .u8 T
  f5 : f 5 = .pointer (some ⟨p, 0, none⟩)
  f6 : f 6 = .pointer (some ⟨c, 0, none⟩)
  f8 : f 8 = .pointer (some ⟨d, 0, none⟩)
  f10 : f 10 = .int .i64 (if i < F then i else F : Nat)
  f11 : f 11 = .int .i64 i
  td : ∃ C D A B m k, Td W u c d p 4 C D (Pf F i) A B ∧ Ql C m ∧ Ql D k ∧ m + k = if i < F then i else F
theorem power_any (F T : Nat) (hT : T < 256) (hF : F < 256) (W : World) : Ret Try.prog 7 #[.int .u8 F, .int .u8 T] W fun v' w' => v' = .bool true ∧ Ch Nw W w' := by
  refine v_enter Try.func7 Try.ntmps7 rfl (by simp) fun R' hR => ?_
  by_cases h50 : (50 : Int) < (F : Int)
  · simp [go_sem, h50]
    refine (wakes_any W).mono ?_
    rintro _ w1 ⟨rfl, c1⟩
    simp [go_sem]
    exact hR _ _ ⟨rfl, c1⟩
  have hFw : IntKind.i64.wrap (F : Int) = F := by rw [IntKind.wrap_i64]; omega
  simp [go_sem, h50]
  refine (on_pw W).mono ?_
  rintro _ w1 ⟨rfl, h1, c1⟩
  generalize hp : W.heap.size = p at *
  simp [go_sem]
  refine (sd_new 4 p w1 Pwr.on (by omega) (by omega) h1).mono ?_
  rintro _ w2 ⟨c, rfl, h2, c2⟩
  simp [go_sem]
  refine (sd_new 4 p w2 Pwr.on (by omega) (by omega) (h1.ch c2 id)).mono ?_
  rintro _ w3 ⟨d, rfl, h3, c3⟩
  have t3 := td_new W w1 4 p c d w2 w3 h1 (by omega) c1 h2 c2 h3 c3
  simp [go_sem, hFw]
  refine (fuse_any p false (-1) F w3 t3.sc.pw).mono ?_
  rintro _ w4 ⟨rfl, h4, c4, _⟩
  have t4 : Td W w4 c d p 4 Dk.new Dk.new (Pf F 0) _ _ := t3.pow (P' := Pf F 0) (by
    have e : Pf F 0 = ⟨false, F⟩ := by unfold Pf; rw [if_pos (by omega)]; rfl
    rw [e]
    rw [if_neg (by decide), if_neg (by omega)] at h4
    exact h4) c4
  simp [go_sem]
  refine v_loop (fun r f u => ∃ i, r = 60 - i ∧ i ≤ 60 ∧ PwI W c d p F T i f u) 60
    ⟨0, rfl, by omega, by simp, by simp, by simp, by simp, by simp, by simp; split <;> omega, by simp, _, _, _, _, 0, 0, t4, Ql.new, Ql.new, by split <;> omega⟩ ?_
  rintro J hJ _ f u ⟨i, rfl, hi, f0, f1, f5, f6, f8, f10, f11, C, D, A, B, m, k, td, qc, qd, hmk⟩
  by_cases hlt : i < 60
  · have hii : (i : Int) < 60 := by omega
    have hwi : IntKind.i64.wrap ((i : Int) + 1) = ((i + 1 : Nat) : Int) := by rw [IntKind.wrap_i64]; omega
    have hwT : IntKind.i64.wrap (T : Int) = T := by rw [IntKind.wrap_i64]; omega
    have hwiT : IntKind.i64.wrap ((i : Int) + T) = ((i + T : Nat) : Int) := by rw [IntKind.wrap_i64]; omega
    have hu8 : IntKind.u8.wrap (i : Int) = i := by simp [IntKind.wrap, IntKind.bits, IntKind.signed]; omega
    have hr1 : ((i : Int) + T).tmod 3 = ((i + T) % 3 : Nat) := by rw [Int.tmod_eq_emod_of_nonneg (by omega)]; omega
    have hr2 : ((i : Int)).tmod 4 = (i % 4 : Nat) := by rw [Int.tmod_eq_emod_of_nonneg (by omega)]; omega
    obtain ⟨a, ha⟩ : ∃ a, i % 4 = a := ⟨_, rfl⟩
    have ha4 : a < 4 := by omega
    rw [ha] at hr2
    have hwa : IntKind.u16.wrap (a : Int) = a := by simp [IntKind.wrap, IntKind.bits, IntKind.signed]; omega
    by_cases hx : ((i : Int) + T).tmod 3 = 0
    · have hb0 : (((i : Int) + T).tmod 3 == 0) = true := beq_iff_eq.2 hx
      simp [go_sem, f1, f6, f8, f11, hii, hwT, hwiT, hu8, hb0, hr2, hwa]
      refine full_lit u i (by omega) fun va u1 ma => ?_
      have hb := fullB_len [UInt8.ofNat (i : Int).toNat]
      revert ma hb
      generalize fullB [UInt8.ofNat (i : Int).toNat] = b
      intro ma hb
      have t1 := td.sym.stay ma.ch
      obtain ⟨q1, q2, q3⟩ := qd.write ha4 hb F i
      simp [go_sem]
      refine (t1.sc.write a (by omega) b va (Pf_fuse F i (by omega)) (by rw [qd.len]; split at hmk <;> omega) (fun x hx => by rw [qd.astray] at hx; cases hx) (by rw [hb]; exact ma.sl) fun x hx => ⟨fun e => ?_, fun e => ?_⟩).mono ?_
      · have := ma.fresh x hx; have := td.sym.sc.olt x e; omega
      · have := ma.fresh x hx; have := td.sym.sc.plt; omega
      rintro _ u2 ⟨rfl, s2, k2⟩
      rw [q1]
      rw [q2] at s2
      have t2 := t1.step s2 k2
      by_cases hiF : i < F
      · have hiFi : (i : Int) < F := by omega
        have hwi2 : IntKind.i64.wrap ((i : Int) + 1) = ((i + 1 : Nat) : Int) := hwi
        rw [if_pos hiF] at hmk q3
        simp [go_sem, f5, f10, hiF, wrE, hwi]
        refine (is_any p _ _ u2 t2.sc.pw).mono ?_
        rintro _ u3 ⟨rfl, hu3⟩
        subst hu3
        simp [go_sem, f0, f11, Pf_off, hiF, hFw]
        rw [show decide (F < i + 1) = false from decide_eq_false (by omega)]
        simp [go_sem, f11, hwi]
        exact Rnd.intro (60 - (i + 1)) (by omega) (hJ _ _ _ ⟨i + 1, rfl, by omega, by simp [f0], by simp [f1], by simp [f5], by simp [f6], by simp [f8], by simp; split <;> omega, by simp, _, _, _, _, _, _, t2.sym, qc, q3, by (split <;> omega)⟩)
      · have hiFi : ¬ (i : Int) < F := by omega
        rw [if_neg hiF] at hmk q3
        simp [go_sem, f5, hiF, wrE]
        refine (is_any p _ _ u2 t2.sc.pw).mono ?_
        rintro _ u3 ⟨rfl, hu3⟩
        subst hu3
        simp [go_sem, f0, f11, Pf_off, hiF, hFw]
        rw [show decide (F < i + 1) = true from decide_eq_true (by omega)]
        simp [go_sem, f11, hwi]
        exact Rnd.intro (60 - (i + 1)) (by omega) (hJ _ _ _ ⟨i + 1, rfl, by omega, by simp [f0], by simp [f1], by simp [f5], by simp [f6], by simp [f8], by simp [f10, hiF, show ¬ i + 1 < F by omega], by simp, _, _, _, _, _, _, t2.sym, qc, q3, by (split <;> omega)⟩)
    · have hb0 : (((i : Int) + T).tmod 3 == 0) = false := beq_false_of_ne hx
      simp [go_sem, f1, f6, f11, hii, hwT, hwiT, hu8, hb0, hr2, hwa]
      refine full_lit u i (by omega) fun va u1 ma => ?_
      have hb := fullB_len [UInt8.ofNat (i : Int).toNat]
      revert ma hb
      generalize fullB [UInt8.ofNat (i : Int).toNat] = b
      intro ma hb
      have t1 := td.stay ma.ch
      obtain ⟨q1, q2, q3⟩ := qc.write ha4 hb F i
      simp [go_sem]
      refine (t1.sc.write a (by omega) b va (Pf_fuse F i (by omega)) (by rw [qc.len]; split at hmk <;> omega) (fun x hx => by rw [qc.astray] at hx; cases hx) (by rw [hb]; exact ma.sl) fun x hx => ⟨fun e => ?_, fun e => ?_⟩).mono ?_
      · have := ma.fresh x hx; have := td.sc.olt x e; omega
      · have := ma.fresh x hx; have := td.sc.plt; omega
      rintro _ u2 ⟨rfl, s2, k2⟩
      rw [q1]
      rw [q2] at s2
      have t2 := t1.step s2 k2
      by_cases hiF : i < F
      · have hiFi : (i : Int) < F := by omega
        have hwi2 : IntKind.i64.wrap ((i : Int) + 1) = ((i + 1 : Nat) : Int) := hwi
        rw [if_pos hiF] at hmk q3
        simp [go_sem, f5, f10, hiF, wrE, hwi]
        refine (is_any p _ _ u2 t2.sc.pw).mono ?_
        rintro _ u3 ⟨rfl, hu3⟩
        subst hu3
        simp [go_sem, f0, f11, Pf_off, hiF, hFw]
        rw [show decide (F < i + 1) = false from decide_eq_false (by omega)]
        simp [go_sem, f11, hwi]
        exact Rnd.intro (60 - (i + 1)) (by omega) (hJ _ _ _ ⟨i + 1, rfl, by omega, by simp [f0], by simp [f1], by simp [f5], by simp [f6], by simp [f8], by simp; split <;> omega, by simp, _, _, _, _, _, _, t2, q3, qd, by (split <;> omega)⟩)
      · have hiFi : ¬ (i : Int) < F := by omega
        rw [if_neg hiF] at hmk q3
        simp [go_sem, f5, hiF, wrE]
        refine (is_any p _ _ u2 t2.sc.pw).mono ?_
        rintro _ u3 ⟨rfl, hu3⟩
        subst hu3
        simp [go_sem, f0, f11, Pf_off, hiF, hFw]
        rw [show decide (F < i + 1) = true from decide_eq_true (by omega)]
        simp [go_sem, f11, hwi]
        exact Rnd.intro (60 - (i + 1)) (by omega) (hJ _ _ _ ⟨i + 1, rfl, by omega, by simp [f0], by simp [f1], by simp [f5], by simp [f6], by simp [f8], by simp [f10, hiF, show ¬ i + 1 < F by omega], by simp, _, _, _, _, _, _, t2, q3, qd, by (split <;> omega)⟩)
  · obtain rfl : i = 60 := by omega
    have hmk : m + k = F := by rw [hmk, if_neg (by omega)]
    have off : (Pf F 60).off = true := by rw [Pf_off]; exact decide_eq_true (by omega)
    simp [go_sem, f6, f11]
    refine (td.sc.read 0 (by omega)).mono ?_
    rintro v1 u1 ⟨r1, _, k1⟩
    have e1 : readE 4 C (Pf F 60) 0 = 3 := by unfold readE Dk.able; rw [off, qc.dead]; rfl
    rcases r1 with ⟨r1, _⟩ | ⟨_, rfl⟩
    · rw [e1] at r1; cases r1
    rw [e1]
    have t1 := td.stay k1
    simp [go_sem, f6]
    refine t1.sc.cached.mono ?_
    rintro _ x1 ⟨rfl, hx1⟩
    subst hx1
    simp [go_sem, f8]
    refine t1.sd.cached.mono ?_
    rintro _ x1 ⟨rfl, hx1⟩
    subst hx1
    rw [qc.len, qd.len]
    have hw : IntKind.i64.wrap ((m : Int) + k) = (F : Int) := by rw [IntKind.wrap_i64]; omega
    have h60 : ¬ 60 < F := by omega
    simp [go_sem, f0, f6, f10, hFw, hw, h60]
    refine (t1.sc.flush (Pf_fuse F 60 (by omega)) (by rw [qc.len]; omega)).mono ?_
    have e2 : C.able (Pf F 60) = false := by unfold Dk.able; rw [off]; simp
    rintro _ u2 ⟨rfl, s2, k2⟩
    rw [e2, if_neg (by simp), if_neg (by decide)] at s2
    rw [e2, if_neg (by simp)]
    have t2 := t1.step s2 k2
    simp [go_sem, f5, f10, h60]
    refine (step_any p _ _ u2 t2.sc.pw (Pf_fuse F 60 (by omega))).mono ?_
    rw [stepS_eq, Pf_step, Pf_made]
    rintro _ u3 ⟨rfl, h3', k3, _⟩
    have t3 := t2.pow (P' := Pf F 61) h3' k3
    rw [show decide (60 < F) = false from decide_eq_false (by omega)]
    simp [go_sem, f5]
    refine (fuse_any p _ _ 9 u3 t3.sc.pw).mono ?_
    rintro _ u4 ⟨rfl, h4', k4, _⟩
    have off1 : (Pf F 61).off = true := by rw [Pf_off]; exact decide_eq_true (by omega)
    rw [off1, if_pos rfl] at h4'
    have t4 := t3.pow (P' := ⟨true, (Pf F 61).fuse⟩) h4' k4
    simp [go_sem, f5]
    refine (back_any p _ _ u4 t4.sc.pw).mono ?_
    rintro _ u5 ⟨rfl, h5', k5, _⟩
    have t5 := t4.pow (P' := Pwr.on) h5' k5
    simp [go_sem, f6]
    refine (t5.sc.read 0 (by omega)).mono ?_
    rintro v6 u6 ⟨r6, _, k6⟩
    have hlk : ∃ b, C.look 4 0 = some b := by
      unfold Dk.look Dk.tells
      rw [qc.dead, qc.stuck, qc.bad]
      simp only [Bool.false_or, Bool.or_false, Bool.false_eq_true, if_false]
      rw [if_neg (by decide)]
      rcases lastC C.cache 0 with _ | b
      · exact ⟨_, rfl⟩
      · exact ⟨_, rfl⟩
    obtain ⟨bb, hbb⟩ := hlk
    have e6 : readE 4 C Pwr.on 0 = 0 := by unfold readE Dk.able; rw [qc.dead, hbb]; rfl
    rcases r6 with ⟨_, b', u', _, rfl, _⟩ | ⟨r6, _⟩
    · have t6 := t5.stay k6
      simp [go_sem, f5]
      refine (is_any p _ _ u6 t6.sc.pw).mono ?_
      rintro _ u7 ⟨rfl, hu7⟩
      subst hu7
      simp [go_sem, f6, Pwr.on]
      refine (t6.sc.flush (by decide) (by rw [qc.len]; omega)).mono ?_
      have e7 : C.able Pwr.on = true := by unfold Dk.able; rw [qc.dead]; rfl
      rintro _ u8 ⟨rfl, s8, k8⟩
      rw [e7, if_pos (by decide), if_pos rfl] at s8
      rw [e7, if_pos (by decide)]
      have t8 := t6.step s8 k8
      simp [go_sem, f6]
      refine t8.sc.cached.mono ?_
      rintro _ u9 ⟨rfl, hu9⟩
      subst hu9
      rw [show C.flush.cache.length = 0 from rfl]
      simp [go_sem, f5]
      refine (step_any p _ _ _ t8.sc.pw (by decide)).mono ?_
      rintro _ u10 ⟨rfl, h10, k10, _⟩
      have t10 := t8.pow (P' := Pwr.on) h10 k10
      rw [show (stepS (Pwr.step Pwr.on).off (Pwr.step Pwr.on).fuse).1 = true from rfl]
      simp [go_sem]
      refine (wakes_any u10).mono ?_
      rintro _ u11 ⟨rfl, k11⟩
      simp [go_sem]
      exact hR _ _ ⟨rfl, t10.ch.trans k11⟩
    · exact absurd e6 r6
end Go.Proofs.Ytmhnlgndgdmebaa
