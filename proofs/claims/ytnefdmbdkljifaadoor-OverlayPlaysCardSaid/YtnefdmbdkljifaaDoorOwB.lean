/- What an overlay has: its numbers, its inodes, how much. No condition but on sizes. -/
import Derived.Test.YtnefdmbdkljifaaDoorOwA
import Derived.Test.YtnefdmbdkljifaaDoorSoH
import Derived.Test.YtnefdmbdkljifaaDoorMapW
set_option linter.unusedSimpArgs false
set_option linter.unusedVariables false

namespace Go.Proofs.YtnefdmbdkljifaaDoor
open Go.RowKit Go.Kin Go.Maps

/-- every number is an object's -/
structure Ov.Ok (D : Ov) : Prop where
  ino : ∀ a x, D.ino a = some x → okN a 0 = true
  lf : ∀ a o b, D.lf (a, o) = some b → okN a o = true
  wiped : ∀ a, D.wiped a = true → okN a 0 = true
theorem Ov.Ok.new : Ov.new.Ok := ⟨fun _ _ h => (by cases h), fun _ _ _ h => (by cases h), fun _ h => (by cases h)⟩
theorem okN_0 {a : Num} {o : Off} (h : okN a o = true) : okN a 0 = true := by
  unfold okN at *
  simp only [Bool.and_eq_true, decide_eq_true_eq] at *
  exact ⟨h.1, by decide⟩
theorem Ov.Ok.step {D : Ov} (h : D.Ok) {x : Dd} (hg : x.good = true) (hd : x.d < 3) : (D.step x).Ok := by
  have hok : okN x.num (if x.d = 1 then x.off else 0) = true := by
    unfold Dd.good at hg
    simp only [Bool.and_eq_true] at hg
    exact hg.1.1
  refine ⟨fun a y hy => ?_, fun a o b hb => ?_, fun a ha => ?_⟩
  · rw [step_ino hg] at hy
    split at hy
    · rename_i e
      rw [← e.2]
      exact okN_0 hok
    · exact h.ino a y hy
  · rw [step_lf hg hd] at hb
    split at hb
    · rename_i e
      rw [if_pos e.2.1] at hok
      rw [← e.1, ← e.2.2]
      exact hok
    · split at hb
      · cases hb
      · exact h.lf a o b hb
  · rw [step_wiped hg hd, Bool.or_eq_true] at ha
    rcases ha with ha | ha
    · exact h.wiped a ha
    · rw [decide_eq_true_eq] at ha
      rw [← ha.2]
      exact okN_0 hok
theorem Ov.Ok.merge {D E : Ov} (h : D.Ok) (k : E.Ok) : (D.merge E).Ok := by
  refine ⟨fun a x hx => ?_, fun a o b hb => ?_, fun a ha => ?_⟩
  · have hx : (E.ino a).or (D.ino a) = some x := hx
    cases hE : E.ino a with
    | none => rw [hE] at hx; exact h.ino a x hx
    | some y => exact k.ino a y hE
  · have hb : (E.lf (a, o)).or (if E.wiped a then none else D.lf (a, o)) = some b := hb
    cases hE : E.lf (a, o) with
    | none =>
      rw [hE] at hb
      split at hb
      · cases hb
      · exact h.lf a o b hb
    | some y => exact k.lf a o y hE
  · have ha : (D.wiped a || E.wiped a) = true := ha
    rw [Bool.or_eq_true] at ha
    rcases ha with ha | ha
    · exact h.wiped a ha
    · exact k.wiped a ha
/-- has an overlay anything of a number? -/
def Ov.any (D : Ov) (a : Num) : Prop := D.wiped a = true ∨ (D.ino a).isSome = true ∨ ∃ o, (D.lf (a, o)).isSome = true
theorem Ov.Ok.any {D : Ov} (h : D.Ok) {a : Num} (ha : D.any a) : okN a 0 = true := by
  rcases ha with ha | ha | ⟨o, ha⟩
  · exact h.wiped a ha
  · obtain ⟨x, hx⟩ := Option.isSome_iff_exists.1 ha
    exact h.ino a x hx
  · obtain ⟨x, hx⟩ := Option.isSome_iff_exists.1 ha
    exact okN_0 (h.lf a o x hx)
theorem nodup_le {n : Nat} : ∀ (m : Nat) (xs : List (Fin n)), xs.Nodup → (∀ a ∈ xs, 1 ≤ a.val ∧ a.val ≤ m) → xs.length ≤ m
  | 0, xs, _, h => by
    cases xs with
    | nil => simp
    | cons a xs => have := h a (by simp); omega
  | m + 1, xs, hn, h => by
    by_cases hm : ∃ a ∈ xs, a.val = m + 1
    · obtain ⟨a, ha, hav⟩ := hm
      have h1 := nodup_le m (xs.erase a) (hn.erase a) fun c hc => by
        have h2 := h c (List.mem_of_mem_erase hc)
        have h3 : c ≠ a := fun e => by
          subst e
          exact (List.Nodup.not_mem_erase hn) hc
        have h4 : c.val ≠ a.val := fun e => h3 (Fin.ext e)
        omega
      have := List.length_erase_of_mem ha
      omega
    · have := nodup_le m xs hn fun c hc => by
        have h2 := h c hc
        have h3 : c.val ≠ m + 1 := fun e => hm ⟨c, hc, e⟩
        omega
      omega
section
variable {w w' : World} {S : Nat → Prop} {o n : Nat} {base of : Value} {D : Ov} {X Y : Nat → Prop} {z : Oz}
set_option maxRecDepth 100000 in
theorem clone_m {F : Num → Option Value} {b : Nat} (h : MapV w Tryd.prog 22 kU b n F) : Ret Tryd.prog 45 #[.map (some b)] w fun v' w' => v' = .map (some w.heap.size) ∧ MapV w' Tryd.prog 22 kU w.heap.size n F ∧ Ch Nw w w' ∧ w'.heap.size = w.heap.size + 1 := by
  refine v_enter Tryd.func45 Tryd.ntmps45 rfl (by simp) fun R' hR => ?_
  have hq := eql_map_nil w 68 _ _ (some b) Tryd.underlying68
  have hmi : ∀ w, (Instr.makeInterface 68 (.map (some b))).run Tryd.prog w = .ok (.iface 68 (.map (some b))) w := fun w => by kernel_rfl
  obtain ⟨ob, hc, hm⟩ := h.clone 68
  have hcf : (callFunc 53 #[.iface 68 (.map (some b))]).run Tryd.prog w = .ok (.value (.iface 68 (.map (some w.heap.size)))) (w.alloc ob) := by
    rw [run_callFunc_extern Tryd.func53 (by kernel_rfl) (by kernel_rfl) (by kernel_rfl) (e := Extern.MapsClone.clone) (by kernel_rfl), hc]
    rfl
  simp [go_sem, hq, hmi]
  refine VCall_value hcf ?_
  have hta := run_assert_map 68 20 _ _ (.map (some w.heap.size)) (w.alloc ob) Tryd.underlying68
  simp [go_sem]
  refine VX_assert hta ?_
  simp [go_sem]
  exact hR _ _ ⟨rfl, hm, (Ch.refl Nw w).alloc _, by simp⟩
/-- the numbers of which it has something, in order -/
def NumsAre (D : Ov) (xs : List Num) : Prop := xs.Pairwise (fun a b => a < b) ∧ ∀ a, a ∈ xs ↔ D.any a
def bT (P : Num → Bool) : Num → Option Value := fun a => if P a then some (.bool true) else none
theorem bT_some (P : Num → Bool) (a : Num) : (bT P a).isSome = P a := by
  unfold bT
  cases P a <;> rfl
set_option maxRecDepth 100000 in
set_option maxHeartbeats 2000000 in
theorem nums_any (h : OvP w o base of n D X Y z) (ok : D.Ok) (hn : n ≤ 30000) : Ret Tryd.prog 35 #[.pointer (some ⟨o, 0, none⟩)] w fun v' w' => ∃ xs, NumsAre D xs ∧ Sl w' v' xs.length (S16.ks xs) ∧ Ch Nw w w' ∧ Fresh w.heap.size v' := by
  refine v_enter Tryd.func35 Tryd.ntmps35 rfl (by simp) fun R' hR => ?_
  have c4 : w.cell? ⟨o, 4, none⟩ = some (.map (some z.bw)) := cell_blk h.blk 4
  simp [go_sem, c4]
  refine (clone_m h.wp).mono ?_
  rintro _ w1 ⟨rfl, hm1, c1, s1⟩
  obtain ⟨m, hm⟩ : ∃ m, w.heap.size = m := ⟨_, rfl⟩
  rw [hm] at hm1 s1 ⊢
  have h1 := h.ch c1 (fun _ _ e => e) fun _ _ e => e
  have hlt : ∀ k, X k ∨ Y k → k < m := fun k hk => by have := h.lt k hk; omega
  have c2 : w1.cell? ⟨o, 2, none⟩ = some (.map (some z.bi)) := cell_blk h1.blk 2
  obtain ⟨w2, cnt, hr, hg, hcnt, c12, s2⟩ := h1.ino.range kysU Tryd.underlying66
  obtain ⟨r, hrr⟩ : ∃ r, w1.heap.size = r := ⟨_, rfl⟩
  rw [hrr] at hr hg
  simp [go_sem, c2, hr]
  have hbi := hlt z.bi (.inl (h.x _ (.inr (.inl rfl))))
  obtain ⟨I, hI⟩ : ∃ I : (Nat → Value) → World → Prop, I = fun f u => f 0 = .pointer (some ⟨o, 0, none⟩) ∧ f 3 = .map (some m) ∧ MapV u Tryd.prog 22 kU m (n + n) (bT fun a => D.wiped a || (D.ino a).isSome) ∧ Ch Nw w u ∧ m < u.heap.size := ⟨_, rfl⟩
  refine v_meetL I ?_ ?_
  · refine v_loop (fun t f u => ∃ left c, f 0 = .pointer (some ⟨o, 0, none⟩) ∧ f 3 = .map (some m) ∧ f 17 = .pointer (some ⟨r, 0, none⟩) ∧ RngV u Tryd.prog 22 kU z.bi r n (fun a => (D.ino a).map inoV) left t ∧ MapV u Tryd.prog 22 kU m c (bT fun a => D.wiped a || ((D.ino a).isSome && !left a)) ∧ c + t ≤ n + n ∧ Ch Nw w u ∧ m < u.heap.size) cnt
      ⟨_, n, by simp, by simp, by simp, hg, ?_, by omega, c1.trans c12, by omega⟩ ?_
    · have e : (bT fun a => D.wiped a || ((D.ino a).isSome && !((D.ino a).map inoV).isSome)) = fun a => if D.wiped a then some (.bool true) else none := by
        funext a
        unfold bT
        cases hh : D.ino a <;> simp [hh]
      rw [e]
      exact hm1.ch c12 id
    rintro J hJ t f u ⟨left, c, f0, f3, f17, hru, hmu, hct, cu, hmsz⟩
    have hrm : r ≠ m := by omega
    rcases hru.next kysU 0 with ⟨hl, hnx⟩ | ⟨a, v, u2, t2, hl, hGa, hnx, hru2, ht2, c2', _, hen⟩
    · simp [go_sem, f17, hnx]
      rw [hI]
      refine ⟨by simp [f0], by simp [f3], ?_, cu, hmsz⟩
      have e : (bT fun a => D.wiped a || ((D.ino a).isSome && !left a)) = bT fun a => D.wiped a || (D.ino a).isSome := by
        funext a
        unfold bT
        simp [hl a]
      rw [e] at hmu
      exact hmu.mono (by omega)
    · have hmu2 := hmu.ch c2' fun e => hrm (by simp only [Kin.one] at e; exact e.symm)
      obtain ⟨u5, hup, hm5, c5, _⟩ := hmu2.put kysU Tryd.underlying68 (by unfold maxLen; omega) a (.bool true)
      have hup : (Instr.mapUpdate 68 (.map (some m)) (.int .u16 a.val) (.bool true)).run Tryd.prog u2 = .ok () u5 := hup
      simp [go_sem, f17, f3, hnx, hen, kU, hup]
      have hru5 := hru2.ch c5 (fun e => by simp only [Kin.one] at e; omega) (fun e => by simp only [Kin.one] at e; omega)
      refine Rnd.intro t2 ht2 (hJ _ _ _ ⟨_, c + 1, by simp [f0], by simp [f3], by simp [f17], hru5, ?_, by omega, (cu.trans' c2' fun j hj e => by simp only [Kin.one] at e; omega).trans' c5 fun j hj e => by simp only [Kin.one] at e; omega, Nat.lt_of_lt_of_le hmsz (Nat.le_trans c2'.size c5.size)⟩)
      have e : (bT fun c => D.wiped c || ((D.ino c).isSome && !(left c && decide (c ≠ a)))) = fun c => if c = a then some (.bool true) else bT (fun a => D.wiped a || ((D.ino a).isSome && !left a)) c := by
        funext c
        unfold bT
        by_cases hca : c = a
        · subst hca
          cases hh : D.ino c with
          | none => rw [hh] at hGa; cases hGa
          | some x => simp [hh]
        · simp [hca]
      rw [e]
      exact hm5
  rw [hI]
  clear hI I hm1 hr hg c12
  rintro f u ⟨f0, f3, hmu, cu, hmsz⟩
  have hu := h.ch cu (fun _ _ e => e) fun _ _ e => e
  have c3 : u.cell? ⟨o, 3, none⟩ = some (.map (some z.bl)) := cell_blk hu.blk 3
  obtain ⟨FL, hF, hL⟩ := hu.lf
  obtain ⟨w2, cnt, hr, hg, hcnt, c12, s2⟩ := hF.range kysP Tryd.underlying67
  obtain ⟨r, hrr⟩ : ∃ r, u.heap.size = r := ⟨_, rfl⟩
  rw [hrr] at hr hg
  have hbl := hlt z.bl (.inl (h.x _ (.inr (.inr (.inl rfl)))))
  simp [go_sem, f0, c3, hr]
  have hFs : ∀ a, (FL a).isSome = (D.lf a).isSome := fun a => by
    cases hh : D.lf a with
    | none =>
      rw [(hL a).1 hh]
      rfl
    | some b =>
      obtain ⟨v, hv, _⟩ := (hL a).2 b hh
      rw [hv]
      rfl
  obtain ⟨I, hI⟩ : ∃ I : (Nat → Value) → World → Prop, I = fun f u => ∃ P : Num → Bool, f 3 = .map (some m) ∧ MapV u Tryd.prog 22 kU m (n + n + n) (bT P) ∧ (∀ a, P a = true ↔ D.any a) ∧ Ch Nw w u := ⟨_, rfl⟩
  refine v_meetL I ?_ ?_
  · refine v_loop (fun t f u => ∃ (left : Num × Off → Bool) (c : Nat) (P : Num → Bool), f 3 = .map (some m) ∧ f 28 = .pointer (some ⟨r, 0, none⟩) ∧ RngV u Tryd.prog 76 kP z.bl r n FL left t ∧ MapV u Tryd.prog 22 kU m c (bT P) ∧ (∀ a, P a = true ↔ (D.wiped a = true ∨ (D.ino a).isSome = true ∨ ∃ o, (D.lf (a, o)).isSome = true ∧ left (a, o) = false)) ∧ c + t ≤ n + n + n ∧ Ch Nw w u) cnt
      ⟨_, n + n, _, by simp [f3], by simp, hg, hmu.ch c12 id, fun a => ?_, by omega, cu.trans c12⟩ ?_
    · simp only [Bool.or_eq_true]
      constructor
      · rintro (e | e)
        · exact .inl e
        · exact .inr (.inl e)
      · rintro (e | e | ⟨o, e, e2⟩)
        · exact .inl e
        · exact .inr e
        · rw [hFs, e] at e2
          cases e2
    clear f0 f3 hmu
    rintro J hJ t f u' ⟨left, c, P, f3, f28, hru, hmu, hP, hct, cu'⟩
    rcases hru.next kysP 0 with ⟨hl, hnx⟩ | ⟨a, v, u2, t2, hl, hGa, hnx, hru2, ht2, c2', _, hen⟩
    · simp [go_sem, f28, hnx]
      rw [hI]
      refine ⟨P, by simp [f3], hmu.mono (by omega), fun a => ?_, cu'⟩
      rw [hP a]
      simp [Ov.any, hl]
    · have hmu2 := hmu.ch c2' fun e => by simp only [Kin.one] at e; omega
      have ca := (Ch.refl Nw u2).alloc (.cells #[.int .u16 a.1.val, .int .u32 a.2.val] 76)
      have ba := hp_alloc u2 (.cells #[.int .u16 a.1.val, .int .u32 a.2.val] 76)
      obtain ⟨q, hq⟩ : ∃ q, u2.heap.size = q := ⟨_, rfl⟩
      rw [hq] at ba
      have hmu3 := hmu2.ch ca id
      obtain ⟨u5, hup, hm5, c5, _⟩ := hmu3.put kysU Tryd.underlying68 (by unfold maxLen; omega) a.1 (.bool true)
      have hup : (Instr.mapUpdate 68 (.map (some m)) (.int .u16 a.1.val) (.bool true)).run Tryd.prog (u2.alloc (.cells #[.int .u16 a.1.val, .int .u32 a.2.val] 76)) = .ok () u5 := hup
      have cq := fun i => cell_blk ba i
      simp [go_sem, f28, f3, hnx, hen, kP, hq, cq, hup]
      have hru5 := (hru2.ch ca id id).ch c5 (fun e => by simp only [Kin.one] at e; omega) (fun e => by simp only [Kin.one] at e; omega)
      refine Rnd.intro t2 ht2 (hJ _ _ _ ⟨_, c + 1, fun c => if c = a.1 then true else P c, by simp [f3], by simp [f28], hru5, ?_, fun c => ?_, by omega, ((cu'.trans' c2' fun j hj e => by simp only [Kin.one] at e; have := cu.size; omega).trans ca).trans' c5 fun j hj e => by simp only [Kin.one] at e; omega⟩)
      · have e : (bT fun c => if c = a.1 then true else P c) = fun c => if c = a.1 then some (.bool true) else bT P c := by
          funext c
          unfold bT
          by_cases hca : c = a.1 <;> simp [hca]
        rw [e]
        exact hm5
      · by_cases hca : c = a.1
        · subst hca
          simp only [if_true, true_iff]
          refine .inr (.inr ⟨a.2, ?_, ?_⟩)
          · rw [← hFs, show ((a.1, a.2) : Num × Off) = a from rfl, hGa]
            rfl
          · simp
        · show (if c = a.1 then true else P c) = true ↔ _
          rw [if_neg hca, hP c]
          have : ∀ o, (c, o) ≠ a := fun o e => hca (by rw [← e])
          simp [this]
  rw [hI]
  clear hI I hr hg hF hL hFs
  rintro f u3 ⟨P, f3, hmu3, hP, cu3⟩
  simp [go_sem, f3]
  refine (S16.keysf_any m u3).mono ?_
  rintro _ u4 ⟨rfl, hu4⟩
  subst u4
  have ca := (Ch.refl Nw u3).alloc (.cells #[.map (some m)] 68)
  have ba := hp_alloc u3 (.cells #[.map (some m)] 68)
  simp [go_sem]
  obtain ⟨q, hq⟩ : ∃ q, u3.heap.size = q := ⟨_, rfl⟩
  rw [hq] at ba ⊢
  generalize u3.alloc (.cells #[.map (some m)] 68) = u4 at *
  have hK : ∀ xs, S16.Keys (bT P) xs → ∀ a, a ∈ xs ↔ D.any a := fun xs hx a => by rw [hx.2 a, bT_some, hP a]
  have hs := S16.sorted_any (q := q) u3 hmu3 (by omega) (fun xs hx => nodup_le 255 xs hx.1 fun a ha => by
    have := ok.any ((hK xs hx a).1 ha)
    unfold okN at this
    simp only [Bool.and_eq_true, decide_eq_true_eq] at this
    exact this.1) u4 ca (cell_blk ba 0)
  refine hs.mono ?_
  rintro v u5 ⟨xs, hx, hsort, hsl, c5, hfr⟩
  simp [go_sem]
  exact hR _ _ ⟨xs, ⟨hsort, hK xs hx⟩, hsl, (cu3.trans ca).trans c5, hfr.mono (cu3.trans ca).size⟩
end
end Go.Proofs.YtnefdmbdkljifaaDoor
