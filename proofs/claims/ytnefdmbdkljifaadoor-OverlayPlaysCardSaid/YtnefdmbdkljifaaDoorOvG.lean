/- Overlays' maps: entries deleted, and copied, in ranges. No condition but on sizes. -/
import Derived.Test.YtnefdmbdkljifaaDoorOvF
set_option linter.unusedSimpArgs false
set_option linter.unusedVariables false

namespace Go.Proofs.YtnefdmbdkljifaaDoor
open Go.RowKit Go.Kin Go.Maps

theorem VB_delete {P : Program} {w w' : World} {ts : Array TypeId} {ty : TypeId} {args : Array Value} {v : Value} {K : Value → World → Prop} (h : (Builtin.delete_ ts ty args).run P w = .ok v w') (hk : K v w') : VB P .delete ts ty args w K := by
  unfold VB VR
  simp only [h]
  exact hk
theorem wipe1_any (a : Num × Off) (v : Value) (q : Nat) (num : Num) (w : World) (hq : w.cell? ⟨q, 0, none⟩ = some (.int .u16 num.val)) :
    Ret Tryd.prog 25 #[kP a, v, .pointer (some ⟨q, 0, none⟩)] w fun v' w' => v' = .bool (decide (a.1 = num)) ∧ Ch Nw w w' := by
  refine v_enter Tryd.func25 Tryd.ntmps25 rfl (by simp) fun R' hR => ?_
  have ca := (Ch.refl Nw w).alloc (.cells #[.int .u16 a.1.val, .int .u32 a.2.val] 76)
  have hq2 := ca.cell hq id
  by_cases h : a.1 = num
  · subst h
    simp [go_sem, kP, hq2]
    exact hR _ _ ⟨by simp, ca⟩
  · have hne : ¬ (a.1.val : Int) = num.val := fun e => h (Fin.ext (by omega))
    have hne2 : ((a.1.val : Int) == (num.val : Int)) = false := beq_false_of_ne hne
    simp [go_sem, kP, hq2, hne, hne2]
    exact hR _ _ ⟨by rw [decide_eq_false h], ca⟩
set_option maxHeartbeats 2000000 in
theorem delf_any (bl q n : Nat) (num : Num) (F : Num × Off → Option Value) (w : World) (h : MapV w Tryd.prog 76 kP bl n F) (hq : w.cell? ⟨q, 0, none⟩ = some (.int .u16 num.val)) (hne : q ≠ bl) :
    Ret Tryd.prog 24 #[.map (some bl), .func (.func 25) #[] #[.pointer (some ⟨q, 0, none⟩)]] w fun v' w' => v' = .tuple #[] ∧ MapV w' Tryd.prog 76 kP bl n (fun a => if a.1 = num then none else F a) ∧ Ch (Kin.one bl) w w' := by
  refine v_enter Tryd.func24 Tryd.ntmps24 rfl (by simp) fun R' hR => ?_
  have hbl := h.lt
  obtain ⟨w1, cnt, hr, hg, _, c1, s1⟩ := h.range kysP Tryd.underlying67
  have hfn : ∀ (x : List Value) (w : World), (callFunc 25 x.toArray).run Tryd.prog w = .ok (.enter 25 x.toArray) w := fun x w => by simp [go_sem]
  obtain ⟨r, hrr⟩ : ∃ r, w.heap.size = r := ⟨_, rfl⟩
  rw [hrr] at hr hg
  simp [go_sem, hr]
  refine v_loop (fun t f u => ∃ left G, f 0 = .map (some bl) ∧ f 1 = .func (.func 25) #[] #[.pointer (some ⟨q, 0, none⟩)] ∧ f 7 = .pointer (some ⟨r, 0, none⟩) ∧ RngV u Tryd.prog 76 kP bl r n G left t ∧ (∀ a, G a = if a.1 = num ∧ left a = false then none else F a) ∧ Ch (Kin.one bl) w u) cnt
    ⟨_, F, by simp, by simp, by simp, hg, fun a => ?_, c1.mono fun _ _ e => e.elim⟩ ?_
  · by_cases hh : a.1 = num ∧ (F a).isSome = false
    · rw [if_pos hh]
      cases hF : F a with
      | none => rfl
      | some x => rw [hF] at hh; cases hh.2
    · rw [if_neg hh]
  rintro J hJ t f u ⟨left, G, f0, f1, f7, hru, hG, cu⟩
  have hrw : w.heap.size ≤ r := by omega
  rcases hru.next kysP 0 with ⟨hl, hnx⟩ | ⟨a, v, u2, t2, hl, hGa, hnx, hru2, ht2, c2, _, hen⟩
  · simp [go_sem, f7, hnx]
    refine hR _ _ ⟨rfl, ?_, cu⟩
    have hm := hru.map
    have e : G = fun a => if a.1 = num then none else F a := by
      funext a
      rw [hG a, hl a]
      simp
    rw [e] at hm
    exact hm
  · have cu2 : Ch (Kin.one bl) w u2 := cu.trans' c2 fun k hk e => by simp only [Kin.one] at e; omega
    simp [go_sem, f7, hnx, hen, f1, kP]
    rw [VCall_closure _ _ _ _ [.pointer (some ⟨q, 0, none⟩)] _ (hfn _ _)]
    have ca := (Ch.refl Nw u2).alloc (.cells #[.int .u16 a.1.val, .int .u32 a.2.val] 76)
    have ba := hp_alloc u2 (.cells #[.int .u16 a.1.val, .int .u32 a.2.val] 76)
    have cu3 : Ch (Kin.one bl) w (u2.alloc (.cells #[.int .u16 a.1.val, .int .u32 a.2.val] 76)) := cu2.alloc _
    have hru3 := hru2.ch ca id id
    have hq3 := cu3.cell hq hne
    refine (wipe1_any a v q num _ hq3).mono ?_
    rintro _ u4 ⟨rfl, c4⟩
    have cu4 : Ch (Kin.one bl) w u4 := cu3.trans (c4.mono fun _ _ e => e.elim)
    have hru4 := hru3.ch c4 id id
    have ba4 := c4.obj ba id
    have cc4 := fun i => cell_blk ba4 i
    by_cases han : a.1 = num
    · obtain ⟨u5, t5, hd, hru5, ht5, c5, _⟩ := hru4.del kysP Tryd.underlying67 a 0
      have hd : (Builtin.delete_ #[67, 76] 0 #[.map (some bl), .agg #[.int .u16 a.1.val, .int .u32 a.2.val]]).run Tryd.prog u4 = .ok (.tuple #[]) u5 := hd
      have cu5 : Ch (Kin.one bl) w u5 := cu4.trans c5
      rw [decide_eq_true han]
      simp [go_sem, f0, cc4]
      refine VB_delete hd ?_
      simp [go_sem]
      refine Rnd.intro t5 (by omega) (hJ _ _ _ ⟨_, _, by simp [f0], by simp [f1], by simp [f7], hru5, fun c => ?_, cu5⟩)
      by_cases hca : c = a
      · subst hca
        simp [han]
      · simp [hca, hG c]
    · rw [decide_eq_false han]
      simp [go_sem]
      refine Rnd.intro t2 ht2 (hJ _ _ _ ⟨_, G, by simp [f0], by simp [f1], by simp [f7], hru4, fun c => ?_, cu4⟩)
      rw [hG c]
      by_cases hca : c = a
      · subst hca
        rw [if_neg (fun e => han e.1), if_neg (fun e => han e.1)]
      · simp [hca]
/-- an entry of one map or of another -/
def orF {κ : Type} (A B : κ → Option Value) : κ → Option Value := fun a => (A a).or (B a)
set_option maxHeartbeats 2000000 in
theorem copyL_any (bd bs nd ns : Nat) (Fd Fs : Num × Off → Option Value) (w : World) (hd : MapV w Tryd.prog 76 kP bd nd Fd) (hs : MapV w Tryd.prog 76 kP bs ns Fs) (hne : bd ≠ bs) (hn : nd + ns ≤ 1000000)
    (hlit : ∀ a v, Fs a = some v → ∃ A m c, v = .slice A m c) :
    Ret Tryd.prog 26 #[.map (some bd), .map (some bs)] w fun v' w' => v' = .tuple #[] ∧ MapV w' Tryd.prog 76 kP bd (nd + ns) (orF Fs Fd) ∧ Ch (Kin.one bd) w w' := by
  refine v_enter Tryd.func26 Tryd.ntmps26 rfl (by simp) fun R' hR => ?_
  have hbd := hd.lt
  obtain ⟨w1, cnt, hr, hg, hcnt, c1, s1⟩ := hs.range kysP Tryd.underlying67
  obtain ⟨r, hrr⟩ : ∃ r, w.heap.size = r := ⟨_, rfl⟩
  rw [hrr] at hr hg
  simp [go_sem, hr]
  refine v_loop (fun t f u => ∃ left G m, f 0 = .map (some bd) ∧ f 7 = .pointer (some ⟨r, 0, none⟩) ∧ RngV u Tryd.prog 76 kP bs r ns Fs left t ∧ MapV u Tryd.prog 76 kP bd m G ∧ m + t ≤ nd + cnt ∧ (∀ a, G a = if left a = false then orF Fs Fd a else Fd a) ∧ Ch (Kin.one bd) w u) cnt
    ⟨_, Fd, nd, by simp, by simp, hg, hd.ch c1 id, by omega, fun a => ?_, c1.mono fun _ _ e => e.elim⟩ ?_
  · unfold orF
    cases hF : Fs a <;> simp
  rintro J hJ t f u ⟨left, G, m, f0, f7, hru, hm, hmt, hG, cu⟩
  have hrw : w.heap.size ≤ r := by omega
  rcases hru.next kysP 0 with ⟨hl, hnx⟩ | ⟨a, v, u2, t2, hl, hGa, hnx, hru2, ht2, c2, _, hen⟩
  · simp [go_sem, f7, hnx]
    refine hR _ _ ⟨rfl, ?_, cu⟩
    have e : G = orF Fs Fd := by
      funext a
      rw [hG a, hl a, if_pos rfl]
    rw [e] at hm
    exact hm.mono (by omega)
  · have cu2 : Ch (Kin.one bd) w u2 := cu.trans' c2 fun k hk e => by simp only [Kin.one] at e; omega
    obtain ⟨A, q, c, rfl⟩ := hlit a v hGa
    simp [go_sem, f7, hnx, hen, kP]
    have ca := (Ch.refl Nw u2).alloc (.cells #[.int .u16 a.1.val, .int .u32 a.2.val] 76)
    have ba := hp_alloc u2 (.cells #[.int .u16 a.1.val, .int .u32 a.2.val] 76)
    have cu3 : Ch (Kin.one bd) w (u2.alloc (.cells #[.int .u16 a.1.val, .int .u32 a.2.val] 76)) := cu2.alloc _
    have hru3 := hru2.ch ca id id
    have hm3 := (hm.ch c2 (fun e => by simp only [Kin.one] at e; omega)).ch ca id
    obtain ⟨u5, hup, hm5, c5, _⟩ := hm3.put kysP Tryd.underlying67 (by unfold maxLen; omega) a (.slice A q c)
    have hup : (Instr.mapUpdate 67 (.map (some bd)) (.agg #[.int .u16 a.1.val, .int .u32 a.2.val]) (.slice A q c)).run Tryd.prog (u2.alloc (.cells #[.int .u16 a.1.val, .int .u32 a.2.val] 76)) = .ok () u5 := hup
    simp [go_sem, f0, hup]
    refine Rnd.intro t2 ht2 (hJ _ _ _ ⟨_, _, m + 1, by simp [f0], by simp [f7], hru3.ch c5 (fun e => hne e.symm) (fun e => by simp only [Kin.one] at e; omega), hm5, by omega, fun c => ?_, cu3.trans c5⟩)
    by_cases hca : c = a
    · subst hca
      simp [orF, hGa]
    · simp [hca, hG c]
set_option maxHeartbeats 2000000 in
theorem copyI_any (bd bs nd ns : Nat) (Fd Fs : Num → Option Value) (w : World) (hd : MapV w Tryd.prog 22 kU bd nd Fd) (hs : MapV w Tryd.prog 22 kU bs ns Fs) (hne : bd ≠ bs) (hn : nd + ns ≤ 1000000)
    (hlit : ∀ a v, Fs a = some v → ∃ x, v = .agg (ino x) ∧ InOk x) :
    Ret Tryd.prog 27 #[.map (some bd), .map (some bs)] w fun v' w' => v' = .tuple #[] ∧ MapV w' Tryd.prog 22 kU bd (nd + ns) (orF Fs Fd) ∧ Ch (Kin.one bd) w w' := by
  refine v_enter Tryd.func27 Tryd.ntmps27 rfl (by simp) fun R' hR => ?_
  have hbd := hd.lt
  obtain ⟨w1, cnt, hr, hg, hcnt, c1, s1⟩ := hs.range kysU Tryd.underlying66
  obtain ⟨r, hrr⟩ : ∃ r, w.heap.size = r := ⟨_, rfl⟩
  rw [hrr] at hr hg
  simp [go_sem, hr]
  refine v_loop (fun t f u => ∃ left G m, f 0 = .map (some bd) ∧ f 7 = .pointer (some ⟨r, 0, none⟩) ∧ RngV u Tryd.prog 22 kU bs r ns Fs left t ∧ MapV u Tryd.prog 22 kU bd m G ∧ m + t ≤ nd + cnt ∧ (∀ a, G a = if left a = false then orF Fs Fd a else Fd a) ∧ Ch (Kin.one bd) w u) cnt
    ⟨_, Fd, nd, by simp, by simp, hg, hd.ch c1 id, by omega, fun a => ?_, c1.mono fun _ _ e => e.elim⟩ ?_
  · unfold orF
    cases hF : Fs a <;> simp
  rintro J hJ t f u ⟨left, G, m, f0, f7, hru, hm, hmt, hG, cu⟩
  have hrw : w.heap.size ≤ r := by omega
  have hs0 := ino_size inz_ok
  rcases hru.next kysU 0 with ⟨hl, hnx⟩ | ⟨a, v, u2, t2, hl, hGa, hnx, hru2, ht2, c2, _, hen⟩
  · simp [go_sem, f7, hnx]
    refine hR _ _ ⟨rfl, ?_, cu⟩
    have e : G = orF Fs Fd := by
      funext a
      rw [hG a, hl a, if_pos rfl]
    rw [e] at hm
    exact hm.mono (by omega)
  · have cu2 : Ch (Kin.one bd) w u2 := cu.trans' c2 fun k hk e => by simp only [Kin.one] at e; omega
    obtain ⟨x, rfl, okx⟩ := hlit a v hGa
    have hsx := ino_size okx
    have hax := ino_all okx
    have ca := (Ch.refl Nw u2).alloc (.cells (ino x) 49)
    have ba := hp_alloc u2 (.cells (ino x) 49)
    have cu3 : Ch (Kin.one bd) w (u2.alloc (.cells (ino x) 49)) := cu2.alloc _
    have hru3 := hru2.ch ca id id
    have hm3 := (hm.ch c2 (fun e => by simp only [Kin.one] at e; omega)).ch ca id
    obtain ⟨u5, hup, hm5, c5, _⟩ := hm3.put kysU Tryd.underlying66 (by unfold maxLen; omega) a (.agg (ino x))
    have hup : (Instr.mapUpdate 66 (.map (some bd)) (.int .u16 a.val) (.agg (ino x))).run Tryd.prog (u2.alloc (.cells (ino x) 49)) = .ok () u5 := hup
    simp [go_sem, f7, hnx, hen, kU, VAl_big, hz_ino, zc_ino, hs0, hsx, blit_whole, hax, f0, hup]
    refine Rnd.intro t2 ht2 (hJ _ _ _ ⟨_, _, m + 1, by simp [f0], by simp [f7], hru3.ch c5 (fun e => hne e.symm) (fun e => by simp only [Kin.one] at e; omega), hm5, by omega, fun c => ?_, cu3.trans c5⟩)
    by_cases hca : c = a
    · subst hca
      simp [orF, hGa]
    · simp [hca, hG c]
end Go.Proofs.YtnefdmbdkljifaaDoor
