/- The last deed of a number, and of a place. No condition. -/
import Derived.Test.YtnefdmbdkljifaaDoorOwF
set_option linter.unusedSimpArgs false
set_option linter.unusedVariables false

namespace Go.Proofs.YtnefdmbdkljifaaDoor
open Go.RowKit Go.Kin Go.Maps

theorem tk_rev {l : List Dd} {q : Nat} {x : Dd} (h : l[q]? = some x) : (l.take (q + 1)).reverse = x :: (l.take q).reverse := by
  rw [List.take_add_one, h]
  simp
section
variable {w : World} {v : Value} {l : List Dd}
set_option maxRecDepth 100000 in
theorem rino_any (h : Lst w v dv 48 l) (ok : InsOk l) (hl : l.length ≤ 100000) (num : Num) : Ret Tryd.prog 30 #[v, .int .u16 num.val] w fun v' w' => v' = .tuple #[.agg (ino ((rIno l.reverse num).getD inz)), .bool (rIno l.reverse num).isSome] ∧ Ch Nw w w' := by
  refine v_enter Tryd.func30 Tryd.ntmps30 rfl (by simp) fun R' hR => ?_
  have hlen := h.len Tryd.underlying56 3
  have hs := ino_size inz_ok
  have b0 := hp_alloc w (.cells (ino inz) 41)
  have ca := (Ch.refl Nw w).alloc (.cells (ino inz) 41)
  have hw1 : IntKind.i64.wrap ((l.length : Int) - 1) = (l.length : Int) - 1 := by rw [IntKind.wrap_i64]; omega
  simp [go_sem, VAl_big, hz_rino, zc_rino, hs, hlen, hw1]
  obtain ⟨g, hg⟩ : ∃ g, w.heap.size = g := ⟨_, rfl⟩
  rw [hg] at b0 ⊢
  have hlw := h.ch ca (fun b hb _ e => e)
  generalize w.alloc (.cells (ino inz) 41) = w1 at *
  have hset : ∀ cs : Array Value, Ch Nw w (w1.setRow g cs) := fun cs => ca.setRow (.inr (by omega)) _
  refine v_loop (fun r f u => ∃ k i, r = k ∧ k ≤ l.length ∧ i = (k : Int) - 1 ∧ f 0 = v ∧ f 1 = .int .u16 num.val ∧ f 4 = .pointer (some ⟨g, 0, none⟩) ∧ f 6 = .int .i64 i ∧ u = w1 ∧ rIno (l.take k).reverse num = rIno l.reverse num) l.length
    ⟨l.length, (l.length : Int) - 1, rfl, Nat.le_refl _, rfl, by simp, by simp, by simp, by simp, rfl, by rw [List.take_length]⟩ ?_
  rintro J hJ r f u ⟨k, i, hrk, hkl, hi, f0, f1, f4, f6, hu, hS⟩
  subst u
  cases k with
  | zero =>
    have hi : i = -1 := by omega
    subst i
    have hS : none = rIno l.reverse num := hS
    rw [← hS] at hR
    simp [go_sem, f6, f4, bld_rino0, b0, hs, blit_whole]
    rw [ino_all inz_ok]
    exact hR _ _ ⟨rfl, hset _⟩
  | succ q =>
    have hi : i = (q : Int) := by omega
    subst i
    have lq : q < l.length := by omega
    have lq' : (q : Int) < l.length := by omega
    have hwq : IntKind.i64.wrap ((q : Int) - 1) = (q : Int) - 1 := by rw [IntKind.wrap_i64]; omega
    obtain ⟨x, hx⟩ : ∃ x, l[q]? = some x := ⟨_, List.getElem?_eq_getElem lq⟩
    rw [tk_rev hx, rIno] at hS
    have okx := ok x (List.mem_of_getElem? hx)
    obtain ⟨b, off, cp, C, T, fr, hv, hb, hC, hsz, hcj, hex⟩ := lst_at hlw (by decide) hx (dv_len okx)
    subst hv
    have d0 : w1.cell? ⟨b, off + q * 48, none⟩ = some (.int .i64 x.d) := (cell_blk hC _).trans (hcj 0 (by decide))
    have d1 : w1.cell? ⟨b, off + q * 48 + 1, none⟩ = some (.int .u16 x.num.val) := (cell_blk hC _).trans (hcj 1 (by decide))
    by_cases e2 : x.d = 0
    · have e2' : (x.d : Int) = 0 := by omega
      by_cases en : x.num = num
      · have en' : (x.num.val : Int) = num.val := by rw [en]
        rw [if_pos ⟨e2, en⟩] at hS
        rw [← hS] at hR
        have hxi := hex 3 47 (by decide)
        rw [dv_i okx] at hxi
        have hsi := ino_size okx
        have hszi : off + q * 48 + 3 + 44 ≤ C.size := by omega
        have hxi' : C.extract (off + q * 48 + 3) (off + q * 48 + 3 + 44) = ino x.i := hxi
        have hai := ino_all okx
        simp [go_sem, f0, f1, f4, f6, lq, lq', d0, d1, e2, e2', en, en', hC, b0, hszi, hxi', hs, hsi, hai, blit_whole]
        exact hR _ _ ⟨rfl, hset _⟩
      · have en' : ¬ (x.num.val : Int) = num.val := fun e => en (Fin.ext (by omega))
        have en'' : ((x.num.val : Int) == num.val) = false := beq_false_of_ne en'
        rw [if_neg fun e => en e.2] at hS
        simp [go_sem, f0, f1, f6, lq, lq', d0, d1, e2, e2', en, en', en'', hwq]
        exact Rnd.intro q (by omega) (hJ _ _ _ ⟨q, _, rfl, by omega, rfl, by simp [f0], by simp [f1], by simp [f4], by simp, rfl, hS⟩)
    · have e2' : ¬ (x.d : Int) = 0 := by omega
      have e2'' : ((x.d : Int) == 0) = false := beq_false_of_ne e2'
      rw [if_neg fun e => e2 e.1] at hS
      simp [go_sem, f0, f1, f6, lq, lq', d0, d1, e2, e2', e2'', hwq]
      exact Rnd.intro q (by omega) (hJ _ _ _ ⟨q, _, rfl, by omega, rfl, by simp [f0], by simp [f1], by simp [f4], by simp, rfl, hS⟩)
set_option maxRecDepth 100000 in
theorem rlf_any (h : Lst w v dv 48 l) (ok : InsOk l) (hl : l.length ≤ 100000) (num : Num) (off : Off) : Ret Tryd.prog 32 #[v, .int .u16 num.val, .int .u32 off.val] w fun v' w' => v' = .tuple #[.string ⟨((rLf l.reverse num off).getD []).toArray⟩, .bool (rLf l.reverse num off).isSome] ∧ w' = w := by
  refine v_enter Tryd.func32 Tryd.ntmps32 rfl (by simp) fun R' hR => ?_
  have hlen := h.len Tryd.underlying56 3
  have hw1 : IntKind.i64.wrap ((l.length : Int) - 1) = (l.length : Int) - 1 := by rw [IntKind.wrap_i64]; omega
  have hes : (⟨([] : Byts).toArray⟩ : ByteArray) = ⟨#[]⟩ := rfl
  simp [go_sem, hlen, hw1]
  refine v_loop (fun r f u => ∃ k i, r = k ∧ k ≤ l.length ∧ i = (k : Int) - 1 ∧ f 0 = v ∧ f 1 = .int .u16 num.val ∧ f 2 = .int .u32 off.val ∧ f 8 = .int .i64 i ∧ u = w ∧ rLf (l.take k).reverse num off = rLf l.reverse num off) l.length
    ⟨l.length, (l.length : Int) - 1, rfl, Nat.le_refl _, rfl, by simp, by simp, by simp, by simp, rfl, by rw [List.take_length]⟩ ?_
  rintro J hJ r f u ⟨k, i, hrk, hkl, hi, f0, f1, f2, f8, hu, hS⟩
  subst u
  cases k with
  | zero =>
    have hi : i = -1 := by omega
    subst i
    have hS : none = rLf l.reverse num off := hS
    rw [← hS] at hR
    simp [go_sem, f8]
    exact hR _ _ ⟨rfl, rfl⟩
  | succ q =>
    have hi : i = (q : Int) := by omega
    subst i
    have lq : q < l.length := by omega
    have lq' : (q : Int) < l.length := by omega
    have hwq : IntKind.i64.wrap ((q : Int) - 1) = (q : Int) - 1 := by rw [IntKind.wrap_i64]; omega
    obtain ⟨x, hx⟩ : ∃ x, l[q]? = some x := ⟨_, List.getElem?_eq_getElem lq⟩
    rw [tk_rev hx, rLf] at hS
    have okx := ok x (List.mem_of_getElem? hx)
    obtain ⟨b, o, cp, C, T, fr, hv, hb, hC, hsz, hcj, hex⟩ := lst_at h (by decide) hx (dv_len okx)
    subst hv
    have d0 : w.cell? ⟨b, o + q * 48, none⟩ = some (.int .i64 x.d) := (cell_blk hC _).trans (hcj 0 (by decide))
    have d1 : w.cell? ⟨b, o + q * 48 + 1, none⟩ = some (.int .u16 x.num.val) := (cell_blk hC _).trans (hcj 1 (by decide))
    have d2 : w.cell? ⟨b, o + q * 48 + 2, none⟩ = some (.int .u32 x.off.val) := (cell_blk hC _).trans (hcj 2 (by decide))
    have d47 : w.cell? ⟨b, o + q * 48 + 47, none⟩ = some (.string ⟨x.b.toArray⟩) := (cell_blk hC _).trans ((hcj 47 (by decide)).trans (dv_47 okx))
    by_cases en : x.num = num
    · have en' : (x.num.val : Int) = num.val := by rw [en]
      by_cases e1 : x.d = 1
      · have e1' : (x.d : Int) = 1 := by omega
        have n2 : ¬ (x.d : Int) = 2 := by omega
        by_cases eo : x.off = off
        · have eo' : (x.off.val : Int) = off.val := by rw [eo]
          rw [if_pos ⟨en, e1, eo⟩] at hS
          rw [← hS] at hR
          simp [go_sem, f0, f1, f2, f8, lq, lq', d0, d1, d2, d47, en, en', e1, e1', eo, eo']
          exact hR _ _ ⟨rfl, rfl⟩
        · have eo' : ¬ (x.off.val : Int) = off.val := fun e => eo (Fin.ext (by omega))
          have eo'' : ((x.off.val : Int) == off.val) = false := beq_false_of_ne eo'
          rw [if_neg (fun e => eo e.2.2), if_neg (fun e => by have := e.2; omega)] at hS
          simp [go_sem, f0, f1, f2, f8, lq, lq', d0, d1, d2, en, en', e1, e1', eo, eo', eo'', hwq]
          exact Rnd.intro q (by omega) (hJ _ _ _ ⟨q, _, rfl, by omega, rfl, by simp [f0], by simp [f1], by simp [f2], by simp, rfl, hS⟩)
      · have e1' : ¬ (x.d : Int) = 1 := by omega
        have e1'' : ((x.d : Int) == 1) = false := beq_false_of_ne e1'
        rw [if_neg (fun e => e1 e.2.1)] at hS
        by_cases e2 : x.d = 2
        · have e2' : (x.d : Int) = 2 := by omega
          rw [if_pos ⟨en, e2⟩] at hS
          rw [← hS] at hR
          simp [go_sem, f0, f1, f2, f8, lq, lq', d0, d1, d2, en, en', e1'', e2']
          exact hR _ _ ⟨rfl, rfl⟩
        · have e2' : ¬ (x.d : Int) = 2 := by omega
          have e2'' : ((x.d : Int) == 2) = false := beq_false_of_ne e2'
          rw [if_neg (fun e => e2 e.2)] at hS
          simp [go_sem, f0, f1, f2, f8, lq, lq', d0, d1, d2, en, en', e1, e1', e1'', e2, e2', e2'', hwq]
          exact Rnd.intro q (by omega) (hJ _ _ _ ⟨q, _, rfl, by omega, rfl, by simp [f0], by simp [f1], by simp [f2], by simp, rfl, hS⟩)
    · have en' : ¬ (x.num.val : Int) = num.val := fun e => en (Fin.ext (by omega))
      have en'' : ((x.num.val : Int) == num.val) = false := beq_false_of_ne en'
      rw [if_neg (fun e => en e.1), if_neg (fun e => en e.1)] at hS
      simp [go_sem, f0, f1, f2, f8, lq, lq', d0, d1, d2, en, en', en'', hwq]
      exact Rnd.intro q (by omega) (hJ _ _ _ ⟨q, _, rfl, by omega, rfl, by simp [f0], by simp [f1], by simp [f2], by simp, rfl, hS⟩)
set_option maxRecDepth 100000 in
theorem rset_any (h : Lst w v dv 48 l) (ok : InsOk l) (hl : l.length ≤ 100000) (num : Num) (off : Off) : Ret Tryd.prog 39 #[v, .int .u16 num.val, .int .u32 off.val] w fun v' w' => v' = .bool (rSet l.reverse num off) ∧ w' = w := by
  refine v_enter Tryd.func39 Tryd.ntmps39 rfl (by simp) fun R' hR => ?_
  have hlen := h.len Tryd.underlying56 3
  have hw1 : IntKind.i64.wrap ((l.length : Int) - 1) = (l.length : Int) - 1 := by rw [IntKind.wrap_i64]; omega
  simp [go_sem, hlen, hw1]
  refine v_loop (fun r f u => ∃ k i, r = k ∧ k ≤ l.length ∧ i = (k : Int) - 1 ∧ f 0 = v ∧ f 1 = .int .u16 num.val ∧ f 2 = .int .u32 off.val ∧ f 7 = .int .i64 i ∧ u = w ∧ rSet (l.take k).reverse num off = rSet l.reverse num off) l.length
    ⟨l.length, (l.length : Int) - 1, rfl, Nat.le_refl _, rfl, by simp, by simp, by simp, by simp, rfl, by rw [List.take_length]⟩ ?_
  rintro J hJ r f u ⟨k, i, hrk, hkl, hi, f0, f1, f2, f7, hu, hS⟩
  subst u
  cases k with
  | zero =>
    have hi : i = -1 := by omega
    subst i
    have hS : false = rSet l.reverse num off := hS
    rw [← hS] at hR
    simp [go_sem, f7]
    exact hR _ _ ⟨rfl, rfl⟩
  | succ q =>
    have hi : i = (q : Int) := by omega
    subst i
    have lq : q < l.length := by omega
    have lq' : (q : Int) < l.length := by omega
    have hwq : IntKind.i64.wrap ((q : Int) - 1) = (q : Int) - 1 := by rw [IntKind.wrap_i64]; omega
    obtain ⟨x, hx⟩ : ∃ x, l[q]? = some x := ⟨_, List.getElem?_eq_getElem lq⟩
    rw [tk_rev hx, rSet] at hS
    have okx := ok x (List.mem_of_getElem? hx)
    obtain ⟨b, o, cp, C, T, fr, hv, hb, hC, hsz, hcj, hex⟩ := lst_at h (by decide) hx (dv_len okx)
    subst hv
    have d0 : w.cell? ⟨b, o + q * 48, none⟩ = some (.int .i64 x.d) := (cell_blk hC _).trans (hcj 0 (by decide))
    have d1 : w.cell? ⟨b, o + q * 48 + 1, none⟩ = some (.int .u16 x.num.val) := (cell_blk hC _).trans (hcj 1 (by decide))
    have d2 : w.cell? ⟨b, o + q * 48 + 2, none⟩ = some (.int .u32 x.off.val) := (cell_blk hC _).trans (hcj 2 (by decide))
    by_cases en : x.num = num
    · have en' : (x.num.val : Int) = num.val := by rw [en]
      by_cases e1 : x.d = 1
      · have e1' : (x.d : Int) = 1 := by omega
        have n2 : ¬ (x.d : Int) = 2 := by omega
        by_cases eo : x.off = off
        · have eo' : (x.off.val : Int) = off.val := by rw [eo]
          rw [if_pos ⟨en, e1, eo⟩] at hS
          rw [← hS] at hR
          simp [go_sem, f0, f1, f2, f7, lq, lq', d0, d1, d2, en, en', e1, e1', eo, eo']
          exact hR _ _ ⟨rfl, rfl⟩
        · have eo' : ¬ (x.off.val : Int) = off.val := fun e => eo (Fin.ext (by omega))
          have eo'' : ((x.off.val : Int) == off.val) = false := beq_false_of_ne eo'
          rw [if_neg (fun e => eo e.2.2), if_neg (fun e => by have := e.2; omega)] at hS
          simp [go_sem, f0, f1, f2, f7, lq, lq', d0, d1, d2, en, en', e1, e1', eo, eo', eo'', hwq]
          exact Rnd.intro q (by omega) (hJ _ _ _ ⟨q, _, rfl, by omega, rfl, by simp [f0], by simp [f1], by simp [f2], by simp, rfl, hS⟩)
      · have e1' : ¬ (x.d : Int) = 1 := by omega
        have e1'' : ((x.d : Int) == 1) = false := beq_false_of_ne e1'
        rw [if_neg (fun e => e1 e.2.1)] at hS
        by_cases e2 : x.d = 2
        · have e2' : (x.d : Int) = 2 := by omega
          rw [if_pos ⟨en, e2⟩] at hS
          rw [← hS] at hR
          simp [go_sem, f0, f1, f2, f7, lq, lq', d0, d1, d2, en, en', e1'', e2']
          exact hR _ _ ⟨rfl, rfl⟩
        · have e2' : ¬ (x.d : Int) = 2 := by omega
          have e2'' : ((x.d : Int) == 2) = false := beq_false_of_ne e2'
          rw [if_neg (fun e => e2 e.2)] at hS
          simp [go_sem, f0, f1, f2, f7, lq, lq', d0, d1, d2, en, en', e1, e1', e1'', e2, e2', e2'', hwq]
          exact Rnd.intro q (by omega) (hJ _ _ _ ⟨q, _, rfl, by omega, rfl, by simp [f0], by simp [f1], by simp [f2], by simp, rfl, hS⟩)
    · have en' : ¬ (x.num.val : Int) = num.val := fun e => en (Fin.ext (by omega))
      have en'' : ((x.num.val : Int) == num.val) = false := beq_false_of_ne en'
      rw [if_neg (fun e => en e.1), if_neg (fun e => en e.1)] at hS
      simp [go_sem, f0, f1, f2, f7, lq, lq', d0, d1, d2, en, en', en'', hwq]
      exact Rnd.intro q (by omega) (hJ _ _ _ ⟨q, _, rfl, by omega, rfl, by simp [f0], by simp [f1], by simp [f2], by simp, rfl, hS⟩)
end
end Go.Proofs.YtnefdmbdkljifaaDoor
