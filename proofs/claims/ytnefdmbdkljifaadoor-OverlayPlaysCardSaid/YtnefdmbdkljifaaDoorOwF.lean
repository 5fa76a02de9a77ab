/- Deeds, as the document has them, in memory; which may be done; the last one of a place. No condition. -/
import Derived.Test.YtnefdmbdkljifaaDoorOwE
set_option linter.unusedSimpArgs false
set_option linter.unusedVariables false

namespace Go.Proofs.YtnefdmbdkljifaaDoor
open Go.RowKit Go.Kin Go.Maps

def dv (x : Dd) : List Value := .int .i64 x.d :: .int .u16 x.num.val :: .int .u32 x.off.val :: ((ino x.i).toList ++ [str x.b])
section
variable {x : Dd}
theorem dv_len (ok : InOk x.i) : (dv x).length = 48 := by
  have h : (ino x.i).toList.length = 44 := by rw [Array.length_toList]; exact ino_size ok
  simp [dv] at *
  omega
theorem dv_size (ok : InOk x.i) : (dv x).toArray.size = 48 := dv_len ok
theorem dv_0 : (dv x)[0]? = some (.int .i64 x.d) := rfl
theorem dv_1 : (dv x)[1]? = some (.int .u16 x.num.val) := rfl
theorem dv_2 : (dv x)[2]? = some (.int .u32 x.off.val) := rfl
theorem dv_47 (ok : InOk x.i) : (dv x)[47]? = some (.string ⟨x.b.toArray⟩) := by
  have h : (ino x.i).toList.length = 44 := by rw [Array.length_toList]; exact ino_size ok
  show ((ino x.i).toList ++ [str x.b])[44]? = _
  rw [List.getElem?_append_right (by omega), h]
  rfl
theorem dv_i (ok : InOk x.i) : (dv x).toArray.extract 3 47 = ino x.i := by
  have h : (ino x.i).toList.length = 44 := by rw [Array.length_toList]; exact ino_size ok
  apply Array.ext'
  rw [Array.toList_extract, List.extract_eq_take_drop]
  show ((ino x.i).toList ++ [str x.b]).take 44 = _
  rw [List.take_append_of_le_length (by omega), List.take_of_length_le (by omega)]
theorem dv_all (ok : InOk x.i) : (dv x).toArray.extract 0 48 = (dv x).toArray := by rw [← dv_size ok]; simp
end
/-- an element of a list of structs: its cells -/
theorem lst_at {α : Type} {w : World} {v : Value} {en : α → List Value} {k : Nat} {l : List α} (h : Lst w v en k l) (hk : 0 < k) {i : Nat} {a : α} (hi : l[i]? = some a) (hl : (en a).length = k) : ∃ b off cp C T fr, v = .slice (some ⟨b, off, none⟩) l.length cp ∧ b < w.heap.size ∧ w.heap[b]? = some (.cells C T fr) ∧ off + i * k + k ≤ C.size ∧
    (∀ j, j < k → C[off + i * k + j]? = (en a)[j]?) ∧ ∀ p q, q ≤ k → C.extract (off + i * k + p) (off + i * k + q) = (en a).toArray.extract p q := by
  obtain ⟨A, cp, rfl, _, _, h3⟩ := h
  obtain ⟨b, off, rfl, hb, hr⟩ := h3 (by have := (List.getElem?_eq_some_iff.1 hi).1; omega)
  have hc : ∀ j u, (en a)[j]? = some u → w.cell? ⟨b, off + i * k + j, none⟩ = some u := fun j u hu => hr i a j u hi hu
  obtain ⟨C, T, fr, hC⟩ : ∃ C T fr, w.heap[b]? = some (.cells C T fr) := by
    have h0 := hc 0 _ (List.getElem?_eq_getElem (by omega))
    simp only [World.cell?] at h0
    cases hb : w.heap[b]? with
    | none => rw [hb] at h0; cases h0
    | some ob =>
      rw [hb] at h0
      cases ob with
      | cells C T fr => exact ⟨C, T, fr, rfl⟩
      | _ => cases h0
  have hc2 : ∀ j, j < k → C[off + i * k + j]? = (en a)[j]? := fun j hj => by
    obtain ⟨u, hu⟩ : ∃ u, (en a)[j]? = some u := ⟨_, List.getElem?_eq_getElem (by omega)⟩
    rw [hu, ← hc j u hu, cell_blk hC]
  have hsz : off + i * k + k ≤ C.size := by
    have h48 := hc2 (k - 1) (by omega)
    rw [List.getElem?_eq_getElem (by omega)] at h48
    have := (Array.getElem?_eq_some_iff.1 h48).1
    omega
  refine ⟨b, off, cp, C, T, fr, rfl, hb, hC, hsz, hc2, fun p q hq => ?_⟩
  apply Array.ext'
  apply List.ext_getElem?
  intro j
  simp only [Array.toList_extract, List.extract_eq_take_drop, List.getElem?_take, List.getElem?_drop]
  by_cases hj : j < q - p
  · rw [if_pos (by omega), if_pos hj, Array.getElem?_toList, Nat.add_assoc, hc2 (p + j) (by omega)]
  · rw [if_neg (by omega), if_neg hj]
section
variable {w : World} {v : Value} {l : List Dd}
theorem rok_any (num : Num) (off : Off) (w : World) : Ret Tryd.prog 21 #[.int .u16 num.val, .int .u32 off.val] w fun v' w' => v' = .bool (okN num off) ∧ w' = w := by
  refine v_enter Tryd.func21 Tryd.ntmps21 rfl (by simp) fun R' hR => ?_
  by_cases h1 : 1 ≤ num.val
  · have h1' : (1 : Int) ≤ num.val := by omega
    by_cases h2 : num.val ≤ 255
    · have h2' : (num.val : Int) ≤ 255 := by omega
      by_cases h3 : off.val < 64
      · have h3' : (off.val : Int) < 64 := by omega
        simp [go_sem, h1', h2', h3']
        exact hR _ _ ⟨by rw [okN_eq]; simp [h1, h2, h3], rfl⟩
      · have h3' : ¬ (off.val : Int) < 64 := by omega
        simp [go_sem, h1', h2', h3']
        exact hR _ _ ⟨by rw [okN_eq]; simp [h3], rfl⟩
    · have h2' : ¬ (num.val : Int) ≤ 255 := by omega
      simp [go_sem, h1', h2']
      exact hR _ _ ⟨by rw [okN_eq]; simp [h2], rfl⟩
  · have h1' : ¬ (1 : Int) ≤ num.val := by omega
    simp [go_sem, h1']
    exact hR _ _ ⟨by rw [okN_eq]; simp [h1], rfl⟩
set_option maxRecDepth 100000 in
theorem good_any (x : Dd) (ok : InOk x.i) (w : World) : Ret Tryd.prog 9 #[.agg (dv x).toArray] w fun v' w' => v' = .int .i64 (if x.good then 0 else 1) ∧ Ch Nw w w' := by
  refine v_enter Tryd.func9 Tryd.ntmps9 rfl (by simp) fun R' hR => ?_
  have hs := dv_size ok
  have hax := dv_all ok
  have hi := dv_i ok
  have d47 := dv_47 ok
  have ba := hp_alloc w (.cells (dv x).toArray 47)
  have ca := (Ch.refl Nw w).alloc (.cells (dv x).toArray 47)
  have hg : x.good = (okN x.num (if x.d = 1 then x.off else 0) && (decide (x.d ≠ 0) || mayI x.i) && (decide (x.d ≠ 1) || decide (x.b.length = 0) || decide (x.b.length = 512))) := rfl
  simp [go_sem, dv_0, dv_1, dv_2]
  obtain ⟨q, hq⟩ : ∃ q, w.heap.size = q := ⟨_, rfl⟩
  rw [hq] at ba ⊢
  generalize w.alloc (.cells (dv x).toArray 47) = w1 at *
  have cq : ∀ i, w1.cell? ⟨q, i, none⟩ = (dv x)[i]? := fun i => by rw [cell_blk ba i]; simp
  have c0 := (cq 0).trans dv_0
  have c1 := (cq 1).trans dv_1
  have c47 := (cq 47).trans d47
  by_cases e0 : x.d = 0
  · have n1 : ¬ x.d = 1 := by omega
    rw [if_neg n1, decide_eq_false (fun h : x.d ≠ 0 => h e0), decide_eq_true n1, Bool.false_or, Bool.true_or, Bool.true_or, Bool.and_true] at hg
    have hr := rok_any x.num 0 w1
    rw [show (((0 : Off).val : Nat) : Int) = 0 from rfl] at hr
    rw [e0] at c0
    simp [go_sem, e0, c0, c1]
    refine hr.mono ?_
    rintro _ w2 ⟨rfl, hw⟩
    subst w2
    cases hok : okN x.num 0 with
    | false =>
      rw [hok, Bool.false_and] at hg
      simp [go_sem]
      exact hR _ _ ⟨by rw [hg]; rfl, ca⟩
    | true =>
      rw [hok, Bool.true_and] at hg
      simp [go_sem, c0, ba, hs, hi]
      refine (rimay_any x.i w1 ok).mono ?_
      rintro _ w2 ⟨rfl, c2⟩
      have c0' := c2.cell c0 id
      cases hm : mayI x.i with
      | false =>
        rw [hm] at hg
        simp [go_sem]
        exact hR _ _ ⟨by rw [hg]; rfl, ca.trans c2⟩
      | true =>
        rw [hm] at hg
        simp [go_sem, c0']
        exact hR _ _ ⟨by rw [hg]; rfl, ca.trans c2⟩
  have n0 : ¬ (x.d : Int) = 0 := by omega
  have n0' : ((x.d : Int) == 0) = false := beq_false_of_ne n0
  by_cases e1 : x.d = 1
  · rw [if_pos e1, decide_eq_true e0, decide_eq_false (fun h : x.d ≠ 1 => h e1), Bool.true_or, Bool.and_true, Bool.false_or] at hg
    rw [e1] at c0
    simp [go_sem, e1, c0, c1]
    refine (rok_any x.num x.off w1).mono ?_
    rintro _ w2 ⟨rfl, hw⟩
    subst w2
    cases hok : okN x.num x.off with
    | false =>
      rw [hok, Bool.false_and] at hg
      simp [go_sem]
      exact hR _ _ ⟨by rw [hg]; rfl, ca⟩
    | true =>
      rw [hok, Bool.true_and] at hg
      by_cases l0 : x.b.length = 0
      · have l0' : (x.b.length : Int) = 0 := by omega
        have l0b : x.b = [] := List.eq_nil_of_length_eq_zero l0
        simp [go_sem, c0, c47, l0, l0']
        exact hR _ _ ⟨by rw [hg]; simp [l0], ca⟩
      · have l0' : ¬ (x.b.length : Int) = 0 := by omega
        have l0'' : ((x.b.length : Int) == 0) = false := beq_false_of_ne l0'
        have l0b : ¬ x.b = [] := fun e => l0 (by rw [e]; rfl)
        by_cases l1 : x.b.length = 512
        · have l1' : (x.b.length : Int) = 512 := by omega
          simp [go_sem, c0, c47, l0b, l1']
          exact hR _ _ ⟨by rw [hg]; simp [l1], ca⟩
        · have l1' : ¬ (x.b.length : Int) = 512 := by omega
          have l1'' : ((x.b.length : Int) == 512) = false := beq_false_of_ne l1'
          simp [go_sem, c0, c47, l0'', l0b, l1'', bne]
          exact hR _ _ ⟨by rw [hg]; simp [l0, l1], ca⟩
  · have n1 : ¬ (x.d : Int) = 1 := by omega
    have n1' : ((x.d : Int) == 1) = false := beq_false_of_ne n1
    rw [if_neg e1, decide_eq_true e0, decide_eq_true e1, Bool.true_or, Bool.true_or, Bool.true_or, Bool.and_true, Bool.and_true] at hg
    have hr := rok_any x.num 0 w1
    rw [show (((0 : Off).val : Nat) : Int) = 0 from rfl] at hr
    simp [go_sem, n1', bne, c0, c1]
    refine hr.mono ?_
    rintro _ w2 ⟨rfl, hw⟩
    subst w2
    cases hok : okN x.num 0 with
    | false =>
      rw [hok] at hg
      simp [go_sem]
      exact hR _ _ ⟨by rw [hg]; rfl, ca⟩
    | true =>
      rw [hok] at hg
      simp [go_sem, e0, e1, n0, n0', n1, n1', c0, bne]
      exact hR _ _ ⟨by rw [hg]; rfl, ca⟩
/-- deeds whose inodes are inodes -/
def InsOk (l : List Dd) : Prop := ∀ x ∈ l, InOk x.i
set_option maxRecDepth 100000 in
theorem rwip_any (h : Lst w v dv 48 l) (ok : InsOk l) (hl : l.length ≤ 100000) (num : Num) : Ret Tryd.prog 37 #[v, .int .u16 num.val] w fun v' w' => v' = .bool (rWiped l num) ∧ w' = w := by
  refine v_enter Tryd.func37 Tryd.ntmps37 rfl (by simp) fun R' hR => ?_
  have hlen := h.len Tryd.underlying56 3
  simp [go_sem]
  refine v_loop (fun r f u => ∃ i, r = l.length - i ∧ i ≤ l.length ∧ f 0 = v ∧ f 1 = .int .u16 num.val ∧ f 5 = .int .i64 i ∧ u = w ∧ (∀ x ∈ l.take i, ¬ (x.d = 2 ∧ x.num = num))) l.length
    ⟨0, rfl, Nat.zero_le _, by simp, by simp, by simp, rfl, by simp⟩ ?_
  rintro J hJ _ f u ⟨i, rfl, hi, f0, f1, f5, hu, hno⟩
  subst u
  by_cases hlt : i < l.length
  · have hii : (i : Int) < l.length := by omega
    have hwi := S16.wi ((i : Int) + 1) (i + 1) (by omega) (by omega)
    obtain ⟨x, hx⟩ : ∃ x, l[i]? = some x := ⟨_, List.getElem?_eq_getElem hlt⟩
    have okx := ok x (List.mem_of_getElem? hx)
    obtain ⟨b, off, cp, C, T, fr, hv, hb, hC, hsz, hcj, hex⟩ := lst_at h (by decide) hx (dv_len okx)
    subst hv
    have d0 : w.cell? ⟨b, off + i * 48, none⟩ = some (.int .i64 x.d) := (cell_blk hC _).trans (hcj 0 (by decide))
    have d1 : w.cell? ⟨b, off + i * 48 + 1, none⟩ = some (.int .u16 x.num.val) := (cell_blk hC _).trans (hcj 1 (by decide))
    have htk : l.take (i + 1) = l.take i ++ [x] := by rw [List.take_add_one, hx]; rfl
    have next : ¬ (x.d = 2 ∧ x.num = num) → ∀ y ∈ l.take (i + 1), ¬ (y.d = 2 ∧ y.num = num) := fun hn y hy => by
      rw [htk] at hy
      rcases List.mem_append.1 hy with hy | hy
      · exact hno y hy
      · simp at hy; subst hy; exact hn
    by_cases e2 : x.d = 2
    · have e2' : (x.d : Int) = 2 := by omega
      by_cases en : x.num = num
      · have en' : (x.num.val : Int) = num.val := by rw [en]
        simp [go_sem, f0, f1, f5, hlen, hii, hlt, d0, d1, e2, e2', en, en']
        refine hR _ _ ⟨?_, rfl⟩
        congr 1
        symm
        unfold rWiped
        rw [List.any_eq_true]
        exact ⟨x, List.mem_of_getElem? hx, by simp [e2, en]⟩
      · have en' : ¬ (x.num.val : Int) = num.val := fun e => en (Fin.ext (by omega))
        have en'' : ((x.num.val : Int) == num.val) = false := beq_false_of_ne en'
        simp [go_sem, f0, f1, f5, hlen, hii, hlt, d0, d1, e2, e2', en, en', en'', hwi]
        exact Rnd.intro (l.length - (i + 1)) (by omega) (hJ _ _ _ ⟨i + 1, rfl, by omega, by simp [f0], by simp [f1], by simp, rfl, next fun e => en e.2⟩)
    · have e2' : ¬ (x.d : Int) = 2 := by omega
      have e2'' : ((x.d : Int) == 2) = false := beq_false_of_ne e2'
      simp [go_sem, f0, f1, f5, hlen, hii, hlt, d0, d1, e2, e2', e2'', hwi]
      exact Rnd.intro (l.length - (i + 1)) (by omega) (hJ _ _ _ ⟨i + 1, rfl, by omega, by simp [f0], by simp [f1], by simp, rfl, next fun e => e2 e.1⟩)
  · have hii : ¬ (i : Int) < l.length := by omega
    have hil : i = l.length := by omega
    simp [go_sem, f0, f5, hlen, hii, hlt]
    refine hR _ _ ⟨?_, rfl⟩
    congr 1
    symm
    unfold rWiped
    rw [List.any_eq_false]
    intro x hx
    rw [hil, List.take_length] at hno
    simpa using hno x hx
end
end Go.Proofs.YtnefdmbdkljifaaDoor
