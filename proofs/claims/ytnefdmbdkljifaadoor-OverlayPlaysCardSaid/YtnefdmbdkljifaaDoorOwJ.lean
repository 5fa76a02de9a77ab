/- Has an overlay just what deeds say? No condition. -/
import Derived.Test.YtnefdmbdkljifaaDoorOwI
set_option linter.unusedSimpArgs false
set_option linter.unusedVariables false

namespace Go.Proofs.YtnefdmbdkljifaaDoor
open Go.RowKit Go.Kin Go.Maps

theorem tyU16o : Ty1 Tryd.prog 89 22 (.int .u16 0) 2 := ⟨Tryd.underlying89, by kernel_rfl, rfl⟩
section
variable {w : World} {o n : Nat} {base of : Value} {X Y : Nat → Prop} {z : Oz} {l : List Dd} {lv : Value}
set_option maxRecDepth 100000 in
set_option maxHeartbeats 8000000 in
theorem has_any (h : OvP w o base of n (ovD l) X Y z) (hn : n ≤ 30000) (hl : Lst w lv dv 48 l) (ok : InsOk l) (okd : DdsOk l) (hlen : l.length ≤ 100000) :
    Ret Tryd.prog 15 #[oP o, lv] w fun v' w' => v' = .bool true ∧ Ch Nw w w' := by
  refine v_enter Tryd.func15 Tryd.ntmps15 rfl (by simp) fun R' hR => ?_
  have hok := ovD_ok l okd
  obtain ⟨s1, s2, s3, s4⟩ := says l okd
  have hany := any_iff l okd
  obtain ⟨D, hD⟩ : ∃ D, ovD l = D := ⟨_, rfl⟩
  rw [hD] at h hok s1 s2 s3 s4 hany
  simp [go_sem]
  refine (nums_any h hok hn).mono ?_
  rintro nv w0 ⟨xs, hxs, hnv, c0, _⟩
  have hnl := hnv.len Tryd.underlying89 3
  have hxs255 : ∀ a ∈ xs, 1 ≤ a.val ∧ a.val ≤ 255 := fun a ha => by
    have := hok.any ((hxs.2 a).1 ha)
    unfold okN at this
    simp only [Bool.and_eq_true, decide_eq_true_eq] at this
    exact this.1
  simp [go_sem]
  obtain ⟨I, hI⟩ : ∃ I : (Nat → Value) → World → Prop, I = fun f u => ∃ P Q, f 0 = oP o ∧ f 5 = .int .i64 (P : List (Num × Off)).length ∧ f 6 = .int .i64 (Q : List Num).length ∧ f 7 = nv ∧ f 8 = .int .i64 xs.length ∧ P.Nodup ∧ (∀ p, p ∈ P ↔ Ne D p) ∧ Q.Nodup ∧ (∀ a, a ∈ Q ↔ (D.ino a).isSome = true) ∧ Ch Nw w u := ⟨_, rfl⟩
  refine v_meetL I ?_ ?_
  · refine v_loop (fun r f u => ∃ m k, ∃ P : List (Num × Off), ∃ Q : List Num, r = 256 - m ∧ 1 ≤ m ∧ m ≤ 256 ∧ f 0 = oP o ∧ f 1 = lv ∧ f 5 = .int .i64 P.length ∧ f 6 = .int .i64 Q.length ∧ f 7 = nv ∧ f 8 = .int .i64 (k : Nat) ∧ f 9 = .int .u16 (m : Nat) ∧
      P.Nodup ∧ (∀ p, p ∈ P ↔ Ne D p ∧ p.1.val < m) ∧ P.length ≤ 64 * m ∧ Q.Nodup ∧ (∀ a, a ∈ Q ↔ (D.ino a).isSome = true ∧ a.val < m) ∧ Q.length ≤ m ∧ Cut (fun a : Num => a.val) xs k m ∧ k ≤ m ∧ Ch Nw w0 u) 255
      ⟨1, 0, [], [], rfl, by omega, by omega, by simp, by simp, by simp, by simp, by simp, by simp, by simp, List.nodup_nil, fun p => ?_, by simp, List.nodup_nil, fun a => ?_, by simp, Cut.start fun a ha => (hxs255 a ha).1, by omega, Ch.refl _ _⟩ ?_
    · simp only [List.not_mem_nil, false_iff]
      rintro ⟨⟨b, hb, _⟩, hlt⟩
      have := hok.lf p.1 p.2 b hb
      unfold okN at this
      simp only [Bool.and_eq_true, decide_eq_true_eq] at this
      omega
    · simp only [List.not_mem_nil, false_iff]
      rintro ⟨hs, hlt⟩
      obtain ⟨x, hx⟩ := Option.isSome_iff_exists.1 hs
      have := hok.ino a x hx
      unfold okN at this
      simp only [Bool.and_eq_true, decide_eq_true_eq] at this
      omega
    rintro J hJ _ f u ⟨m, k, P, Q, rfl, hm1, hm256, f0, f1, f5, f6, f7, f8, f9, hPn, hP, hPl, hQn, hQ, hQl, hcut, hkm, cu⟩
    by_cases hm : m < 256
    · have hm' : (m : Int) < 256 := by omega
      have hmv : (nm m).val = m := nm_val (by omega)
      have hwm : IntKind.u16.wrap ((m : Int) + 1) = ((m + 1 : Nat) : Int) := by simp [IntKind.wrap, IntKind.bits, IntKind.signed]; omega
      have cwu := c0.trans cu
      have hu := h.ch cwu (fun _ _ e => e) fun _ _ e => e
      have hlu := hl.ch cwu fun _ _ _ e => e
      have hri := rino_any hlu ok hlen (nm m)
      rw [hmv, ← s1] at hri
      simp [go_sem, f9, hm, hm', f1]
      refine hri.mono ?_
      rintro _ w1 ⟨rfl, c1⟩
      obtain ⟨dn, hdn⟩ : ∃ dn, (D.ino (nm m)).getD inz = dn := ⟨_, rfl⟩
      obtain ⟨is, his⟩ : ∃ b, (D.ino (nm m)).isSome = b := ⟨_, rfl⟩
      have okD : InOk dn := by
        rw [← hdn]
        cases hi : D.ino (nm m) with
        | none => exact inz_ok
        | some x => exact h.inOk _ _ hi
      rw [hdn, his]
      have hs0 := ino_size inz_ok
      have hsd := ino_size okD
      have had := ino_all okD
      have ba := hp_alloc w1 (.cells (ino dn) 41)
      have ca := (Ch.refl Nw w1).alloc (.cells (ino dn) 41)
      have cw2 := c1.trans ca
      simp [go_sem, VAl_big, hz_rino, zc_rino, hs0, hsd, had, blit_whole]
      obtain ⟨q1, hq1⟩ : ∃ q, w1.heap.size = q := ⟨_, rfl⟩
      rw [hq1] at ba ⊢
      generalize w1.alloc (.cells (ino dn) 41) = w2 at *
      have ho2 := owni_any (hu.ch cw2 (fun _ _ e => e) fun _ _ e => e) (nm m)
      rw [hmv, hdn, his] at ho2
      simp [go_sem, f0, f9]
      refine ho2.mono ?_
      rintro _ w3 ⟨rfl, c3⟩
      have ba3 := c3.obj ba id
      have bb := hp_alloc w3 (.cells (ino dn) 49)
      have cb := (Ch.refl Nw w3).alloc (.cells (ino dn) 49)
      have ba4 := cb.obj ba3 id
      have cw4 := (cw2.trans c3).trans cb
      simp [go_sem, VAl_big, hz_ino, zc_ino, hs0, hsd, had, blit_whole]
      obtain ⟨q2, hq2⟩ : ∃ q, w3.heap.size = q := ⟨_, rfl⟩
      rw [hq2] at bb ⊢
      generalize w3.alloc (.cells (ino dn) 49) = w4 at *
      refine v_draw' [(0, none), (1, none), (2, none), (3, none), (4, none), (5, none), (6, some [4]), (7, none), (8, none), (9, none), (10, none), (11, none), (13, none), (14, none), (12, some [13, 14]), (15, some []), (16, none), (17, none)] (by kernel_rfl) (by kernel_rfl) ?_
      simp [go_sem, ba4, bb, hsd, had, f0, f1, f9]
      refine (of_any dn okD w4.drew).mono ?_
      rintro _ w5 ⟨rfl, c5⟩
      have c5' := Ch.of_drew c5
      have bb5 := c5'.obj bb id
      have heq := fun w => eq_ino w okD okD
      simp [go_sem, bb5, hsd, had, heq]
      have cw5 := cw4.trans c5'
      have hu5 := hu.ch cw5 (fun _ _ e => e) fun _ _ e => e
      have hl5 := hlu.ch cw5 fun _ _ _ e => e
      have hwi := wiped_any hu5 (nm m)
      have hrw := rwip_any hl5 ok hlen (nm m)
      rw [hmv] at hwi hrw
      rw [← s2] at hrw
      simp only [f0, f1, f9]
      refine hwi.mono ?_
      rintro _ w6 ⟨rfl, hw⟩
      subst w6
      simp [go_sem, f1, f9]
      refine hrw.mono ?_
      rintro _ w6 ⟨rfl, hw⟩
      subst w6
      simp [go_sem]
      have hw5n : w5.heap.size ≥ u.heap.size := cw5.size
      have cu5 := cu.trans cw5
      clear hwi hrw ba ba3 ba4 bb bb5 c1 ca c3 cb c5 c5' cw2 cw4 cw5 hri ho2 heq
      have hwQ := S16.wi ((Q.length : Int) + 1) (Q.length + 1) (by omega) (by omega)
      obtain ⟨Q', hQ'⟩ : ∃ Q' : List Num, (if is then nm m :: Q else Q) = Q' := ⟨_, rfl⟩
      obtain ⟨I1, hI1⟩ : ∃ I1 : (Nat → Value) → World → Prop, I1 = fun f u => f 0 = oP o ∧ f 1 = lv ∧ f 5 = .int .i64 P.length ∧ f 6 = .int .i64 Q'.length ∧ f 7 = nv ∧ f 8 = .int .i64 k ∧ f 9 = .int .u16 m ∧ f 11 = .bool is ∧ u = w5 := ⟨_, rfl⟩
      refine v_meet I1 ?_ ?_
      · cases is with
        | true =>
          rw [if_pos rfl] at hQ'
          subst hQ'
          simp [go_sem, f6, hwQ]
          rw [hI1]
          exact ⟨by simp [f0], by simp [f1], by simp [f5], by simp, by simp [f7], by simp [f8], by simp [f9], by simp, rfl⟩
        | false =>
          rw [if_neg (by decide)] at hQ'
          subst hQ'
          simp [go_sem]
          rw [hI1]
          exact ⟨by simp [f0], by simp [f1], by simp [f5], by simp [f6], by simp [f7], by simp [f8], by simp [f9], by simp, rfl⟩
      rw [hI1]
      clear hI1 I1 f0 f1 f5 f6 f7 f8 f9 f
      rintro f u' ⟨f0, f1, f5, f6, f7, f8, f9, f11, hu'⟩
      subst u'
      obtain ⟨wp, hwp⟩ : ∃ b, D.wiped (nm m) = b := ⟨_, rfl⟩
      obtain ⟨I1, hI1⟩ : ∃ I1 : (Nat → Value) → World → Prop, I1 = fun f u => f 0 = oP o ∧ f 1 = lv ∧ f 5 = .int .i64 P.length ∧ f 6 = .int .i64 Q'.length ∧ f 7 = nv ∧ f 8 = .int .i64 k ∧ f 9 = .int .u16 m ∧ f 14 = .bool (is || wp) ∧ Ch Nw w5 u := ⟨_, rfl⟩
      rw [VC_seq]
      refine v_meetC I1 ?_ ?_
      · have hrw := rwip_any hl5 ok hlen (nm m)
        rw [hmv, ← s2, hwp] at hrw
        cases is with
        | true =>
          simp [go_sem, f11]
          rw [hI1]
          exact ⟨by simp [f0], by simp [f1], by simp [f5], by simp [f6], by simp [f7], by simp [f8], by simp [f9], by simp, Ch.refl _ _⟩
        | false =>
          simp [go_sem, f11, f1, f9]
          refine hrw.mono ?_
          rintro _ w6 ⟨rfl, hw⟩
          subst w6
          simp [go_sem]
          rw [hI1]
          exact ⟨by simp [f0], by simp [f1], by simp [f5], by simp [f6], by simp [f7], by simp [f8], by simp [f9], by simp, Ch.refl _ _⟩
      rw [hI1]
      clear hI1 I1 f0 f1 f5 f6 f7 f8 f9 f11 f
      rintro f u7 ⟨f0, f1, f5, f6, f7, f8, f9, f14, c57⟩
      have hch := changes_any (hu5.ch c57 (fun _ _ e => e) fun _ _ e => e) (nm m) (by omega)
      rw [hmv] at hch
      simp [go_sem, f0, f9]
      refine hch.mono ?_
      rintro cv w8 ⟨L, hL, hLs, hLv, c78, _⟩
      have hLl := hLv.len Tryd.underlying94 3
      have cu8 := (cu5.trans c57).trans c78
      have cwu8 := c0.trans cu8
      have hl8 := hl.ch cwu8 fun _ _ _ e => e
      have hll := hl8.len Tryd.underlying56 3
      have hnv8 : Sl w8 nv xs.length (S16.ks xs) := hnv.ch cu8 fun _ _ e => e
      simp [go_sem]
      obtain ⟨A, hA⟩ : ∃ A : Bool, A = true ↔ D.any (nm m) := by
        by_cases hh : D.any (nm m)
        · exact ⟨true, by simp [hh]⟩
        · exact ⟨false, by simp [hh]⟩
      obtain ⟨I1, hI1⟩ : ∃ I1 : (Nat → Value) → World → Prop, I1 = fun f u => f 0 = oP o ∧ f 1 = lv ∧ f 5 = .int .i64 P.length ∧ f 6 = .int .i64 Q'.length ∧ f 7 = nv ∧ f 8 = .int .i64 k ∧ f 9 = .int .u16 m ∧ f 14 = .bool A ∧ f 15 = cv ∧ f 16 = .int .i64 0 ∧ u = w8 := ⟨_, rfl⟩
      refine v_meetL I1 ?_ ?_
      · refine v_loop (fun r f u => ∃ i, ∃ b : Bool, r = l.length - i ∧ i ≤ l.length ∧ f 0 = oP o ∧ f 1 = lv ∧ f 5 = .int .i64 P.length ∧ f 6 = .int .i64 Q'.length ∧ f 7 = nv ∧ f 8 = .int .i64 k ∧ f 9 = .int .u16 m ∧ f 14 = .bool b ∧ f 15 = cv ∧ f 16 = .int .i64 0 ∧ f 17 = .int .i64 (i : Nat) ∧ u = w8 ∧ (b = true ↔ ((is || wp) = true ∨ ∃ x ∈ l.take i, x.num = nm m))) l.length
          ⟨0, is || wp, rfl, Nat.zero_le _, by simp [f0], by simp [f1], by simp [f5], by simp [f6], by simp [f7], by simp [f8], by simp [f9], by simp [f14], by simp, by simp, by simp, rfl, by simp⟩ ?_
        clear f0 f1 f5 f6 f7 f8 f9 f14 f
        rintro J2 hJ2 _ f u ⟨i, b, rfl, hil, f0, f1, f5, f6, f7, f8, f9, f14, f15, f16, f17, hu', hb⟩
        subst u
        by_cases hlt : i < l.length
        · have hlt' : (i : Int) < l.length := by omega
          have hwi := S16.wi ((i : Int) + 1) (i + 1) (by omega) (by omega)
          obtain ⟨x, hx⟩ : ∃ x, l[i]? = some x := ⟨_, List.getElem?_eq_getElem hlt⟩
          have htk : l.take (i + 1) = l.take i ++ [x] := by rw [List.take_add_one, hx]; rfl
          have okx := ok x (List.mem_of_getElem? hx)
          have hex1 : (∃ y ∈ l.take (i + 1), y.num = nm m) ↔ ((∃ y ∈ l.take i, y.num = nm m) ∨ x.num = nm m) := by
            rw [htk]
            constructor
            · rintro ⟨y, hy, e⟩
              rcases List.mem_append.1 hy with hy | hy
              · exact .inl ⟨y, hy, e⟩
              · simp at hy
                subst hy
                exact .inr e
            · rintro (⟨y, hy, e⟩ | e)
              · exact ⟨y, List.mem_append_left _ hy, e⟩
              · exact ⟨x, by simp, e⟩
          cases b with
          | true =>
            simp [go_sem, f1, f14, f17, hll, hlt, hlt', hwi]
            refine Rnd.intro (l.length - (i + 1)) (by omega) (hJ2 _ _ _ ⟨i + 1, true, rfl, by omega, by simp [f0], by simp [f1], by simp [f5], by simp [f6], by simp [f7], by simp [f8], by simp [f9], by simp, by simp [f15], by simp [f16], by simp, rfl, ?_⟩)
            rw [hex1, ← or_assoc, ← hb]
            simp
          | false =>
            obtain ⟨bk, off, cp, C, T, fr, hv, hbl, hC, hsz, hcj, hex⟩ := lst_at hl8 (by decide) hx (dv_len okx)
            subst hv
            have d1 : w8.cell? ⟨bk, off + i * 48 + 1, none⟩ = some (.int .u16 x.num.val) := (cell_blk hC _).trans (hcj 1 (by decide))
            by_cases en : x.num = nm m
            · have en' : (x.num.val : Int) = m := by rw [en, hmv]
              simp [go_sem, f1, f9, f14, f17, hll, hlt, hlt', hwi, d1, en', hmv, en]
              refine Rnd.intro (l.length - (i + 1)) (by omega) (hJ2 _ _ _ ⟨i + 1, true, rfl, by omega, by simp [f0], by simp [f1], by simp [f5], by simp [f6], by simp [f7], by simp [f8], by simp [f9], by simp, by simp [f15], by simp [f16], by simp, rfl, ?_⟩)
              rw [hex1]
              simp [en]
            · have en' : ¬ (x.num.val : Int) = m := fun e => en (Fin.ext (by rw [hmv]; omega))
              have en'' : ((x.num.val : Int) == m) = false := beq_false_of_ne en'
              have en3 : ¬ x.num.val = m := by omega
              simp [go_sem, f1, f9, f14, f17, hll, hlt, hlt', hwi, d1, en', en'', en3]
              refine Rnd.intro (l.length - (i + 1)) (by omega) (hJ2 _ _ _ ⟨i + 1, false, rfl, by omega, by simp [f0], by simp [f1], by simp [f5], by simp [f6], by simp [f7], by simp [f8], by simp [f9], by simp, by simp [f15], by simp [f16], by simp, rfl, ?_⟩)
              rw [hex1, ← or_assoc, ← hb]
              simp [en]
        · have hlt' : ¬ (i : Int) < l.length := by omega
          have hil' : i = l.length := by omega
          simp [go_sem, f1, f17, hll, hlt, hlt']
          rw [hI1]
          have hbA : b = A := by
            rw [hil', List.take_length] at hb
            have : (b = true) ↔ (A = true) := by
              rw [hb, hA, hany]
              constructor
              · rintro (e | e)
                · refine (hany _).1 ?_
                  rw [Bool.or_eq_true] at e
                  rcases e with e | e
                  · exact .inr (.inl (by rw [his]; exact e))
                  · exact .inl (by rw [hwp]; exact e)
                · exact e
              · exact .inr
            cases b <;> cases A <;> simp_all
          subst hbA
          exact ⟨by simp [f0], by simp [f1], by simp [f5], by simp [f6], by simp [f7], by simp [f8], by simp [f9], by simp [f14], by simp [f15], by simp [f16], rfl⟩
      rw [hI1]
      clear hI1 I1 f0 f1 f5 f6 f7 f8 f9 f14 f
      rintro f u9 ⟨f0, f1, f5, f6, f7, f8, f9, f14, f15, f16, hu9⟩
      subst u9
      have hL0 : ∀ x ∈ L, x.1.val < 64 := fun x hx => by
        obtain ⟨b, hb, _⟩ := hL.val x hx
        have := hok.lf _ _ b hb
        unfold okN at this
        simp only [Bool.and_eq_true, decide_eq_true_eq] at this
        exact this.2
      obtain ⟨I1, hI1⟩ : ∃ I1 : (Nat → Value) → World → Prop, I1 = fun f u => ∃ P1 : List (Num × Off), f 0 = oP o ∧ f 1 = lv ∧ f 5 = .int .i64 P1.length ∧ f 6 = .int .i64 Q'.length ∧ f 7 = nv ∧ f 8 = .int .i64 k ∧ f 9 = .int .u16 m ∧ f 14 = .bool A ∧ f 15 = cv ∧ f 16 = .int .i64 L.length ∧ u = w8 ∧ P1.Nodup ∧ (∀ p, p ∈ P1 ↔ Ne D p ∧ p.1.val < m + 1) ∧ P1.length ≤ 64 * (m + 1) := ⟨_, rfl⟩
      simp [go_sem]
      refine v_meetL I1 ?_ ?_
      · refine v_loop (fun r f u => ∃ off j, ∃ P1 : List (Num × Off), r = 64 - off ∧ off ≤ 64 ∧ f 0 = oP o ∧ f 1 = lv ∧ f 5 = .int .i64 P1.length ∧ f 6 = .int .i64 Q'.length ∧ f 7 = nv ∧ f 8 = .int .i64 k ∧ f 9 = .int .u16 m ∧ f 14 = .bool A ∧ f 15 = cv ∧ f 16 = .int .i64 (j : Nat) ∧ f 18 = .int .u32 (off : Nat) ∧ u = w8 ∧
            P1.Nodup ∧ (∀ p, p ∈ P1 ↔ Ne D p ∧ (p.1.val < m ∨ (p.1.val = m ∧ p.2.val < off))) ∧ P1.length ≤ 64 * m + off ∧ Cut (fun x : Cg => x.1.val) L j off ∧ j ≤ off) 64
          ⟨0, 0, P, rfl, by omega, by simp [f0], by simp [f1], by simp [f5], by simp [f6], by simp [f7], by simp [f8], by simp [f9], by simp [f14], by simp [f15], by simp [f16], by simp, rfl, hPn, by simpa using hP, by omega, Cut.start fun _ _ => Nat.zero_le _, by omega⟩ ?_
        clear f0 f1 f5 f6 f7 f8 f9 f14 f15 f16 f
        rintro J2 hJ2 _ f u ⟨off, j, P1, rfl, ho, f0, f1, f5, f6, f7, f8, f9, f14, f15, f16, f18, hu', hPn1, hP1, hPl1, hcL, hjo⟩
        subst u
        cases A with
        | false =>
          have hno : ¬ D.any (nm m) := fun e => by have := hA.2 e; cases this
          have hL9 : L = [] := by
            cases L with
            | nil => rfl
            | cons x t =>
              obtain ⟨b, hb, _⟩ := hL.val x (by simp)
              exact absurd (.inr (.inr ⟨x.1, by rw [hb]; rfl⟩)) hno
          simp [go_sem, f14]
          rw [hI1]
          refine ⟨P1, by simp [f0], by simp [f1], by simp [f5], by simp [f6], by simp [f7], by simp [f8], by simp [f9], by simp [f14], by simp [f15], ?_, rfl, hPn1, fun p => ?_, by omega⟩
          · have := hcL.le
            rw [hL9] at this
            have hj0 : j = 0 := by simpa using this
            simp [f16, hL9, hj0]
          · rw [hP1 p]
            constructor
            · rintro ⟨h1, h2⟩
              exact ⟨h1, by omega⟩
            · rintro ⟨h1, h2⟩
              refine ⟨h1, ?_⟩
              by_cases hpm : p.1.val = m
              · obtain ⟨b, hb, _⟩ := h1
                have hpe : p.1 = nm m := Fin.ext (by rw [hmv]; exact hpm)
                exact absurd (.inr (.inr ⟨p.2, by rw [← hpe, hb]; rfl⟩)) hno
              · omega
        | true =>
          by_cases hlt : off < 64
          · have hlt' : (off : Int) < 64 := by omega
            obtain ⟨ov, hov, hovv⟩ : ∃ ov : Off, ov.val = off ∧ ∀ x : Off, x.val = off → x = ov := ⟨⟨off, by omega⟩, rfl, fun x hx => Fin.ext hx⟩
            have hwo : IntKind.u32.wrap ((off : Int) + 1) = ((off + 1 : Nat) : Int) := by simp [IntKind.wrap, IntKind.bits, IntKind.signed]; omega
            have hrs := rset_any hl8 ok hlen (nm m) ov
            have hrl := rlf_any hl8 ok hlen (nm m) ov
            rw [hmv, hov] at hrs hrl
            rw [← s3] at hrs
            rw [s4] at hrl
            simp [go_sem, f14, f18, hlt, hlt', f1, f9]
            refine hrs.mono ?_
            rintro _ w9 ⟨rfl, hw9⟩
            subst w9
            cases hlf : D.lf (nm m, ov) with
            | none =>
              have hmiss := hcL.miss fun x hx e => by
                obtain ⟨b, hb, _⟩ := hL.val x hx
                rw [hovv _ e, hlf] at hb
                cases hb
              simp [go_sem, f18, hwo]
              refine Rnd.intro (64 - (off + 1)) (by omega) (hJ2 _ _ _ ⟨off + 1, j, P1, rfl, by omega, by simp [f0], by simp [f1], by simp [f5], by simp [f6], by simp [f7], by simp [f8], by simp [f9], by simp [f14], by simp [f15], by simp [f16], by simp, rfl, hPn1, fun p => ?_, by omega, hmiss, by omega⟩)
              rw [hP1 p]
              constructor
              · rintro ⟨h1, h2⟩
                exact ⟨h1, by omega⟩
              · rintro ⟨h1, h2⟩
                refine ⟨h1, ?_⟩
                by_cases hpm : p.1.val = m ∧ p.2.val = off
                · obtain ⟨b, hb, _⟩ := h1
                  have hpe : p = (nm m, ov) := Prod.ext (Fin.ext (by rw [hmv]; exact hpm.1)) (hovv _ hpm.2)
                  rw [hpe, hlf] at hb
                  cases hb
                · omega
            | some b =>
              rw [hlf] at hrl
              have hmemL : ∃ x ∈ L, x.1 = ov := by
                have := (hL.mem ov).2 (by rw [hlf]; rfl)
                obtain ⟨x, hx, e⟩ := List.mem_map.1 this
                exact ⟨x, hx, e⟩
              obtain ⟨x, hxL, hxo⟩ := hmemL
              obtain ⟨hat, hcut1⟩ := hcL.hit (hLs.imp fun e => e) hxL (by rw [hxo, hov])
              have hjL : j < L.length := (List.getElem?_eq_some_iff.1 hat).1
              have hjL' : ¬ L.length ≤ j := by omega
              have hjL2 : (j : Int) < L.length := by omega
              have hjL3 : ¬ (L.length : Int) ≤ j := by omega
              obtain ⟨b', hb', hsl, _, _⟩ := hL.val x hxL
              rw [hxo, hlf] at hb'
              cases hb'
              have hstr := hsl.str (P := Tryd.prog) rfl Tryd.underlying44 Tryd.underlying5 Tryd.underlying9
              obtain ⟨bk, of', cp, C, T, fr, hv, hbl, hC, hsz, hcj, hex⟩ := lst_at hLv (by decide) hat rfl
              have d0 : w8.cell? ⟨bk, of' + j * 2, none⟩ = some (.int .u32 off) := (cell_blk hC _).trans ((hcj 0 (by decide)).trans (by simp [enCh, hxo, hov]))
              have d1 : w8.cell? ⟨bk, of' + j * 2 + 1, none⟩ = some x.2.val := (cell_blk hC _).trans ((hcj 1 (by decide)).trans (by simp [enCh]))
              have hwj := S16.wi ((j : Int) + 1) (j + 1) (by omega) (by omega)
              have hwp := S16.wi ((P1.length : Int) + 1) (P1.length + 1) (by omega) (by omega)
              rw [hv] at hLl f15
              simp [go_sem, f18, f1, f9]
              refine hrl.mono ?_
              rintro _ w9 ⟨rfl, hw9⟩
              subst w9
              simp [go_sem, f15, f16, f18, hLl, hjL, hjL', hjL2, hjL3, d0, d1, hstr, hwj]
              have hP1' : ∀ p, p ≠ (nm m, ov) → (p ∈ P1 ↔ Ne D p ∧ (p.1.val < m ∨ (p.1.val = m ∧ p.2.val < off + 1))) := fun p hp => by
                rw [hP1 p]
                constructor
                · rintro ⟨h1, h2⟩
                  exact ⟨h1, by omega⟩
                · rintro ⟨h1, h2⟩
                  refine ⟨h1, ?_⟩
                  by_cases hpm : p.1.val = m ∧ p.2.val = off
                  · exact absurd (Prod.ext (Fin.ext (by rw [hmv]; exact hpm.1)) (hovv _ hpm.2)) hp
                  · omega
              have hnot : (nm m, ov) ∉ P1 := fun e => by
                have := ((hP1 _).1 e).2
                simp only [hmv, hov] at this
                omega
              by_cases hbe : b = []
              · subst hbe
                simp [go_sem, f18, hwo]
                refine Rnd.intro (64 - (off + 1)) (by omega) (hJ2 _ _ _ ⟨off + 1, j + 1, P1, rfl, by omega, by simp [f0], by simp [f1], by simp [f5], by simp [f6], by simp [f7], by simp [f8], by simp [f9], by simp [f14], by simp [f15, hv], by simp, by simp, rfl, hPn1, fun p => ?_, by omega, hcut1, by omega⟩)
                by_cases hp : p = (nm m, ov)
                · subst hp
                  constructor
                  · exact fun e => absurd e hnot
                  · rintro ⟨⟨b, hb, hb2⟩, _⟩
                    rw [hlf] at hb
                    cases hb
                    exact absurd rfl hb2
                · exact hP1' p hp
              · have hbi : b.isEmpty = false := by cases b with | nil => exact absurd rfl hbe | cons _ _ => rfl
                simp [go_sem, hbi, f5, f18, hwo, hwp]
                refine Rnd.intro (64 - (off + 1)) (by omega) (hJ2 _ _ _ ⟨off + 1, j + 1, (nm m, ov) :: P1, rfl, by omega, by simp [f0], by simp [f1], by simp, by simp [f6], by simp [f7], by simp [f8], by simp [f9], by simp [f14], by simp [f15, hv], by simp, by simp, rfl, List.nodup_cons.2 ⟨hnot, hPn1⟩, fun p => ?_, Nat.succ_le_of_lt (Nat.lt_succ_of_le hPl1), hcut1, Nat.succ_le_succ hjo⟩)
                rw [List.mem_cons]
                by_cases hp : p = (nm m, ov)
                · subst hp
                  constructor
                  · exact fun _ => ⟨⟨b, hlf, hbe⟩, .inr ⟨hmv, by rw [hov]; exact Nat.lt_succ_self _⟩⟩
                  · exact fun _ => .inl rfl
                · rw [← hP1' p hp]
                  constructor
                  · rintro (e | e)
                    · exact absurd e hp
                    · exact e
                  · exact .inr
          · have ho64 : off = 64 := by omega
            have hjL : j = L.length := hcL.end fun x hx => by have := hL0 x hx; omega
            have hlt' : ¬ (off : Int) < 64 := by omega
            simp [go_sem, f14, f18, hlt, hlt']
            rw [hI1]
            refine ⟨P1, by simp [f0], by simp [f1], by simp [f5], by simp [f6], by simp [f7], by simp [f8], by simp [f9], by simp [f14], by simp [f15], by simp [f16, hjL], rfl, hPn1, fun p => ?_, by omega⟩
            rw [hP1 p]
            constructor
            · rintro ⟨h1, h2⟩
              exact ⟨h1, by omega⟩
            · rintro ⟨h1, h2⟩
              refine ⟨h1, ?_⟩
              obtain ⟨b, hb, _⟩ := h1
              have := hok.lf p.1 p.2 b hb
              unfold okN at this
              simp only [Bool.and_eq_true, decide_eq_true_eq] at this
              omega
      rw [hI1]
      clear hI1 I1 f0 f1 f5 f6 f7 f8 f9 f14 f15 f16 f
      rintro f u9 ⟨P1, f0, f1, f5, f6, f7, f8, f9, f14, f15, f16, hu9, hPn1, hP1, hPl1⟩
      subst u9
      have hnv' := hnv8.len Tryd.underlying89 3
      have hQn' : Q'.Nodup ∧ (∀ a, a ∈ Q' ↔ (D.ino a).isSome = true ∧ a.val < m + 1) ∧ Q'.length ≤ m + 1 := by
        cases is with
        | true =>
          rw [if_pos rfl] at hQ'
          subst hQ'
          refine ⟨List.nodup_cons.2 ⟨fun e => ?_, hQn⟩, fun a => ?_, by simp only [List.length_cons]; omega⟩
          · have := ((hQ _).1 e).2
            omega
          · rw [List.mem_cons, hQ a]
            by_cases ha : a = nm m
            · subst ha
              simp [his, hmv]
            · have : a.val ≠ m := fun e => ha (Fin.ext (by rw [hmv]; exact e))
              simp only [ha, false_or]
              constructor
              · rintro ⟨h1, h2⟩
                exact ⟨h1, by omega⟩
              · rintro ⟨h1, h2⟩
                exact ⟨h1, by omega⟩
        | false =>
          rw [if_neg (by decide)] at hQ'
          subst hQ'
          refine ⟨hQn, fun a => ?_, by omega⟩
          rw [hQ a]
          constructor
          · rintro ⟨h1, h2⟩
            exact ⟨h1, by omega⟩
          · rintro ⟨h1, h2⟩
            refine ⟨h1, ?_⟩
            by_cases ha : a.val = m
            · have hpe : a = nm m := Fin.ext (by rw [hmv]; exact ha)
              rw [hpe, his] at h1
              cases h1
            · omega
      simp [go_sem, f15, f16, hLl]
      cases A with
      | true =>
        have hin : nm m ∈ xs := (hxs.2 _).2 (hA.1 rfl)
        obtain ⟨hat, hcut1⟩ := hcut.hit (hxs.1.imp fun e => e) hin hmv
        have hkl : k < xs.length := (List.getElem?_eq_some_iff.1 hat).1
        have hkl' : (k : Int) < xs.length := by omega
        have hkl2 : ¬ (xs.length : Int) ≤ k := by omega
        have hkl3 : ¬ xs.length ≤ k := by omega
        have hwk := S16.wi ((k : Int) + 1) (k + 1) (by omega) (by omega)
        obtain ⟨ad, hia, hcl, _⟩ := hnv8.at tyU16o (by simp [S16.ks]) (show (S16.ks xs)[k]? = some (.int .u16 m) by unfold S16.ks; rw [List.getElem?_map, hat]; simp [kU, hmv])
        simp [go_sem, f7, f8, f9, f14, hnv', hkl, hkl', hkl2, hkl3, hia, hcl, hwk, hwm]
        exact Rnd.intro (256 - (m + 1)) (by omega) (hJ _ _ _ ⟨m + 1, k + 1, P1, Q', rfl, by omega, by omega, by simp [f0], by simp [f1], by simp [f5], by simp [f6], by simp [f7], by simp, by simp, hPn1, hP1, hPl1, hQn'.1, hQn'.2.1, hQn'.2.2, hcut1, by omega, cu8⟩)
      | false =>
        have hmiss := hcut.miss fun a ha e => by
          have hpe : a = nm m := Fin.ext (by rw [hmv]; exact e)
          rw [hpe] at ha
          have := hA.2 ((hxs.2 _).1 ha)
          cases this
        simp [go_sem, f9, f14, hwm]
        exact Rnd.intro (256 - (m + 1)) (by omega) (hJ _ _ _ ⟨m + 1, k, P1, Q', rfl, by omega, by omega, by simp [f0], by simp [f1], by simp [f5], by simp [f6], by simp [f7], by simp [f8], by simp, hPn1, hP1, hPl1, hQn'.1, hQn'.2.1, hQn'.2.2, hmiss, by omega, cu8⟩)
    · have hm' : ¬ (m : Int) < 256 := by omega
      have hkx : k = xs.length := hcut.end fun a ha => by have := hxs255 a ha; omega
      simp [go_sem, f9, hm, hm']
      rw [hI]
      refine ⟨P, Q, by simp [f0], by simp [f5], by simp [f6], by simp [f7], by simp [f8, hkx], hPn, fun p => ?_, hQn, fun a => ?_, c0.trans cu⟩
      · rw [hP p]
        constructor
        · exact fun e => e.1
        · intro e
          refine ⟨e, ?_⟩
          obtain ⟨b, hb, _⟩ := e
          have := hok.lf p.1 p.2 b hb
          unfold okN at this
          simp only [Bool.and_eq_true, decide_eq_true_eq] at this
          omega
      · rw [hQ a]
        constructor
        · exact fun e => e.1
        · intro e
          refine ⟨e, ?_⟩
          obtain ⟨x, hx⟩ := Option.isSome_iff_exists.1 e
          have := hok.ino a x hx
          unfold okN at this
          simp only [Bool.and_eq_true, decide_eq_true_eq] at this
          omega
  rw [hI]
  clear hI I
  rintro f u ⟨P, Q, f0, f5, f6, f7, f8, hPn, hP, hQn, hQ, cu⟩
  have hdi := dirty_any (h.ch cu (fun _ _ e => e) fun _ _ e => e) (by omega)
  simp [go_sem, f0]
  refine hdi.mono ?_
  rintro _ w2 ⟨xs', ys', ⟨hx1, hx2, hy1, hy2⟩, rfl, c2⟩
  have e1 : xs'.length = P.length := same_len hx1 hPn fun a => (hx2 a).trans (hP a).symm
  have e2 : ys'.length = Q.length := same_len hy1 hQn fun a => (hy2 a).trans (hQ a).symm
  simp [go_sem, f5, f6, f7, f8, e1, e2, hnl]
  exact hR _ _ ⟨rfl, cu.trans c2⟩
end
end Go.Proofs.YtnefdmbdkljifaaDoor
