/- How many copies are good, as the mirror's law looks. No condition but on sizes. -/
import Derived.Test.YtppilgkgnofkpaaGreatDoorMrN
set_option linter.unusedSimpArgs false
set_option linter.unusedVariables false

namespace Go.Proofs.YtppilgkgnofkpaaGreatDoor
open Go.RowKit Go.Kin

section
variable {w w' : World} {x p m n i c : Nat} {z : Mz} {s s' : Mr} {O : Nat → Prop}
def fitsTo (n : Nat) (s : Mr) (q : Pt) (k : Nat) : Nat := ((cseq q.a k).filter (s.lgood n q)).length
theorem fitsTo_succ (n : Nat) (s : Mr) (q : Pt) (k : Nat) : fitsTo n s q (k + 1) = if q.a.getD k 0 = 0 then fitsTo n s q k else fitsTo n s q k + (s.lgood n q k).toNat := by
  unfold fitsTo
  rw [cseq_succ]
  split
  · rfl
  · rw [List.filter_append, List.length_append]
    cases h : s.lgood n q k <;> simp [h]
theorem fitsTo_le (n : Nat) (s : Mr) (q : Pt) : ∀ k, fitsTo n s q k ≤ k
  | 0 => by simp [fitsTo, cseq]
  | k + 1 => by
    have := fitsTo_le n s q k
    rw [fitsTo_succ]
    split
    · omega
    · cases s.lgood n q k <;> simp <;> omega
theorem PrAt.dkc (h : PrAt w x p m n z s O) (hi : i < 2) : w.cell? ⟨x, 1 + i, none⟩ = some (.pointer (some ⟨z.d i, 0, none⟩)) := by
  rw [h.cell]
  rcases lt2 hi with rfl | rfl <;> rfl
theorem PrAt.look (h : PrAt w x p m n z s O) (hi : i < 2) (a : Nat) (ha : a < 65536) : Ret Tryz.prog 28 #[.pointer (some ⟨z.d i, 0, none⟩), .int .u16 a] w fun v' w' => LookR w ((s.dk i).look n a) v' w' ∧ Ch Nw w w' := by
  obtain ⟨O', ⟨mv, A, hP, _, _⟩, _, _⟩ := h.mr
  exact ((hP.sd i hi).look a ha).mono fun v w' hh => ⟨hh.1, hh.2.2⟩
theorem PrAt.dead (h : PrAt w x p m n z s O) (hi : i < 2) : Ret Tryz.prog 27 #[.pointer (some ⟨z.d i, 0, none⟩)] w fun v' w' => v' = .bool (s.dk i).dead ∧ w' = w := by
  obtain ⟨O', ⟨mv, A, hP, _, _⟩, _, _⟩ := h.mr
  exact (hP.sd i hi).dead
theorem pt_adr {q : Pt} (ok : PtOk q) {k : Nat} (hk : k < 4) : (pt q)[37 + k]? = some (.int .u16 (adr q k)) := by
  have hl := ok.a
  refine pt_a ok ?_
  unfold adr
  rw [List.getD_eq_getElem?_getD, List.getElem?_eq_getElem (by omega)]
  rfl
set_option maxRecDepth 100000 in
set_option maxHeartbeats 4000000 in
theorem mgood_any (h : PrAt w x p m n z s O) (q : Pt) (ok : PtOk q) (hk : Lk w) :
    Ret Tryz.prog 19 #[.pointer (some ⟨x, 0, none⟩), .agg (pt q)] w fun v' w' => (∃ b : Nat, v' = .tuple #[.int .i64 (s.fits n q), .int .i64 b]) ∧ Ch Nw w w' := by
  refine v_enter Tryz.func19 Tryz.ntmps19 rfl (by simp) fun R' hR => ?_
  have hps := pt_size ok
  have hpa := pt_all ok
  have ca := (Ch.refl Nw w).alloc (.cells (pt q) 58)
  have b0 := hp_alloc w (.cells (pt q) 58)
  obtain ⟨g, hg⟩ : ∃ g, w.heap.size = g := ⟨_, rfl⟩
  simp [go_sem, hps, hpa]
  rw [hg] at b0 ⊢
  revert ca b0
  generalize w.alloc (.cells (pt q) 58) = w1
  intro ca b0
  refine v_loop (fun r f u => ∃ k b : Nat, k ≤ 4 ∧ b ≤ k ∧ r = 4 - k ∧ f 0 = .pointer (some ⟨x, 0, none⟩) ∧ f 3 = .pointer (some ⟨g, 0, none⟩) ∧ f 6 = .int .i64 (fitsTo n s q k) ∧ f 7 = .int .i64 b ∧ f 8 = .int .i64 k ∧ Ch Nw w u ∧ u.heap[g]? = some (.cells (pt q) 58 (0, 0))) 4
    ⟨0, 0, by omega, by omega, rfl, by simp, by simp, by simp [fitsTo, cseq], by simp, by simp, ca, b0⟩ ?_
  rintro J hJ _ f u ⟨k, b, hk4, hbk, rfl, f0, f3, f6, f7, f8, cu, bu⟩
  by_cases hlt : k < 4
  · have hki : (k : Int) < 4 := by omega
    have hcell : u.cell? ⟨g, 37 + k, none⟩ = some (.int .u16 (adr q k)) := (cell_blk bu _).trans (pt_adr ok hlt)
    have hwk : IntKind.i64.wrap ((k : Int) + 1) = ((k + 1 : Nat) : Int) := by rw [IntKind.wrap_i64]; omega
    have hal := adr_lt ok k
    have hst := fitsTo_succ n s q k
    by_cases h0 : adr q k = 0
    · have h0' : q.a.getD k 0 = 0 := h0
      rw [if_pos h0'] at hst
      simp [go_sem, f0, f3, f6, f7, f8, hki, hlt, hcell, h0, hwk]
      exact Rnd.intro (4 - (k + 1)) (by omega) (hJ _ _ _ ⟨k + 1, b, by omega, by omega, rfl, by simp [f0], by simp [f3], by simp [f6, hst], by simp [f7], by simp, cu, bu⟩)
    · have h0' : ¬ q.a.getD k 0 = 0 := h0
      have h0i : ((adr q k : Int) == 0) = false := beq_false_of_ne (by omega)
      rw [if_neg h0'] at hst
      obtain ⟨i, hi⟩ : ∃ i, k / 2 = i := ⟨_, rfl⟩
      have hi2 : i < 2 := by omega
      have hi2i : (i : Int) < 2 := by omega
      have hq : (k : Int).tdiv 2 = (i : Int) := by rw [Int.tdiv_eq_ediv_of_nonneg (by omega)]; omega
      have hq' : IntKind.i64.wrap (i : Int) = (i : Int) := by rw [IntKind.wrap_i64]; omega
      have hu := h.ch cu fun _ _ e => e
      have hud := hu.ch (Ch.refl Nw u).drew fun _ _ e => e
      have xd := hu.dkc hi2
      simp [go_sem, f3, f8, hki, hlt, hcell, h0, h0i]
      refine v_draw' [(0, none), (1, none), (2, none), (3, none), (4, none), (5, none), (6, none), (7, none), (8, none), (9, none), (10, none), (11, some []), (12, none), (13, none), (14, none), (15, none), (16, none)] (by kernel_rfl) (by kernel_rfl) ?_
      simp [go_sem, f0, f3, f8, hki, hlt, hcell, hq, hq', xd, hi2, hi2i]
      refine (hud.look hi2 (adr q k) hal).mono ?_
      rintro v2 w2 ⟨hl, c2⟩
      have c2 : Ch Nw u w2 := Ch.of_drew c2
      have b2 := c2.obj bu id
      have hu2 := hu.ch c2 fun _ _ e => e
      have cu2 := cu.trans c2
      have xd2 := hu2.dkc hi2
      cases hlk : (s.dk i).look n (adr q k) with
      | none =>
        have hlg : s.lgood n q k = false := by unfold Mr.lgood; rw [hi, hlk]; rfl
        rw [hlk] at hl
        have hl : v2 = .tuple #[.slice none 0 0, .bool false] := hl
        subst hl
        rw [hlg] at hst
        simp [go_sem, f0, f8, hq, hq', xd2, hi2, hi2i]
        refine (hu2.dead hi2).mono ?_
        rintro _ w3 ⟨rfl, hw3⟩
        subst w3
        have hwb : IntKind.i64.wrap ((b : Int) + 1) = ((b + 1 : Nat) : Int) := by rw [IntKind.wrap_i64]; omega
        cases hdd : (s.dk i).dead with
        | true =>
          simp [go_sem, f8, hwk]
          exact Rnd.intro (4 - (k + 1)) (by omega) (hJ _ _ _ ⟨k + 1, b, by omega, by omega, rfl, by simp [f0], by simp [f3], by simp [f6, hst], by simp [f7], by simp, cu2, b2⟩)
        | false =>
          simp [go_sem, f7, f8, hwk, hwb]
          exact Rnd.intro (4 - (k + 1)) (by omega) (hJ _ _ _ ⟨k + 1, b + 1, by omega, by omega, rfl, by simp [f0], by simp [f3], by simp [f6, hst], by simp, by simp, cu2, b2⟩)
      | some bb =>
        rw [hlk] at hl
        obtain ⟨u2, rfl, hb5, sl2, fr2, lt2'⟩ := hl
        have hlg : s.lgood n q k = fitB q bb := by unfold Mr.lgood; rw [hi, hlk]; rfl
        simp [go_sem, f3, b2, hps, hpa]
        refine (fits_any q u2 bb w2 ok (by rw [hb5]; exact sl2) lt2' (by omega) ((hk.ch cu id).ch c2 id)).mono ?_
        rintro _ w3 ⟨rfl, c3⟩
        rw [show (decide (bb.length = 512) && decide (digS q bb = q.h)) = fitB q bb from rfl]
        rw [hlg] at hst
        have cu3 := cu2.trans c3
        have b3 := c3.obj b2 id
        have hu3 := hu2.ch c3 fun _ _ e => e
        have xd3 := hu3.dkc hi2
        have hfl := fitsTo_le n s q k
        cases hfb : fitB q bb with
        | true =>
          rw [hfb] at hst
          have hwf : IntKind.i64.wrap ((fitsTo n s q k : Int) + 1) = ((fitsTo n s q (k + 1) : Nat) : Int) := by rw [IntKind.wrap_i64, hst]; simp; omega
          simp [go_sem, f6, f8, hwk, hwf]
          exact Rnd.intro (4 - (k + 1)) (by omega) (hJ _ _ _ ⟨k + 1, b, by omega, by omega, rfl, by simp [f0], by simp [f3], by simp, by simp [f7], by simp, cu3, b3⟩)
        | false =>
          rw [hfb] at hst
          simp [go_sem, f0, f8, hq, hq', xd3, hi2, hi2i]
          refine (hu3.dead hi2).mono ?_
          rintro _ w4 ⟨rfl, hw4⟩
          subst w4
          have hwb : IntKind.i64.wrap ((b : Int) + 1) = ((b + 1 : Nat) : Int) := by rw [IntKind.wrap_i64]; omega
          cases hdd : (s.dk i).dead with
          | true =>
            simp [go_sem, f8, hwk]
            exact Rnd.intro (4 - (k + 1)) (by omega) (hJ _ _ _ ⟨k + 1, b, by omega, by omega, rfl, by simp [f0], by simp [f3], by simp [f6, hst], by simp [f7], by simp, cu3, b3⟩)
          | false =>
            simp [go_sem, f7, f8, hwk, hwb]
            exact Rnd.intro (4 - (k + 1)) (by omega) (hJ _ _ _ ⟨k + 1, b + 1, by omega, by omega, rfl, by simp [f0], by simp [f3], by simp [f6, hst], by simp, by simp, cu3, b3⟩)
  · obtain rfl : k = 4 := by omega
    simp [go_sem, f6, f7, f8]
    exact hR _ _ ⟨⟨b, rfl⟩, cu⟩
end
end Go.Proofs.YtppilgkgnofkpaaGreatDoor
