/- The law's look at both mirrors: they are the same. No condition but on sizes. -/
import Derived.Test.YtppilgkgnofkpaaGreatDoorMrX
import Derived.Test.YtppilgkgnofkpaaGreatDoorRmF
set_option linter.unusedSimpArgs false
set_option linter.unusedVariables false

/- How many copies are good, as the mirror's law looks. No condition but on sizes. -/
namespace Go.Proofs.YtppilgkgnofkpaaGreatDoor
open Go.RowKit Go.Kin

section
variable {w w' : World} {x p m n i c : Nat} {z : Mz} {s s' : Mr} {O : Nat → Prop}
def fitsTo (n : Nat) (s : Mr) (q : Pt) (k : Nat) : Nat := ((cseq q.a k).filter (s.lgood n q)).length
theorem fitsTo_succ (n : Nat) (s : Mr) (q : Pt) (k : Nat) : fitsTo n s q (k + 1) = if q.a.getD k 0 = 0 then fitsTo n s q k else fitsTo n s q k + (s.lgood n q k).toNat := by
  unfold fitsTo
  rw [cseq_succ]
  split
  · rfl
  · rw [List.filter_append, List.length_append]
    cases h : s.lgood n q k <;> simp [h]
theorem fitsTo_le (n : Nat) (s : Mr) (q : Pt) : ∀ k, fitsTo n s q k ≤ k
  | 0 => by simp [fitsTo, cseq]
  | k + 1 => by
    have := fitsTo_le n s q k
    rw [fitsTo_succ]
    split
    · omega
    · cases s.lgood n q k <;> simp <;> omega
theorem PrAt.dkc (h : PrAt w x p m n z s O) (hi : i < 2) : w.cell? ⟨x, 1 + i, none⟩ = some (.pointer (some ⟨z.d i, 0, none⟩)) := by
  rw [h.cell]
  rcases lt2 hi with rfl | rfl <;> rfl
theorem PrAt.look (h : PrAt w x p m n z s O) (hi : i < 2) (a : Nat) (ha : a < 65536) : Ret Tryz.prog 28 #[.pointer (some ⟨z.d i, 0, none⟩), .int .u16 a] w fun v' w' => LookR w ((s.dk i).look n a) v' w' ∧ Ch Nw w w' := by
  obtain ⟨O', ⟨mv, A, hP, _, _⟩, _, _⟩ := h.mr
  exact ((hP.sd i hi).look a ha).mono fun v w' hh => ⟨hh.1, hh.2.2⟩
theorem PrAt.dead (h : PrAt w x p m n z s O) (hi : i < 2) : Ret Tryz.prog 27 #[.pointer (some ⟨z.d i, 0, none⟩)] w fun v' w' => v' = .bool (s.dk i).dead ∧ w' = w := by
  obtain ⟨O', ⟨mv, A, hP, _, _⟩, _, _⟩ := h.mr
  exact (hP.sd i hi).dead
theorem pt_adr {q : Pt} (ok : PtOk q) {k : Nat} (hk : k < 4) : (pt q)[37 + k]? = some (.int .u16 (adr q k)) := by
  have hl := ok.a
  refine pt_a ok ?_
  unfold adr
  rw [List.getD_eq_getElem?_getD, List.getElem?_eq_getElem (by omega)]
  rfl
set_option maxRecDepth 100000 in
set_option maxHeartbeats 4000000 in
theorem mgood_any (h : PrAt w x p m n z s O) (q : Pt) (ok : PtOk q) (hk : Lk w) :
    Ret Tryz.prog 19 #[.pointer (some ⟨x, 0, none⟩), .agg (pt q)] w fun v' w' => (∃ b : Nat, v' = .tuple #[.int .i64 (s.fits n q), .int .i64 b]) ∧ Ch Nw w w' := by
  refine v_enter Tryz.func19 Tryz.ntmps19 rfl (by simp) fun R' hR => ?_
  have hps := pt_size ok
  have hpa := pt_all ok
  have ca := (Ch.refl Nw w).alloc (.cells (pt q) 58)
  have b0 := hp_alloc w (.cells (pt q) 58)
  obtain ⟨g, hg⟩ : ∃ g, w.heap.size = g := ⟨_, rfl⟩
  simp [go_sem, hps, hpa]
  rw [hg] at b0 ⊢
  revert ca b0
  generalize w.alloc (.cells (pt q) 58) = w1
  intro ca b0
  refine v_loop (fun r f u => ∃ k b : Nat, k ≤ 4 ∧ b ≤ k ∧ r = 4 - k ∧ f 0 = .pointer (some ⟨x, 0, none⟩) ∧ f 3 = .pointer (some ⟨g, 0, none⟩) ∧ f 6 = .int .i64 (fitsTo n s q k) ∧ f 7 = .int .i64 b ∧ f 8 = .int .i64 k ∧ Ch Nw w u ∧ u.heap[g]? = some (.cells (pt q) 58 (0, 0))) 4
    ⟨0, 0, by omega, by omega, rfl, by simp, by simp, by simp [fitsTo, cseq], by simp, by simp, ca, b0⟩ ?_
  rintro J hJ _ f u ⟨k, b, hk4, hbk, rfl, f0, f3, f6, f7, f8, cu, bu⟩
  by_cases hlt : k < 4
  · have hki : (k : Int) < 4 := by omega
    have hcell : u.cell? ⟨g, 37 + k, none⟩ = some (.int .u16 (adr q k)) := (cell_blk bu _).trans (pt_adr ok hlt)
    have hwk : IntKind.i64.wrap ((k : Int) + 1) = ((k + 1 : Nat) : Int) := by rw [IntKind.wrap_i64]; omega
    have hal := adr_lt ok k
    have hst := fitsTo_succ n s q k
    by_cases h0 : adr q k = 0
    · have h0' : q.a.getD k 0 = 0 := h0
      rw [if_pos h0'] at hst
      simp [go_sem, f0, f3, f6, f7, f8, hki, hlt, hcell, h0, hwk]
      exact Rnd.intro (4 - (k + 1)) (by omega) (hJ _ _ _ ⟨k + 1, b, by omega, by omega, rfl, by simp [f0], by simp [f3], by simp [f6, hst], by simp [f7], by simp, cu, bu⟩)
    · have h0' : ¬ q.a.getD k 0 = 0 := h0
      have h0i : ((adr q k : Int) == 0) = false := beq_false_of_ne (by omega)
      rw [if_neg h0'] at hst
      obtain ⟨i, hi⟩ : ∃ i, k / 2 = i := ⟨_, rfl⟩
      have hi2 : i < 2 := by omega
      have hi2i : (i : Int) < 2 := by omega
      have hq : (k : Int).tdiv 2 = (i : Int) := by rw [Int.tdiv_eq_ediv_of_nonneg (by omega)]; omega
      have hq' : IntKind.i64.wrap (i : Int) = (i : Int) := by rw [IntKind.wrap_i64]; omega
      have hu := h.ch cu fun _ _ e => e
      have hud := hu.ch (Ch.refl Nw u).drew fun _ _ e => e
      have xd := hu.dkc hi2
      simp [go_sem, f3, f8, hki, hlt, hcell, h0, h0i]
      refine v_draw' [(0, none), (1, none), (2, none), (3, none), (4, none), (5, none), (6, none), (7, none), (8, none), (9, none), (10, none), (11, some []), (12, none), (13, none), (14, none), (15, none), (16, none)] (by kernel_rfl) (by kernel_rfl) ?_
      simp [go_sem, f0, f3, f8, hki, hlt, hcell, hq, hq', xd, hi2, hi2i]
      refine (hud.look hi2 (adr q k) hal).mono ?_
      rintro v2 w2 ⟨hl, c2⟩
      have c2 : Ch Nw u w2 := Ch.of_drew c2
      have b2 := c2.obj bu id
      have hu2 := hu.ch c2 fun _ _ e => e
      have cu2 := cu.trans c2
      have xd2 := hu2.dkc hi2
      cases hlk : (s.dk i).look n (adr q k) with
      | none =>
        have hlg : s.lgood n q k = false := by unfold Mr.lgood; rw [hi, hlk]; rfl
        rw [hlk] at hl
        have hl : v2 = .tuple #[.slice none 0 0, .bool false] := hl
        subst hl
        rw [hlg] at hst
        simp [go_sem, f0, f8, hq, hq', xd2, hi2, hi2i]
        refine (hu2.dead hi2).mono ?_
        rintro _ w3 ⟨rfl, hw3⟩
        subst w3
        have hwb : IntKind.i64.wrap ((b : Int) + 1) = ((b + 1 : Nat) : Int) := by rw [IntKind.wrap_i64]; omega
        cases hdd : (s.dk i).dead with
        | true =>
          simp [go_sem, f8, hwk]
          exact Rnd.intro (4 - (k + 1)) (by omega) (hJ _ _ _ ⟨k + 1, b, by omega, by omega, rfl, by simp [f0], by simp [f3], by simp [f6, hst], by simp [f7], by simp, cu2, b2⟩)
        | false =>
          simp [go_sem, f7, f8, hwk, hwb]
          exact Rnd.intro (4 - (k + 1)) (by omega) (hJ _ _ _ ⟨k + 1, b + 1, by omega, by omega, rfl, by simp [f0], by simp [f3], by simp [f6, hst], by simp, by simp, cu2, b2⟩)
      | some bb =>
        rw [hlk] at hl
        obtain ⟨u2, rfl, hb5, sl2, fr2, lt2'⟩ := hl
        have hlg : s.lgood n q k = fitB q bb := by unfold Mr.lgood; rw [hi, hlk]; rfl
        simp [go_sem, f3, b2, hps, hpa]
        refine (fits_any q u2 bb w2 ok (by rw [hb5]; exact sl2) lt2' (by omega) ((hk.ch cu id).ch c2 id)).mono ?_
        rintro _ w3 ⟨rfl, c3⟩
        rw [show (decide (bb.length = 512) && decide (digS q bb = q.h)) = fitB q bb from rfl]
        rw [hlg] at hst
        have cu3 := cu2.trans c3
        have b3 := c3.obj b2 id
        have hu3 := hu2.ch c3 fun _ _ e => e
        have xd3 := hu3.dkc hi2
        have hfl := fitsTo_le n s q k
        cases hfb : fitB q bb with
        | true =>
          rw [hfb] at hst
          have hwf : IntKind.i64.wrap ((fitsTo n s q k : Int) + 1) = ((fitsTo n s q (k + 1) : Nat) : Int) := by rw [IntKind.wrap_i64, hst]; simp; omega
          simp [go_sem, f6, f8, hwk, hwf]
          exact Rnd.intro (4 - (k + 1)) (by omega) (hJ _ _ _ ⟨k + 1, b, by omega, by omega, rfl, by simp [f0], by simp [f3], by simp, by simp [f7], by simp, cu3, b3⟩)
        | false =>
          rw [hfb] at hst
          simp [go_sem, f0, f8, hq, hq', xd3, hi2, hi2i]
          refine (hu3.dead hi2).mono ?_
          rintro _ w4 ⟨rfl, hw4⟩
          subst w4
          have hwb : IntKind.i64.wrap ((b : Int) + 1) = ((b + 1 : Nat) : Int) := by rw [IntKind.wrap_i64]; omega
          cases hdd : (s.dk i).dead with
          | true =>
            simp [go_sem, f8, hwk]
            exact Rnd.intro (4 - (k + 1)) (by omega) (hJ _ _ _ ⟨k + 1, b, by omega, by omega, rfl, by simp [f0], by simp [f3], by simp [f6, hst], by simp [f7], by simp, cu3, b3⟩)
          | false =>
            simp [go_sem, f7, f8, hwk, hwb]
            exact Rnd.intro (4 - (k + 1)) (by omega) (hJ _ _ _ ⟨k + 1, b + 1, by omega, by omega, rfl, by simp [f0], by simp [f3], by simp [f6, hst], by simp, by simp, cu3, b3⟩)
  · obtain rfl : k = 4 := by omega
    simp [go_sem, f6, f7, f8]
    exact hR _ _ ⟨⟨b, rfl⟩, cu⟩
end
end Go.Proofs.YtppilgkgnofkpaaGreatDoor

namespace Go.Proofs.YtppilgkgnofkpaaGreatDoor
open Go.RowKit Go.Kin

section
variable {w w' : World} {x p m n mm q i c : Nat} {z : Mz} {d e : Nat → Nat} {s : Mr} {O E : Nat → Prop}
theorem same_hz (w : World) (a b : Nat) : (Op.equalIn 10000 96 (.agg #[.int .i64 a, .int .i64 b]) (.agg #[.int .i64 a, .int .i64 b])).run Tryz.prog w = .ok true w := by
  simp [go_sem]
set_option maxRecDepth 100000 in
set_option maxHeartbeats 8000000 in
theorem same_any (h : PrAt w x p m n z s O) (g : RmAt mm q n d e s w E) (hn : n ≤ 4096) (fine : s.Fine c) (hc : c ≤ 700000) :
    Ret Tryz.prog 18 #[.pointer (some ⟨x, 0, none⟩), .pointer (some ⟨mm, 0, none⟩)] w fun v' w' => v' = .bool true ∧ Ch Nw w w' := by
  refine v_enter Tryz.func18 Tryz.ntmps18 rfl (by simp) fun R' hR => ?_
  have x4 : w.cell? ⟨x, 4, none⟩ = some (.pointer (some ⟨m, 0, none⟩)) := h.cell 4
  have x3 : w.cell? ⟨x, 3, none⟩ = some (.pointer (some ⟨z.sp, 0, none⟩)) := h.cell 3
  obtain ⟨O', hM, _, _⟩ := h.mr
  obtain ⟨mv, hmv, hmo⟩ := g.mo
  have hmok := g.2
  have hml : s.moves.length ≤ 900000 := by have := fine.moves; omega
  obtain ⟨N, hN⟩ : ∃ N, s.moves.length = N := ⟨_, rfl⟩
  obtain ⟨Am, cm, hmvs⟩ : ∃ A c, mv = .slice A N c := by
    rcases hmo.2 with ⟨hv, h0⟩ | ⟨g, cap, cur, hv, _⟩
    · exact ⟨none, 0, by rw [hv, ← hN, h0]⟩
    · exact ⟨_, _, by rw [hv, hN]⟩
  have hlm : ∀ (A : Option Addr) (k c : Nat) w', (Builtin.len_ #[43] 3 #[.slice A k c]).run Tryz.prog w' = .ok (.int .i64 k) w' := fun A k c w' => by simp [Builtin.len_, run_underlying Tryz.underlying43, goInt]
  simp [go_sem, x4]
  refine (mmoves_any hM fine (by omega)).mono ?_
  intro lv w1 hlv
  have c1 := hlv.ch
  have hlo := hlv.own
  obtain ⟨Al, cl, hlvs⟩ : ∃ A c, lv = .slice A N c := by
    rcases hlo.2 with ⟨hv, h0⟩ | ⟨g, cap, cur, hv, _⟩
    · exact ⟨none, 0, by rw [hv, ← hN, h0]⟩
    · exact ⟨_, _, by rw [hv, hN]⟩
  have c8 := c1.cell hmv id
  subst hmvs hlvs
  simp [go_sem, hlm, c8]
  refine v_loop (fun r f u => ∃ k, r = N - k ∧ k ≤ N ∧ f 0 = .pointer (some ⟨x, 0, none⟩) ∧ f 1 = .pointer (some ⟨mm, 0, none⟩) ∧ f 5 = .slice Al N cl ∧ f 6 = .int .i64 k ∧ Ch Nw w1 u) N
    ⟨0, rfl, Nat.zero_le _, by simp, by simp, by simp, by simp, Ch.refl _ _⟩ ?_
  rintro J hJ _ f u ⟨k, rfl, hk, f0, f1, f5, f6, cu⟩
  have cwu := c1.trans cu
  have c8u := cwu.cell hmv id
  by_cases hlt : k < N
  · have hlti : (k : Int) < N := by omega
    have hwk : IntKind.i64.wrap ((k : Int) + 1) = ((k + 1 : Nat) : Int) := by rw [IntKind.wrap_i64]; omega
    obtain ⟨y, hy⟩ : ∃ y, s.moves[k]? = some y := ⟨_, List.getElem?_eq_getElem (by omega)⟩
    have oky := hmok y (List.mem_of_getElem? hy)
    obtain ⟨ga, capa, cura, ea, _, hga, hexa, hsza⟩ := mv_at (s := s) (own_ch hlo cu fun _ _ e => e) hmok hy
    obtain ⟨gb, capb, curb, eb, _, hgb, hexb, hszb⟩ := mv_at (s := s) (own_ch hmo cwu fun _ _ e => e) hmok hy
    rw [hN] at ea eb
    cases ea
    cases eb
    have heq : ∀ w, (Op.equalIn 10000 58 (.agg (pt y)) (.agg (pt y))).run Tryz.prog w = .ok true w := fun w => (eq_pt w oky oky).trans (by simp)
    simp [go_sem, f5, f6, hlm, hlti]
    refine v_draw' [(0, none), (1, none), (2, none), (3, none), (4, none), (5, none), (6, none), (7, none), (8, none), (9, none), (10, none), (11, none)] (by kernel_rfl) (by kernel_rfl) ?_
    simp [go_sem, f1, f5, f6, hlt, hlti, c8u, hga, hgb, hexa, hexb, hsza, hszb, heq, hwk]
    exact Rnd.intro (N - (k + 1)) (by omega) (hJ _ _ _ ⟨k + 1, rfl, by omega, by simp [f0], by simp [f1], by simp [f5], by simp, cu.drew⟩)
  · obtain rfl : k = N := by omega
    simp [go_sem, f5, f6, hlm]
    refine v_loop (fun r f u => ∃ i, r = 2 - i ∧ i ≤ 2 ∧ f 0 = .pointer (some ⟨x, 0, none⟩) ∧ f 1 = .pointer (some ⟨mm, 0, none⟩) ∧ f 7 = .int .i64 i ∧ Ch Nw w u) 2
      ⟨0, rfl, by omega, by simp [f0], by simp [f1], by simp, cwu⟩ ?_
    rintro J2 hJ2 _ f u ⟨i, rfl, hi2, f0, f1, f7, cu⟩
    have hwi : IntKind.i64.wrap ((i : Int) + 1) = ((i + 1 : Nat) : Int) := by rw [IntKind.wrap_i64]; omega
    by_cases hi : i < 2
    · have hii : (i : Int) < 2 := by omega
      have gu := (RmAt.ok ..).ch g cu fun _ _ e => e
      have hu := h.ch cu fun _ _ e => e
      have cd := gu.dcell hi
      have cdw := g.dcell hi
      obtain ⟨B, hB⟩ := g.get hi
      obtain ⟨zz, lm, lb, ls, hP⟩ := hB.dk
      have cdd : u.cell? ⟨d i, 6, none⟩ = some (.bool (s.dk i).dead) := cell_blk (cu.obj hP.blk id) 6
      have cf := gu.fcell hi
      have cm := gu.mcell hi
      obtain ⟨O2, hM2, _, _⟩ := hu.mr
      have x4u := cu.cell x4 id
      have hH : ∃ r : Nat, s.health i = r ∧ r = (if (s.dk i).dead then 2 else if s.found i = 0 then 0 else 1) := ⟨_, rfl, rfl⟩
      obtain ⟨r, hr, hr2⟩ := hH
      obtain ⟨f8, hf8⟩ : ∃ f8 : Nat → Value, f8 = f := ⟨_, rfl⟩
      have P17 : ∀ {Q : Prop}, ((s.dk i).dead = true → Q) → ((s.dk i).dead = false → s.found i = 0 → Q) → ((s.dk i).dead = false → 0 < s.found i → Q) → Q := fun a b c => by
        cases hdd : (s.dk i).dead with
        | true => exact a hdd
        | false => exact (Nat.eq_zero_or_pos (s.found i)).elim (b hdd) (c hdd)
      refine P17 (fun hdd => ?_) (fun hdd hf0 => ?_) fun hdd hf0 => ?_
      case' refine_1 =>
        rw [if_pos hdd] at hr2
        simp [go_sem, f1, f7, hi, hii, cd, cdd, hdd]
      case' refine_2 =>
        rw [if_neg (by rw [hdd]; decide), if_pos hf0] at hr2
        simp [go_sem, f1, f7, hi, hii, cd, cdd, cf, hdd, hf0]
      case' refine_3 =>
        rw [if_neg (by rw [hdd]; decide), if_neg (by omega)] at hr2
        have hf0i : (0 : Int) < s.found i := by omega
        simp [go_sem, f1, f7, hi, hii, cd, cdd, cf, hdd, hf0, hf0i]
      all_goals
        refine v_draw' [(0, none), (1, none), (2, none), (3, none), (4, none), (6, none), (7, none), (8, none), (9, none), (10, none), (11, none), (12, none), (13, none), (14, none), (15, none), (16, none), (17, none), (18, none), (5, some [6, 7, 8, 9, 10, 11, 12, 13, 14, 15, 16, 17, 18]), (19, none), (20, none), (21, none), (22, none), (23, none), (24, none), (25, none), (27, none), (26, some [27]), (28, none), (29, none)] (by kernel_rfl) (by kernel_rfl) ?_
        simp [go_sem, f0, f1, f7, hi, hii, x4u, cf, cm]
        refine (mcount_any (hM2.ch (Ch.refl Nw u).drew fun _ _ e => e) hi).mono ?_
        rintro _ w2 ⟨rfl, c2⟩
        have c2 : Ch Nw u w2 := Ch.of_drew c2
        have cf2 := c2.cell cf id
        have cm2 := c2.cell cm id
        have x42 := c2.cell x4u id
        have cu2 := cu.trans c2
        simp [go_sem, f0, f1, f7, hi, hii, x42, cf2, cm2, same_hz]
        refine (mhealth_any (hM2.ch c2 fun _ _ e => e) hi).mono ?_
        rintro _ w3 ⟨rfl, hw3⟩
        subst w3
        rw [hr, hr2]
        simp [go_sem]
        refine v_loop (fun r f u => ∃ j, r = n - j ∧ j ≤ n ∧ f 0 = .pointer (some ⟨x, 0, none⟩) ∧ f 1 = .pointer (some ⟨mm, 0, none⟩) ∧ f 7 = .int .i64 i ∧ f 9 = .int .i64 j ∧ Ch Nw w u) n
          ⟨0, rfl, Nat.zero_le _, by simp [f0], by simp [f1], by simp [f7], by simp, cu2⟩ ?_
        rintro J3 hJ3 _ f u ⟨j, rfl, hj, f0, f1, f7, f9, cu3⟩
        have cd3 := cu3.cell cdw id
        have cn3 : u.cell? ⟨d i, 0, none⟩ = some (.int .i64 n) := cell_blk (cu3.obj hP.blk id) 0
        by_cases hlt : j < n
        · have hjj : (j : Int) < n := by omega
          have hj16 : j < 65536 := by omega
          have hwj : IntKind.i64.wrap ((j : Int) + 1) = ((j + 1 : Nat) : Int) := by rw [IntKind.wrap_i64]; omega
          have hw16 : IntKind.u16.wrap (j : Int) = j := by simp [IntKind.wrap, IntKind.bits, IntKind.signed]; omega
          have h3 := h.ch cu3 fun _ _ e => e
          have xd3 := h3.dkc hi
          obtain ⟨Es, hSk⟩ := g.sk hi
          obtain ⟨sv, ll, hS⟩ := hSk
          have hge := g.ecell hi
          obtain ⟨As, cs, hsv⟩ := hS.row.lit
          simp [go_sem, f0, f1, f7, f9, hi, hii, cd3, cn3, hjj, xd3, hw16]
          refine (h3.look hi j hj16).mono ?_
          rintro v4 w4 ⟨l4, c4⟩
          have cu4 := cu3.trans c4
          have cd4 := cu4.cell cdw id
          cases hl : (s.dk i).look n j with
          | none =>
            rw [hl] at l4
            simp only [LookR] at l4
            subst l4
            have hst := fun w => (Sl.nil w).str (P := Tryz.prog) (l := []) rfl Tryz.underlying59 Tryz.underlying5 Tryz.underlying9
            simp [go_sem, f0, f1, f7, f9, hi, hii, cd4, hw16]
            refine (look_rk (hP.ch cu4 fun _ _ e => e) j hj16 (by have := fine.cache i hi; omega)).mono ?_
            rintro _ w5 ⟨rfl, c5⟩
            have cu5 := cu4.trans c5
            simp [go_sem, hl, lastV]
            refine v_draw' [(0, none), (1, none), (2, none), (3, none), (4, none), (5, none), (6, none), (7, none), (8, none), (9, none), (10, none), (11, none), (12, none), (13, none), (14, none), (15, none), (16, none), (18, none), (19, none), (20, none), (21, none), (22, none), (23, none), (24, none), (25, none), (26, none), (27, none), (28, none), (17, some [18, 19, 20, 21, 22, 23, 24, 25, 26, 27, 28]), (29, some []), (30, none), (31, none)] (by kernel_rfl) (by kernel_rfl) ?_
            have x35 := cu5.cell x3 id
            have b5 := cu5.cell (cell_blk hS.blk 3) id
            have hS5 : w5.cell? ⟨e i, 3, none⟩ = some sv := b5
            have e5 := cu5.cell hge id
            obtain ⟨O6, hM6, _, _⟩ := (h.ch cu5 fun _ _ e => e).mr
            obtain ⟨mv6, A6, hP6, _, _⟩ := hM6
            have hsp := spis_any (hP6.ch (Ch.refl Nw w5).drew fun _ _ e => e) hi j hj16
            simp [go_sem, f0, f1, f7, f9, hi, hii, x35, e5, hS5, hw16, hst]
            refine hsp.mono ?_
            rintro _ w6 ⟨rfl, hw6⟩
            subst w6
            simp [go_sem, f0, f1, f7, f9, hi, hii, x35, e5, hS5, hw16]
            refine (has_s7 sv ll j w5.drew (hS.row.ch cu5.drew fun _ _ e => e) (by have := hS.nda.len; omega)).mono ?_
            rintro _ w7 ⟨rfl, hw7⟩
            subst w7
            have hmem : (decide (j < n) && s.sick i j) = decide (j ∈ ll) := by rw [hS.mem, decide_eq_true hlt]; rfl
            rw [hmem]
            simp [go_sem, f9, hwj]
            exact Rnd.intro (n - (j + 1)) (by omega) (hJ3 _ _ _ ⟨j + 1, rfl, by omega, by simp [f0], by simp [f1], by simp [f7], by simp, cu5.drew⟩)
          | some b =>
            rw [hl] at l4
            obtain ⟨vx, rfl, hbl, sl4, _⟩ := l4
            simp [go_sem, f0, f1, f7, f9, hi, hii, cd4, hw16]
            refine (look_rk (hP.ch cu4 fun _ _ e => e) j hj16 (by have := fine.cache i hi; omega)).mono ?_
            rintro _ w5 ⟨rfl, c5⟩
            have cu5 := cu4.trans c5
            have hst := (sl4.ch c5.drew fun _ _ e => e).str (P := Tryz.prog) hbl Tryz.underlying59 Tryz.underlying5 Tryz.underlying9
            have hst5 := (sl4.ch c5 fun _ _ e => e).str (P := Tryz.prog) hbl Tryz.underlying59 Tryz.underlying5 Tryz.underlying9
            simp [go_sem, hl, lastV]
            refine v_draw' [(0, none), (1, none), (2, none), (3, none), (4, none), (5, none), (6, none), (7, none), (8, none), (9, none), (10, none), (11, none), (12, none), (13, none), (14, none), (15, none), (16, none), (18, none), (19, none), (20, none), (21, none), (22, none), (23, none), (24, none), (25, none), (26, none), (27, none), (28, none), (17, some [18, 19, 20, 21, 22, 23, 24, 25, 26, 27, 28]), (29, some []), (30, none), (31, none)] (by kernel_rfl) (by kernel_rfl) ?_
            have x35 := cu5.cell x3 id
            have b5 := cu5.cell (cell_blk hS.blk 3) id
            have hS5 : w5.cell? ⟨e i, 3, none⟩ = some sv := b5
            have e5 := cu5.cell hge id
            obtain ⟨O6, hM6, _, _⟩ := (h.ch cu5 fun _ _ e => e).mr
            obtain ⟨mv6, A6, hP6, _, _⟩ := hM6
            have hsp := spis_any (hP6.ch (Ch.refl Nw w5).drew fun _ _ e => e) hi j hj16
            simp [go_sem, f0, f1, f7, f9, hi, hii, x35, e5, hS5, hw16, hst, hst5]
            refine hsp.mono ?_
            rintro _ w6 ⟨rfl, hw6⟩
            subst w6
            simp [go_sem, f0, f1, f7, f9, hi, hii, x35, e5, hS5, hw16]
            refine (has_s7 sv ll j w5.drew (hS.row.ch cu5.drew fun _ _ e => e) (by have := hS.nda.len; omega)).mono ?_
            rintro _ w7 ⟨rfl, hw7⟩
            subst w7
            have hmem : (decide (j < n) && s.sick i j) = decide (j ∈ ll) := by rw [hS.mem, decide_eq_true hlt]; rfl
            rw [hmem]
            simp [go_sem, f9, hwj]
            exact Rnd.intro (n - (j + 1)) (by omega) (hJ3 _ _ _ ⟨j + 1, rfl, by omega, by simp [f0], by simp [f1], by simp [f7], by simp, cu5.drew⟩)
        · obtain rfl : j = n := by omega
          simp [go_sem, f0, f1, f7, f9, hi, hii, cd3, cn3, hwi]
          exact Rnd.intro (2 - (i + 1)) (by omega) (hJ2 _ _ _ ⟨i + 1, rfl, by omega, by simp [f0], by simp [f1], by simp, cu3⟩)
    · obtain rfl : i = 2 := by omega
      simp [go_sem, f7]
      exact hR _ _ ⟨rfl, cu⟩
end
end Go.Proofs.YtppilgkgnofkpaaGreatDoor
