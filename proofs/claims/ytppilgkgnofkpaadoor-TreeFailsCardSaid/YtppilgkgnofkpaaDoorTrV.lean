/- The tree law's turned: just the nodes made that are new, just what is gone old. Conditions: the values are of their types, the shelf lies in the world. -/
import Derived.Test.YtppilgkgnofkpaaDoorTrU
set_option linter.unusedSimpArgs false
set_option linter.unusedVariables false

namespace Go.Proofs.YtppilgkgnofkpaaDoor
open Go.RowKit Go.Kin

/-- groups with a leaf -/
def grpN (c : List Pt) : Nat := (List.range 8).countP fun g => decide (slT g c ≠ ndz)
theorem slT_nz {c : List Pt} {g : Nat} (hc : c.length = 64) (hg : g < 8) : (slT g c ≠ ndz) ↔ ∃ k, k < 8 ∧ c.getD (8 * g + k) ptz ≠ ptz := by
  constructor
  · intro h
    apply Classical.byContradiction
    intro hn
    apply h
    apply ext_getD (by rw [slT_len hc hg]; rfl)
    intro k hk
    rw [slT_len hc hg] at hk
    rw [slT_get hk, ndz_get]
    apply Classical.byContradiction
    intro e
    exact hn ⟨k, hk, e⟩
  · rintro ⟨k, hk, h⟩ e
    rw [← slT_get hk, e, ndz_get] at h
    exact h rfl
theorem TreeP.len {bl : List (List UInt8)} {root : Pt} {top c : List Pt} (t : TreeP bl root top c) : (nodesOf root top).length = if grpN c = 0 then 0 else grpN c + 1 := by
  have h1 := nodes_count t.rs.okn.len t.rs.iff.1 fun _ => true
  have e1 : (nodesOf root top).countP (fun _ => true) = (nodesOf root top).length := by simp
  rw [e1] at h1
  have e2 : ((List.range 8).countP fun g => decide (top.getD g ptz ≠ ptz) && true) = grpN c := countP_same fun g hg => by
    have := (t.gr g hg).rs.iff
    by_cases h : top.getD g ptz = ptz
    · rw [decide_eq_false (not_not_intro h), decide_eq_false (not_not_intro (this.1 h))]; rfl
    · rw [decide_eq_true h, decide_eq_true (show slT g c ≠ ndz from fun e => h (this.2 e))]; rfl
  rw [h1, e2]
  by_cases hr : root = ptz
  · have ht := t.rs.iff.1 hr
    have hz : grpN c = 0 := by
      rw [← e2, ht, List.countP_eq_zero]
      intro g _
      rw [ndz_get]
      simp
    rw [hz, if_neg (fun e => e.1 hr), if_pos rfl]
  · have hz : grpN c ≠ 0 := by
      intro hz
      apply hr
      apply t.rs.iff.2
      apply ext_getD (by rw [t.rs.okn.len]; rfl)
      intro g hg
      rw [t.rs.okn.len] at hg
      rw [ndz_get]
      rw [← e2, List.countP_eq_zero] at hz
      have := hz g (List.mem_range.2 hg)
      simpa using this
    rw [if_pos ⟨hr, rfl⟩, if_neg hz]
    omega
section
variable {g : Nat} {W0 : World} {Bk : Nat → Prop} {s : Shf} {w : World} {O : Nat → Prop}
/-- what is read of a shelf -/
theorem ShH.reads (hS : ShH g W0 Bk s w O) : ∃ vB vD vM vG vR, w.heap[g]? = some (.cells #[vB, vD, vM, vG, .int .i64 s.room, vR] 62 (0, 0)) ∧ PtLst w vM s.made ∧ PtLst w vG s.gone ∧ PtLst w vR s.red ∧ (∀ k, vM.ownBlock = some k ∨ vG.ownBlock = some k ∨ vR.ownBlock = some k → O k) ∧ O g ∧ ShGood s := by
  obtain ⟨vB, vD, vM, vG, vR, lB, hgd, hlB, hL⟩ := hS
  obtain ⟨O0, h0, i0⟩ := hL.get (i := 0) rfl
  obtain ⟨O2, h2, i2⟩ := hL.get (i := 2) rfl
  obtain ⟨O3, h3, i3⟩ := hL.get (i := 3) rfl
  obtain ⟨O4, h4, i4⟩ := hL.get (i := 4) rfl
  refine ⟨vB, vD, vM, vG, vR, h0.1, ptLst_own h2.1 hgd.made, ptLst_own h3.1 hgd.gone, ptLst_own h4.1 hgd.red, ?_, i0 _ h0.2.1, hgd⟩
  rintro k (hk | hk | hk)
  · exact i2 k (h2.2.1 k hk)
  · exact i3 k (h3.2.1 k hk)
  · exact i4 k (h4.2.1 k hk)
set_option maxRecDepth 100000 in
set_option maxHeartbeats 4000000 in
theorem tturned_any (hS : ShH g W0 Bk s w O) {was now h c : List Pt} (F : SetF s was now h c) (hn : now.length = if grpN c = 0 then 0 else grpN c + 1) (vw vn vh vc : Value) (hw : PtLst w vw was) (hnw : PtLst w vn now) (hh : PtLst w vh h) (hc : PtLst w vc c)
    (okw : ∀ p ∈ was, PtOk p) (okn : ∀ p ∈ now, PtOk p) (okh : ∀ p ∈ h, PtOk p) (okc : ∀ p ∈ c, PtOk p) (lh : h.length = 64) (lc : c.length = 64) (lw : was.length ≤ 9) (ln : now.length ≤ 9) :
    Ret Tryd.prog 24 #[.pointer (some ⟨g, 0, none⟩), vw, vn, vh, vc] w fun v' w' => v' = .bool true ∧ Ch Nw w w' := by
  refine v_enter Tryd.func24 Tryd.ntmps24 rfl (by simp) fun R' hR => ?_
  obtain ⟨vB, vD, vM, vG, vR, hb, hM, hG, _, hMG, _, hgd⟩ := hS.reads
  have lnM := hM.len Tryd.underlying48 3
  have lnG := hG.len Tryd.underlying48 3
  have lnw := hw.len Tryd.underlying48 3
  have lnn := hnw.len Tryd.underlying48 3
  obtain ⟨AM, cM, hvM, _⟩ := id hM
  obtain ⟨AG, cG, hvG, _⟩ := id hG
  have kM : w.cell? ⟨g, 2, none⟩ = some (.slice AM s.made.length cM) := by rw [← hvM]; exact cell_blk hb 2
  have kG : w.cell? ⟨g, 3, none⟩ = some (.slice AG s.gone.length cG) := by rw [← hvG]; exact cell_blk hb 3
  rw [hvM] at lnM hM
  rw [hvG] at lnG hG
  simp [go_sem]
  refine v_loop (fun r f u => ∃ (i : Nat), r = 8 - i ∧ i ≤ 8 ∧ f 0 = .pointer (some ⟨g, 0, none⟩) ∧ f 1 = vw ∧ f 2 = vn ∧ f 3 = vh ∧ f 4 = vc ∧ f 11 = .int .i64 ((List.range i).countP fun g => decide (slT g c ≠ ndz)) ∧ f 12 = .int .i64 0 ∧ f 13 = .int .i64 i ∧ w = u) 8
    ⟨0, rfl, by omega, by simp, by simp, by simp, by simp, by simp, by simp, by simp, by simp, rfl⟩ ?_
  rintro J hJ _ f u ⟨i, rfl, hi, f0, f1, f2, f3, f4, f11, f12, f13, rfl⟩
  by_cases hlt : i < 8
  · have hii : (i : Int) < 8 := by omega
    have hwi : IntKind.i64.wrap ((i : Int) + 1) = ((i + 1 : Nat) : Int) := by rw [IntKind.wrap_i64]; omega
    simp [go_sem, f13, hii]
    refine v_loop (fun r f u' => ∃ (k : Nat), r = 8 - k ∧ k ≤ 8 ∧ f 0 = .pointer (some ⟨g, 0, none⟩) ∧ f 1 = vw ∧ f 2 = vn ∧ f 3 = vh ∧ f 4 = vc ∧ f 11 = .int .i64 ((List.range i).countP fun g => decide (slT g c ≠ ndz)) ∧ f 12 = .int .i64 0 ∧ f 13 = .int .i64 i ∧ f 14 = .bool ((List.range k).any fun k => decide (c.getD (8 * i + k) ptz ≠ ptz)) ∧ f 15 = .int .i64 k ∧ w = u') 8
      ⟨0, rfl, by omega, by simp [f0], by simp [f1], by simp [f2], by simp [f3], by simp [f4], by simp [f11], by simp [f12], by simp [f13], by simp, by simp, rfl⟩ ?_
    rintro J2 hJ2 _ f u' ⟨k, rfl, hk, f0, f1, f2, f3, f4, f11, f12, f13, f14, f15, rfl⟩
    by_cases hkl : k < 8
    · have hki : (k : Int) < 8 := by omega
      have hwk : IntKind.i64.wrap ((k : Int) + 1) = ((k + 1 : Nat) : Int) := by rw [IntKind.wrap_i64]; omega
      have hst : (List.range (k + 1)).any (fun k => decide (c.getD (8 * i + k) ptz ≠ ptz)) = ((List.range k).any (fun k => decide (c.getD (8 * i + k) ptz ≠ ptz)) || decide (c.getD (8 * i + k) ptz ≠ ptz)) := by
        rw [List.range_succ, List.any_append, List.any_cons, List.any_nil, Bool.or_false]
      cases hb : (List.range k).any (fun k => decide (c.getD (8 * i + k) ptz ≠ ptz)) with
      | true =>
        rw [hb] at f14 hst
        have hst : (List.range (k + 1)).any (fun k => decide (c.getD (8 * i + k) ptz ≠ ptz)) = true := by rw [hst]; rfl
        simp [go_sem, f15, hki, f14, hwk]
        exact Rnd.intro (8 - (k + 1)) (by omega) (hJ2 _ _ _ ⟨k + 1, rfl, by omega, by simp [f0], by simp [f1], by simp [f2], by simp [f3], by simp [f4], by simp [f11], by simp [f12], by simp [f13], by rw [hst]; simp, by simp, rfl⟩)
      | false =>
        rw [hb] at f14 hst
        obtain ⟨j, hj⟩ : ∃ j, 8 * i + k = j := ⟨_, rfl⟩
        rw [hj] at hst
        obtain ⟨x, hx⟩ : ∃ x, c[j]? = some x := ⟨_, List.getElem?_eq_getElem (by omega)⟩
        have hxd : c.getD j ptz = x := by rw [List.getD_eq_getElem?_getD, hx]; rfl
        rw [hxd] at hst
        have okx := okc x (List.mem_of_getElem? hx)
        have hxs := pt_size okx
        have hxa := pt_all okx
        obtain ⟨b, of', cc, cs, T, fr, hve, hbw, hex, hcs⟩ := hc.elem (by decide) (fun q hq => pt_size (okc q hq)) hx
        rw [hve] at f4
        have heqz : ∀ w, (Op.equalIn 10000 28 (.agg (pt x)) (.agg (pt ptz))).run Tryd.prog w = .ok (decide (x = ptz)) w := fun w => eq_pt w okx ptz_ok
        have hw8 : IntKind.i64.wrap (8 * (i : Int)) = 8 * (i : Int) := by rw [IntKind.wrap_i64]; omega
        have hw8k : IntKind.i64.wrap (8 * (i : Int) + k) = (j : Int) := by rw [IntKind.wrap_i64]; omega
        have hlt64 : j < c.length := by omega
        simp [go_sem, f15, hki, f14, f13, f4, hw8, hw8k, hlt64, hbw, hex, hcs, hxs, hxa, bld_pt0, heqz, hwk]
        exact Rnd.intro (8 - (k + 1)) (by omega) (hJ2 _ _ _ ⟨k + 1, rfl, by omega, by simp [f0], by simp [f1], by simp [f2], by simp [f3], by simp [f4, hve], by simp [f11], by simp [f12], by simp [f13], by rw [hst]; simp, by simp, rfl⟩)
    · obtain rfl : k = 8 := by omega
      have hnz : (List.range 8).any (fun k => decide (c.getD (8 * i + k) ptz ≠ ptz)) = decide (slT i c ≠ ndz) := by
        rw [Bool.eq_iff_iff, List.any_eq_true, decide_eq_true_iff, slT_nz lc hlt]
        constructor
        · rintro ⟨k, h1, h2⟩
          exact ⟨k, List.mem_range.1 h1, of_decide_eq_true h2⟩
        · rintro ⟨k, h1, h2⟩
          exact ⟨k, List.mem_range.2 h1, decide_eq_true h2⟩
      rw [hnz] at f14
      have hcs : (List.range (i + 1)).countP (fun g => decide (slT g c ≠ ndz)) = (List.range i).countP (fun g => decide (slT g c ≠ ndz)) + if slT i c ≠ ndz then 1 else 0 := by
        rw [List.range_succ, List.countP_append, List.countP_singleton]
        simp only [decide_eq_true_eq]
      have hle : (List.range i).countP (fun g => decide (slT g c ≠ ndz)) ≤ i := Nat.le_trans List.countP_le_length (by simp)
      obtain ⟨N, hN⟩ : ∃ N, (List.range i).countP (fun g => decide (slT g c ≠ ndz)) = N := ⟨_, rfl⟩
      rw [hN] at f11 hcs hle
      have hwN : IntKind.i64.wrap ((N : Int) + 1) = ((N + 1 : Nat) : Int) := by rw [IntKind.wrap_i64]; omega
      by_cases hz : slT i c = ndz
      · rw [if_neg (fun e => e hz), Nat.add_zero] at hcs
        rw [decide_eq_false (fun e => e hz)] at f14
        simp [go_sem, f15, f14, f13, hwi]
        exact Rnd.intro (8 - (i + 1)) (by omega) (hJ _ _ _ ⟨i + 1, rfl, by omega, by simp [f0], by simp [f1], by simp [f2], by simp [f3], by simp [f4], by rw [hcs]; simp [f11], by simp [f12], by simp, rfl⟩)
      · rw [if_pos hz] at hcs
        rw [decide_eq_true hz] at f14
        simp [go_sem, f15, f14, f13, f11, hwi, hwN]
        exact Rnd.intro (8 - (i + 1)) (by omega) (hJ _ _ _ ⟨i + 1, rfl, by omega, by simp [f0], by simp [f1], by simp [f2], by simp [f3], by simp [f4], by rw [hcs]; simp, by simp [f12], by simp, rfl⟩)
  · obtain rfl : i = 8 := by omega
    have f11 : f 11 = .int .i64 (grpN c) := f11
    obtain ⟨N, hN⟩ : ∃ N, grpN c = N := ⟨_, rfl⟩
    rw [hN] at f11 hn
    have hN8 : N ≤ 8 := by rw [← hN]; exact Nat.le_trans List.countP_le_length (by simp)
    have hwN : IntKind.i64.wrap ((N : Int) + 1) = (N : Int) + 1 := by rw [IntKind.wrap_i64]; omega
    have hn9 : now.length ≤ 1000000000 := by omega
    have hw9 : was.length ≤ 1000000000 := by omega
    have hm9 : s.made.length ≤ 1000000000 := by rw [← F.nc]; exact Nat.le_trans List.countP_le_length hn9
    have hg9 : s.gone.length ≤ 1000000000 := by
      rw [← F.gc]
      have h1 : was.countP (fun x => !now.contains x) ≤ was.length := List.countP_le_length
      have h2 : (List.range 64).countP (dfT h c) ≤ 64 := Nat.le_trans List.countP_le_length (by simp)
      omega
    by_cases hN0 : N = 0
    case' pos =>
      rw [if_pos hN0] at hn
      simp [go_sem, f13, f11, f2, hN0, lnn, hn]
    case' neg =>
      rw [if_neg hN0] at hn
      have hNi : (0 : Int) < N := by omega
      have hN0i : ((N : Int) == 0) = false := beq_false_of_ne (by omega)
      have hni : (now.length : Int) = (N : Int) + 1 := by omega
      have hNn : 0 < N := by omega
      simp [go_sem, f13, f11, f2, hNi, hNn, hN0, hN0i, lnn, hni, hwN]
    all_goals
      clear hJ f11 f13
      refine v_loop (fun r f u => ∃ (i : Nat), r = now.length - i ∧ i ≤ now.length ∧ f 0 = .pointer (some ⟨g, 0, none⟩) ∧ f 1 = vw ∧ f 2 = vn ∧ f 3 = vh ∧ f 4 = vc ∧ f 12 = .int .i64 ((now.take i).countP fun x => !was.contains x) ∧ f 16 = .int .i64 i ∧ Ch Nw w u) now.length
        ⟨0, rfl, by omega, by simp [f0], by simp [f1], by simp [f2], by simp [f3], by simp [f4], by simp [f12], by simp, Ch.refl _ _⟩ ?_
      clear f0 f1 f2 f3 f4 f12
      rintro J hJ _ f u ⟨i, rfl, hi, f0, f1, f2, f3, f4, f12, f16, cu⟩
      by_cases hlt : i < now.length
      · have hii : (i : Int) < now.length := by omega
        have hwi : IntKind.i64.wrap ((i : Int) + 1) = ((i + 1 : Nat) : Int) := by rw [IntKind.wrap_i64]; omega
        obtain ⟨x, hx⟩ : ∃ x, now[i]? = some x := ⟨_, List.getElem?_eq_getElem hlt⟩
        have hxm := List.mem_of_getElem? hx
        have okx := okn x hxm
        have hxs := pt_size okx
        have hxa := pt_all okx
        obtain ⟨b, of', cc, cs, T, fr, hve, hbw, hex, hcs⟩ := hnw.elem (by decide) (fun q hq => pt_size (okn q hq)) hx
        have lnn' : ∀ w', (Builtin.len_ #[48] 3 #[.slice (some ⟨b, of', none⟩) now.length cc]).run Tryd.prog w' = .ok (.int .i64 now.length) w' := fun w' => by rw [← hve]; exact lnn w'
        have hbu := cu.obj hbw id
        have kMu := cu.cell kM id
        have kMd : u.drew.cell? ⟨g, 2, none⟩ = some (.slice AM s.made.length cM) := kMu
        have hbd : u.drew.heap[b]? = some (.cells cs T fr) := hbu
        rw [hve] at f2
        simp [go_sem, f16, f2, lnn', hii]
        refine v_draw' [(0, none), (1, none), (2, none), (3, none), (4, none), (6, none), (7, none), (8, none), (9, none), (10, none), (11, none), (12, none), (13, none), (5, some [6, 7, 8, 9, 10, 11, 12, 13]), (14, some []), (15, none)] (by kernel_rfl) (by kernel_rfl) ?_
        simp [go_sem, f0, f1, f2, f16, hlt, hbu, hbd, hex, hcs, kMu, kMd]
        refine (thas_any vw was x u.drew (hw.ch' cu.drew fun _ _ e => e) okw okx hw9).mono ?_
        rintro _ u2 ⟨rfl, c2⟩
        have cu2 : Ch Nw w u2 := cu.drew.trans c2
        have hb2 := cu2.obj hbw id
        have kM2 := cu2.cell kM id
        simp [go_sem, f0, f2, f16, hlt, hb2, hex, hcs, kM2]
        have eqbb : ∀ (a b : Bool) (w : World), (Op.equalIn 10000 4 (.bool a) (.bool b)).run Tryd.prog w = .ok (a == b) w := fun a b w => by simp [go_sem]
        refine (thas_any (.slice AM s.made.length cM) s.made x u2 (hM.ch' cu2 fun _ _ e => e) hgd.made okx hm9).mono ?_
        rintro _ u3 ⟨rfl, c3⟩
        have cu3 := cu2.trans c3
        have hb3 := cu3.obj hbw id
        have hnm := F.nm x hxm
        have htk : (now.take (i + 1)).countP (fun x => !was.contains x) = (now.take i).countP (fun x => !was.contains x) + if x ∈ was then 0 else 1 := by
          rw [List.take_add_one, hx, Option.toList_some, List.countP_append, List.countP_singleton]
          by_cases hxw : x ∈ was <;> simp [hxw]
        have hcle : (now.take i).countP (fun x => !was.contains x) ≤ 9 := Nat.le_trans List.countP_le_length (by rw [List.length_take]; omega)
        obtain ⟨M, hMM⟩ : ∃ M, (now.take i).countP (fun x => !was.contains x) = M := ⟨_, rfl⟩
        rw [hMM] at f12 htk hcle
        have hwM : IntKind.i64.wrap ((M : Int) + 1) = ((M + 1 : Nat) : Int) := by rw [IntKind.wrap_i64]; omega
        by_cases hxw : x ∈ was
        · have hxm' : ¬ x ∈ s.made := hnm.1 hxw
          rw [if_pos hxw, Nat.add_zero] at htk
          simp [go_sem, hxw, hxm', f1, f2, f16, hlt, hb3, hex, hcs]
          refine (thas_any vw was x u3 (hw.ch' cu3 fun _ _ e => e) okw okx hw9).mono ?_
          rintro _ u4 ⟨rfl, c4⟩
          simp [go_sem, hxw, f16, hwi]
          exact Rnd.intro (now.length - (i + 1)) (by omega) (hJ _ _ _ ⟨i + 1, rfl, by omega, by simp [f0], by simp [f1], by simp [f2, hve], by simp [f3], by simp [f4], by rw [htk]; simp [f12], by simp, cu3.trans c4⟩)
        · have hxm' : x ∈ s.made := Classical.byContradiction fun e => hxw (hnm.2 e)
          rw [if_neg hxw] at htk
          simp [go_sem, hxw, hxm', f1, f2, f16, hlt, hb3, hex, hcs]
          refine (thas_any vw was x u3 (hw.ch' cu3 fun _ _ e => e) okw okx hw9).mono ?_
          rintro _ u4 ⟨rfl, c4⟩
          simp [go_sem, hxw, f12, f16, hwi, hwM]
          exact Rnd.intro (now.length - (i + 1)) (by omega) (hJ _ _ _ ⟨i + 1, rfl, by omega, by simp [f0], by simp [f1], by simp [f2, hve], by simp [f3], by simp [f4], by rw [htk]; simp, by simp, cu3.trans c4⟩)
      obtain rfl : i = now.length := by omega
      rw [List.take_length, F.nc] at f12
      simp [go_sem, f16, f2, lnn]
      clear hJ f16
      refine v_loop (fun r f u => ∃ (i : Nat), r = was.length - i ∧ i ≤ was.length ∧ f 0 = .pointer (some ⟨g, 0, none⟩) ∧ f 1 = vw ∧ f 2 = vn ∧ f 3 = vh ∧ f 4 = vc ∧ f 12 = .int .i64 s.made.length ∧ f 17 = .int .i64 ((was.take i).countP fun x => !now.contains x) ∧ f 18 = .int .i64 i ∧ Ch Nw w u) was.length
        ⟨0, rfl, by omega, by simp [f0], by simp [f1], by simp [f2], by simp [f3], by simp [f4], by simp [f12], by simp, by simp, cu⟩ ?_
      clear f0 f1 f2 f3 f4 f12 cu
      rintro J hJ _ f u ⟨i, rfl, hi, f0, f1, f2, f3, f4, f12, f17, f18, cu⟩
      by_cases hlt : i < was.length
      · have hii : (i : Int) < was.length := by omega
        have hwi : IntKind.i64.wrap ((i : Int) + 1) = ((i + 1 : Nat) : Int) := by rw [IntKind.wrap_i64]; omega
        obtain ⟨x, hx⟩ : ∃ x, was[i]? = some x := ⟨_, List.getElem?_eq_getElem hlt⟩
        have hxm := List.mem_of_getElem? hx
        have okx := okw x hxm
        have hxs := pt_size okx
        have hxa := pt_all okx
        obtain ⟨b, of', cc, cs, T, fr, hve, hbw, hex, hcs⟩ := hw.elem (by decide) (fun q hq => pt_size (okw q hq)) hx
        have lnw' : ∀ w', (Builtin.len_ #[48] 3 #[.slice (some ⟨b, of', none⟩) was.length cc]).run Tryd.prog w' = .ok (.int .i64 was.length) w' := fun w' => by rw [← hve]; exact lnw w'
        have hbu := cu.obj hbw id
        have kGu := cu.cell kG id
        have kGd : u.drew.cell? ⟨g, 3, none⟩ = some (.slice AG s.gone.length cG) := kGu
        have hbd : u.drew.heap[b]? = some (.cells cs T fr) := hbu
        rw [hve] at f1
        simp [go_sem, f18, f1, lnw', hii]
        refine v_draw' [(0, none), (1, none), (2, none), (3, none), (4, none), (6, none), (7, none), (8, none), (9, none), (10, none), (11, none), (12, none), (13, none), (5, some [6, 7, 8, 9, 10, 11, 12, 13]), (14, some []), (15, none)] (by kernel_rfl) (by kernel_rfl) ?_
        simp [go_sem, f0, f1, f2, f18, hlt, hbu, hbd, hex, hcs, kGu, kGd]
        refine (thas_any vn now x u.drew (hnw.ch' cu.drew fun _ _ e => e) okn okx hn9).mono ?_
        rintro _ u2 ⟨rfl, c2⟩
        have cu2 : Ch Nw w u2 := cu.drew.trans c2
        have hb2 := cu2.obj hbw id
        have kG2 := cu2.cell kG id
        simp [go_sem, f0, f1, f18, hlt, hb2, hex, hcs, kG2]
        refine (thas_any (.slice AG s.gone.length cG) s.gone x u2 (hG.ch' cu2 fun _ _ e => e) hgd.gone okx hg9).mono ?_
        rintro _ u3 ⟨rfl, c3⟩
        have cu3 := cu2.trans c3
        have hb3 := cu3.obj hbw id
        have hnm := F.gm x hxm
        have htk : (was.take (i + 1)).countP (fun x => !now.contains x) = (was.take i).countP (fun x => !now.contains x) + if x ∈ now then 0 else 1 := by
          rw [List.take_add_one, hx, Option.toList_some, List.countP_append, List.countP_singleton]
          by_cases hxw : x ∈ now <;> simp [hxw]
        have hcle : (was.take i).countP (fun x => !now.contains x) ≤ 9 := Nat.le_trans List.countP_le_length (by rw [List.length_take]; omega)
        obtain ⟨M, hMM⟩ : ∃ M, (was.take i).countP (fun x => !now.contains x) = M := ⟨_, rfl⟩
        rw [hMM] at f17 htk hcle
        have hwM : IntKind.i64.wrap ((M : Int) + 1) = ((M + 1 : Nat) : Int) := by rw [IntKind.wrap_i64]; omega
        by_cases hxw : x ∈ now
        · have hxm' : ¬ x ∈ s.gone := hnm.1 hxw
          rw [if_pos hxw, Nat.add_zero] at htk
          simp [go_sem, hxw, hxm', f1, f2, f18, hlt, hb3, hex, hcs]
          refine (thas_any vn now x u3 (hnw.ch' cu3 fun _ _ e => e) okn okx hn9).mono ?_
          rintro _ u4 ⟨rfl, c4⟩
          simp [go_sem, hxw, f18, hwi]
          exact Rnd.intro (was.length - (i + 1)) (by omega) (hJ _ _ _ ⟨i + 1, rfl, by omega, by simp [f0], by simp [f1, hve], by simp [f2], by simp [f3], by simp [f4], by simp [f12], by rw [htk]; simp [f17], by simp, cu3.trans c4⟩)
        · have hxm' : x ∈ s.gone := Classical.byContradiction fun e => hxw (hnm.2 e)
          rw [if_neg hxw] at htk
          simp [go_sem, hxw, hxm', f1, f2, f18, hlt, hb3, hex, hcs]
          refine (thas_any vn now x u3 (hnw.ch' cu3 fun _ _ e => e) okn okx hn9).mono ?_
          rintro _ u4 ⟨rfl, c4⟩
          simp [go_sem, hxw, f17, f18, hwi, hwM]
          exact Rnd.intro (was.length - (i + 1)) (by omega) (hJ _ _ _ ⟨i + 1, rfl, by omega, by simp [f0], by simp [f1, hve], by simp [f2], by simp [f3], by simp [f4], by simp [f12], by rw [htk]; simp, by simp, cu3.trans c4⟩)
      obtain rfl : i = was.length := by omega
      obtain ⟨M0, hM0⟩ : ∃ M0, was.countP (fun x => !now.contains x) = M0 := ⟨_, rfl⟩
      have hM09 : M0 ≤ 9 := by rw [← hM0]; exact Nat.le_trans List.countP_le_length lw
      rw [List.take_length, hM0] at f17
      simp [go_sem, f18, f1, lnw]
      clear hJ f18
      refine v_loop (fun r f u => ∃ (o : Nat), r = 64 - o ∧ o ≤ 64 ∧ f 0 = .pointer (some ⟨g, 0, none⟩) ∧ f 3 = vh ∧ f 4 = vc ∧ f 12 = .int .i64 s.made.length ∧ f 17 = .int .i64 (M0 + (List.range o).countP (dfT h c) : Nat) ∧ f 19 = .int .i64 o ∧ Ch Nw w u) 64
        ⟨0, rfl, by omega, by simp [f0], by simp [f3], by simp [f4], by simp [f12], by simp [f17], by simp, cu⟩ ?_
      clear f0 f1 f2 f3 f4 f12 f17 cu
      rintro J hJ _ f u ⟨o, rfl, ho, f0, f3, f4, f12, f17, f19, cu⟩
      by_cases hlt : o < 64
      · have hoi : (o : Int) < 64 := by omega
        have hwo : IntKind.i64.wrap ((o : Int) + 1) = ((o + 1 : Nat) : Int) := by rw [IntKind.wrap_i64]; omega
        obtain ⟨x, hx⟩ : ∃ x, h[o]? = some x := ⟨_, List.getElem?_eq_getElem (by omega)⟩
        obtain ⟨y, hy⟩ : ∃ y, c[o]? = some y := ⟨_, List.getElem?_eq_getElem (by omega)⟩
        have hxd : h.getD o ptz = x := by rw [List.getD_eq_getElem?_getD, hx]; rfl
        have hyd : c.getD o ptz = y := by rw [List.getD_eq_getElem?_getD, hy]; rfl
        have okx := okh x (List.mem_of_getElem? hx)
        have oky := okc y (List.mem_of_getElem? hy)
        have hxs := pt_size okx
        have hxa := pt_all okx
        have hys := pt_size oky
        have hya := pt_all oky
        obtain ⟨b, of', cc, cs, T, fr, hve, hbw, hex, hcs⟩ := hh.elem (by decide) (fun q hq => pt_size (okh q hq)) hx
        obtain ⟨b2, of2, cc2, cs2, T2, fr2, hve2, hbw2, hex2, hcs2⟩ := hc.elem (by decide) (fun q hq => pt_size (okc q hq)) hy
        have hbu := cu.obj hbw id
        have hbd : u.drew.heap[b]? = some (.cells cs T fr) := hbu
        have hbu2 := cu.obj hbw2 id
        have hbd2 : u.drew.heap[b2]? = some (.cells cs2 T2 fr2) := hbu2
        have kGu := cu.cell kG id
        rw [hve] at f3
        rw [hve2] at f4
        have hlx : o < h.length := by omega
        have hly : o < c.length := by omega
        have heqz : ∀ w, (Op.equalIn 10000 28 (.agg (pt x)) (.agg (pt ptz))).run Tryd.prog w = .ok (decide (x = ptz)) w := fun w => eq_pt w okx ptz_ok
        have heqy : ∀ w, (Op.equalIn 10000 28 (.agg (pt x)) (.agg (pt y))).run Tryd.prog w = .ok (decide (x = y)) w := fun w => eq_pt w okx oky
        have hst : (List.range (o + 1)).countP (dfT h c) = (List.range o).countP (dfT h c) + if x ≠ ptz ∧ x ≠ y then 1 else 0 := by
          rw [List.range_succ, List.countP_append, List.countP_singleton]
          have e : dfT h c o = decide (y ≠ x ∧ x ≠ ptz) := by unfold dfT; rw [hxd, hyd]
          rw [e]
          by_cases h1 : x = ptz
          · simp [h1]
          · by_cases h2 : x = y
            · simp [h2]
            · simp [h1, h2, Ne.symm h2]
        have hcle : (List.range o).countP (dfT h c) ≤ 64 := Nat.le_trans List.countP_le_length (by simp; omega)
        obtain ⟨M, hMM⟩ : ∃ M, (List.range o).countP (dfT h c) = M := ⟨_, rfl⟩
        rw [hMM] at f17 hst hcle
        have hwM : IntKind.i64.wrap ((M0 : Int) + M + 1) = (M0 : Int) + M + 1 := by rw [IntKind.wrap_i64]; omega
        simp [go_sem, f19, hoi]
        refine v_draw' [(0, none), (1, none), (2, none), (3, none), (4, none), (5, none), (6, none), (7, none), (8, none), (9, none), (10, none), (11, none), (12, none), (13, none), (14, none), (15, none), (16, none)] (by kernel_rfl) (by kernel_rfl) ?_
        by_cases h1 : x = ptz
        · rw [if_neg (fun e => e.1 h1), Nat.add_zero] at hst
          subst h1
          simp [go_sem, f3, f19, hlx, hbu, hbd, hex, hcs, hxs, hxa, bld_pt0, heqz, hwo]
          exact Rnd.intro (64 - (o + 1)) (by omega) (hJ _ _ _ ⟨o + 1, rfl, by omega, by simp [f0], by simp [f3, hve], by simp [f4, hve2], by simp [f12], by rw [hst]; simp [f17], by simp, cu.drew⟩)
        · by_cases h2 : x = y
          · rw [if_neg (fun e => e.2 h2), Nat.add_zero] at hst
            subst h2
            simp [go_sem, f3, f4, f19, hlx, hly, hbu, hbd, hex, hcs, hbu2, hbd2, hex2, hcs2, hxs, hxa, bld_pt0, heqz, heqy, h1, hwo]
            exact Rnd.intro (64 - (o + 1)) (by omega) (hJ _ _ _ ⟨o + 1, rfl, by omega, by simp [f0], by simp [f3, hve], by simp [f4, hve2], by simp [f12], by rw [hst]; simp [f17], by simp, cu.drew⟩)
          · rw [if_pos ⟨h1, h2⟩] at hst
            have hxg : x ∈ s.gone := by
              have := F.gl o hlt (by unfold dfT; rw [hxd, hyd]; exact decide_eq_true ⟨Ne.symm h2, h1⟩)
              rw [hxd] at this
              exact this
            simp [go_sem, f3, f4, f17, f19, hlx, hly, hbu, hbd, hex, hcs, hbu2, hbd2, hex2, hcs2, hxs, hxa, bld_pt0, heqz, heqy, h1, h2, hwM]
            have kGd2 : u.drew.drew.cell? ⟨g, 3, none⟩ = some (.slice AG s.gone.length cG) := kGu
            have hbd3 : u.drew.drew.heap[b]? = some (.cells cs T fr) := hbu
            refine v_draw' [(0, none), (1, none), (2, none), (3, none), (4, none), (5, none), (6, none), (7, none), (8, some []), (9, none)] (by kernel_rfl) (by kernel_rfl) ?_
            simp [go_sem, f0, f3, f19, hlx, hbu, hbd, hbd3, hex, hcs, kGu, kGd2]
            refine (thas_any (.slice AG s.gone.length cG) s.gone x _ (hG.ch' cu.drew.drew fun _ _ e => e) hgd.gone okx hg9).mono ?_
            rintro _ u2 ⟨rfl, c2⟩
            have cu2 : Ch Nw w u2 := cu.drew.drew.trans c2
            simp [go_sem, hxg, f19, hwo]
            exact Rnd.intro (64 - (o + 1)) (by omega) (hJ _ _ _ ⟨o + 1, rfl, by omega, by simp [f0], by simp [f3, hve], by simp [f4, hve2], by simp [f12], by rw [hst]; simp [Int.add_assoc], by simp, cu2⟩)
      · obtain rfl : o = 64 := by omega
        have hgc := F.gc
        rw [hM0] at hgc
        rw [hgc] at f17
        have kMu := cu.cell kM id
        have kGu := cu.cell kG id
        simp [go_sem, f19, f0, f12, f17, kMu, kGu, lnM, lnG]
        exact hR _ _ ⟨rfl, cu⟩
end
end Go.Proofs.YtppilgkgnofkpaaDoor
