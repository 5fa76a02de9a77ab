/- What an overlay has of a number's leaves, in order. No condition but on sizes. -/
import Derived.Test.YtnefdmbdkljifaaDoorOwD
set_option linter.unusedSimpArgs false
set_option linter.unusedVariables false

namespace Go.Proofs.YtnefdmbdkljifaaDoor
open Go.RowKit Go.Kin Go.Maps

/-- changes of a number -/
structure Chgs (D : Ov) (num : Num) (W w : World) (L : List Cg) : Prop where
  nd : (L.map (·.1)).Nodup
  mem : ∀ o, o ∈ L.map (·.1) ↔ (D.lf (num, o)).isSome = true
  val : ∀ x ∈ L, ∃ b, D.lf (num, x.1) = some b ∧ Sl w x.2.val b.length (bvs b) ∧ Fresh W.heap.size x.2.val ∧ ∃ A m c, x.2.val = .slice A m c
section
variable {w w' : World} {S : Nat → Prop} {o n : Nat} {base of : Value} {D : Ov} {X Y : Nat → Prop} {z : Oz}
theorem Chgs.perm {num : Num} {W : World} {L L' : List Cg} (h : Chgs D num W w L) (hp : L'.Perm L) : Chgs D num W w L' :=
  ⟨(hp.map _).nodup_iff.2 h.nd, fun o => ((hp.map _).mem_iff).trans (h.mem o), fun x hx => h.val x (hp.mem_iff.1 hx)⟩
set_option maxRecDepth 100000 in
set_option maxHeartbeats 4000000 in
theorem changes_any (h : OvP w o base of n D X Y z) (num : Num) (hn : n ≤ 100000) : Ret Tryd.prog 38 #[.pointer (some ⟨o, 0, none⟩), .int .u16 num.val] w fun v' w' => ∃ L : List Cg, Chgs D num w w' L ∧ L.Pairwise (fun x y => x.1 < y.1) ∧ Lst w' v' enCh 2 L ∧ Ch Nw w w' ∧ Fresh w.heap.size v' := by
  refine v_enter Tryd.func38 Tryd.ntmps38 rfl (by simp) fun R' hR => ?_
  have c3 : w.cell? ⟨o, 3, none⟩ = some (.map (some z.bl)) := cell_blk h.blk 3
  obtain ⟨FL, hF, hL⟩ := h.lf
  obtain ⟨w2, cnt, hr, hg, hcnt, c12, s2⟩ := hF.range kysP Tryd.underlying67
  obtain ⟨r, hrr⟩ : ∃ r, w.heap.size = r := ⟨_, rfl⟩
  rw [hrr] at hr hg
  simp [go_sem, c3, hr]
  have hbl := h.lt z.bl (.inl (h.x _ (.inr (.inr (.inl rfl)))))
  have hYne : ∀ k, Y k → k < r := fun k hk => by have := h.lt k (.inr hk); omega
  obtain ⟨I, hI⟩ : ∃ I : (Nat → Value) → World → Prop, I = fun f u => ∃ L : List Cg, Chgs D num w u L ∧ (∀ x ∈ L, ∀ k, x.2.val.ownBlock = some k → (f 5).ownBlock ≠ some k) ∧ L.length ≤ n ∧ MineS 98 2 w (f 5) L.length (L.flatMap enCh) u := ⟨_, rfl⟩
  refine v_meetL I ?_ ?_
  · refine v_loop (fun t f u => ∃ (left : Num × Off → Bool) (L : List Cg), f 1 = .int .u16 num.val ∧ f 14 = .pointer (some ⟨r, 0, none⟩) ∧ RngV u Tryd.prog 76 kP z.bl r n FL left t ∧ L.length + t ≤ n ∧ MineS 98 2 w (f 5) L.length (L.flatMap enCh) u ∧ (∀ k, (f 5).ownBlock = some k → r < k) ∧
      (∀ x ∈ L, ∀ k, x.2.val.ownBlock = some k → (f 5).ownBlock ≠ some k) ∧ (L.map (·.1)).Nodup ∧ (∀ o, o ∈ L.map (·.1) ↔ (left (num, o) = false ∧ (D.lf (num, o)).isSome = true)) ∧ (∀ x ∈ L, ∃ b, D.lf (num, x.1) = some b ∧ Sl u x.2.val b.length (bvs b) ∧ Fresh w.heap.size x.2.val ∧ ∃ A m c, x.2.val = .slice A m c) ∧ (∀ x ∈ L, ∀ k, x.2.val.ownBlock = some k → r < k ∧ k < u.heap.size)) cnt
      ⟨_, [], by simp, by simp, hg, by simp; omega, MineS.nil _ _ c12, by simp [Value.ownBlock], by simp, by simp, fun o => ?_, by simp, by simp⟩ ?_
    · simp only [List.map_nil, List.not_mem_nil, false_iff]
      rintro ⟨e, e2⟩
      obtain ⟨b, hb⟩ := Option.isSome_iff_exists.1 e2
      obtain ⟨v, hv, _⟩ := (hL (num, o)).2 b hb
      rw [hv] at e
      cases e
    rintro J hJ t f u ⟨left, L, f1, f14, hru, hlen, hmine, hfr5, hne, hnd, hmem, hval, hvr⟩
    have cu := hmine.ch
    rcases hru.next kysP 0 with ⟨hl, hnx⟩ | ⟨a, v, u2, t2, hl, hGa, hnx, hru2, ht2, c2', hsz2, hen⟩
    · simp [go_sem, f14, hnx]
      rw [hI]
      exact ⟨L, ⟨hnd, fun o => by rw [hmem o]; simp [hl], hval⟩, hne, by omega, hmine⟩
    · have cu2 : Ch Nw w u2 := cu.trans' c2' fun j hj e => by simp only [Go.Kin.one] at e; omega
      have ca := (Ch.refl Nw u2).alloc (.cells #[.int .u16 a.1.val, .int .u32 a.2.val] 76)
      have ba := hp_alloc u2 (.cells #[.int .u16 a.1.val, .int .u32 a.2.val] 76)
      obtain ⟨q, hq⟩ : ∃ q, u2.heap.size = q := ⟨_, rfl⟩
      have hru3 := hru2.ch ca id id
      have cq := fun i => cell_blk ba i
      have o2 : u2.ownsRow 0 98 2 (f 5) L.length (L.flatMap enCh) := own_ch hmine.own c2' fun k hk e => by simp only [Go.Kin.one] at e; have := hfr5 k hk; omega
      have v2 : ∀ x ∈ L, ∃ b, D.lf (num, x.1) = some b ∧ Sl u2 x.2.val b.length (bvs b) ∧ Fresh w.heap.size x.2.val ∧ ∃ A m c, x.2.val = .slice A m c := fun x hx => by
        obtain ⟨b, h1, h2, h3, h4⟩ := hval x hx
        exact ⟨b, h1, h2.ch c2' fun k hk e => by simp only [Go.Kin.one] at e; have := (hvr x hx k hk).1; omega, h3, h4⟩
      obtain ⟨b, hb⟩ : ∃ b, D.lf a = some b := by
        cases hh : D.lf a with
        | none => rw [(hL a).1 hh] at hGa; cases hGa
        | some b => exact ⟨b, rfl⟩
      obtain ⟨v', hv, hsl, hY⟩ := (hL a).2 b hb
      rw [hv] at hGa
      cases hGa
      have hrq : r < q := by
        have := hru2.lt
        omega
      rw [hq] at ba cq
      obtain ⟨A1, cp1, hv1, _⟩ := id hsl
      obtain ⟨an, ao⟩ := a
      subst hv1
      by_cases han : an = num
      · subst an
        have hle := h.lfOk _ _ hb
        have hcl := clone_any (.slice A1 b.length cp1) b.length b ((u2.alloc (.cells #[.int .u16 num.val, .int .u32 ao.val] 76)).drew) (by omega) rfl (((hsl.ch cu2 fun _ _ e => e).ch ca fun _ _ e => e).drew)
        simp [go_sem, f14, f1, hnx, hen, kP, hq, cq]
        refine v_draw' [(0, none), (1, none), (2, none), (3, none), (4, some [0, 1, 2]), (5, none), (6, some [0]), (7, some []), (8, none)] (by kernel_rfl) (by kernel_rfl) ?_
        simp [go_sem, hq, cq]
        refine hcl.mono ?_
        rintro v4 w4 ⟨o4, c4, f4⟩
        have c24 : Ch Nw u2 w4 := ca.trans (Ch.of_drew c4)
        have cq4 : w4.cell? ⟨q, 1, none⟩ = some (.int .u32 ao.val) := (Ch.of_drew c4).cell (cq 1) id
        obtain ⟨A4, n4, cp4, hv4⟩ : ∃ A m c, v4 = .slice A m c := by
          rcases o4.2 with ⟨e, _⟩ | ⟨g', cap, cur, e, _⟩
          · exact ⟨_, _, _, e⟩
          · exact ⟨_, _, _, e⟩
        subst hv4
        have hq1 : (u2.alloc (.cells #[.int .u16 num.val, .int .u32 ao.val] 76)).heap.size = q + 1 := by simp [hq]
        have hf4 : ∀ k, (Value.slice A4 n4 cp4).ownBlock = some k → q < k := fun k hk => by
          have := f4 k hk
          simp [hq] at this
          omega
        have o4' : w4.ownsRow 0 98 2 (f 5) L.length (L.flatMap enCh) := own_ch (own_ch o2 c24 fun _ _ e => e) (Ch.refl Nw w4) fun _ _ e => e
        simp [go_sem, cq4]
        refine VB_app1S (us := [.int .u32 ao.val, .slice A4 n4 cp4]) tyCh o4' rfl (by simp [Value.oneCell']) (by unfold maxLen; omega) (by omega) fun v5 w5 k1 k2 k3 => ?_
        obtain ⟨xn, hxn⟩ : ∃ xn : Cg, xn = (ao, ⟨.slice A4 n4 cp4, rfl⟩) := ⟨_, rfl⟩
        have hx1 : xn.1 = ao := by rw [hxn]
        have hx2 : xn.2.val = .slice A4 n4 cp4 := by rw [hxn]
        have k1' : w5.ownsRow 0 98 2 v5 (L ++ [xn]).length ((L ++ [xn]).flatMap enCh) := by
          rw [List.flatMap_append, List.length_append, List.length_singleton, List.flatMap_singleton]
          unfold enCh
          rw [hx1, hx2]
          exact k1
        have hb5 : ∀ k, (f 5).ownBlock = some k → k < q := fun k hk => by
          have := own_blt o2 k hk
          omega
        have hao : ao ∉ L.map (·.1) := fun e => by
          have := ((hmem ao).1 e).1
          rw [hl] at this
          cases this
        have hb4 := own_blt o4
        have s24 := c24.size
        have s45 := k2.size
        have hru5 := ((hru2.ch c24 id id).ch k2 (fun e => by have := hfr5 _ e; omega) (fun e => by have := hfr5 _ e; omega))
        have hold : ∀ x ∈ L, ∃ b, D.lf (num, x.1) = some b ∧ Sl w5 x.2.val b.length (bvs b) ∧ Fresh w.heap.size x.2.val ∧ ∃ A m c, x.2.val = .slice A m c := fun x hx => by
          obtain ⟨b, h1, h2, h3, h4⟩ := v2 x hx
          exact ⟨b, h1, (h2.ch c24 fun _ _ e => e).ch k2 fun k hk e => hne x hx k hk e, h3, h4⟩
        have hvr2 : ∀ x ∈ L, ∀ k, x.2.val.ownBlock = some k → r < k ∧ k < w4.heap.size := fun x hx k hk => by
          have := hvr x hx k hk
          omega
        have h5r : ∀ k, v5.ownBlock = some k → r < k := fun k hk => by
          rcases k3 with e | e
          · rw [e] at hk
            exact hfr5 k hk
          · have := e k hk
            omega
        have h5x : ∀ x ∈ L ++ [xn], ∀ k, x.2.val.ownBlock = some k → v5.ownBlock ≠ some k := fun x hx k hk e => by
          rcases List.mem_append.1 hx with hx | hx
          · rcases k3 with e3 | e3
            · rw [e3] at e
              exact hne x hx k hk e
            · have := e3 k e
              have := hvr2 x hx k hk
              omega
          · simp at hx
            subst hx
            rw [hx2] at hk
            rcases k3 with e3 | e3
            · rw [e3] at e
              have := hb5 k e
              have := hf4 k hk
              omega
            · have := e3 k e
              have := hb4 k hk
              omega
        have hnew : D.lf (num, ao) = some b ∧ Sl w5 (.slice A4 n4 cp4) b.length (bvs b) ∧ Fresh w.heap.size (.slice A4 n4 cp4) := by
          refine ⟨hb, (Sl.of_own o4).ch k2 fun k hk e => ?_, fun k hk => ?_⟩
          · have := hb5 k e
            have := hf4 k hk
            omega
          · have := hf4 k hk
            omega
        simp [go_sem]
        refine Rnd.intro t2 ht2 (hJ _ _ _ ⟨_, L ++ [xn], by simp [f1], by simp [f14], hru5, by simp; omega, ⟨by simpa using k1', (cu2.trans c24).trans' k2 fun j hj e => by have := hfr5 j e; omega, ?_⟩, ?_, ?_, ?_, fun c => ?_, fun x hx => ?_, fun x hx k hk => ?_⟩)
        · intro k hk
          simp at hk
          have := h5r k hk
          omega
        · intro k hk
          simp at hk
          exact h5r k hk
        · intro x hx k hk
          simpa using h5x x hx k hk
        · rw [List.map_append, List.nodup_append]
          refine ⟨hnd, by simp, ?_⟩
          intro y hy y2 hy2 e
          simp only [List.map_cons, List.map_nil, List.mem_singleton] at hy2
          rw [hy2, hx1] at e
          rw [e] at hy
          exact hao hy
        · rw [List.map_append, List.mem_append, hmem c]
          simp only [List.map_cons, List.map_nil, List.mem_singleton, hx1]
          by_cases hca : c = ao
          · subst hca
            simp [hb]
          · have : ¬ ((num, c) : Num × Off) = (num, ao) := fun e => hca (by cases e; rfl)
            simp [this, hca]
        · rcases List.mem_append.1 hx with hx | hx
          · exact hold x hx
          · simp at hx
            subst hx
            rw [hx1, hx2]
            exact ⟨b, hnew.1, hnew.2.1, hnew.2.2, _, _, _, rfl⟩
        · rcases List.mem_append.1 hx with hx | hx
          · have := hvr2 x hx k hk
            omega
          · simp at hx
            subst hx
            rw [hx2] at hk
            have := hf4 k hk
            have := hb4 k hk
            omega
      · have hne1 : ¬ (an.val : Int) = num.val := fun e => han (Fin.ext (by omega))
        have hne2 : ((an.val : Int) == (num.val : Int)) = false := beq_false_of_ne hne1
        simp [go_sem, f14, f1, hnx, hen, kP, hq, cq, han, hne1, hne2]
        refine Rnd.intro t2 ht2 (hJ _ _ _ ⟨_, L, by simp [f1], by simp [f14], hru3, by omega, ⟨by simpa using own_ch o2 ca fun _ _ e => e, cu2.trans ca, by simpa using hmine.fresh⟩, by simpa using hfr5, by simpa using hne, hnd, fun c => ?_, fun x hx => ?_, fun x hx k hk => ?_⟩)
        · rw [hmem c]
          have : ¬ ((num, c) : Num × Off) = (an, ao) := fun e => han (by cases e; rfl)
          simp [this]
        · obtain ⟨b, h1, h2, h3, h4⟩ := v2 x hx
          exact ⟨b, h1, h2.ch ca fun _ _ e => e, h3, h4⟩
        · have h9 := hvr x hx k hk
          refine ⟨h9.1, ?_⟩
          simp only [World.size_alloc]
          omega
  rw [hI]
  clear hI I hr hg c12
  rintro f u ⟨L, hL, hne, hlen, hm⟩
  have cu := hm.ch
  obtain ⟨out, hout⟩ : ∃ v, f 5 = v := ⟨_, rfl⟩
  rw [hout] at hne hm
  have hown := hm.own
  have hin : ∀ x, (enCh x).length = 2 := fun _ => rfl
  simp [go_sem, hout]
  by_cases h0 : 0 < L.length
  · obtain ⟨g, cap, cur, hv, hb2, hcap, hmax⟩ : ∃ g cap cur, out = .slice (some ⟨g, 0, none⟩) L.length cap ∧ u.heap[g]? = some (.cells cur 98 (0, 0)) ∧ L.length ≤ cap ∧ cap ≤ maxLen := by
      rcases hown.2 with ⟨_, e⟩ | ⟨g, cap, cur, hv, _, hb, h1, h2, _⟩
      · omega
      · exact ⟨g, cap, cur, hv, hb, h1, h2⟩
    subst hv
    have hH := holds_own (by decide) hin L.toArray hown (by simp) (by simp)
    have hgu := lt_of_block hb2
    have hs := sortc_any u g cap L.toArray hH hgu (by simp; omega)
    simp only [List.size_toArray] at hs
    refine hs.mono ?_
    rintro _ w3 ⟨d', hP, hS, hH', c3'⟩
    simp [go_sem, hout]
    have hsz : d'.size = L.length := by rw [hP.1]; simp
    have hperm : d'.toList.Perm L := by
      have := hP.2.2
      have e1 : (d'.extract 0 L.length).toList = d'.toList := by rw [← hsz]; simp
      have e2 : (L.toArray.extract 0 L.length).toList = L := by simp
      rw [e1, e2] at this
      exact this
    have hL3 : Chgs D num w w3 L := ⟨hL.nd, hL.mem, fun x hx => by
      obtain ⟨b, h1, h2, h3, h4⟩ := hL.val x hx
      refine ⟨b, h1, h2.ch c3' fun k hk e => ?_, h3, h4⟩
      have := hne x hx k hk
      simp only [Go.Kin.one] at e
      subst e
      exact this rfl⟩
    have hgw : w.heap.size ≤ g := hm.fresh g rfl
    have hl3 := lst_holds (cap := cap) (n := L.length) (by decide) hin (Nat.lt_of_lt_of_le hgu c3'.size) hH' hsz.symm hcap hmax
    refine hR _ _ ⟨d'.toList, hL3.perm hperm, ?_, hl3, cu.trans' c3' fun j hj e => by simp only [Go.Kin.one] at e; omega, hm.fresh⟩
    have hnd : (d'.toList.map (·.1)).Nodup := (hL3.perm hperm).nd
    rw [List.pairwise_iff_getElem]
    intro i j hi hj hij
    have hi' : i < d'.size := by simpa using hi
    have hj' : j < d'.size := by simpa using hj
    have h1 := hS i j (Nat.zero_le _) hij (by omega)
    have e1 : d'[i]! = d'.toList[i] := by simp [hi']
    have e2 : d'[j]! = d'.toList[j] := by simp [hj']
    rw [e1, e2, ltCf, decide_eq_false_iff_not] at h1
    have hne' : (d'.toList[i]).1 ≠ (d'.toList[j]).1 := by
      have := List.pairwise_iff_getElem.1 hnd i j (by simpa using hi) (by simpa using hj) hij
      simpa using this
    show (d'.toList[i]).1.val < (d'.toList[j]).1.val
    rcases Nat.lt_trichotomy (d'.toList[i]).1.val (d'.toList[j]).1.val with h2 | h2 | h2
    · exact h2
    · exact absurd (Fin.ext h2) hne'
    · exact absurd h2 h1
  · obtain rfl : L = [] := List.eq_nil_of_length_eq_zero (by omega)
    obtain ⟨A, cap, hv, hcap⟩ : ∃ A cap, out = .slice A 0 cap ∧ cap ≤ maxLen := by
      rcases hown.2 with ⟨hv, _⟩ | ⟨g, cap, cur, hv, _, hb, h1, h2, _⟩
      · exact ⟨_, _, hv, Nat.zero_le _⟩
      · exact ⟨_, _, hv, h2⟩
    subst hv
    refine (sortc_nil u A cap _).mono ?_
    intro _ w3 c3'
    simp [go_sem, hout]
    refine hR _ _ ⟨[], ⟨hL.nd, hL.mem, fun x hx => by simp at hx⟩, List.Pairwise.nil, ⟨A, cap, rfl, Nat.zero_le _, hcap, fun h => by simp at h⟩, cu.trans c3', hm.fresh⟩
end
end Go.Proofs.YtnefdmbdkljifaaDoor
