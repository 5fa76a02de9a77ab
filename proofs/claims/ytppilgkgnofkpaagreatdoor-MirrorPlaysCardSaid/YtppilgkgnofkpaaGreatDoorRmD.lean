/- The document's mirror heals. No condition but on sizes. -/
import Derived.Test.YtppilgkgnofkpaaGreatDoorRmC
import Derived.Test.YtppilgkgnofkpaaGreatDoorMrX
import Derived.Test.YtppilgkgnofkpaaGreatDoorMrM
set_option linter.unusedSimpArgs false
set_option linter.unusedVariables false

namespace Go.Proofs.YtppilgkgnofkpaaGreatDoor
open Go.RowKit Go.Kin

theorem run_fit (n : Nat) (s : Mr) (q : Pt) (l : List Nat) {b : Byts} (h : (s.run n q l).blk = some b) : b.length = 512 := by
  unfold Mr.run at h
  rw [Mr.run_blk, Option.none_or] at h
  obtain ⟨k, _, hk⟩ := List.exists_of_findSome?_eq_some h
  exact fitB_len (Mr.good_fit hk)
section
variable {w w' : World} {m q n i c : Nat} {d e : Nat → Nat} {s : Mr} {O : Nat → Prop}
theorem RmAt.trim (h : RmAt m q n d e s w' (Gr O w w')) (hs : w'.heap.size ≤ w.heap.size) (hl : ∀ k, O k → k < w'.heap.size) : RmAt m q n d e s w' O :=
  (RmAt.ok ..).weak h (fun k hk => hk.elim id fun e => by omega) hl
set_option maxRecDepth 100000 in
set_option maxHeartbeats 4000000 in
theorem rheal_any (h : RmAt m q n d e s w O) (x : Pt) (ok : PtOk x) (all : Bool) (fine : s.Fine c) (hc : c ≤ 700000) (hn : n ≤ 4096) :
    Ret Tryz.prog 10 #[.pointer (some ⟨m, 0, none⟩), .agg (pt x), .bool all] w fun v' w' => v' = .tuple #[.string ⟨(s.heal n x all).2.1.toArray⟩, .int .i64 (s.heal n x all).2.2] ∧ RmAt m q n d e (s.heal n x all).1 w' (Gr O w w') ∧ Ch O w w' := by
  refine v_enter Tryz.func10 Tryz.ntmps10 rfl (by simp) fun R' hR => ?_
  have hps := pt_size ok
  have hpa := pt_all ok
  have hlO := (RmAt.ok m q n d e s).lt h
  have ca := (Ch.refl Nw w).alloc (.cells (pt x) 58)
  have b0 := hp_alloc w (.cells (pt x) 58)
  have sa : (w.alloc (.cells (pt x) 58)).heap.size = w.heap.size + 1 := by simp
  simp [go_sem, hps, hpa]
  obtain ⟨g, hg⟩ : ∃ g, w.heap.size = g := ⟨_, rfl⟩
  rw [hg] at b0 sa ⊢
  generalize w.alloc (.cells (pt x) 58) = w1 at *
  refine (rmay_any x w1 ok).mono ?_
  rintro _ w2 ⟨rfl, c2⟩
  rw [mayR_eq x ok]
  have cw2 : Ch Nw w w2 := ca.trans c2
  have b02 := c2.obj b0 id
  have h2 := (RmAt.ok ..).ch h cw2 fun _ _ e => e
  have hs2 := c2.size
  cases hmay : mayP x with
  | false =>
    have hx : s.heal n x all = (s, [], 1) := by unfold Mr.heal; rw [hmay]; rfl
    simp [go_sem]
    rw [hx] at hR
    exact hR _ _ ⟨rfl, (RmAt.ok ..).weak h2 (fun k hk => .inl hk) (Gr.lt hlO cw2.size), cw2.mono fun _ _ e => e.elim⟩
  | true =>
    simp [go_sem, b02, hps, hpa]
    refine (rcopies_any x w2 ok).mono ?_
    intro lv w3 hlv
    have c3 := hlv.ch
    have cw3 : Ch Nw w w3 := cw2.trans c3
    have b03 := c3.obj b02 id
    have h3 := (RmAt.ok ..).ch h cw3 fun _ _ e => e
    have hs3 := c3.size
    obtain ⟨L, hL⟩ : ∃ L, (cseq x.a 4).length = L := ⟨_, rfl⟩
    have hL4 : L ≤ 4 := by rw [← hL]; exact cseq_le _ _
    have hlvo := hlv.own
    rw [hL] at hlvo
    have hlvf := hlv.fresh
    obtain ⟨Al, cl, hlvs⟩ : ∃ A c, lv = .slice A L c := by
      rcases hlvo.2 with ⟨hv, h0⟩ | ⟨g, cap, cur, hv, _⟩
      · exact ⟨none, 0, by rw [hv, h0]⟩
      · exact ⟨_, _, hv⟩
    have hlvl : ∀ j, lv.ownBlock = some j → j < w3.heap.size := fun j hj => own_blt hlvo j hj
    clear hlv
    subst hlvs
    have nO : ∀ j, g ≤ j → ¬ O j := fun j hj e => by have := hlO j e; omega
    have hlen : ∀ (A : Option Addr) (k c : Nat) w', (Builtin.len_ #[108] 3 #[.slice A k c]).run Tryz.prog w' = .ok (.int .i64 k) w' := fun A k c w' => by simp [Builtin.len_, run_underlying Tryz.underlying108, goInt]
    simp [go_sem]
    refine v_loop (fun r f u => ∃ (k : Nat) (A : Option Addr) (cb : Nat), r = L - k ∧ k ≤ L ∧ f 0 = .pointer (some ⟨m, 0, none⟩) ∧ f 2 = .bool all ∧ f 4 = .pointer (some ⟨g, 0, none⟩) ∧ f 8 = .slice Al L cl
        ∧ f 9 = .slice A (s.run n x ((cseq x.a 4).take k)).bad.length cb ∧ f 10 = .string ⟨((s.run n x ((cseq x.a 4).take k)).blk.getD []).toArray⟩ ∧ f 11 = .bool (s.run n x ((cseq x.a 4).take k)).blk.isSome ∧ f 12 = .int .i64 k
        ∧ u.ownsRow 0 113 2 (.slice A (s.run n x ((cseq x.a 4).take k)).bad.length cb) (s.run n x ((cseq x.a 4).take k)).bad.length (cocs x (s.run n x ((cseq x.a 4).take k)).bad)
        ∧ Fresh w3.heap.size (.slice A (s.run n x ((cseq x.a 4).take k)).bad.length cb)
        ∧ RmAt m q n d e { s with found := (s.run n x ((cseq x.a 4).take k)).F } u O ∧ Ch (one m) w3 u
        ∧ (all = false → ((s.run n x ((cseq x.a 4).take k)).blk = none → ∀ j ∈ (cseq x.a 4).take k, s.good n x j = none) ∧ ((s.run n x ((cseq x.a 4).take k)).blk ≠ none → s.lks n x all = (cseq x.a 4).take k))) L
      ⟨0, none, 0, rfl, Nat.zero_le _, by simp, by simp, by simp, by simp, by simp [Mr.run], by simp [Mr.run], by simp [Mr.run], by simp, World.ownsRow_nil _ _ _ _, fun j hj => by simp [Value.ownBlock] at hj, h3, Ch.refl _ _, fun _ => ⟨fun _ j hj => by simp at hj, fun hj => absurd rfl hj⟩⟩ ?_
    rintro J hJ _ f u ⟨k, A, cb, rfl, hk, f0, f2, f4, f8, f9, f10, f11, f12, hbo, hbf, hu, cu, hno⟩
    obtain ⟨t, ht⟩ : ∃ t, s.run n x ((cseq x.a 4).take k) = t := ⟨_, rfl⟩
    rw [ht] at f9 f10 f11 hbo hbf hu hno
    have hmO : O m := by
      have h1 := hu
      obtain ⟨⟨mv, h1⟩, _⟩ := h1
      obtain ⟨O1, h2, h3⟩ := h1.get (i := 0) rfl
      exact h3 _ h2.2.1
    have bu := cu.obj b03 fun e => by simp only [one] at e; subst e; exact nO _ (Nat.le_refl _) hmO
    have hNl : t.bad.length ≤ 4 := by
      have := run_bad_le n s x ((cseq x.a 4).take k)
      rw [ht, List.length_take] at this
      omega
    by_cases hgo : k < L ∧ (all = true ∨ t.blk = none)
    · obtain ⟨hlt, hal⟩ := hgo
      have hlti : (k : Int) < L := by omega
      have hwk : IntKind.i64.wrap ((k : Int) + 1) = ((k + 1 : Nat) : Int) := by rw [IntKind.wrap_i64]; omega
      obtain ⟨j, hj⟩ : ∃ j, (cseq x.a 4)[k]? = some j := ⟨_, List.getElem?_eq_getElem (by omega)⟩
      have hj4 : j < 4 := (cseq_lt (List.mem_of_getElem? hj)).1
      obtain ⟨hc0, hc1⟩ := cocs_at x hj
      obtain ⟨gc, cap, cur, hcvv, hcap1, hcap2, hgc, hgcs, hcells⟩ := ownS_blk hlvo (by omega)
      cases hcvv
      have hgcO : ¬ O gc := nO _ (by have := hlvf gc rfl; omega)
      have hgcm : ¬ one m gc := fun e => by simp only [one] at e; subst e; exact hgcO hmO
      have u0 := cu.cell (hcells _ _ hc0) hgcm
      have u1 := cu.cell (hcells _ _ hc1) hgcm
      have hi : j / 2 < 2 := by omega
      have hgd := rgood_any ((RmAt.ok ..).ch hu (Ch.refl Nw u).drew fun _ _ e => e) x ok (fun j' hj' => by have := fine.cache j' hj'; show (s.dk j').cache.length ≤ _; omega) j hj4
      obtain ⟨i, hji⟩ : ∃ i, j / 2 = i := ⟨_, rfl⟩
      rw [hji] at u0 hgd hi
      have hi2 : (i : Int) < 2 := by omega
      have hgood : ({ s with found := t.F } : Mr).good n x j = s.good n x j := rfl
      rw [hgood] at hgd
      have htk : (cseq x.a 4).take (k + 1) = (cseq x.a 4).take k ++ [j] := by rw [List.take_add_one, hj]; rfl
      have hst : s.run n x ((cseq x.a 4).take (k + 1)) = s.step n x t j := by rw [htk, Mr.run_snoc, ht]
      have hdrop : (cseq x.a 4) = (cseq x.a 4).take k ++ j :: (cseq x.a 4).drop (k + 1) := by
        conv => lhs; rw [← List.take_append_drop k (cseq x.a 4)]
        rw [List.drop_eq_getElem_cons (by omega)]
        have := (List.getElem?_eq_some_iff.1 hj).2
        rw [this]
      have hlk2 : all = false → s.good n x j ≠ none → t.blk = none → s.lks n x all = (cseq x.a 4).take (k + 1) := fun ha hg hb => by
        subst ha
        rw [htk]
        show s.cut n x (cseq x.a 4) = _
        conv => lhs; rw [hdrop]
        refine s.cut_take n x ((hno rfl).1 hb) ?_
        cases hgg : s.good n x j with
        | some b => rfl
        | none => exact absurd hgg hg
      have hnn2 : all = false → s.good n x j = none → t.blk = none → ∀ j' ∈ (cseq x.a 4).take (k + 1), s.good n x j' = none := fun ha hg hb j' hj' => by
        rw [htk] at hj'
        rcases List.mem_append.1 hj' with hj' | hj'
        · exact (hno ha).1 hb j' hj'
        · rw [List.mem_singleton] at hj'
          subst hj'
          exact hg
      have hbn : all = false → t.blk = none := fun ha => hal.elim (fun e => by rw [ha] at e; cases e) id
      have hal' : all = true ∨ (all = false ∧ t.blk = none) := by
        cases all with
        | true => exact .inl rfl
        | false => exact .inr ⟨rfl, hbn rfl⟩
      clear hal hR
      have key : ∀ {Q : Prop}, (∀ b, s.good n x j = some b → Q) → (s.good n x j = none → Q) → Q := fun a b => by
        cases hgg : s.good n x j with
        | some b => exact a b hgg
        | none => exact b hgg
      rcases hal' with hal | ⟨hal, hb0⟩
      all_goals
        subst hal
        simp [go_sem, f0, f2, f4, f8, f11, f12, hlen, hlti, hbn]
        refine v_draw' [(0, none), (1, none), (2, none), (3, none), (4, none), (5, none), (6, some []), (7, none), (8, none), (9, none), (10, none), (11, none)] (by kernel_rfl) (by kernel_rfl) ?_
        simp [go_sem, f0, f4, f8, f12, bu, hps, hpa, hlt, hlti, u0, u1]
        refine hgd.mono ?_
        rintro _ w5 ⟨⟨tb, rfl, htb⟩, c5⟩
        have c5 : Ch Nw u w5 := Ch.of_drew c5
        have h5 := (RmAt.ok ..).ch hu c5 fun _ _ e => e
        have hbo5 := own_ch hbo c5 fun _ _ e => e
        have cu5 : Ch (one m) w3 w5 := cu.trans (c5.mono fun _ _ e => e.elim)
        have u05 := c5.cell u0 id
        have u15 := c5.cell u1 id
        refine key (fun b hgg => ?_) fun hgg => ?_
        · have htb := htb b hgg
          subst htb
          cases hbk : t.blk with
          | none =>
            have hs2 : s.run n x ((cseq x.a 4).take (k + 1)) = { t with blk := some b } := by rw [hst]; unfold Mr.step; rw [hgg]; simp [hbk]
            simp [go_sem, hgg, f11, hbk]
            refine v_draw' [(0, none), (1, none), (2, none), (3, none), (4, none), (5, none), (6, none), (7, none), (8, none), (9, none), (10, none), (11, none), (12, none), (13, none), (14, none), (15, none), (16, none), (17, none)] (by kernel_rfl) (by kernel_rfl) ?_
            simp [go_sem, f12, hwk]
            refine Rnd.intro (L - (k + 1)) (by omega) (hJ _ _ _ ⟨k + 1, A, cb, rfl, by omega, by simp [f0], by simp [f2], by simp [f4], by simp [f8], by rw [hs2]; simp [f9], by rw [hs2]; simp, by rw [hs2]; simp, by simp, by rw [hs2]; exact own_ch hbo5 (Ch.refl Nw w5).drew fun _ _ e => e, by rw [hs2]; exact hbf, by rw [hs2]; exact (RmAt.ok ..).ch h5 (Ch.refl Nw w5).drew fun _ _ e => e, cu5.drew, fun ha => ⟨fun hb => ?_, fun _ => hlk2 ha (by simp [hgg]) hbk⟩⟩)
            rw [hs2] at hb
            cases hb
          | some b0 =>
            have hs2 : s.run n x ((cseq x.a 4).take (k + 1)) = t := by rw [hst]; unfold Mr.step; rw [hgg]; simp [hbk]
            simp [go_sem, hgg, f11, hbk]
            refine v_draw' [(0, none), (1, none), (2, none), (3, none), (4, none), (5, none), (6, none), (7, none), (8, none), (9, none), (10, none), (11, none), (12, none), (13, none), (14, none), (15, none), (16, none), (17, none)] (by kernel_rfl) (by kernel_rfl) ?_
            simp [go_sem, f12, hwk]
            refine Rnd.intro (L - (k + 1)) (by omega) (hJ _ _ _ ⟨k + 1, A, cb, rfl, by omega, by simp [f0], by simp [f2], by simp [f4], by simp [f8], by rw [hs2]; simp [f9], by rw [hs2]; simp [f10], by rw [hs2]; simp [f11], by simp, by rw [hs2]; exact own_ch hbo5 (Ch.refl Nw w5).drew fun _ _ e => e, by rw [hs2]; exact hbf, by rw [hs2]; exact (RmAt.ok ..).ch h5 (Ch.refl Nw w5).drew fun _ _ e => e, cu5.drew, fun ha => ?_⟩)
            have := hbn ha
            rw [hbk] at this
            cases this
        · obtain ⟨B, hB⟩ := h5.get hi
          obtain ⟨z, lm, lb, ls, hP⟩ := hB.dk
          have cd := h5.dcell hi
          have cdd : w5.cell? ⟨d i, 6, none⟩ = some (.bool (s.dk i).dead) := cell_blk hP.blk 6
          cases hdd : (s.dk i).dead with
          | true =>
            have hs2 : s.run n x ((cseq x.a 4).take (k + 1)) = t := by rw [hst]; unfold Mr.step; rw [hgg, hji, hdd]; rfl
            simp [go_sem, hgg]
            refine v_draw' [(0, none), (1, none), (2, none), (3, none), (4, none), (5, none), (6, none), (7, none), (8, none), (9, none), (10, none), (11, none), (12, none), (13, none), (14, none), (15, none), (16, none), (17, none)] (by kernel_rfl) (by kernel_rfl) ?_
            simp [go_sem, f0, f8, f12, hlt, hlti, hi, hi2, u05, cd, cdd, hdd, hwk]
            refine Rnd.intro (L - (k + 1)) (by omega) (hJ _ _ _ ⟨k + 1, A, cb, rfl, by omega, by simp [f0], by simp [f2], by simp [f4], by simp [f8], by rw [hs2]; simp [f9], by rw [hs2]; simp [f10], by rw [hs2]; simp [f11], by simp, by rw [hs2]; exact own_ch hbo5 (Ch.refl Nw w5).drew fun _ _ e => e, by rw [hs2]; exact hbf, by rw [hs2]; exact (RmAt.ok ..).ch h5 (Ch.refl Nw w5).drew fun _ _ e => e, cu5.drew, fun ha => ⟨fun hb => hnn2 ha hgg (hbn ha), fun hb => ?_⟩⟩)
            rw [hs2] at hb
            exact absurd (hbn ha) hb
          | false =>
            have hs2 : s.run n x ((cseq x.a 4).take (k + 1)) = { t with F := upd1 t.F i (t.F i + 1), bad := t.bad ++ [j] } := by rw [hst]; unfold Mr.step; rw [hgg, hji, hdd]; rfl
            simp [go_sem, hgg]
            refine v_draw' [(0, none), (1, none), (2, none), (3, none), (4, none), (5, none), (6, none), (7, none), (8, none), (9, none), (10, none), (11, none), (12, none), (13, none), (14, none), (15, none), (16, none), (17, none)] (by kernel_rfl) (by kernel_rfl) ?_
            simp [go_sem, f0, f8, f12, hlt, hlti, hi, hi2, u05, cd, cdd, hdd, hwk]
            refine v_draw' [(0, none), (1, none), (2, none), (3, none), (4, none), (5, none), (6, none), (7, none), (8, none), (9, none), (10, none), (11, none), (12, none), (13, none), (14, some [])] (by kernel_rfl) (by kernel_rfl) ?_
            have h5d := (RmAt.ok ..).ch h5 (Ch.refl Nw w5).drew fun _ _ e => e
            have cF := h5d.fcell hi
            have cF' : w5.drew.cell? ⟨m, 4 + i, none⟩ = some (.int .i64 (t.F i)) := cF
            obtain ⟨mv, hbm⟩ := h5d.blk
            have fm := frz_blk hbm (4 + i)
            have hFi := run_le n s x ((cseq x.a 4).take k) i
            rw [ht, List.length_take] at hFi
            have hFs := fine.found i
            have hwF : IntKind.i64.wrap ((t.F i : Int) + 1) = ((t.F i + 1 : Nat) : Int) := by rw [IntKind.wrap_i64]; omega
            obtain ⟨F1, hF1⟩ : ∃ F1, t.F i + 1 = F1 := ⟨_, rfl⟩
            rw [hF1] at hwF hs2
            have cm6 : Ch (one m) w5 (w5.setCell ⟨m, 4 + i, none⟩ (.int .i64 F1)) := (Ch.refl (one m) w5).setCell (p := ⟨m, 4 + i, none⟩) (.inl rfl) _
            have v06 := cm6.cell u05 hgcm
            have v16 := cm6.cell u15 hgcm
            obtain ⟨h6, _⟩ := h5.set (s' := { s with found := upd1 t.F i F1 }) (fun mv => rmcs_found { s with found := t.F } d e mv hi F1) rfl rfl rfl rfl
            have h6 := h6.trim (by simp) (fun k hk => Nat.lt_of_lt_of_le (hlO k hk) (Nat.le_trans cw3.size (Nat.le_trans cu5.size cm6.size)))
            have h6 := (RmAt.ok ..).ch h6 (Ch.refl Nw _).drew.drew fun _ _ e => e
            have hbo6 := own_ch hbo5 cm6.drew.drew fun y hy e => by simp only [one] at e; subst e; have := hbf _ hy; exact nO _ (by omega) hmO
            have cu6 : Ch (one m) w3 (w5.setCell ⟨m, 4 + i, none⟩ (.int .i64 F1)).drew.drew := cu5.trans cm6.drew.drew
            obtain ⟨N, hN⟩ : ∃ N, t.bad.length = N := ⟨_, rfl⟩
            rw [hN] at hbo6 f9 hbf
            simp [go_sem, f0, f8, f9, f12, hlt, hlti, hi, hi2, u05, u15, cF', fm, hwF, v06, v16]
            have esz : (w5.setCell ⟨m, 4 + i, none⟩ (.int .i64 F1)).drew.drew.heap.size = w5.heap.size := by simp
            have ead : ∀ (w : World) o, (w.alloc o).drew.drew = w.drew.drew.alloc o := fun _ _ => rfl
            rw [ead, ← esz]
            generalize (w5.setCell ⟨m, 4 + i, none⟩ (.int .i64 F1)).drew.drew = w6 at *
            have hcn : cenc x.a j = [.int .i64 i, .int .u16 (adr x j)] := by unfold cenc adr; rw [show (j : Int) / 2 = i by omega]
            have hco : cocs x (t.bad ++ [j]) = cocs x t.bad ++ [.int .i64 i, .int .u16 (adr x j)] := by unfold cocs; rw [List.flatMap_append, List.flatMap_cons, List.flatMap_nil, hcn]; rfl
            refine VB_app1S tyCo (us := [.int .i64 i, .int .u16 (adr x j)]) hbo6 rfl (by simp [Value.oneCell']) (by unfold maxLen; omega) (by omega) fun cv' W4 own4 cl4 ff4 => ?_
            have hcv4 : Fresh w3.heap.size cv' := by
              rcases ff4 with ff4 | ff4
              · intro y hy; exact hbf y (by rw [← ff4]; exact hy)
              · exact ff4.mono cu6.size
            obtain ⟨gq, capq, curq, hcvs, _⟩ := ownS_blk own4 (by omega)
            subst hcvs
            have h7 := (RmAt.ok ..).ch h6 cl4 fun y hy e => by have := hbf _ e; exact nO y (by omega) hy
            have cu7 : Ch (one m) w3 W4 := cu6.trans' cl4 fun y hy e => by have := hbf _ e; omega
            simp [go_sem, f12, hwk]
            refine Rnd.intro (L - (k + 1)) (by omega) (hJ _ _ _ ⟨k + 1, some ⟨gq, 0, none⟩, capq, rfl, by omega, by simp [f0], by simp [f2], by simp [f4], by simp [f8], by rw [hs2, List.length_append, hN]; simp, by rw [hs2]; simp [f10], by rw [hs2]; simp [f11], by simp, by rw [hs2, hco, List.length_append, hN]; exact own4, by rw [hs2, List.length_append, hN]; exact hcv4, by rw [hs2]; exact h7, cu7, fun ha => ⟨fun hb => hnn2 ha hgg (hbn ha), fun hb => ?_⟩⟩)
            rw [hs2] at hb
            exact absurd (hbn ha) hb
    · have hlk : s.lks n x all = (cseq x.a 4).take k := by
        rcases Nat.lt_or_ge k L with hlt | hge
        · have hal : all = false := by
            cases all with
            | true => exact absurd ⟨hlt, .inl rfl⟩ hgo
            | false => rfl
          exact (hno hal).2 fun hb => hgo ⟨hlt, .inr hb⟩
        · obtain rfl : k = L := by omega
          have htl : (cseq x.a 4).take k = cseq x.a 4 := by rw [← hL, List.take_length]
          rw [htl]
          cases hal : all with
          | true => rfl
          | false =>
            by_cases hb : t.blk = none
            · have := (hno hal).1 hb
              rw [htl] at this
              exact s.cut_none n x this
            · have := (hno hal).2 hb
              rw [htl, hal] at this
              exact this
      have hx1 : s.heal n x all = match t.blk with
          | none => ({ s with found := t.F }, [], 21)
          | some b => (t.bad.foldl (Mr.mend n x b) { s with found := t.F }, b, 0) := by
        unfold Mr.heal
        rw [if_pos hmay, hlk]
        simp only [ht]
        rfl
      have cw4 : Ch O w u := (cw3.mono fun _ _ e => e.elim).trans (cu.mono fun y _ e => by simp only [one] at e; subst e; exact hmO)
      have hfine : ({ s with found := t.F } : Mr).Fine (c + 4) := by
        refine ⟨fine.fuse, fun i hi => by have := fine.cache i hi; show (s.dk i).cache.length ≤ _; omega, fine.astray, fun i => ?_, fun i => by have := fine.mended i; show s.mended i ≤ _; omega, by have := fine.moves; show s.moves.length ≤ _; omega⟩
        have h1 := run_le n s x ((cseq x.a 4).take k) i
        have h2 := fine.found i
        rw [ht, List.length_take] at h1
        show t.F i ≤ _
        omega
      have hbl : ∀ b, t.blk = some b → b.length = 512 := fun b hb => by rw [← ht] at hb; exact run_fit n s x _ hb
      have hbm : ∀ j ∈ t.bad, j < 4 := fun j hj => by
        rw [← ht] at hj
        exact (cseq_lt (List.mem_of_mem_take (run_bad_mem n s x _ j hj))).1
      have hbul : ∀ y, (Value.slice A t.bad.length cb).ownBlock = some y → y < u.heap.size := fun y hy => own_blt hbo y hy
      obtain ⟨tb, htb⟩ : ∃ tb, t.bad = tb := ⟨_, rfl⟩
      obtain ⟨N, hN⟩ : ∃ N, tb.length = N := ⟨_, rfl⟩
      rw [htb] at f9 hbo hbf hbul hx1 hNl hbm
      rw [hN] at f9 hbo hbf hbul hNl
      have hend : ∀ {Q : Prop}, (k < L → all = false ∧ t.blk ≠ none → Q) → (k = L → Q) → Q := fun h1 h2 => by
        rcases Nat.lt_or_ge k L with hlt | hge
        · refine h1 hlt ⟨?_, fun hb => hgo ⟨hlt, .inr hb⟩⟩
          cases all with
          | true => exact absurd ⟨hlt, .inl rfl⟩ hgo
          | false => rfl
        · exact h2 (by omega)
      cases hbk : t.blk with
      | none =>
        rw [hbk] at hx1
        refine hend (fun _ hh => absurd hbk hh.2) fun hkL => ?_
        subst hkL
        rw [hbk] at f11 f10
        simp [go_sem, f0, f2, f8, f11, f12, hlen]
        rw [hx1] at hR
        refine hR _ _ ⟨rfl, (RmAt.ok ..).weak hu (fun y hy => .inl hy) (Gr.lt hlO cw4.size), cw4⟩
      | some b =>
        rw [hbk] at hx1 f10 f11
        rw [hx1] at hR
        have hb5 := hbl b hbk
        have f10 : f 10 = .string ⟨b.toArray⟩ := f10
        refine hend (fun hlt hh => ?_) fun hkL => ?_
        case' refine_1 =>
          have hlti : (k : Int) < L := by omega
          simp [go_sem, f0, f2, f8, f11, f12, hlen, hlti, hh.1]
        case' refine_2 =>
          simp [go_sem, f0, f2, f8, f11, f12, hlen, hkL]
        all_goals
          refine v_loop (fun r f' u' => ∃ k2, r = N - k2 ∧ k2 ≤ N ∧ f' 0 = .pointer (some ⟨m, 0, none⟩) ∧ f' 4 = .pointer (some ⟨g, 0, none⟩) ∧ f' 9 = .slice A N cb ∧ f' 10 = .string ⟨b.toArray⟩ ∧ f' 15 = .int .i64 k2 ∧ RmAt m q n d e ((tb.take k2).foldl (Mr.mend n x b) { s with found := t.F }) u' (Gr O u u') ∧ ((tb.take k2).foldl (Mr.mend n x b) { s with found := t.F }).Fine (c + 4 + k2) ∧ Ch O u u') N
            ⟨0, rfl, Nat.zero_le _, by simp [f0], by simp [f4], by simp [f9], by simp [f10], by simp, (RmAt.ok ..).weak hu (fun y hy => .inl hy) (Gr.lt (fun y hy => Nat.lt_of_lt_of_le (hlO y hy) cw4.size) (Nat.le_refl _)), hfine, Ch.refl _ _⟩ ?_
          rintro J2 hJ2 _ f' u' ⟨k2, rfl, hk2, f0', f4', f9', f10', f15', hat, hfin, cu'⟩
          by_cases hlt2 : k2 < N
          · have hlti2 : (k2 : Int) < N := by omega
            have hwk2 : IntKind.i64.wrap ((k2 : Int) + 1) = ((k2 + 1 : Nat) : Int) := by rw [IntKind.wrap_i64]; omega
            obtain ⟨j, hj⟩ : ∃ j, tb[k2]? = some j := ⟨_, List.getElem?_eq_getElem (by omega)⟩
            have hj4 : j < 4 := hbm j (List.mem_of_getElem? hj)
            obtain ⟨hc0, hc1⟩ := cocs_at x hj
            obtain ⟨gc, cap, cur, hcvv, hcap1, hcap2, hgc, hgcs, hcells⟩ := ownS_blk hbo (by omega)
            have hgcb : (Value.slice A N cb).ownBlock = some gc := by rw [hcvv]; rfl
            have hgcO : ¬ O gc := nO _ (by have := hbf gc hgcb; omega)
            have u0 := cu'.cell (hcells _ _ hc0) hgcO
            have u1 := cu'.cell (hcells _ _ hc1) hgcO
            have bu' := cu'.obj bu (nO _ (Nat.le_refl _))
            have hme := rmend_any ((RmAt.ok ..).ch hat (Ch.refl Nw u').drew fun _ _ e => e) x ok hfin (by omega) hn j hj4 b (by omega)
            obtain ⟨i, hji⟩ : ∃ i, j / 2 = i := ⟨_, rfl⟩
            rw [hji] at u0 hme
            rw [hcvv] at f9'
            simp [go_sem, f9', f15', hlen, hlti2]
            refine v_draw' [(0, none), (1, none), (2, none), (3, none), (4, none), (5, none), (6, none), (7, some [])] (by kernel_rfl) (by kernel_rfl) ?_
            simp [go_sem, f0', f4', f9', f10', f15', bu', hps, hpa, hlt2, hlti2, u0, u1]
            refine hme.mono ?_
            rintro v9 w9 ⟨h9, c9⟩
            have c9 : Ch (Gr O u u') u' w9 := Ch.of_drew c9
            have cu9 : Ch O u w9 := Ch.then' cu' c9
            have hlu : ∀ y, O y → y < u.heap.size := fun y hy => Nat.lt_of_lt_of_le (hlO y hy) cw4.size
            have h9 : RmAt m q n d e _ w9 (Gr O u w9) := RmAt.then' h9 hlu cu'.size c9.size
            have e1 : (tb.take (k2 + 1)).foldl (Mr.mend n x b) { s with found := t.F } = Mr.mend n x b ((tb.take k2).foldl (Mr.mend n x b) { s with found := t.F }) j := by
              rw [List.take_add_one, hj]
              simp
            simp [go_sem, f15', hwk2]
            exact Rnd.intro (N - (k2 + 1)) (by omega) (hJ2 _ _ _ ⟨k2 + 1, rfl, by omega, by simp [f0'], by simp [f4'], by simp [f9', hcvv], by simp [f10'], by simp, by rw [e1]; exact h9, by rw [e1]; exact hfin.mend x b j, cu9⟩)
          · obtain rfl : k2 = N := by omega
            simp [go_sem, f9', f10', f15', hlen]
            rw [← hN, List.take_length] at hat
            exact hR _ _ ⟨rfl, RmAt.since hat hlO cw4.size cu'.size, cw4.trans cu'⟩
end
end Go.Proofs.YtppilgkgnofkpaaGreatDoor
