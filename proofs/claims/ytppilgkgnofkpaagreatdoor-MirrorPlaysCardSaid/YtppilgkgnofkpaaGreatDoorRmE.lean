/- The document's mirror writes, flushes. No condition but on sizes. -/
import Derived.Test.YtppilgkgnofkpaaGreatDoorRmD
set_option linter.unusedSimpArgs false
set_option linter.unusedVariables false

namespace Go.Proofs.YtppilgkgnofkpaaGreatDoor
open Go.RowKit Go.Kin

section
variable {w w' : World} {m q n i c : Nat} {d e : Nat → Nat} {s : Mr} {O : Nat → Prop} {D' : Dk} {P' : Pwr}
/-- a disk's own step -/
theorem RmAt.dmove (h : RmAt m q n d e s w O) (hi : i < 2) (hd : ∀ B, Rd w (d i) q n (s.dk i) s.P B → (∀ k, B k → O k) → Rd w' (d i) q n D' P' (Gr B w w') ∧ Ch (fun k => B k ∨ k = q) w w') :
    RmAt m q n d e { s with dk := upd1 s.dk i D', P := P' } w' (Gr O w w') ∧ Ch O w w' := by
  obtain ⟨⟨mv, h⟩, o⟩ := h
  obtain ⟨a, b⟩ := h.move (i := 1) (H' := RdT d q n (upd1 s.dk i D') P') (w' := w') RmL.ok rfl fun O1 h1 hO => h1.move hi fun B hB hBO => hd B hB fun k hk => hO k (hBO k hk)
  exact ⟨⟨⟨mv, a⟩, o⟩, b⟩
theorem dk_same (s : Mr) (i : Nat) : upd1 s.dk i (s.dk i) = s.dk := by
  funext j
  unfold upd1
  split
  · subst ‹j = i›; rfl
  · rfl
/-- the power's step -/
theorem RmAt.pmove (h : RmAt m q n d e s w O) (hp : PwR w q s.P → PwR w' q P') (hc : Ch (one q) w w') :
    RmAt m q n d e { s with P := P' } w' (Gr O w w') ∧ Ch O w w' := by
  have := h.dmove (i := 0) (D' := s.dk 0) (P' := P') (w' := w') (by omega) fun B hB _ => ⟨hB.power (hp hB.pw) hc, hc.mono fun _ _ e => .inr e⟩
  rwa [dk_same] at this
set_option maxRecDepth 100000 in
set_option maxHeartbeats 4000000 in
theorem rwrite_any (h : RmAt m q n d e s w O) (x : Pt) (ok : PtOk x) (b : Byts) (hb : b.length ≤ 800000) (fine : s.Fine c) (hc : c ≤ 700000) :
    Ret Tryz.prog 13 #[.pointer (some ⟨m, 0, none⟩), .agg (pt x), .string ⟨b.toArray⟩] w fun v' w' => v' = .int .i64 (s.write n x b).2 ∧ RmAt m q n d e (s.write n x b).1 w' (Gr O w w') ∧ Ch O w w' := by
  refine v_enter Tryz.func13 Tryz.ntmps13 rfl (by simp) fun R' hR => ?_
  have hps := pt_size ok
  have hpa := pt_all ok
  have hlO := (RmAt.ok m q n d e s).lt h
  have ca := (Ch.refl Nw w).alloc (.cells (pt x) 58)
  have b0 := hp_alloc w (.cells (pt x) 58)
  have sa : (w.alloc (.cells (pt x) 58)).heap.size = w.heap.size + 1 := by simp
  simp [go_sem, hps, hpa]
  obtain ⟨g, hg⟩ : ∃ g, w.heap.size = g := ⟨_, rfl⟩
  rw [hg] at b0 sa ⊢
  generalize w.alloc (.cells (pt x) 58) = w1 at *
  refine (rmay_any x w1 ok).mono ?_
  rintro _ w2 ⟨rfl, c2⟩
  rw [mayR_eq x ok]
  have cw2 : Ch Nw w w2 := ca.trans c2
  have b02 := c2.obj b0 id
  have h2 := (RmAt.ok ..).ch h cw2 fun _ _ e => e
  have hs2 := c2.size
  have no : ∀ {u : World}, (mayP x && fitB x b) = false → Ch Nw w u → R' (.int .i64 1) u := fun {u} hmf cu => by
    have hx : s.write n x b = (s, 1) := by unfold Mr.write; rw [hmf]; rfl
    rw [hx] at hR
    exact hR _ _ ⟨rfl, (RmAt.ok ..).weak ((RmAt.ok ..).ch h cu fun _ _ e => e) (fun k hk => .inl hk) (Gr.lt hlO cu.size), cu.mono fun _ _ e => e.elim⟩
  cases hmay : mayP x with
  | false =>
    simp [go_sem]
    exact no (by rw [hmay]; rfl) cw2
  | true =>
    simp [go_sem, b02, hps, hpa]
    refine (rfits_any x b w2 ok hb).mono ?_
    rintro _ w3 ⟨rfl, c3⟩
    have cw3 : Ch Nw w w3 := cw2.trans c3
    have b03 := c3.obj b02 id
    cases hfit : fitB x b with
    | false =>
      simp [go_sem]
      exact no (by rw [hmay, hfit]; rfl) cw3
    | true =>
      clear no
      have hx : s.write n x b = (cseq x.a 4).foldl (Mr.put n x b) (s, 21) := by unfold Mr.write; rw [hmay, hfit]; rfl
      rw [hx] at hR
      simp [go_sem, b03, hps, hpa]
      refine (rcopies_any x w3 ok).mono ?_
      intro lv w4 hlv
      have c4 := hlv.ch
      have cw4 : Ch Nw w w4 := cw3.trans c4
      have h4 := (RmAt.ok ..).ch h cw4 fun _ _ e => e
      have hs4 := cw4.size
      have hs3 := cw3.size
      obtain ⟨L, hL⟩ : ∃ L, (cseq x.a 4).length = L := ⟨_, rfl⟩
      have hL4 : L ≤ 4 := by rw [← hL]; exact cseq_le _ _
      have hlvo := hlv.own
      rw [hL] at hlvo
      have hlvf := hlv.fresh
      obtain ⟨Al, cl, hlvs⟩ : ∃ A c, lv = .slice A L c := by
        rcases hlvo.2 with ⟨hv, h0⟩ | ⟨g, cap, cur, hv, _⟩
        · exact ⟨none, 0, by rw [hv, h0]⟩
        · exact ⟨_, _, hv⟩
      clear hlv
      subst hlvs
      have nO : ∀ j, g ≤ j → ¬ O j := fun j hj e => by have := hlO j e; omega
      have hlen : ∀ (A : Option Addr) (k c : Nat) w', (Builtin.len_ #[108] 3 #[.slice A k c]).run Tryz.prog w' = .ok (.int .i64 k) w' := fun A k c w' => by simp [Builtin.len_, run_underlying Tryz.underlying108, goInt]
      have hl4 : ∀ k, O k → k < w4.heap.size := fun k hk => Nat.lt_of_lt_of_le (hlO k hk) hs4
      simp [go_sem]
      refine v_loop (fun r f u => ∃ (k : Nat), r = L - k ∧ k ≤ L ∧ f 0 = .pointer (some ⟨m, 0, none⟩) ∧ f 2 = .string ⟨b.toArray⟩ ∧ f 7 = .int .i64 (((cseq x.a 4).take k).foldl (Mr.put n x b) (s, 21)).2 ∧ f 8 = .slice Al L cl ∧ f 9 = .int .i64 k
          ∧ RmAt m q n d e (((cseq x.a 4).take k).foldl (Mr.put n x b) (s, 21)).1 u (Gr O w4 u) ∧ (((cseq x.a 4).take k).foldl (Mr.put n x b) (s, 21)).1.Fine (c + k) ∧ Ch O w4 u) L
        ⟨0, rfl, Nat.zero_le _, by simp, by simp, by simp, by simp, by simp, (RmAt.ok ..).weak h4 (fun y hy => .inl hy) (Gr.lt hl4 (Nat.le_refl _)), fine, Ch.refl _ _⟩ ?_
      rintro J hJ _ f u ⟨k, rfl, hk, f0, f2, f7, f8, f9, hu, hfin, cu⟩
      obtain ⟨t, ht⟩ : ∃ t, ((cseq x.a 4).take k).foldl (Mr.put n x b) (s, 21) = t := ⟨_, rfl⟩
      rw [ht] at f7 hu hfin
      by_cases hlt : k < L
      · have hlti : (k : Int) < L := by omega
        have hwk : IntKind.i64.wrap ((k : Int) + 1) = ((k + 1 : Nat) : Int) := by rw [IntKind.wrap_i64]; omega
        obtain ⟨j, hj⟩ : ∃ j, (cseq x.a 4)[k]? = some j := ⟨_, List.getElem?_eq_getElem (by omega)⟩
        have hj4 : j < 4 := (cseq_lt (List.mem_of_getElem? hj)).1
        obtain ⟨hc0, hc1⟩ := cocs_at x hj
        obtain ⟨gc, cap, cur, hcvv, hcap1, hcap2, hgc, hgcs, hcells⟩ := ownS_blk hlvo (by omega)
        cases hcvv
        have hgcO : ¬ O gc := nO _ (by have := hlvf gc rfl; omega)
        have u0 := cu.cell (hcells _ _ hc0) hgcO
        have u1 := cu.cell (hcells _ _ hc1) hgcO
        have hi : j / 2 < 2 := by omega
        have hal := adr_lt ok j
        obtain ⟨i, hji⟩ : ∃ i, j / 2 = i := ⟨_, rfl⟩
        rw [hji] at u0 hi
        have hi2 : (i : Int) < 2 := by omega
        have hst : ((cseq x.a 4).take (k + 1)).foldl (Mr.put n x b) (s, 21) = Mr.put n x b t j := by rw [List.take_add_one, hj]; simp [ht]
        have hwr : t.1.writ n x b j = { t.1 with dk := upd1 t.1.dk i ((t.1.dk i).write n t.1.P (adr x j) b), P := (t.1.dk i).wpow n t.1.P (adr x j) b } := by unfold Mr.writ; rw [hji]
        have cd := hu.dcell hi
        have hud := (RmAt.ok ..).ch hu (Ch.refl Nw u).drew fun _ _ e => e
        simp [go_sem, f8, f9, hlen, hlti]
        refine v_draw' [(0, none), (1, none), (2, none), (3, none), (4, none), (5, none), (6, none), (7, none), (8, none), (9, none), (10, none), (11, none), (12, none), (13, none), (14, none), (15, none), (16, some []), (17, none)] (by kernel_rfl) (by kernel_rfl) ?_
        simp [go_sem, f0, f2, f8, f9, hlt, hlti, hi, hi2, u0, u1, cd]
        refine (hud.disk hi (D' := (t.1.dk i).write n t.1.P (adr x j) b) (P' := (t.1.dk i).wpow n t.1.P (adr x j) b) (R := fun v' _ => v' = .int .i64 (wrE ((t.1.dk i).writes n t.1.P (adr x j) b))) fun B hB hBO => hB.write (adr x j) hal b hfin.fuse (by have := hfin.cache i hi; omega) (hfin.astray i hi)).mono ?_
        rintro _ w9 ⟨rfl, h9, c9⟩
        rw [← hwr] at h9
        have c9 : Ch (Gr O w4 u) u w9 := Ch.of_drew c9
        have cu9 : Ch O w4 w9 := Ch.then' cu c9
        have h9 : RmAt m q n d e _ w9 (Gr O w4 w9) := RmAt.then' h9 hl4 cu.size c9.size
        have hfin9 := hfin.writ (n := n) x b j
        by_cases hE : wrE ((t.1.dk i).writes n t.1.P (adr x j) b) = 0
        · have e2 : Mr.put n x b t j = (t.1.writ n x b j, 0) := by unfold Mr.put; rw [hji, wrOk_iff, hE]; rfl
          rw [e2] at hst
          simp [go_sem, hE, f9, hwk]
          exact Rnd.intro (L - (k + 1)) (by omega) (hJ _ _ _ ⟨k + 1, rfl, by omega, by simp [f0], by simp [f2], by rw [hst]; simp, by simp [f8], by simp, by rw [hst]; exact h9, by rw [hst]; exact hfin9, cu9⟩)
        · have e2 : Mr.put n x b t j = (t.1.writ n x b j, t.2) := by unfold Mr.put; rw [hji, wrOk_iff, decide_eq_false hE]; rfl
          have hE2 : ((wrE ((t.1.dk i).writes n t.1.P (adr x j) b)) == 0) = false := beq_false_of_ne hE
          rw [e2] at hst
          simp [go_sem, hE, hE2, f9, hwk]
          exact Rnd.intro (L - (k + 1)) (by omega) (hJ _ _ _ ⟨k + 1, rfl, by omega, by simp [f0], by simp [f2], by rw [hst]; simp [f7], by simp [f8], by simp, by rw [hst]; exact h9, by rw [hst]; exact hfin9, cu9⟩)
      · obtain rfl : k = L := by omega
        have htl : (cseq x.a 4).take k = cseq x.a 4 := by rw [← hL, List.take_length]
        rw [htl] at ht
        rw [ht] at hR
        simp [go_sem, f7, f8, f9, hlen]
        exact hR _ _ ⟨rfl, RmAt.since hu hlO hs4 cu.size, (cw4.mono fun _ _ e => e.elim).trans cu⟩
theorem rflush_any (h : RmAt m q n d e s w O) (fine : s.Fine c) (hc : c ≤ 700000) :
    Ret Tryz.prog 15 #[.pointer (some ⟨m, 0, none⟩)] w fun v' w' => v' = .int .i64 s.flush.2 ∧ RmAt m q n d e s.flush.1 w' (Gr O w w') ∧ Ch O w w' := by
  refine v_enter Tryz.func15 Tryz.ntmps15 rfl (by simp) fun R' hR => ?_
  have hlO := (RmAt.ok m q n d e s).lt h
  have cd0 := h.dcell (i := 0) (by omega)
  simp [go_sem, cd0]
  obtain ⟨ba, hba⟩ : ∃ ba : Bool, ((s.dk 0).able s.P && s.P.made) = ba := ⟨_, rfl⟩
  refine (h.disk (i := 0) (by omega) (R := fun v' _ => v' = .int .i64 (if ba then 0 else 3)) fun B hB hBO => (hB.flush fine.fuse (by have := fine.cache 0 (by omega); omega)).mono fun v w' hh => ⟨by rw [← hba]; exact hh.1, hh.2⟩).mono ?_
  rintro _ w1 ⟨rfl, h1, c1⟩
  have h1 : RmAt m q n d e (s.flush1 0).1 w1 (Gr O w w1) := h1
  have fine1 := fine.flush1 0
  obtain ⟨t, ht⟩ : ∃ t, (s.flush1 0).1 = t := ⟨_, rfl⟩
  rw [ht] at h1 fine1
  have cd1 := h1.dcell (i := 1) (by omega)
  simp [go_sem, cd1]
  obtain ⟨bb, hbb⟩ : ∃ bb : Bool, ((t.dk 1).able t.P && t.P.made) = bb := ⟨_, rfl⟩
  refine (h1.disk (i := 1) (by omega) (R := fun v' _ => v' = .int .i64 (if bb then 0 else 3)) fun B hB hBO => (hB.flush fine1.fuse (by have := fine1.cache 1 (by omega); omega)).mono fun v w' hh => ⟨by rw [← hbb]; exact hh.1, hh.2⟩).mono ?_
  rintro _ w2 ⟨rfl, h2, c2⟩
  have h2 : RmAt m q n d e (t.flush1 1).1 w2 (Gr (Gr O w w1) w1 w2) := h2
  have h2 := RmAt.then' h2 hlO c1.size c2.size
  have hf : s.flush = ((t.flush1 1).1, if ((s.dk 0).able s.P && s.P.made) || ((t.dk 1).able t.P && t.P.made) then 0 else 21) := by unfold Mr.flush; rw [ht]; rfl
  rw [hba, hbb] at hf
  rw [hf] at hR
  have c12 := Ch.then' c1 c2
  cases ba with
  | true =>
    simp [go_sem]
    exact hR _ _ ⟨rfl, h2, c12⟩
  | false =>
    cases bb with
    | true =>
      simp [go_sem]
      exact hR _ _ ⟨rfl, h2, c12⟩
    | false =>
      simp [go_sem]
      exact hR _ _ ⟨rfl, h2, c12⟩
end
end Go.Proofs.YtppilgkgnofkpaaGreatDoor
