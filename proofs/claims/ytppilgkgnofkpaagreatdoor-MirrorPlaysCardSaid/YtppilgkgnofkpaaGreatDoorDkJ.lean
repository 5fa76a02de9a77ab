/- A disk's faults, and a new one, as contracts on calls. No condition but on sizes. -/
import Derived.Test.YtppilgkgnofkpaaGreatDoorDkI
set_option linter.unusedSimpArgs false
set_option linter.unusedVariables false

namespace Go.Proofs.YtppilgkgnofkpaaGreatDoor
open Go.RowKit Go.Kin

section
variable {w : World} {d p n : Nat} {D : Dk} {O Y : Nat → Prop} {z : Dn} {vs : List (Nat × Value)}
theorem CacheAt.lit {v : Value} {c : List (Nat × Byts)} (h : CacheAt w v c Y vs) : ∀ x ∈ vs, ∃ A n c, x.2 = .slice A n c := by
  intro x hx
  obtain ⟨i, hi⟩ := List.mem_iff_getElem?.1 hx
  have hil := (List.getElem?_eq_some_iff.1 hi).1
  obtain ⟨e, he⟩ : ∃ e, c[i]? = some e := ⟨_, List.getElem?_eq_getElem (by rw [← h.len]; exact hil)⟩
  obtain ⟨a, b⟩ := e
  obtain ⟨u, h1, ⟨A, c, h2, _⟩, _⟩ := h.each i a b he
  rw [hi] at h1
  cases h1
  exact ⟨_, _, _, h2⟩
theorem CacheAt.drop {v v' : Value} {c : List (Nat × Byts)} {w' : World} (h : CacheAt w v c Y vs) (a : Nat) (hc : Ch (fun k => v.ownBlock = some k) w w') (hn : ∀ k, Y k → v.ownBlock ≠ some k)
    (ho : w'.ownsRow 0 140 2 v' (vs.filter fun e => e.1 != a).length (rowsL wc (vs.filter fun e => e.1 != a))) : CacheAt w' v' (dropC c a) Y (vs.filter fun e => e.1 != a) := by
  obtain ⟨h1, h2⟩ := par_filter (R := fun u b => Yb w' Y u b) (fun x => x != a) c vs h.len fun i x b hi => by
    obtain ⟨u, h3, h4⟩ := h.each i x b hi
    exact ⟨u, h3, h4.ch hc hn⟩
  exact ⟨by rw [show (dropC c a).length = _ from h1.symm]; exact ho, h1, h2⟩
theorem fault_any (a : Nat) (ha : a < 65536) (h : DkP w d p n D O z vs Y) (hcl : D.cache.length ≤ 1000000) (fd : FuncId) (cp : List Value) {Q : World → Prop} (hfn : ∀ (x : List Value) (w : World), (callFunc fd x.toArray).run Tryz.prog w = .ok (.enter fd x.toArray) w)
    (hdo : ∀ u z' vs', z'.bm = z.bm → z'.bb = z.bb → z'.bs = z.bs → DkP u d p n { D with cache := dropC D.cache a } (Gr O w u) z' vs' Y → Ch (fun k => k = d ∨ z.cv.ownBlock = some k) w u → Ret Tryz.prog fd cp.toArray u fun v' w' => v' = .tuple #[] ∧ Q w') :
    Ret Tryz.prog 74 #[.pointer (some ⟨d, 0, none⟩), .int .u16 a, .func (.func fd) #[] cp.toArray] w fun v' w' => if a < n then v' = .int .i64 0 ∧ Q w' else v' = .int .i64 1 ∧ Ch Nw w w' := by
  refine v_enter Tryz.func74 Tryz.ntmps74 rfl (by simp) fun R' hR => ?_
  have ca := (Ch.refl Nw w).alloc (.cells #[.int .u16 a] 52)
  have ba' := hp_alloc w (.cells #[.int .u16 a] 52)
  have h1 := h.ch ca fun _ _ e => e
  simp [go_sem]
  revert ca ba' h1
  generalize w.alloc (.cells #[.int .u16 a] 52) = w1
  generalize hgq : w.heap.size = q
  intro ca ba' h1
  have ba := fun i => cell_blk ba' i
  refine (has_any a ha h1).mono ?_
  rintro _ w2 ⟨rfl, hw2⟩
  subst hw2
  by_cases han : a < n
  · have c3 : w2.cell? ⟨d, 3, none⟩ = some z.cv := cell_blk h1.blk 3
    have z3 := frz_blk h1.blk 3
    obtain ⟨A, cc, hcv, _, _⟩ := h.cvl
    rw [hcv] at c3
    simp [go_sem, han, c3]
    have hown := h1.cache.own
    rw [hcv] at hown
    refine (delete_any q a _ D.cache.length vs w2 hcl hown h1.cache.len h1.cache.lit ba').mono ?_
    rintro v3 w3 ⟨o3, b3, k3⟩
    rw [← hcv] at b3 k3
    obtain ⟨A3, m3, cc3, rfl⟩ : ∃ A m c, v3 = .slice A m c := by
      rcases o3.2 with ⟨e, _⟩ | ⟨_, _, _, e, _⟩
      · exact ⟨_, _, _, e⟩
      · exact ⟨_, _, _, e⟩
    have hdc : ∀ k, z.cv.ownBlock = some k → k ≠ d := fun k hk => (h.dcv k hk).1
    have b4 := k3.hp h1.blk fun e => hdc d e rfl
    have c4 := fun i => cell_blk b4 i
    have z4 := frz_blk b4 3
    simp [go_sem, han, c4, z4, dcs]
    have b5 : (w3.setCell ⟨d, 3, none⟩ (.slice A3 m3 cc3)).heap[d]? = some (.cells (dcs n p { z with cv := .slice A3 m3 cc3 } { D with cache := dropC D.cache a }) 138 (0, 0)) := by rw [hp_setCell, b4, setOf_cells]; rfl
    have k5 : Ch (fun k => k = d ∨ z.cv.ownBlock = some k) w2 (w3.setCell ⟨d, 3, none⟩ (.slice A3 m3 cc3)) := (Ch.mono (S' := fun k => k = d ∨ z.cv.ownBlock = some k) k3 fun _ _ e => .inr e).setCell (p := ⟨d, 3, none⟩) (.inl (.inl rfl)) _
    have hvY : ∀ k, Y k → z.cv.ownBlock ≠ some k := fun k hk e => h.yx k hk (.inr (.inr (.inr (.inr e))))
    have hYd : ∀ k, Y k → k ≠ d := fun k hk => (h.yne k hk).2.1
    have o3d : ∀ k, (Value.slice A3 m3 cc3).ownBlock = some k → ¬ one d k := fun k hk e => hdc k (by rw [← b3]; exact hk) e
    have hsz : w.heap.size ≤ (w3.setCell ⟨d, 3, none⟩ (.slice A3 m3 cc3)).heap.size := Nat.le_trans ca.size k5.size
    have hD5 : DkP (w3.setCell ⟨d, 3, none⟩ (.slice A3 m3 cc3)) d p n { D with cache := dropC D.cache a } (Gr O w (w3.setCell ⟨d, 3, none⟩ (.slice A3 m3 cc3))) { z with cv := .slice A3 m3 cc3 } (vs.filter fun e => e.1 != a) Y := by
      have cs : Ch (one d) w3 (w3.setCell ⟨d, 3, none⟩ (.slice A3 m3 cc3)) := (Ch.refl (one d) w3).setCell (p := ⟨d, 3, none⟩) (.inl rfl) _
      refine h1.own (D' := { D with cache := dropC D.cache a }) (z' := { z with cv := .slice A3 m3 cc3 }) (Y' := Y) (O' := Gr O w _) b5 k5 rfl rfl rfl ⟨rfl, rfl, rfl⟩ ?_ (h1.astray.ch k5 fun k hk e => e.elim (hYd k hk) (hvY k hk)) ⟨h.ok.m, dropC_ok h.ok.cache a⟩ (fun k hk => ?_) (fun _ => .inl) (fun _ => id) (fun j hj => ?_) (Gr.lt h.olt hsz)
      · exact (h1.cache.drop a k3 hvY o3).ch cs o3d fun k hk e => hYd k hk e
      · have hk' : z.cv.ownBlock = some k := by rw [← b3]; exact hk
        exact ⟨.inl (h.ox k (.inr (.inr (.inr (.inr hk'))))), fun hy => hvY k hy hk', hdc k hk'⟩
      · obtain ⟨g1, g2⟩ := h.yne j hj
        exact ⟨.inl g1, g2⟩
    rw [VCall_closure _ _ _ _ _ _ (hfn _ _)]
    refine (hdo _ { z with cv := .slice A3 m3 cc3 } _ rfl rfl rfl hD5 (Ch.trans (ca.mono fun _ _ e => e.elim) k5)).mono ?_
    rintro _ w6 ⟨rfl, hQ⟩
    simp [go_sem]
    exact hR _ _ (by rw [if_pos han]; exact ⟨rfl, hQ⟩)
  · simp [go_sem, han]
    exact hR _ _ (by rw [if_neg han]; exact ⟨rfl, ca⟩)
theorem DkP.xlt (h : DkP w d p n D O z vs Y) : z.bm < w.heap.size ∧ z.bb < w.heap.size ∧ z.bs < w.heap.size := ⟨h.olt _ (h.ox _ (.inr (.inl rfl))), h.olt _ (h.ox _ (.inr (.inr (.inl rfl)))), h.olt _ (h.ox _ (.inr (.inr (.inr (.inl rfl)))))⟩
theorem DkP.on (h : DkP w d p n D O z vs Y) : O d ∧ O z.bm ∧ O z.bb ∧ O z.bs := ⟨h.ox _ (.inl rfl), h.ox _ (.inr (.inl rfl)), h.ox _ (.inr (.inr (.inl rfl))), h.ox _ (.inr (.inr (.inr (.inl rfl))))⟩
theorem bad1_any (a qd qa : Nat) (h : DkP w d p n D O z vs Y) (hd : w.heap[qd]? = some (.cells #[.pointer (some ⟨d, 0, none⟩)] 28 (0, 0))) (ha : w.heap[qa]? = some (.cells #[.int .u16 a] 52 (0, 0))) :
    Ret Tryz.prog 89 #[.pointer (some ⟨qd, 0, none⟩), .pointer (some ⟨qa, 0, none⟩)] w fun v' w' => v' = .tuple #[] ∧ DkAt w' d p n { D with bad := fun x => if x = a then true else D.bad x } (Gr O w w') ∧ Ch O w w' := by
  refine v_enter Tryz.func89 Tryz.ntmps89 rfl (by simp) fun R' hR => ?_
  have cd := fun i => cell_blk hd i
  have cqa := fun i => cell_blk ha i
  have c4 : w.cell? ⟨d, 4, none⟩ = some (.map (some z.bb)) := cell_blk h.blk 4
  have h0 := h.ch (Ch.refl Nw w).drew fun _ _ e => e
  obtain ⟨F, hm, hF⟩ := h0.bad
  obtain ⟨w5, hu, hm5, cu, zu⟩ := hm.upd Tryz.underlying135 Tryz.underlying52 a (.bool true)
  simp [go_sem]
  refine v_draw' [(0, none), (1, none), (2, none), (3, none), (4, none), (5, some [])] (by kernel_rfl) (by kernel_rfl) ?_
  simp [go_sem, cd, cqa, c4, hu]
  have k5 : Ch (one z.bb) w w5 := (Ch.refl _ w).drew.trans' cu fun j _ e => e
  refine hR _ _ ⟨rfl, ⟨z, vs, Y, h.maps k5 (fun k e => .inr (.inl e)) (h.mem.ch k5 h.ne.1 fun k hk e => (h.yne k hk).2.2.2.1 e) ⟨_, hm5, fun x => ?_⟩ (h.stuck.ch k5 h.ne.2.2.1.symm) ⟨rfl, rfl, rfl, rfl⟩ ⟨h.ok.m, h.ok.cache⟩ (fun _ => id) (fun _ => .inl) (fun k hk => .inl hk) (fun k hk => .inl (h.oy k hk)) (Gr.lt h.olt k5.size)⟩, k5.mono fun j _ e => by simp only [one] at e; rw [e]; exact h.on.2.2.1⟩
  by_cases hx : x = a
  · simp [hx]
  · simp only [if_neg hx]; exact hF x
theorem stick1_any (a qd qa : Nat) (h : DkP w d p n D O z vs Y) (hd : w.heap[qd]? = some (.cells #[.pointer (some ⟨d, 0, none⟩)] 28 (0, 0))) (ha : w.heap[qa]? = some (.cells #[.int .u16 a] 52 (0, 0))) :
    Ret Tryz.prog 76 #[.pointer (some ⟨qd, 0, none⟩), .pointer (some ⟨qa, 0, none⟩)] w fun v' w' => v' = .tuple #[] ∧ DkAt w' d p n { D with stuck := fun x => if x = a then true else D.stuck x } (Gr O w w') ∧ Ch O w w' := by
  refine v_enter Tryz.func76 Tryz.ntmps76 rfl (by simp) fun R' hR => ?_
  have cd := fun i => cell_blk hd i
  have cqa := fun i => cell_blk ha i
  have c4 : w.cell? ⟨d, 5, none⟩ = some (.map (some z.bs)) := cell_blk h.blk 5
  have h0 := h.ch (Ch.refl Nw w).drew fun _ _ e => e
  obtain ⟨F, hm, hF⟩ := h0.stuck
  obtain ⟨w5, hu, hm5, cu, zu⟩ := hm.upd Tryz.underlying135 Tryz.underlying52 a (.bool true)
  simp [go_sem]
  refine v_draw' [(0, none), (1, none), (2, none), (3, none), (4, none), (5, some [])] (by kernel_rfl) (by kernel_rfl) ?_
  simp [go_sem, cd, cqa, c4, hu]
  have k5 : Ch (one z.bs) w w5 := (Ch.refl _ w).drew.trans' cu fun j _ e => e
  refine hR _ _ ⟨rfl, ⟨z, vs, Y, h.maps k5 (fun k e => .inr (.inr e)) (h.mem.ch k5 h.ne.2.1 fun k hk e => (h.yne k hk).2.2.2.2 e) (h.bad.ch k5 h.ne.2.2.1) ⟨_, hm5, fun x => ?_⟩ ⟨rfl, rfl, rfl, rfl⟩ ⟨h.ok.m, h.ok.cache⟩ (fun _ => id) (fun _ => .inl) (fun k hk => .inl hk) (fun k hk => .inl (h.oy k hk)) (Gr.lt h.olt k5.size)⟩, k5.mono fun j _ e => by simp only [one] at e; rw [e]; exact h.on.2.2.2⟩
  by_cases hx : x = a
  · simp [hx]
  · simp only [if_neg hx]; exact hF x
theorem rot1_any (a qd qa qb : Nat) (b : Byts) (v : Value) (hb : b.length = 512) (h : DkP w d p n D O z vs Y) (hd : w.heap[qd]? = some (.cells #[.pointer (some ⟨d, 0, none⟩)] 28 (0, 0))) (ha : w.heap[qa]? = some (.cells #[.int .u16 a] 52 (0, 0)))
    (hqb : w.heap[qb]? = some (.cells #[v] 59 (0, 0))) (hv : Sl w v 512 (bvs b)) :
    Ret Tryz.prog 75 #[.pointer (some ⟨qb, 0, none⟩), .pointer (some ⟨qd, 0, none⟩), .pointer (some ⟨qa, 0, none⟩)] w fun v' w' => v' = .tuple #[] ∧ DkAt w' d p n { D with m := fun x => if x = a then some b else D.m x } (Gr O w w') ∧ Ch O w w' := by
  refine v_enter Tryz.func75 Tryz.ntmps75 rfl (by simp) fun R' hR => ?_
  have cd := fun i => cell_blk hd i
  have cqa := fun i => cell_blk ha i
  have cqb := fun i => cell_blk hqb i
  have c2 : w.cell? ⟨d, 2, none⟩ = some (.map (some z.bm)) := cell_blk h.blk 2
  obtain ⟨A, c, rfl, _, _⟩ := id hv
  simp [go_sem]
  refine v_draw' [(0, none), (1, none), (2, none), (3, none), (4, none), (5, none), (6, some [0, 1, 2, 3, 4]), (7, some [])] (by kernel_rfl) (by kernel_rfl) ?_
  have hvd := hv.ch (Ch.refl Nw w).drew fun _ _ e => e
  simp [go_sem, cqb, cd, cqa, c2]
  refine (clone_any _ 512 b _ (by omega) hb hvd).mono ?_
  rintro v3 w3 ⟨o3, c3, f3⟩
  have k3 : Ch Nw w w3 := (Ch.refl Nw w).drew.trans c3
  have h3 := h.ch k3 fun _ _ e => e
  have cd := fun i => cell_blk (k3.hp hd id) i
  have cqa := fun i => cell_blk (k3.hp ha id) i
  have c2 : w3.cell? ⟨d, 2, none⟩ = some (.map (some z.bm)) := cell_blk h3.blk 2
  obtain ⟨F, hm, hF⟩ := h3.mem
  obtain ⟨w5, hu, hm5, cu, zu⟩ := hm.upd Tryz.underlying133 Tryz.underlying52 a v3
  simp [go_sem, cd, cqa, c2, hu]
  have k5 : Ch (one z.bm) w w5 := Ch.trans' (k3.mono fun _ _ e => e.elim) cu fun j _ e => e
  have hlt3 := own_blt o3
  have hfr : ∀ j, v3.ownBlock = some j → w.heap.size ≤ j := fun j hj => f3 j hj
  have hne3 : ∀ j, v3.ownBlock = some j → ¬ isMap z.bm j := fun j hj e => by have := hfr j hj; have := h.xlt.1; simp only [isMap] at e; omega
  have o5 := own_ch o3 cu hne3
  refine hR _ _ ⟨rfl, ⟨z, vs, fun j => Y j ∨ v3.ownBlock = some j, h.maps k5 (fun k e => .inl e) ⟨_, hm5, fun x => ?_⟩ (h.bad.ch k5 h.ne.1.symm) (h.stuck.ch k5 h.ne.2.1.symm) ⟨rfl, rfl, rfl, rfl⟩ ⟨?_, h.ok.cache⟩ (fun _ => .inl) (fun _ => .inl) ?_ ?_ (Gr.lt h.olt k5.size)⟩, k5.mono fun j _ e => by simp only [one] at e; rw [e]; exact h.on.2.1⟩
  · by_cases hx : x = a
    · simp only [if_pos hx]
      refine ⟨fun e => by simp at e, fun c hc => ⟨v3, rfl, ?_⟩⟩
      simp only [Option.some.injEq] at hc
      subst hc
      exact ⟨by rw [hb]; exact Sl.of_own o5, fun j hj => ⟨.inr hj, Nat.lt_of_lt_of_le (hlt3 j hj) cu.size⟩⟩
    · simp only [if_neg hx]
      refine ⟨(hF x).1, fun c hc => ?_⟩
      obtain ⟨u, hu1, hu2⟩ := (hF x).2 c hc
      exact ⟨u, hu1, (hu2.ch cu fun j hj e => (h.yne j hj).2.2.1 e).mono fun j => .inl⟩
  · intro x c hc
    simp only at hc
    split at hc
    · simp at hc; subst hc; exact hb
    · exact h.ok.m x c hc
  · rintro j (hj | hj)
    · exact .inl hj
    · exact .inr (hfr j hj)
  · rintro j (hj | hj)
    · exact .inl (h.oy j hj)
    · exact .inr ⟨hfr j hj, Nat.lt_of_lt_of_le (hlt3 j hj) cu.size⟩
theorem DkAt.le {O2 : Nat → Prop} {w2 w0 : World} (h : DkAt w2 d p n D O2) (hO : ∀ k, O2 k → O k ∨ (w0.heap.size ≤ k ∧ k < w2.heap.size)) (hl : ∀ k, O k → k < w0.heap.size) (hs : w0.heap.size ≤ w2.heap.size) : DkAt w2 d p n D (Gr O w0 w2) := h.mono hO (Gr.lt hl hs)
theorem dkbad_any (a : Nat) (ha : a < 65536) (h : DkP w d p n D O z vs Y) (hcl : D.cache.length ≤ 1000000) :
    Ret Tryz.prog 56 #[.pointer (some ⟨d, 0, none⟩), .int .u16 a] w fun v' w' => v' = .int .i64 (if a < n then 0 else 1) ∧ DkAt w' d p n (if a < n then D.bads a else D) (Gr O w w') ∧ Ch O w w' := by
  refine v_enter Tryz.func56 Tryz.ntmps56 rfl (by simp) fun R' hR => ?_
  have ca := ((Ch.refl Nw w).alloc (.cells #[.pointer (some ⟨d, 0, none⟩)] 28)).alloc (.cells #[.int .u16 a] 52)
  have b0 := al2_0 w (.cells #[.pointer (some ⟨d, 0, none⟩)] 28) (.cells #[.int .u16 a] 52)
  have b1 := al2_1 w (.cells #[.pointer (some ⟨d, 0, none⟩)] 28) (.cells #[.int .u16 a] 52)
  simp [go_sem]
  revert ca b0 b1
  generalize (w.alloc (.cells #[.pointer (some ⟨d, 0, none⟩)] 28)).alloc (.cells #[.int .u16 a] 52) = w1
  generalize hq : w.heap.size = q
  intro ca b0 b1
  have hcs : w.heap.size ≤ w1.heap.size := ca.size
  have hdq : d < q := by rw [← hq]; exact h.lt
  have hcq : ∀ k, z.cv.ownBlock = some k → k < q := fun k hk => by rw [← hq]; exact h.olt k (h.ox k (.inr (.inr (.inr (.inr hk)))))
  have hfn : ∀ (x : List Value) (w : World), (callFunc 89 x.toArray).run Tryz.prog w = .ok (.enter 89 x.toArray) w := fun x w => by simp [go_sem]
  refine (fault_any a ha (h.ch ca fun _ _ e => e) hcl _ [.pointer (some ⟨q, 0, none⟩), .pointer (some ⟨q + 1, 0, none⟩)] (Q := fun w' => DkAt w' d p n (D.bads a) (Gr O w w') ∧ Ch O w w') hfn ?_).mono ?_
  · intro u z' vs' _ _ _ hu ku
    refine (bad1_any a q (q + 1) hu (ku.hp b0 fun e => ?_) (ku.hp b1 fun e => ?_)).mono ?_
    · rcases e with e | e
      · omega
      · have := hcq _ e; omega
    · rcases e with e | e
      · omega
      · have := hcq _ e; omega
    · rintro _ w' ⟨rfl, hD, k⟩
      have h3 : ∀ k, Gr (Gr O w1 u) u w' k → O k ∨ (w.heap.size ≤ k ∧ k < w'.heap.size) := fun j hj => by
        have hk1 := ku.size
        have hk2 := k.size
        rcases hj with (hj | hj) | hj
        · exact .inl hj
        · exact .inr ⟨by omega, by omega⟩
        · exact .inr ⟨by omega, hj.2⟩
      have hk : w.heap.size ≤ w'.heap.size := Nat.le_trans hcs (Nat.le_trans ku.size k.size)
      refine ⟨rfl, DkAt.le hD h3 h.olt hk, Ch.trans' (Ch.trans' (S := O) (ca.mono fun _ _ e => e.elim) ku fun j _ e => ?_) k fun j hj e => ?_⟩
      · rcases e with e | e
        · rw [e]; exact h.on.1
        · exact h.ox j (.inr (.inr (.inr (.inr e))))
      · rcases e with e | e
        · exact e
        · omega
  · intro v' w' hv
    by_cases han : a < n
    · rw [if_pos han] at hv
      obtain ⟨rfl, hD, k⟩ := hv
      simp [go_sem]
      exact hR _ _ ⟨by rw [if_pos han], by rw [if_pos han]; exact hD, k⟩
    · rw [if_neg han] at hv
      obtain ⟨rfl, k⟩ := hv
      simp [go_sem]
      exact hR _ _ ⟨by rw [if_neg han], by rw [if_neg han]; exact (h.ch (ca.trans k) fun _ _ e => e).grow (fun _ => .inl) h.olt (ca.trans k).size, (ca.trans k).mono fun _ _ e => e.elim⟩
theorem stick_any (a : Nat) (ha : a < 65536) (h : DkP w d p n D O z vs Y) (hcl : D.cache.length ≤ 1000000) :
    Ret Tryz.prog 33 #[.pointer (some ⟨d, 0, none⟩), .int .u16 a] w fun v' w' => v' = .int .i64 (if a < n then 0 else 1) ∧ DkAt w' d p n (if a < n then D.stick a else D) (Gr O w w') ∧ Ch O w w' := by
  refine v_enter Tryz.func33 Tryz.ntmps33 rfl (by simp) fun R' hR => ?_
  have ca := ((Ch.refl Nw w).alloc (.cells #[.pointer (some ⟨d, 0, none⟩)] 28)).alloc (.cells #[.int .u16 a] 52)
  have b0 := al2_0 w (.cells #[.pointer (some ⟨d, 0, none⟩)] 28) (.cells #[.int .u16 a] 52)
  have b1 := al2_1 w (.cells #[.pointer (some ⟨d, 0, none⟩)] 28) (.cells #[.int .u16 a] 52)
  simp [go_sem]
  revert ca b0 b1
  generalize (w.alloc (.cells #[.pointer (some ⟨d, 0, none⟩)] 28)).alloc (.cells #[.int .u16 a] 52) = w1
  generalize hq : w.heap.size = q
  intro ca b0 b1
  have hcs : w.heap.size ≤ w1.heap.size := ca.size
  have hdq : d < q := by rw [← hq]; exact h.lt
  have hcq : ∀ k, z.cv.ownBlock = some k → k < q := fun k hk => by rw [← hq]; exact h.olt k (h.ox k (.inr (.inr (.inr (.inr hk)))))
  have hfn : ∀ (x : List Value) (w : World), (callFunc 76 x.toArray).run Tryz.prog w = .ok (.enter 76 x.toArray) w := fun x w => by simp [go_sem]
  refine (fault_any a ha (h.ch ca fun _ _ e => e) hcl _ [.pointer (some ⟨q, 0, none⟩), .pointer (some ⟨q + 1, 0, none⟩)] (Q := fun w' => DkAt w' d p n (D.stick a) (Gr O w w') ∧ Ch O w w') hfn ?_).mono ?_
  · intro u z' vs' _ _ _ hu ku
    refine (stick1_any a q (q + 1) hu (ku.hp b0 fun e => ?_) (ku.hp b1 fun e => ?_)).mono ?_
    · rcases e with e | e
      · omega
      · have := hcq _ e; omega
    · rcases e with e | e
      · omega
      · have := hcq _ e; omega
    · rintro _ w' ⟨rfl, hD, k⟩
      have h3 : ∀ k, Gr (Gr O w1 u) u w' k → O k ∨ (w.heap.size ≤ k ∧ k < w'.heap.size) := fun j hj => by
        have hk1 := ku.size
        have hk2 := k.size
        rcases hj with (hj | hj) | hj
        · exact .inl hj
        · exact .inr ⟨by omega, by omega⟩
        · exact .inr ⟨by omega, hj.2⟩
      have hk : w.heap.size ≤ w'.heap.size := Nat.le_trans hcs (Nat.le_trans ku.size k.size)
      refine ⟨rfl, DkAt.le hD h3 h.olt hk, Ch.trans' (Ch.trans' (S := O) (ca.mono fun _ _ e => e.elim) ku fun j _ e => ?_) k fun j hj e => ?_⟩
      · rcases e with e | e
        · rw [e]; exact h.on.1
        · exact h.ox j (.inr (.inr (.inr (.inr e))))
      · rcases e with e | e
        · exact e
        · omega
  · intro v' w' hv
    by_cases han : a < n
    · rw [if_pos han] at hv
      obtain ⟨rfl, hD, k⟩ := hv
      simp [go_sem]
      exact hR _ _ ⟨by rw [if_pos han], by rw [if_pos han]; exact hD, k⟩
    · rw [if_neg han] at hv
      obtain ⟨rfl, k⟩ := hv
      simp [go_sem]
      exact hR _ _ ⟨by rw [if_neg han], by rw [if_neg han]; exact (h.ch (ca.trans k) fun _ _ e => e).grow (fun _ => .inl) h.olt (ca.trans k).size, (ca.trans k).mono fun _ _ e => e.elim⟩
theorem rot_any (a : Nat) (ha : a < 65536) (b : Byts) (v : Value) (h : DkP w d p n D O z vs Y) (hcl : D.cache.length ≤ 1000000) (hv : Sl w v b.length (bvs b)) (hvO : 0 < b.length → ∀ k, v.ownBlock = some k → ¬ O k) :
    Ret Tryz.prog 31 #[.pointer (some ⟨d, 0, none⟩), .int .u16 a, v] w fun v' w' => v' = .int .i64 (if b.length = 512 ∧ a < n then 0 else 1) ∧ DkAt w' d p n (if b.length = 512 ∧ a < n then D.rot a b else D) (Gr O w w') ∧ Ch O w w' := by
  refine v_enter Tryz.func31 Tryz.ntmps31 rfl (by simp) fun R' hR => ?_
  have ca := (((Ch.refl Nw w).alloc (.cells #[.pointer (some ⟨d, 0, none⟩)] 28)).alloc (.cells #[.int .u16 a] 52)).alloc (.cells #[v] 59)
  have b0 := al3_0 w (.cells #[.pointer (some ⟨d, 0, none⟩)] 28) (.cells #[.int .u16 a] 52) (.cells #[v] 59)
  have b1 := al3_1 w (.cells #[.pointer (some ⟨d, 0, none⟩)] 28) (.cells #[.int .u16 a] 52) (.cells #[v] 59)
  have b2 := al3_2 w (.cells #[.pointer (some ⟨d, 0, none⟩)] 28) (.cells #[.int .u16 a] 52) (.cells #[v] 59)
  obtain ⟨A, c, rfl, hr1, hr2, hr3⟩ := hv
  have hv : Sl w (.slice A b.length c) b.length (bvs b) := ⟨A, c, rfl, hr1, hr2, hr3⟩
  generalize hvv : Value.slice A b.length c = v at *
  by_cases hbl : b.length = 512
  · rw [hbl] at hv hvv
    subst hvv
    simp [go_sem]
    revert ca b0 b1 b2
    generalize ((w.alloc (.cells #[.pointer (some ⟨d, 0, none⟩)] 28)).alloc (.cells #[.int .u16 a] 52)).alloc (.cells #[.slice A 512 c] 59) = w1
    generalize hq : w.heap.size = q
    intro ca b0 b1 b2
    have b2 : w1.heap[q + 1 + 1]? = some (.cells #[.slice A 512 c] 59 (0, 0)) := b2
    have hv1 := hv.ch ca fun _ _ e => e
    have hcs : w.heap.size ≤ w1.heap.size := ca.size
    have hdq : d < q := by rw [← hq]; exact h.lt
    have hcq : ∀ k, z.cv.ownBlock = some k → k < q := fun k hk => by rw [← hq]; exact h.olt k (h.ox k (.inr (.inr (.inr (.inr hk)))))
    have hfn : ∀ (x : List Value) (w : World), (callFunc 75 x.toArray).run Tryz.prog w = .ok (.enter 75 x.toArray) w := fun x w => by simp [go_sem]
    refine (fault_any a ha (h.ch ca fun _ _ e => e) hcl _ [.pointer (some ⟨q + 1 + 1, 0, none⟩), .pointer (some ⟨q, 0, none⟩), .pointer (some ⟨q + 1, 0, none⟩)] (Q := fun w' => DkAt w' d p n (D.rot a b) (Gr O w w') ∧ Ch O w w') hfn ?_).mono ?_
    · intro u z' vs' _ _ _ hu ku
      refine (rot1_any a q (q + 1) (q + 1 + 1) b _ hbl hu (ku.hp b0 fun e => ?_) (ku.hp b1 fun e => ?_) (ku.hp b2 fun e => ?_) (hv1.ch ku fun k hk e => ?_)).mono ?_
      · rcases e with e | e
        · omega
        · have := hcq _ e; omega
      · rcases e with e | e
        · omega
        · have := hcq _ e; omega
      · rcases e with e | e
        · omega
        · have := hcq _ e; omega
      · refine hvO (by omega) k hk ?_
        rcases e with e | e
        · rw [e]; exact h.on.1
        · exact h.ox k (.inr (.inr (.inr (.inr e))))
      · rintro _ w' ⟨rfl, hD, k⟩
        have h3 : ∀ k, Gr (Gr O w1 u) u w' k → O k ∨ (w.heap.size ≤ k ∧ k < w'.heap.size) := fun j hj => by
          have hk1 := ku.size
          have hk2 := k.size
          rcases hj with (hj | hj) | hj
          · exact .inl hj
          · exact .inr ⟨by omega, by omega⟩
          · exact .inr ⟨by omega, hj.2⟩
        have hk : w.heap.size ≤ w'.heap.size := Nat.le_trans hcs (Nat.le_trans ku.size k.size)
        refine ⟨rfl, DkAt.le hD h3 h.olt hk, Ch.trans' (Ch.trans' (S := O) (ca.mono fun _ _ e => e.elim) ku fun j _ e => ?_) k fun j hj e => ?_⟩
        · rcases e with e | e
          · rw [e]; exact h.on.1
          · exact h.ox j (.inr (.inr (.inr (.inr e))))
        · rcases e with e | e
          · exact e
          · omega
    · intro v' w' hv
      by_cases han : a < n
      · rw [if_pos han] at hv
        obtain ⟨rfl, hD, k⟩ := hv
        simp [go_sem]
        exact hR _ _ ⟨by rw [if_pos ⟨hbl, han⟩], by rw [if_pos ⟨hbl, han⟩]; exact hD, k⟩
      · rw [if_neg han] at hv
        obtain ⟨rfl, k⟩ := hv
        simp [go_sem]
        exact hR _ _ ⟨by rw [if_neg fun e => han e.2], by rw [if_neg fun e => han e.2]; exact (h.ch (ca.trans k) fun _ _ e => e).grow (fun _ => .inl) h.olt (ca.trans k).size, (ca.trans k).mono fun _ _ e => e.elim⟩
  · have hbl' : ((b.length : Int) != 512) = true := bne_iff_ne.2 (by omega)
    subst hvv
    simp [go_sem, hbl']
    exact hR _ _ ⟨by rw [if_neg fun e => hbl e.1], by rw [if_neg fun e => hbl e.1]; exact (h.ch ca fun _ _ e => e).grow (fun _ => .inl) h.olt ca.size, ca.mono fun _ _ e => e.elim⟩
theorem new_nil (n : Int) (w : World) : Ret Tryz.prog 38 #[.int .i64 n, .pointer none] w fun v' w' => v' = .tuple #[.pointer none, .int .i64 2] ∧ w' = w := by
  refine v_enter Tryz.func38 Tryz.ntmps38 rfl (by simp) fun R' hR => ?_
  simp [go_sem]
  exact hR _ _ ⟨rfl, rfl⟩
theorem new_arg (n : Int) (p : Nat) (w : World) (hn : n < 1 ∨ 4096 < n) : Ret Tryz.prog 38 #[.int .i64 n, .pointer (some ⟨p, 0, none⟩)] w fun v' w' => v' = .tuple #[.pointer none, .int .i64 1] ∧ w' = w := by
  refine v_enter Tryz.func38 Tryz.ntmps38 rfl (by simp) fun R' hR => ?_
  by_cases h1 : n < 1
  · simp [go_sem, h1]
    exact hR _ _ ⟨rfl, rfl⟩
  · have h2 : 4096 < n := by omega
    simp [go_sem, h1, h2]
    exact hR _ _ ⟨rfl, rfl⟩
def dz : Array Value := #[.int .i64 0, .pointer none, .map none, .slice none 0 0, .map none, .map none, .bool false, .bool false, .pointer none]
theorem zc_dk : zc Tryz.prog 138 = dz := by kernel_rfl
theorem hz_dk : (Tryz.prog.info? 138).map (fun i => i.zero.isSome) = some true := by kernel_rfl
theorem bld_dk (a b c d e : Value) (ha : a.cells = #[a]) (hb : b.cells = #[b]) (hc : c.cells = #[c]) (hd : d.cells = #[d]) (he : e.cells = #[e]) {w : World} {K : Value → World → Prop} :
    VBld Tryz.prog 138 [(0, a), (1, b), (2, c), (4, d), (5, e)] w K = K (.agg #[a, b, c, .slice none 0 0, d, e, .bool false, .bool false, .pointer none]) w :=
  VBld_struct Tryz.underlying138 hz_dk (places := #[(0, 1), (1, 1), (2, 1), (3, 1), (4, 1), (5, 1), (6, 1), (7, 1), (8, 1)]) (by simp [go_sem]) (by simp [fillB, zc_dk, ha, hb, hc, hd, he, dz, blit])
theorem dknew_any (n p : Nat) (w : World) (h1 : 1 ≤ n) (h2 : n ≤ 4096) : Ret Tryz.prog 38 #[.int .i64 n, .pointer (some ⟨p, 0, none⟩)] w fun v' w' => ∃ d, v' = .tuple #[.pointer (some ⟨d, 0, none⟩), .int .i64 0] ∧ DkAt w' d p n Dk.new (fun k => w.heap.size ≤ k ∧ k < w'.heap.size) ∧ Ch Nw w w' := by
  refine v_enter Tryz.func38 Tryz.ntmps38 rfl (by simp) fun R' hR => ?_
  have e1 : ¬ (n : Int) < 1 := by omega
  have e2 : ¬ 4096 < (n : Int) := by omega
  have hmm : ∀ (t : TypeId) (w : World), (Instr.makeMap t none).run Tryz.prog w = .ok (.map (some w.heap.size)) (w.alloc (.map #[] 0)) := fun _ _ => rfl
  simp [go_sem, e1, e2, hmm]
  have ca := (((Ch.refl Nw w).alloc (.map #[] 0)).alloc (.map #[] 0)).alloc (.map #[] 0)
  have m0 := (((MapAt.made w).ch ((Ch.refl Nw _).alloc (.map #[] 0)) fun e => e).ch ((Ch.refl Nw _).alloc (.map #[] 0)) fun e => e)
  have m1 := ((MapAt.made (w.alloc (.map #[] 0))).ch ((Ch.refl Nw _).alloc (.map #[] 0)) fun e => e)
  have m2 := MapAt.made ((w.alloc (.map #[] 0)).alloc (.map #[] 0))
  have hs1 : (w.alloc (.map #[] 0)).heap.size = w.heap.size + 1 := by simp
  have hs2 : ((w.alloc (.map #[] 0)).alloc (.map #[] 0)).heap.size = w.heap.size + 1 + 1 := by simp
  have hs : (((w.alloc (.map #[] 0)).alloc (.map #[] 0)).alloc (.map #[] 0)).heap.size = w.heap.size + 1 + 1 + 1 := by simp
  rw [hs1] at m1
  rw [hs2] at m2
  revert ca m0 m1 m2 hs
  generalize ((w.alloc (.map #[] 0)).alloc (.map #[] 0)).alloc (.map #[] 0) = w1
  generalize hq : w.heap.size = q
  intro ca m0 m1 m2 hs
  rw [bld_dk _ _ _ _ _ rfl rfl rfl rfl rfl]
  simp [go_sem]
  have ba := hp_alloc w1 (.cells (dcs n p ⟨q, q + 1, q + 1 + 1, .slice none 0 0, .pointer none⟩ Dk.new) 138)
  have cb := (Ch.refl Nw w1).alloc (.cells (dcs n p ⟨q, q + 1, q + 1 + 1, .slice none 0 0, .pointer none⟩ Dk.new) 138)
  have hs2 : (w1.alloc (.cells (dcs n p ⟨q, q + 1, q + 1 + 1, .slice none 0 0, .pointer none⟩ Dk.new) 138)).heap.size = q + 1 + 1 + 1 + 1 := by simp [hs]
  refine hR _ _ ⟨w1.heap.size, rfl, ⟨⟨q, q + 1, q + 1 + 1, .slice none 0 0, .pointer none⟩, [], fun _ => False, ?_⟩, ca.alloc _⟩
  refine ⟨ba, ⟨_, m0.ch cb id, fun a => ⟨fun _ => rfl, fun b hb => by simp [Dk.new] at hb⟩⟩, ⟨_, m1.ch cb id, fun a => rfl⟩, ⟨_, m2.ch cb id, fun a => rfl⟩, CacheAt.nil _ _, rfl, ?_, fun _ e => e.elim, fun _ e => e.elim, ⟨by simp only; omega, by simp only; omega, by simp only; omega, by simp [Value.ownBlock]⟩, Dk.Ok.new n, ?_⟩
  · rintro k (e | e | e | e | e)
    · rw [e]; exact ⟨by omega, Nat.lt_of_lt_of_eq (show w1.heap.size < q + 1 + 1 + 1 + 1 by omega) hs2.symm⟩
    · simp only at e; rw [e]; exact ⟨by omega, Nat.lt_of_lt_of_eq (show q < q + 1 + 1 + 1 + 1 by omega) hs2.symm⟩
    · simp only at e; rw [e]; exact ⟨by omega, Nat.lt_of_lt_of_eq (show q + 1 < q + 1 + 1 + 1 + 1 by omega) hs2.symm⟩
    · simp only at e; rw [e]; exact ⟨by omega, Nat.lt_of_lt_of_eq (show q + 1 + 1 < q + 1 + 1 + 1 + 1 by omega) hs2.symm⟩
    · simp [Value.ownBlock] at e
  · exact fun k e => e.2
end
end Go.Proofs.YtppilgkgnofkpaaGreatDoor
