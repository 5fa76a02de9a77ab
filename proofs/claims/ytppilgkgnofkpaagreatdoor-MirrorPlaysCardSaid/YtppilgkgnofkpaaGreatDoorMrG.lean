/- Mirrors whose disks' maps stay where they are. No condition but on sizes. -/
import Derived.Test.YtppilgkgnofkpaaGreatDoorMrE
set_option linter.unusedSimpArgs false
set_option linter.unusedVariables false

/- Mirrors heal: Read and Check. No condition but on sizes. -/
namespace Go.Proofs.YtppilgkgnofkpaaGreatDoor
open Go.RowKit Go.Kin

section
variable {w w' : World} {m p n i : Nat} {z : Mz} {s : Mr} {mv : Value} {A : Nat → Nat → Prop} {O O' S : Nat → Prop} {c : Nat}
theorem run_bad_mem (n : Nat) (s : Mr) (q : Pt) (l : List Nat) : ∀ j ∈ (s.run n q l).bad, j ∈ l := by
  revert l
  refine snoc_ind (fun j hj => by simp [Mr.run] at hj) fun l k ih j hj => ?_
  rw [Mr.run_snoc] at hj
  unfold Mr.step at hj
  cases hg : s.good n q k with
  | some x =>
    rw [hg] at hj
    simp only at hj
    split at hj
    · exact List.mem_append_left _ (ih j hj)
    · exact List.mem_append_left _ (ih j hj)
  | none =>
    rw [hg] at hj
    simp only at hj
    split at hj
    · exact List.mem_append_left _ (ih j hj)
    · simp only [List.mem_append, List.mem_singleton] at hj
      rcases hj with hj | hj
      · exact List.mem_append_left _ (ih j hj)
      · subst hj; simp
theorem cut_mem (n : Nat) (s : Mr) (q : Pt) (l : List Nat) : ∀ j ∈ s.cut n q l, j ∈ l := by
  induction l with
  | nil => exact fun j hj => hj
  | cons k l ih =>
    intro j hj
    unfold Mr.cut at hj
    split at hj
    · simp at hj; subst hj; simp
    · rcases List.mem_cons.1 hj with hj | hj
      · subst hj; simp
      · exact List.mem_cons_of_mem _ (ih j hj)
theorem lks_mem (n : Nat) (s : Mr) (q : Pt) (all : Bool) : ∀ j ∈ s.lks n q all, j ∈ cseq q.a 4 := fun j hj => by
  unfold Mr.lks at hj
  split at hj
  · exact hj
  · exact cut_mem n s q _ j hj
theorem lks_len (n : Nat) (s : Mr) (q : Pt) (all : Bool) : (s.lks n q all).length ≤ 4 := by
  have h4 : (cseq q.a 4).length ≤ 4 := by unfold cseq; exact Nat.le_trans (List.length_filter_le _ _) (by simp)
  have hc : ∀ l, (s.cut n q l).length ≤ l.length := fun l => by
    induction l with
    | nil => exact Nat.le_refl _
    | cons k l ih =>
      unfold Mr.cut
      split
      · simp
      · simp [ih]
  unfold Mr.lks
  split
  · exact h4
  · exact Nat.le_trans (hc _) h4
theorem cocs_at (q : Pt) {l : List Nat} {k j : Nat} (h : l[k]? = some j) : (cocs q l)[k * 2]? = some (.int .i64 (j / 2 : Nat)) ∧ (cocs q l)[k * 2 + 1]? = some (.int .u16 (adr q j)) := by
  induction l generalizing k with
  | nil => simp at h
  | cons a l ih =>
    have e : cocs q (a :: l) = [.int .i64 ((a : Int) / 2), .int .u16 (q.a.getD a 0)] ++ cocs q l := rfl
    rw [e]
    cases k with
    | zero =>
      simp at h
      subst h
      exact ⟨by simp, by simp [adr]⟩
    | succ k =>
      simp at h
      obtain ⟨h1, h2⟩ := ih h
      refine ⟨?_, ?_⟩
      · rw [List.getElem?_append_right (by simp; omega)]
        rw [← h1]
        congr 1
        simp
        omega
      · rw [List.getElem?_append_right (by simp; omega)]
        rw [← h2]
        congr 1
        simp
        omega
theorem nil_eq2 (w : World) : (binOp .eql 59 (.slice none 0 0) (.slice none 0 0)).run Tryz.prog w = .ok (.bool true) w := nil_eq w
/-- what Heal answers -/
structure HealR (w : World) (m p n : Nat) (z : Mz) (r : Mr × Byts × Int) (O : Nat → Prop) (u : Value) (w' : World) : Prop where
  sl : Sl w' u r.2.1.length (bvs r.2.1)
  at' : ∃ O', MrAt w' m p n z r.1 O' ∧ (∀ k, O' k → Gr O w w' k) ∧ (∀ j, u.ownBlock = some j → w.heap.size ≤ j ∧ ¬ O' j)
  ch : Ch O w w'
set_option maxRecDepth 100000 in
set_option maxHeartbeats 4000000 in
theorem heal_any (h : MrAt w m p n z s O) (q : Pt) (ok : PtOk q) (hw : Lw w) (hk : Lk w) (all : Bool) (fine : s.Fine c) (hc : c ≤ 800000) (hgk : ¬ O 1) :
    Ret Tryz.prog 42 #[.pointer (some ⟨m, 0, none⟩), .agg (pt q), .func (.func (fid all)) #[] #[]] w fun v' w' => ∃ u, v' = .tuple #[u, .int .i64 (s.heal n q all).2.2] ∧ HealR w m p n z (s.heal n q all) O u w' := by
  refine v_enter Tryz.func42 Tryz.ntmps42 rfl (by simp) fun R' hR => ?_
  have hps := pt_size ok
  have hpa := pt_all ok
  have b0 := hp_alloc w (.cells (pt q) 58)
  have ca := (Ch.refl Nw w).alloc (.cells (pt q) 58)
  have sa : (w.alloc (.cells (pt q) 58)).heap.size = w.heap.size + 1 := by simp
  have hl := h.lt
  simp [go_sem, hps, hpa]
  obtain ⟨g, hg⟩ : ∃ g, w.heap.size = g := ⟨_, rfl⟩
  rw [hg] at b0 sa ⊢
  generalize w.alloc (.cells (pt q) 58) = w1 at *
  refine (may_any q w1 ok (hw.ch ca id)).mono ?_
  rintro _ w2 ⟨rfl, c2⟩
  have cw2 : Ch Nw w w2 := ca.trans c2
  have b02 := c2.obj b0 id
  have h2 := h.ch cw2 fun _ _ e => e
  cases hmay : mayP q with
  | false =>
    have hx : s.heal n q all = (s, [], 1) := by unfold Mr.heal; rw [hmay]; rfl
    simp [go_sem]
    rw [hx] at hR
    exact hR _ _ ⟨_, rfl, Sl.nil _, ⟨O, h2, fun k hk => .inl hk, fun j hj => by simp [Value.ownBlock] at hj⟩, cw2.mono fun _ _ e => e.elim⟩
  | true =>
    simp [go_sem, b02, hps, hpa]
    obtain ⟨mv, A, hP, hPO, hPl⟩ := id h2
    have hkm : m ≠ 1 := fun e => hgk (by rw [← e]; exact h.own.1)
    refine (mlook_any hP q ok (hk.ch cw2 id) all hkm fun i => by have := fine.found i; omega).mono ?_
    rintro _ w3 ⟨bv, cv, rfl, hb, hcv, hcf, hP3, c3⟩
    obtain ⟨t, ht⟩ : ∃ t, s.run n q (s.lks n q all) = t := ⟨_, rfl⟩
    rw [ht] at hb hcv hP3
    have c3O : Ch O w2 w3 := c3.mono fun j _ e => by simp only [one] at e; subst e; exact h.own.1
    have cw3 : Ch O w w3 := (cw2.mono fun _ _ e => e.elim).trans c3O
    have h3 : MrAt w3 m p n z { s with found := t.F } O := ⟨mv, A, hP3, hPO, fun k hk => Nat.lt_of_lt_of_le (hPl k hk) c3.size⟩
    have b03 := c3.obj b02 fun e => by simp only [one] at e; have := hl m h.own.1; omega
    cases hbk : t.blk with
    | none =>
      have hx : s.heal n q all = ({ s with found := t.F }, [], 21) := by unfold Mr.heal; rw [hmay, if_pos rfl]; simp only [ht, hbk]
      rw [hbk] at hb
      have hb : bv = .slice none 0 0 := hb
      subst hb
      simp [go_sem, nil_eq]
      rw [hx] at hR
      exact hR _ _ ⟨_, rfl, Sl.nil _, ⟨O, h3, fun k hk => .inl hk, fun j hj => by simp [Value.ownBlock] at hj⟩, cw3⟩
    | some b =>
      have hx : s.heal n q all = (t.bad.foldl (Mr.mend n q b) { s with found := t.F }, b, 0) := by unfold Mr.heal; rw [hmay, if_pos rfl]; simp only [ht, hbk]
      rw [hbk] at hb
      obtain ⟨hbl, ad, cb, rfl, hbs, hbg, hbl2⟩ := hb
      have hlen : ∀ w', (Builtin.len_ #[158] 3 #[cv]).run Tryz.prog w' = .ok (.int .i64 t.bad.length) w' := fun w' => by
        rcases hcv.2 with ⟨hv, h0⟩ | ⟨g, cap, cur, hv, _⟩
        · subst hv; simp [Builtin.len_, run_underlying Tryz.underlying158, goInt, h0]
        · subst hv; simp [Builtin.len_, run_underlying Tryz.underlying158, goInt]
      have hbad4 : t.bad.length ≤ 4 := by rw [← ht]; exact Nat.le_trans (run_bad_le n s q _) (lks_len n s q all)
      simp [go_sem, nil_ne, hlen]
      have fine3 : ({ s with found := t.F } : Mr).Fine (c + 4) := by
        refine ⟨fine.fuse, fun i hi => by have := fine.cache i hi; show (s.dk i).cache.length ≤ _; omega, fine.astray, fun i => ?_, fun i => by have := fine.mended i; show s.mended i ≤ _; omega, by have := fine.moves; show s.moves.length ≤ _; omega⟩
        have h1 := run_le n s q (s.lks n q all) i
        have h2 := fine.found i
        have h3 := lks_len n s q all
        rw [ht] at h1
        show t.F i ≤ _
        omega
      have hadO : ∀ j, w.heap.size ≤ j → ¬ O j := fun j hj e => by have := hl j e; omega
      refine v_loop (fun r f u => ∃ k O', r = t.bad.length - k ∧ k ≤ t.bad.length ∧ f 28 = cv ∧ f 29 = .int .i64 t.bad.length ∧ f 30 = .int .i64 k ∧ f 0 = .pointer (some ⟨m, 0, none⟩) ∧ f 4 = .pointer (some ⟨g, 0, none⟩) ∧ f 8 = .slice (some ad) 512 cb ∧ MrAt u m p n z ((t.bad.take k).foldl (Mr.mend n q b) { s with found := t.F }) O' ∧ ((t.bad.take k).foldl (Mr.mend n q b) { s with found := t.F }).Fine (c + 4 + k) ∧ (∀ j, O' j → O j ∨ w3.heap.size ≤ j) ∧ Ch O w3 u) t.bad.length
        ⟨0, O, rfl, Nat.zero_le _, by simp, by simp, by simp, by simp, by simp, by simp, by simpa using h3, by simpa using fine3, fun j hj => .inl hj, Ch.refl _ _⟩ ?_
      rintro J hJ _ f u ⟨k, O', rfl, hkl, f28, f29, f30, f0, f4, f8, hat, hfin, hO', cu⟩
      by_cases hlt : k < t.bad.length
      · have hlti : (k : Int) < t.bad.length := by omega
        have hwk : IntKind.i64.wrap ((k : Int) + 1) = (k : Int) + 1 := by rw [IntKind.wrap_i64]; omega
        obtain ⟨j, hj⟩ : ∃ j, t.bad[k]? = some j := ⟨_, List.getElem?_eq_getElem hlt⟩
        have hj4 : j < 4 := (cseq_lt (lks_mem n s q all j (run_bad_mem n s q _ j (by rw [ht]; exact List.mem_of_getElem? hj)))).1
        obtain ⟨hc0, hc1⟩ := cocs_at q hj
        obtain ⟨gc, cap, cur, hcvv, hcap1, hcap2, hgc, hgcs, hcells⟩ := ownS_blk hcv (by omega)
        have hgcO : ¬ O gc := hadO _ (by have := hcf gc (by rw [hcvv]; rfl); have := cw2.size; omega)
        have u0 := cu.cell (hcells _ _ hc0) hgcO
        have u1 := cu.cell (hcells _ _ hc1) hgcO
        obtain ⟨i, hji⟩ : ∃ i, j / 2 = i := ⟨_, rfl⟩
        rw [hji] at u0
        rw [hcvv] at f28
        have bu := cu.obj b03 (hadO _ (by omega))
        have ca2 := (Ch.refl Nw u).alloc (.cells #[.int .i64 i, .int .u16 (adr q j)] 162)
        have bx := hp_alloc u (.cells #[.int .i64 i, .int .u16 (adr q j)] 162)
        have cx := fun j => cell_blk bx j
        have bua := ca2.obj bu id
        have hsl : Sl u (.slice (some ad) 512 cb) b.length (bvs b) := by rw [hbl]; exact hbs.ch cu fun j hj => by simp [Value.ownBlock] at hj; subst hj; exact hadO _ (by have := cw2.size; omega)
        have hkk : Lk (u.alloc (.cells #[.int .i64 i, .int .u16 (adr q j)] 162)) := ((hk.ch cw3 hgk).ch cu hgk).ch ca2 id
        have hadO' : ∀ x, (Value.slice (some ad) 512 cb).ownBlock = some x → ¬ O' x := fun x hx e => by
          simp [Value.ownBlock] at hx
          subst hx
          rcases hO' _ e with e | e
          · exact hadO _ (by have := cw2.size; omega) e
          · omega
        have hgk' : ¬ O' 1 := fun e => by
          rcases hO' _ e with e | e
          · exact hgk e
          · have := hk.lt; have := cw3.size; omega
        have hme := mend_any (hat.ch ca2 fun _ _ e => e) q ok hkk j hj4 b (.slice (some ad) 512 cb) (hsl.ch ca2 fun _ _ e => e) hadO' hfin (by omega) hgk'
        rw [hji] at hme
        simp [go_sem, f28, f29, f30, f0, f4, f8, hlt, hlti, u0, u1, bua, cx, hps, hpa]
        refine hme.mono ?_
        rintro v5 w5 ⟨h5, c5⟩
        simp [go_sem, f30, hwk]
        have e1 : (t.bad.take (k + 1)).foldl (Mr.mend n q b) { s with found := t.F } = Mr.mend n q b ((t.bad.take k).foldl (Mr.mend n q b) { s with found := t.F }) j := by
          rw [List.take_add_one, hj]
          simp
        refine Rnd.intro (t.bad.length - (k + 1)) (by omega) (hJ _ _ _ ⟨k + 1, _, rfl, by omega, by simp [f28, hcvv], by simp [f29], by simp, by simp [f0], by simp [f4], by simp [f8], by rw [e1]; exact h5, by rw [e1]; exact hfin.mend q b j, fun x hx => ?_, ?_⟩)
        · rcases hx with hx | hx
          · exact hO' x hx
          · have := cu.size; have := ca2.size; exact .inr (by omega)
        · exact (cu.trans (ca2.mono fun _ _ e => e.elim)).trans' c5 fun x hx e => (hO' x e).resolve_right (by omega)
      · obtain rfl : k = t.bad.length := by omega
        simp [go_sem, f29, f30, f8]
        rw [hx] at hR
        rw [List.take_length] at hat
        refine hR _ _ ⟨_, rfl, ?_, ⟨O', hat, fun x hx => ?_, fun x hx => ?_⟩, cw3.trans cu⟩
        · rw [hbl]
          exact hbs.ch cu fun j hj => by simp [Value.ownBlock] at hj; subst hj; exact hadO _ (by have := cw2.size; omega)
        · rcases hO' x hx with e | e
          · exact .inl e
          · exact .inr ⟨by have := cw3.size; omega, hat.lt x hx⟩
        · simp [Value.ownBlock] at hx
          subst hx
          refine ⟨by have := cw2.size; omega, fun e => ?_⟩
          rcases hO' _ e with e | e
          · exact hadO _ (by have := cw2.size; omega) e
          · omega
theorem HealR.back {w1 : World} {r : Mr × Byts × Int} {u : Value} (h : HealR w1 m p n z r O u w') (ca : Ch Nw w w1) : HealR w m p n z r O u w' := by
  obtain ⟨O', h1, h2, h3⟩ := h.at'
  refine ⟨h.sl, ⟨O', h1, fun k hk => (h2 k hk).imp id fun e => ⟨Nat.le_trans ca.size e.1, e.2⟩, fun j hj => ⟨Nat.le_trans ca.size (h3 j hj).1, (h3 j hj).2⟩⟩, (ca.mono fun _ _ e => e.elim).trans h.ch⟩
theorem read_m (h : MrAt w m p n z s O) (q : Pt) (ok : PtOk q) (hw : Lw w) (hk : Lk w) (fine : s.Fine c) (hc : c ≤ 800000) (hgk : ¬ O 1) :
    Ret Tryz.prog 9 #[.pointer (some ⟨m, 0, none⟩), .agg (pt q)] w fun v' w' => ∃ u, v' = .tuple #[u, .int .i64 (s.heal n q false).2.2] ∧ HealR w m p n z (s.heal n q false) O u w' := by
  refine v_enter Tryz.func9 Tryz.ntmps9 rfl (by simp) fun R' hR => ?_
  have ca := (Ch.refl Nw w).alloc (.cells (pt q) 58)
  simp [go_sem, pt_size ok, pt_all ok]
  refine (heal_any (h.ch ca fun _ _ e => e) q ok (hw.ch ca id) (hk.ch ca id) false fine hc hgk).mono ?_
  rintro _ w1 ⟨u, rfl, h1⟩
  simp [go_sem]
  exact hR _ _ ⟨u, rfl, h1.back ca⟩
theorem check_m (h : MrAt w m p n z s O) (q : Pt) (ok : PtOk q) (hw : Lw w) (hk : Lk w) (fine : s.Fine c) (hc : c ≤ 800000) (hgk : ¬ O 1) :
    Ret Tryz.prog 11 #[.pointer (some ⟨m, 0, none⟩), .agg (pt q)] w fun v' w' => v' = .int .i64 (s.heal n q true).2.2 ∧ MrAt w' m p n z (s.heal n q true).1 (Gr O w w') ∧ Ch O w w' := by
  refine v_enter Tryz.func11 Tryz.ntmps11 rfl (by simp) fun R' hR => ?_
  have ca := (Ch.refl Nw w).alloc (.cells (pt q) 58)
  simp [go_sem, pt_size ok, pt_all ok]
  refine (heal_any (h.ch ca fun _ _ e => e) q ok (hw.ch ca id) (hk.ch ca id) true fine hc hgk).mono ?_
  rintro _ w1 ⟨u, rfl, h1⟩
  simp [go_sem]
  have h1 := h1.back ca
  obtain ⟨O', h2, h3, _⟩ := h1.at'
  exact hR _ _ ⟨rfl, h2.weak h3 (Gr.lt h.lt h1.ch.size), h1.ch⟩
end
end Go.Proofs.YtppilgkgnofkpaaGreatDoor

namespace Go.Proofs.YtppilgkgnofkpaaGreatDoor
open Go.RowKit Go.Kin

section
variable {w w' : World} {d p n : Nat} {D : Dk} {O Y S : Nat → Prop} {z : Dn} {vs : List (Nat × Value)} {B : Nat}
theorem Yb.rcd {v : Value} {b : Byts} (h : Yb w Y v b) (hr : Rec B w w') : Yb w' Y v b := ⟨hr.sl h.1, fun k hk => ⟨(h.2 k hk).1, Nat.lt_of_lt_of_le (h.2 k hk).2 hr.ch.size⟩⟩
theorem MemAt.rcd {g : Nat} {m : Nat → Option Byts} (h : MemAt w g m Y) (hr : Rec B w w') (hg : g < B) : MemAt w' g m Y := by
  obtain ⟨F, h1, h2⟩ := h
  refine ⟨F, h1.ch hr.ch (by omega), fun a => ⟨(h2 a).1, fun b hb => ?_⟩⟩
  obtain ⟨v, h3, h4⟩ := (h2 a).2 b hb
  exact ⟨v, h3, h4.rcd hr⟩
theorem own_rcd {e size : Nat} {v : Value} {n : Nat} {xs : List Value} (h : w.ownsRow 0 e size v n xs) (hr : Rec B w w') : w'.ownsRow 0 e size v n xs := by
  refine ⟨h.1, h.2.imp id ?_⟩
  rintro ⟨g, cap, cur, rfl, h2, h3, h4⟩
  exact ⟨g, cap, cur, rfl, h2, hr.blk h3, h4⟩
theorem DkP.rcd (h : DkP w d p n D O z vs Y) (hr : Rec B w w') (hb : z.bm < B ∧ z.bb < B ∧ z.bs < B) : DkP w' d p n D O z vs Y := by
  refine ⟨hr.blk h.blk, h.mem.rcd hr hb.1, h.bad.ch hr.ch (by omega), h.stuck.ch hr.ch (by omega), ⟨own_rcd h.cache.own hr, h.cache.len, fun i a b hi => ?_⟩, ?_, h.ox, h.oy, h.yx, h.ne, h.ok, fun k hk => Nat.lt_of_lt_of_le (h.olt k hk) hr.ch.size⟩
  · obtain ⟨u, h1, h2⟩ := h.cache.each i a b hi
    exact ⟨u, h1, h2.rcd hr⟩
  · have ha := h.astray
    cases hda : D.astray with
    | none => rw [hda] at ha; exact ha
    | some a =>
      rw [hda] at ha
      obtain ⟨x, h1, h2, h3⟩ := ha
      exact ⟨x, h1, hr.blk h2, h3⟩
theorem DkSame.rcd (h : DkSame w d p n D O z) (hr : Rec B w w') (hb : z.bm < B ∧ z.bb < B ∧ z.bs < B) : DkSame w' d p n D O z := by
  obtain ⟨z', vs, Y, h, e⟩ := h
  exact ⟨z', vs, Y, h.rcd hr (by rw [e.1, e.2.1, e.2.2]; exact hb), e⟩
theorem DkSame.ch (h : DkSame w d p n D O z) (hc : Ch S w w') (hn : ∀ k, O k → ¬ S k) : DkSame w' d p n D O z := by
  obtain ⟨z', vs, Y, h, e⟩ := h
  exact ⟨z', vs, Y, h.ch hc hn, e⟩
theorem DkSame.trans {z' : Dn} (h : DkSame w d p n D O z) (e : z.bm = z'.bm ∧ z.bb = z'.bb ∧ z.bs = z'.bs) : DkSame w d p n D O z' := h.to e
end
/-- a mirror whose disks' maps are those of y -/
structure MrS (w : World) (m p n : Nat) (z : Mz) (s : Mr) (mv : Value) (A : Nat → Nat → Prop) (y : Nat → Dn) : Prop where
  at' : MrP w m p n z s mv A
  dk : ∀ i, i < 2 → DkSame w (z.d i) p n (s.dk i) (A i) (y i)
section
variable {w w' : World} {m p n i B : Nat} {z : Mz} {s : Mr} {mv : Value} {A : Nat → Nat → Prop} {O O' S : Nat → Prop} {c : Nat} {y : Nat → Dn}
theorem MrP.maps (h : MrP w m p n z s mv A) : ∃ y, MrS w m p n z s mv A y ∧ ∀ i, i < 2 → (y i).bm < w.heap.size ∧ (y i).bb < w.heap.size ∧ (y i).bs < w.heap.size := by
  obtain ⟨z0, v0, Y0, h0⟩ := (h.sd 0 (by omega)).dk
  obtain ⟨z1, v1, Y1, h1⟩ := (h.sd 1 (by omega)).dk
  refine ⟨fun i => if i = 0 then z0 else z1, ⟨h, fun i hi => ?_⟩, fun i hi => ?_⟩
  · rcases lt2 hi with rfl | rfl
    · exact ⟨z0, v0, Y0, h0, rfl, rfl, rfl⟩
    · exact ⟨z1, v1, Y1, h1, rfl, rfl, rfl⟩
  · rcases lt2 hi with rfl | rfl
    · exact ⟨h0.olt _ (h0.ox _ (.inr (.inl rfl))), h0.olt _ (h0.ox _ (.inr (.inr (.inl rfl)))), h0.olt _ (h0.ox _ (.inr (.inr (.inr (.inl rfl)))))⟩
    · exact ⟨h1.olt _ (h1.ox _ (.inr (.inl rfl))), h1.olt _ (h1.ox _ (.inr (.inr (.inl rfl)))), h1.olt _ (h1.ox _ (.inr (.inr (.inr (.inl rfl)))))⟩
theorem MrS.rcd (h : MrS w m p n z s mv A y) (hr : Rec B w w') (hy : ∀ i, i < 2 → (y i).bm < B ∧ (y i).bb < B ∧ (y i).bs < B) : MrS w' m p n z s mv A y :=
  ⟨⟨hr.blk h.at'.blk, fun i hi => ⟨((h.dk i hi).rcd hr (hy i hi)).at, hr.blk (h.at'.sd i hi).pw, (h.at'.sd i hi).pO⟩, hr.blk h.at'.sp, fun i hi => hr.blk (h.at'.pl i hi), own_rcd h.at'.mo hr, h.at'.okm, h.at'.ab, h.at'.ne, h.at'.nx, h.at'.nv⟩, fun i hi => (h.dk i hi).rcd hr (hy i hi)⟩
theorem MrS.ch (h : MrS w m p n z s mv A y) (hc : Ch S w w') (hS : ∀ k, MrO z m p mv A k → ¬ S k) : MrS w' m p n z s mv A y :=
  ⟨h.at'.ch hc hS, fun i hi => (h.dk i hi).ch hc fun k hk => hS k (by
    rcases lt2 hi with rfl | rfl
    · exact .inr (.inl hk)
    · exact .inr (.inr (.inl hk)))⟩
/-- a disk is written -/
theorem MrS.put (h : MrS w m p n z s mv A y) (q : Pt) (ok : PtOk q) (k : Nat) (hk4 : k < 4) (b : Byts) (v : Value) (hv : Sl w v b.length (bvs b)) (hvO : ∀ j, v.ownBlock = some j → ¬ MrO z m p mv A j) (hfu : s.P.fuse ≤ 9223372036854775807) (hcl : (s.dk (k / 2)).cache.length ≤ 1000000) (hast : ∀ x, (s.dk (k / 2)).astray = some x → x < 65536) :
    Ret Tryz.prog 50 #[.pointer (some ⟨z.d (k / 2), 0, none⟩), .int .u16 (adr q k), v] w fun v' w' => v' = .int .i64 (wrE ((s.dk (k / 2)).writes n s.P (adr q k) b)) ∧ (∃ A', MrS w' m p n z (s.writ n q b k) mv A' y ∧ ∀ k, MrO z m p mv A' k → Gr (MrO z m p mv A) w w' k) ∧ KeepN w w' ∧ Ch (MrO z m p mv A) w w' := by
  obtain ⟨i, hki⟩ : ∃ i, k / 2 = i := ⟨_, rfl⟩
  have hi : i < 2 := by omega
  have hwr : s.writ n q b k = { s with dk := upd1 s.dk i ((s.dk i).write n s.P (adr q k) b), P := (s.dk i).wpow n s.P (adr q k) b } := by unfold Mr.writ; rw [hki]
  rw [hki] at hcl hast ⊢
  rw [hwr]
  obtain ⟨z', vs, Y, hd, e1, e2, e3⟩ := h.dk i hi
  have hA : ∀ k, A i k → MrO z m p mv A k := fun k hk => by
    rcases lt2 hi with rfl | rfl
    · exact .inr (.inl hk)
    · exact .inr (.inr (.inl hk))
  have hp := (h.at'.sd i hi).pw
  have hpO := (h.at'.sd i hi).pO
  refine (dkwrite_any (adr q k) (adr_lt ok k) b v s.P hd hp hpO hfu hcl hast hv fun _ j hj => ⟨fun e => hvO j hj (hA j e), fun e => hvO j hj (.inr (.inr (.inr e)))⟩).mono ?_
  rintro v1 w1 ⟨r1, h2, h3, h4, h5⟩
  have hgr : ¬ Gr (A i) w w1 p := (h.at'.sd i hi).gr
  have hsd : Sd w1 (z.d i) p n ((s.dk i).write n s.P (adr q k) b) ((s.dk i).wpow n s.P (adr q k) b) (Gr (A i) w w1) := ⟨h2.at, h3, hgr⟩
  have hP := h.at'.disk hi hsd h4
  refine ⟨r1, ⟨_, ⟨hP, fun j hj => ?_⟩, fun k hk => h.at'.diskO hi hk⟩, KeepN.of h5 fun j hj _ => ?_, h4.mono fun k _ e => e.elim (hA k) fun e => .inr (.inr (.inr e))⟩
  · by_cases hji : j = i
    · subst hji
      simp only [upd1_same]
      exact h2.to ⟨e1, e2, e3⟩
    · simp only [upd1_ne _ _ hji]
      exact (h.dk j hj).ch h4 fun k hk e => e.elim (fun e => h.at'.ai hj hi (fun e => hji e.symm) hk e) fun e => (h.at'.sd j hj).pO (by rw [← e]; exact hk)
  · rcases hj with hj | hj | hj
    · subst hj; exact ⟨_, _, _, hd.blk⟩
    · subst hj; exact ⟨_, _, _, hp⟩
    · rcases hd.cache.own.2 with ⟨hv, _⟩ | ⟨g, cap, cur, hv, _, hg, _⟩
      · rw [hv] at hj; simp [Value.ownBlock] at hj
      · rw [hv] at hj
        simp [Value.ownBlock] at hj
        subst hj
        exact ⟨_, _, _, hg⟩
end
end Go.Proofs.YtppilgkgnofkpaaGreatDoor
