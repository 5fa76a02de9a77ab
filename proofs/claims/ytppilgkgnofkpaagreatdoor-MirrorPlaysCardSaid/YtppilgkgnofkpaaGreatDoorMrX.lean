/- The mirror law's acts keep numbers small; acts that lie in a row. No condition but on sizes. -/
import Derived.Test.YtppilgkgnofkpaaGreatDoorMrK
import Derived.Test.YtppilgkgnofkpaaGreatDoorMrM
set_option linter.unusedSimpArgs false
set_option linter.unusedVariables false

/- What the mirror law's acts do. No condition but on sizes. -/
namespace Go.Proofs.YtppilgkgnofkpaaGreatDoor
open Go.RowKit Go.Kin

/-- what befalls a disk, the power -/
def fauD (n : Nat) (a : Ac) (D : Dk) : Dk := match a.d with
  | 3 => D.crash a.ps
  | 4 => if a.addr < n then D.rot a.addr (fullB a.b) else D
  | 5 => if a.addr < n then D.bads a.addr else D
  | 6 => if a.addr < n then D.stick a.addr else D
  | 7 => { D with lose := true }
  | 8 => { D with astray := some a.addr }
  | 9 => { D with dead := true }
  | _ => D
def fauP (a : Ac) (P : Pwr) : Pwr := match a.d with
  | 10 => P.fused a.n
  | 11 => Pwr.on
  | _ => P
def Mr.fau (n : Nat) (a : Ac) (s : Mr) : Mr := { s with dk := upd1 s.dk (a.k % 2) (fauD n a (s.dk (a.k % 2))), P := fauP a s.P }
def Mr.act (n : Nat) (a : Am) (s : Mr) : Mr × Byts × Int := match a.d with
  | 0 => s.heal n a.ptr false
  | 1 => ((s.heal n a.ptr true).1, [], (s.heal n a.ptr true).2.2)
  | 2 => ((s.write n a.ptr (fullB a.b)).1, [], (s.write n a.ptr (fullB a.b)).2)
  | 3 => (s.flush.1, [], s.flush.2)
  | 4 => ({ s with moves := [] }, [], 0)
  | _ => (s.fau n a.ac, [], 0)
theorem Sd.power' {w w' : World} {d p n : Nat} {D : Dk} {P P' : Pwr} {O : Nat → Prop} (h : Sd w d p n D P O) (hp : PwAt w' p P') (hc : Ch (one p) w w') : Sd w' d p n D P' (Gr O w w') := by
  have h1 := h.dk.ch hc fun k hk e => by simp only [one] at e; subst e; exact h.pO hk
  exact ⟨h1.mono (fun _ => .inl) (Gr.lt h.olt hc.size), hp, h.gr⟩
section
variable {P : Program} {w w' : World} {x m p n i c : Nat} {z : Mz} {s s' : Mr} {O : Nat → Prop} {f : FuncId} {args : Array Value} {R : Value → World → Prop}
theorem PrAt.ch {S : Nat → Prop} (h : PrAt w x p m n z s O) (hc : Ch S w w') (hS : ∀ k, O k → ¬ S k) : PrAt w' x p m n z s O := by
  obtain ⟨O', h1, h2, h3⟩ := h.mr
  exact ⟨hc.obj h.blk (hS _ h.ox), ⟨O', h1.ch hc fun k hk => hS k (h3 k hk), h2, h3⟩, h.ox, fun k hk => Nat.lt_of_lt_of_le (h.lt k hk) hc.size⟩
theorem PrAt.weak {O' : Nat → Prop} (h : PrAt w x p m n z s O) (ho : ∀ k, O k → O' k) (hl : ∀ k, O' k → k < w.heap.size) : PrAt w x p m n z s O' := by
  obtain ⟨O1, h1, h2, h3⟩ := h.mr
  exact ⟨h.blk, ⟨O1, h1, h2, fun k hk => ho k (h3 k hk)⟩, ho _ h.ox, hl⟩
theorem PrAt.ok : HOk (fun w O => PrAt w x p m n z s O) := ⟨fun h => h.lt, fun h hc hS => h.ch hc hS, fun h a b => h.weak a b⟩
theorem PrAt.cell (h : PrAt w x p m n z s O) (j : Nat) : w.cell? ⟨x, j, none⟩ = (prc p m z)[j]? := cell_blk h.blk j
theorem PrAt.step (h : PrAt w x p m n z s O) (hf : ∀ O', MrAt w m p n z s O' → (∀ k, O' k → O k) → Ret P f args w fun v w' => R v w' ∧ MrAt w' m p n z s' (Gr O' w w') ∧ Ch O' w w') :
    Ret P f args w fun v w' => R v w' ∧ PrAt w' x p m n z s' (Gr O w w') ∧ Ch O w w' := by
  obtain ⟨O', h1, h2, h3⟩ := h.mr
  refine (hf O' h1 h3).mono ?_
  rintro v w' ⟨a, b, c⟩
  have hx := h.lt x h.ox
  exact ⟨a, ⟨c.obj h.blk h2, ⟨_, b, fun e => e.elim h2 fun e => by omega, fun k hk => hk.imp (h3 k) id⟩, .inl h.ox, Gr.lt h.lt c.size⟩, c.mono fun k _ e => h3 k e⟩
theorem PrAt.disk {D' : Dk} (h : PrAt w x p m n z s O) (hi : i < 2) (hd : ∀ B, Sd w (z.d i) p n (s.dk i) s.P B → (∀ k, B k → O k) → ¬ B p → Ret Tryz.prog f args w fun v' w' => R v' w' ∧ Sd w' (z.d i) p n D' s.P (Gr B w w') ∧ Ch B w w') :
    Ret Tryz.prog f args w fun v' w' => R v' w' ∧ PrAt w' x p m n z { s with dk := upd1 s.dk i D' } (Gr O w w') ∧ Ch O w w' :=
  h.step fun O' h1 h2 => h1.disk hi fun B hB hBO => (hd B hB (fun k hk => h2 k (hBO k hk)) hB.pO).mono fun v w' hh => ⟨hh.1, hh.2.1, hh.2.2.mono fun _ _ e => .inl e⟩
theorem PrAt.power {P' : Pwr} (h : PrAt w x p m n z s O) (hd : PwAt w p s.P → Ret Tryz.prog f args w fun v' w' => R v' w' ∧ PwAt w' p P' ∧ Ch (one p) w w') :
    Ret Tryz.prog f args w fun v' w' => R v' w' ∧ PrAt w' x p m n z { s with P := P' } (Gr O w w') ∧ Ch O w w' := by
  refine (h.step (s' := { s with dk := upd1 s.dk 0 (s.dk 0), P := P' }) fun O' h1 h2 => h1.disk (i := 0) (by omega) fun B hB hBO => (hd hB.pw).mono fun v w' hh => ⟨hh.1, hB.power' hh.2.1 hh.2.2, hh.2.2.mono fun _ _ e => .inr e⟩).mono ?_
  rintro v w' ⟨a, b, c⟩
  refine ⟨a, ?_, c⟩
  have e : upd1 s.dk 0 (s.dk 0) = s.dk := by
    funext j
    unfold upd1
    split
    · subst ‹j = 0›; rfl
    · rfl
  rwa [e] at b
set_option maxRecDepth 100000 in
set_option maxHeartbeats 4000000 in
theorem mdoes_any (h : PrAt w x p m n z s O) (a : Am) (hA : Am.At w a O) (fine : s.Fine c) (hc : c ≤ 700000) (hw : Lw w) (hk : Lk w) (hgk : ¬ O 1) :
    Ret Tryz.prog 21 #[.pointer (some ⟨x, 0, none⟩), .agg (amv a)] w fun v' w' => ∃ u, v' = .tuple #[u, .int .i64 (s.act n a).2.2] ∧ Sl w' u (s.act n a).2.1.length (bvs (s.act n a).2.1) ∧ (∀ j, u.ownBlock = some j → w.heap.size ≤ j) ∧ PrAt w' x p m n z (s.act n a).1 (Gr O w w') ∧ Ch O w w' := by
  refine v_enter Tryz.func21 Tryz.ntmps21 rfl (by simp) fun R' hR => ?_
  have ok := hA.ok
  have has := amv_size ok
  have haa := amv_all ok
  have okp := Am.ptr_ok ok
  have hps := pt_size okp
  have hpa := pt_all okp
  have hzs := pt_size ptz_ok
  have hlO := h.lt
  have ca := (Ch.refl Nw w).alloc (.cells (amv a) 65)
  have b0 := hp_alloc w (.cells (amv a) 65)
  obtain ⟨g, hg⟩ : ∃ g, w.heap.size = g := ⟨_, rfl⟩
  simp [go_sem, has, haa]
  rw [hg] at b0 ⊢
  revert ca b0
  generalize w.alloc (.cells (amv a) 65) = w1
  intro ca b0
  refine (sealed_any a w1 ok (hA.sl.ch ca fun _ _ e => e) hA.bl).mono ?_
  rintro _ w2 ⟨u, rfl, m2, c2, u2⟩
  obtain ⟨Au, cu, hu⟩ : ∃ A c, u = .slice A 512 c := by
    rcases m2.2 with ⟨hv, h0⟩ | ⟨g, cap, cur, hv, _⟩
    · exact absurd h0 (by decide)
    · exact ⟨_, _, hv⟩
  have b02 := c2.obj b0 id
  have cw2 := ca.trans c2
  have c3 := (Ch.refl Nw w2).alloc (.cells (pt a.ptr) 58)
  have b6 := hp_alloc w2 (.cells (pt a.ptr) 58)
  obtain ⟨g6, hg6⟩ : ∃ g, w2.heap.size = g := ⟨_, rfl⟩
  have b03 := c3.obj b02 id
  have q3 := amc ok b03
  have m3 := own_ch m2 c3 fun _ _ e => e
  have hq0 := q3.d
  simp [go_sem, hz_pt, zc_pt, hps, hzs, blit_whole]
  rw [hg6] at b6 ⊢
  have cw3 := cw2.trans c3
  have hr0 : ((a.ac.k : Int)).tmod 2 = ((a.ac.k % 2 : Nat) : Int) := by rw [Int.tmod_eq_emod_of_nonneg (by omega)]; omega
  revert b6 b03 q3 m3 hq0 cw3
  clear c3
  generalize w2.alloc (.cells (pt a.ptr) 58) = w3
  intro b6 b03 q3 m3 hq0 cw3
  have h3 := h.ch cw3 fun _ _ e => e
  have h3d := h3.ch (Ch.refl Nw w3).drew fun _ _ e => e
  have hw3 := hw.ch cw3 id
  have hk3 := hk.ch cw3 id
  have hA3 := hA.ch cw3
  have hsz3 := cw3.size
  have x0 : w3.cell? ⟨x, 0, none⟩ = some (.pointer (some ⟨p, 0, none⟩)) := h3.cell 0
  have x4 : w3.cell? ⟨x, 4, none⟩ = some (.pointer (some ⟨m, 0, none⟩)) := h3.cell 4
  obtain ⟨kk, hkk⟩ : ∃ kk, a.ac.k % 2 = kk := ⟨_, rfl⟩
  rw [hkk] at hr0
  have hk2 : kk < 2 := by omega
  have hk2i : (kk : Int) < 2 := by omega
  have xd : ∀ {W : World}, PrAt W x p m n z s O → W.cell? ⟨x, 1 + kk, none⟩ = some (.pointer (some ⟨z.d kk, 0, none⟩)) := fun hh => by
    rw [hh.cell]
    rcases lt2 hk2 with rfl | rfl <;> rfl
  have xd3 := xd h3
  have q0 := q3.a0
  have q1 := q3.a1
  have q2' := q3.a2
  have qv := q3.a3
  have qn := q3.a5
  have qp := q3.a6
  have hub : ∀ j, u.ownBlock = some j → g ≤ j ∧ j < g6 := fun j hj => ⟨by have := u2 j hj; have := ca.size; omega, by rw [← hg6]; exact own_blt m2 j hj⟩
  obtain ⟨A1, c1, hv1, _⟩ := id hA.ac.sl
  obtain ⟨A2, cp2, hv2, _⟩ := id hA.ac.ps
  have fin : ∀ (W : World) (v : Value) (r : Mr × Byts × Int), s.act n a = r → Sl W v r.2.1.length (bvs r.2.1) → (∀ j, v.ownBlock = some j → w.heap.size ≤ j) → PrAt W x p m n z r.1 (Gr O w3 W) → Ch O w3 W → R' (.tuple #[v, .int .i64 r.2.2]) W := fun W v r e h1 h2 h4 h5 => by
    subst e
    exact hR _ _ ⟨v, rfl, h1, h2, h4.weak (fun k hk => hk.imp id fun e => ⟨by omega, e.2⟩) (Gr.lt hlO (Nat.le_trans hsz3 h5.size)), (cw3.mono fun _ _ e => e.elim).trans h5⟩
  clear hR
  have nilS : ∀ W, Sl W (.slice none 0 0) (([] : Byts).length) (bvs []) := fun W => Sl.nil W
  have nilO : ∀ j, (Value.slice none 0 0).ownBlock = some j → w.heap.size ≤ j := fun j hj => by simp [Value.ownBlock] at hj
  obtain ⟨dd, hdd⟩ : ∃ dd, a.d = dd := ⟨_, rfl⟩
  have hcases : dd = 0 ∨ dd = 1 ∨ dd = 2 ∨ dd = 3 ∨ dd = 4 ∨ ∃ k, dd = k + 5 := by
    rcases Nat.lt_or_ge dd 5 with h | h
    · omega
    · exact .inr (.inr (.inr (.inr (.inr ⟨dd - 5, by omega⟩))))
  rw [hdd] at hq0
  rcases hcases with rfl | rfl | rfl | rfl | rfl | ⟨d5, rfl⟩
  · have e : s.act n a = s.heal n a.ptr false := by unfold Mr.act; rw [hdd] <;> rfl
    simp [go_sem, hq0]
    refine v_draw' [(0, none), (1, none), (2, none), (3, none), (4, none), (5, some []), (6, none), (7, none), (8, none), (9, none)] (by kernel_rfl) (by kernel_rfl) ?_
    simp [go_sem, x4, b6, hps, hpa]
    refine (h3d.step (s' := (s.heal n a.ptr false).1) (R := fun v' w' => ∃ u, v' = .tuple #[u, .int .i64 (s.heal n a.ptr false).2.2] ∧ Sl w' u (s.heal n a.ptr false).2.1.length (bvs (s.heal n a.ptr false).2.1) ∧ ∀ j, u.ownBlock = some j → w.heap.size ≤ j) fun O' h1 h2 => (read_m h1 a.ptr okp hw3 hk3 fine (by omega) (fun e => hgk (h2 _ e))).mono fun v w' hh => ?_).mono ?_
    · obtain ⟨u', e', hh⟩ := hh
      obtain ⟨O2, y1, y2, y3⟩ := hh.at'
      exact ⟨⟨u', e', hh.sl, fun j hj => Nat.le_trans hsz3 (y3 j hj).1⟩, y1.weak y2 (Gr.lt h1.lt hh.ch.size), hh.ch⟩
    rintro _ w4 ⟨⟨u4, rfl, s4, o4⟩, p4, k4⟩
    simp [go_sem]
    exact fin w4 u4 _ e s4 o4 p4 (Ch.of_drew k4)
  · have e : s.act n a = ((s.heal n a.ptr true).1, [], (s.heal n a.ptr true).2.2) := by unfold Mr.act; rw [hdd] <;> rfl
    simp [go_sem, hq0]
    refine v_draw' [(0, none), (1, none), (2, none), (3, none), (4, none), (5, some []), (6, none), (7, none)] (by kernel_rfl) (by kernel_rfl) ?_
    simp [go_sem, x4, b6, hps, hpa]
    refine (h3d.step (s' := (s.heal n a.ptr true).1) (R := fun v' _ => v' = .int .i64 (s.heal n a.ptr true).2.2) fun O' h1 h2 => (check_m h1 a.ptr okp hw3 hk3 fine (by omega) (fun e => hgk (h2 _ e))).mono fun v w' hh => ⟨hh.1, hh.2.1, hh.2.2⟩).mono ?_
    rintro _ w4 ⟨rfl, p4, k4⟩
    simp [go_sem]
    exact fin w4 _ ((s.heal n a.ptr true).1, [], (s.heal n a.ptr true).2.2) e (nilS _) nilO p4 (Ch.of_drew k4)
  · have e : s.act n a = ((s.write n a.ptr (fullB a.b)).1, [], (s.write n a.ptr (fullB a.b)).2) := by unfold Mr.act; rw [hdd] <;> rfl
    simp [go_sem, hq0]
    refine v_draw' [(0, none), (1, none), (2, none), (3, none), (4, none), (5, none), (6, some []), (7, none), (8, none)] (by kernel_rfl) (by kernel_rfl) ?_
    simp [go_sem, x4, b6, hps, hpa]
    refine (h3d.step (s' := (s.write n a.ptr (fullB a.b)).1) (R := fun v' _ => v' = .int .i64 (s.write n a.ptr (fullB a.b)).2) fun O' h1 h2 => (mwrite_any h1 a.ptr okp hw3 hk3 (fullB a.b) u (by rw [fullB_len]; exact Sl.of_own m3) (fun j hj => by have := hub j hj; have := lt_of_block b6; show j < w3.heap.size; omega) (fun _ j hj e => by have := hub j hj; have := hlO j (h2 j e); omega) (by rw [fullB_len]; decide) fine (by omega)).mono fun v w' hh => ⟨hh.1, hh.2.1, hh.2.2⟩).mono ?_
    rintro _ w4 ⟨rfl, p4, k4⟩
    simp [go_sem]
    exact fin w4 _ ((s.write n a.ptr (fullB a.b)).1, [], (s.write n a.ptr (fullB a.b)).2) e (nilS _) nilO p4 (Ch.of_drew k4)
  · have e : s.act n a = (s.flush.1, [], s.flush.2) := by unfold Mr.act; rw [hdd] <;> rfl
    simp [go_sem, hq0, x4]
    refine (h3.step (s' := s.flush.1) (R := fun v' _ => v' = .int .i64 s.flush.2) fun O' h1 h2 => (mflush_any h1 fine (by omega)).mono fun v w' hh => ⟨hh.1, hh.2.1, hh.2.2⟩).mono ?_
    rintro _ w4 ⟨rfl, p4, k4⟩
    simp [go_sem]
    exact fin w4 _ (s.flush.1, [], s.flush.2) e (nilS _) nilO p4 k4
  · have e : s.act n a = ({ s with moves := [] }, [], 0) := by unfold Mr.act; rw [hdd] <;> rfl
    simp [go_sem, hq0, x4]
    refine (h3.step (s' := { s with moves := [] }) (R := fun v' _ => v' = .tuple #[]) fun O' h1 h2 => (mclear_any h1).mono fun v w' hh => ⟨hh.1, hh.2.1, hh.2.2⟩).mono ?_
    rintro _ w4 ⟨rfl, p4, k4⟩
    simp [go_sem]
    exact fin w4 _ _ e (nilS _) nilO p4 k4
  · have e : s.act n a = (s.fau n a.ac, [], 0) := by unfold Mr.act; rw [hdd] <;> rfl
    have n0 : (((d5 + 5 : Nat) : Int) == 0) = false := beq_false_of_ne (by omega)
    have n1 : (((d5 + 5 : Nat) : Int) == 1) = false := beq_false_of_ne (by omega)
    have n2 : (((d5 + 5 : Nat) : Int) == 2) = false := beq_false_of_ne (by omega)
    have n3 : (((d5 + 5 : Nat) : Int) == 3) = false := beq_false_of_ne (by omega)
    have n4 : (((d5 + 5 : Nat) : Int) == 4) = false := beq_false_of_ne (by omega)
    obtain ⟨D5, hD5⟩ : ∃ D, d5 + 5 = D := ⟨_, rfl⟩
    rw [hD5] at hq0 n0 n1 n2 n3 n4
    have hfl := h3.mr
    have hwk : IntKind.i64.wrap ((a.ac.k : Nat) : Int) = a.ac.k := by have := hA.ac.d; rw [IntKind.wrap_i64]; have := hA.k; omega
    obtain ⟨fd, hfd⟩ : ∃ fd, a.ac.d = fd := ⟨_, rfl⟩
    rw [hfd] at q0
    have hfa : s.fau n a.ac = { s with dk := upd1 s.dk kk (fauD n a.ac (s.dk kk)), P := fauP a.ac s.P } := by unfold Mr.fau; rw [hkk]
    rw [hfa] at e
    have hcl : (s.dk kk).cache.length ≤ 1000000 := by have := fine.cache kk hk2; omega
    have same : upd1 s.dk kk (s.dk kk) = s.dk := by
      funext j
      unfold upd1
      split
      · subst ‹j = kk›; rfl
      · rfl
    have idle : ∀ (W : World), fauD n a.ac (s.dk kk) = s.dk kk → fauP a.ac s.P = s.P → PrAt w3 x p m n z s O → s.act n a = (s, [], 0) := fun W h1 h2 _ => by rw [e, h1, h2, same]
    have hcases : fd = 3 ∨ fd = 4 ∨ fd = 5 ∨ fd = 6 ∨ fd = 7 ∨ fd = 8 ∨ fd = 9 ∨ fd = 10 ∨ fd = 11 ∨ (fd < 3 ∨ 11 < fd) := by omega
    rcases hcases with rfl | rfl | rfl | rfl | rfl | rfl | rfl | rfl | rfl | hfo
    · have eD : fauD n a.ac (s.dk kk) = (s.dk kk).crash a.ac.ps := by unfold fauD; rw [hfd] <;> rfl
      have eP : fauP a.ac s.P = s.P := by unfold fauP; rw [hfd] <;> rfl
      rw [eD, eP] at e
      simp [go_sem, hq0, n0, n1, n2, n3, n4, q0, q1, hwk, hr0]
      refine v_draw' [(0, none), (1, none), (2, none), (3, none), (4, none), (5, none), (6, none), (7, none), (8, none), (9, some [])] (by kernel_rfl) (by kernel_rfl) ?_
      simp [go_sem, xd3, hk2, hk2i, qp]
      refine (h3d.disk hk2 (D' := (s.dk kk).crash a.ac.ps) (R := fun v' _ => v' = .tuple #[]) fun B hB hBO hBp => (hB.crash a.ac.ps a.ac.pv hcl (by have := hA.ac.pl; omega) hA.ac.pr hA3.ac.ps fun h0 j hj e => (hA.ac.pX h0 j hj).1 (hBO j e)).mono fun v w' hh => ⟨hh.1, hh.2.1, hh.2.2⟩).mono ?_
      rintro v4 w4 ⟨hv4, p4, k4⟩
      subst hv4
      simp [go_sem]
      exact fin w4 _ _ e (nilS _) nilO p4 (Ch.of_drew k4)
    · have eD : fauD n a.ac (s.dk kk) = if a.ac.addr < n then (s.dk kk).rot a.ac.addr (fullB a.ac.b) else s.dk kk := by unfold fauD; rw [hfd] <;> rfl
      have eP : fauP a.ac s.P = s.P := by unfold fauP; rw [hfd] <;> rfl
      rw [eD, eP] at e
      simp [go_sem, hq0, n0, n1, n2, n3, n4, q0, q1, hwk, hr0]
      refine v_draw' [(0, none), (1, none), (2, none), (3, none), (4, none), (5, none), (6, none), (7, none), (8, none), (9, none), (10, none), (11, none), (12, some [0, 1, 2, 3, 4, 5, 6, 7, 8]), (13, some [])] (by kernel_rfl) (by kernel_rfl) ?_
      simp [go_sem, xd3, hk2, hk2i, q2', qv]
      refine (full_any a.ac.v a.ac.b w3.drew hA3.ac.sl hA.ac.bl).mono ?_
      rintro vf wf ⟨mf, cf, uf⟩
      have cf' : Ch Nw w3 wf := Ch.of_drew cf
      have hf := h3.ch cf' fun _ _ e => e
      have bf := cf'.obj b03 id
      have qf := amc ok bf
      have qf2 := qf.a2
      have xdf := xd hf
      simp [go_sem, xdf, hk2, hk2i, qf2]
      refine (hf.disk hk2 (D' := if a.ac.addr < n then (s.dk kk).rot a.ac.addr (fullB a.ac.b) else s.dk kk) (R := fun v' _ => v' = .int .i64 (if (fullB a.ac.b).length = 512 ∧ a.ac.addr < n then 0 else 1)) fun B hB hBO hBp => (hB.rot a.ac.addr hA.ac.addr (fullB a.ac.b) vf hcl (by rw [fullB_len]; exact Sl.of_own mf) fun j hj e => ?_).mono fun v w' hh => ⟨hh.1, ?_, hh.2.2⟩).mono ?_
      · have h5 := uf j hj
        have h6 : w3.heap.size ≤ j := h5
        have := hlO j (hBO j e)
        omega
      · have := hh.2.1
        simpa [fullB_len] using this
      rintro v4 w4 ⟨hv4, p4, k4⟩
      subst hv4
      simp [go_sem]
      exact fin w4 _ _ e (nilS _) nilO (p4.weak (fun k hk => hk.imp id fun e => ⟨by have := cf'.size; omega, e.2⟩) (Gr.lt (fun k hk => Nat.lt_of_lt_of_le (hlO k hk) hsz3) (Nat.le_trans cf'.size k4.size))) ((cf'.mono fun _ _ e => e.elim).trans k4)
    · have eD : fauD n a.ac (s.dk kk) = if a.ac.addr < n then (s.dk kk).bads a.ac.addr else s.dk kk := by unfold fauD; rw [hfd] <;> rfl
      have eP : fauP a.ac s.P = s.P := by unfold fauP; rw [hfd] <;> rfl
      rw [eD, eP] at e
      simp [go_sem, hq0, n0, n1, n2, n3, n4, q0, q1, hwk, hr0]
      refine v_draw' [(0, none), (1, none), (2, none), (3, none), (4, none), (5, none), (6, none), (7, none), (8, none), (9, some [])] (by kernel_rfl) (by kernel_rfl) ?_
      simp [go_sem, xd3, hk2, hk2i, q2']
      refine (h3d.disk hk2 (D' := if a.ac.addr < n then (s.dk kk).bads a.ac.addr else s.dk kk) (R := fun v' _ => v' = .int .i64 (if a.ac.addr < n then 0 else 1)) fun B hB hBO hBp => (hB.bad a.ac.addr hA.ac.addr hcl).mono fun v w' hh => ⟨hh.1, hh.2.1, hh.2.2⟩).mono ?_
      rintro v4 w4 ⟨hv4, p4, k4⟩
      subst hv4
      simp [go_sem]
      exact fin w4 _ _ e (nilS _) nilO p4 (Ch.of_drew k4)
    · have eD : fauD n a.ac (s.dk kk) = if a.ac.addr < n then (s.dk kk).stick a.ac.addr else s.dk kk := by unfold fauD; rw [hfd] <;> rfl
      have eP : fauP a.ac s.P = s.P := by unfold fauP; rw [hfd] <;> rfl
      rw [eD, eP] at e
      simp [go_sem, hq0, n0, n1, n2, n3, n4, q0, q1, hwk, hr0]
      refine v_draw' [(0, none), (1, none), (2, none), (3, none), (4, none), (5, none), (6, none), (7, none), (8, none), (9, some [])] (by kernel_rfl) (by kernel_rfl) ?_
      simp [go_sem, xd3, hk2, hk2i, q2']
      refine (h3d.disk hk2 (D' := if a.ac.addr < n then (s.dk kk).stick a.ac.addr else s.dk kk) (R := fun v' _ => v' = .int .i64 (if a.ac.addr < n then 0 else 1)) fun B hB hBO hBp => (hB.stick a.ac.addr hA.ac.addr hcl).mono fun v w' hh => ⟨hh.1, hh.2.1, hh.2.2⟩).mono ?_
      rintro v4 w4 ⟨hv4, p4, k4⟩
      subst hv4
      simp [go_sem]
      exact fin w4 _ _ e (nilS _) nilO p4 (Ch.of_drew k4)
    · have eD : fauD n a.ac (s.dk kk) = { s.dk kk with lose := true } := by unfold fauD; rw [hfd] <;> rfl
      have eP : fauP a.ac s.P = s.P := by unfold fauP; rw [hfd] <;> rfl
      rw [eD, eP] at e
      simp [go_sem, hq0, n0, n1, n2, n3, n4, q0, q1, hwk, hr0]
      simp [go_sem, xd3, hk2, hk2i]
      refine (h3.disk hk2 (D' := { s.dk kk with lose := true }) (R := fun v' _ => v' = .tuple #[]) fun B hB hBO hBp => (hB.lose).mono fun v w' hh => ⟨hh.1, hh.2.1, hh.2.2⟩).mono ?_
      rintro v4 w4 ⟨hv4, p4, k4⟩
      subst hv4
      simp [go_sem]
      exact fin w4 _ _ e (nilS _) nilO p4 k4
    · have eD : fauD n a.ac (s.dk kk) = { s.dk kk with astray := some a.ac.addr } := by unfold fauD; rw [hfd] <;> rfl
      have eP : fauP a.ac s.P = s.P := by unfold fauP; rw [hfd] <;> rfl
      rw [eD, eP] at e
      simp [go_sem, hq0, n0, n1, n2, n3, n4, q0, q1, hwk, hr0]
      refine v_draw' [(0, none), (1, none), (2, none), (3, none), (4, none), (5, none), (6, none), (7, none), (8, none), (9, some [])] (by kernel_rfl) (by kernel_rfl) ?_
      simp [go_sem, xd3, hk2, hk2i, q2']
      refine (h3d.disk hk2 (D' := { s.dk kk with astray := some a.ac.addr }) (R := fun v' _ => v' = .tuple #[]) fun B hB hBO hBp => (hB.astray a.ac.addr).mono fun v w' hh => ⟨hh.1, hh.2.1, hh.2.2⟩).mono ?_
      rintro v4 w4 ⟨hv4, p4, k4⟩
      subst hv4
      simp [go_sem]
      exact fin w4 _ _ e (nilS _) nilO p4 (Ch.of_drew k4)
    · have eD : fauD n a.ac (s.dk kk) = { s.dk kk with dead := true } := by unfold fauD; rw [hfd] <;> rfl
      have eP : fauP a.ac s.P = s.P := by unfold fauP; rw [hfd] <;> rfl
      rw [eD, eP] at e
      simp [go_sem, hq0, n0, n1, n2, n3, n4, q0, q1, hwk, hr0]
      simp [go_sem, xd3, hk2, hk2i]
      refine (h3.disk hk2 (D' := { s.dk kk with dead := true }) (R := fun v' _ => v' = .tuple #[]) fun B hB hBO hBp => (hB.die).mono fun v w' hh => ⟨hh.1, hh.2.1, hh.2.2⟩).mono ?_
      rintro v4 w4 ⟨hv4, p4, k4⟩
      subst hv4
      simp [go_sem]
      exact fin w4 _ _ e (nilS _) nilO p4 k4
    · have eD : fauD n a.ac (s.dk kk) = s.dk kk := by unfold fauD; rw [hfd] <;> rfl
      have eP : fauP a.ac s.P = s.P.fused a.ac.n := by unfold fauP; rw [hfd] <;> rfl
      rw [eD, eP, same] at e
      simp [go_sem, hq0, n0, n1, n2, n3, n4, q0, q1, hwk, hr0]
      refine v_draw' [(0, none), (1, none), (2, none), (3, none), (4, none), (5, none), (6, none), (7, some [])] (by kernel_rfl) (by kernel_rfl) ?_
      simp [go_sem, x0, qn]
      refine (h3d.power (P' := s.P.fused a.ac.n) (R := fun v' _ => v' = .tuple #[]) fun hp => (fuse_any p s.P.off s.P.fuse a.ac.n _ hp).mono fun v w' hh => ⟨hh.1, hh.2.1, hh.2.2.1⟩).mono ?_
      rintro v4 w4 ⟨hv4, p4, k4⟩
      subst hv4
      simp [go_sem]
      exact fin w4 _ _ e (nilS _) nilO p4 (Ch.of_drew k4)
    · have eD : fauD n a.ac (s.dk kk) = s.dk kk := by unfold fauD; rw [hfd] <;> rfl
      have eP : fauP a.ac s.P = Pwr.on := by unfold fauP; rw [hfd] <;> rfl
      rw [eD, eP, same] at e
      simp [go_sem, hq0, n0, n1, n2, n3, n4, q0, q1, hwk, hr0]
      simp [go_sem, x0]
      refine (h3.power (P' := Pwr.on) (R := fun v' _ => v' = .tuple #[]) fun hp => (back_any p s.P.off s.P.fuse _ hp).mono fun v w' hh => ⟨hh.1, hh.2.1, hh.2.2.1⟩).mono ?_
      rintro v4 w4 ⟨hv4, p4, k4⟩
      subst hv4
      simp [go_sem]
      exact fin w4 _ _ e (nilS _) nilO p4 k4
    · have eD : fauD n a.ac (s.dk kk) = s.dk kk := by unfold fauD; rw [hfd]; split <;> first | rfl | omega
      have eP : fauP a.ac s.P = s.P := by unfold fauP; rw [hfd]; split <;> first | rfl | omega
      rw [eD, eP, same] at e
      have k3 : ((fd : Int) == 3) = false := beq_false_of_ne (by omega)
      have k4 : ((fd : Int) == 4) = false := beq_false_of_ne (by omega)
      have k5 : ((fd : Int) == 5) = false := beq_false_of_ne (by omega)
      have k6 : ((fd : Int) == 6) = false := beq_false_of_ne (by omega)
      have k7 : ((fd : Int) == 7) = false := beq_false_of_ne (by omega)
      have k8 : ((fd : Int) == 8) = false := beq_false_of_ne (by omega)
      have k9 : ((fd : Int) == 9) = false := beq_false_of_ne (by omega)
      have k10 : ((fd : Int) == 10) = false := beq_false_of_ne (by omega)
      have k11 : ((fd : Int) == 11) = false := beq_false_of_ne (by omega)
      simp [go_sem, hq0, n0, n1, n2, n3, n4, q0, q1, hwk, hr0, k3, k4, k5, k6, k7, k8, k9, k10, k11]
      exact fin w3 _ _ e (nilS _) nilO (h3.weak (fun _ => .inl) (Gr.lt (fun k hk => Nat.lt_of_lt_of_le (hlO k hk) hsz3) (Nat.le_refl _))) (Ch.refl _ _)
end
end Go.Proofs.YtppilgkgnofkpaaGreatDoor

namespace Go.Proofs.YtppilgkgnofkpaaGreatDoor
open Go.RowKit Go.Kin

section
variable {n c : Nat} {s : Mr}
theorem Mr.Fine.mono {c' : Nat} (h : s.Fine c) (hc : c ≤ c') : s.Fine c' :=
  ⟨h.fuse, fun i hi => Nat.le_trans (h.cache i hi) hc, h.astray, fun i => Nat.le_trans (h.found i) hc, fun i => Nat.le_trans (h.mended i) hc, Nat.le_trans h.moves hc⟩
theorem Mr.Fine.mends (q : Pt) (b : Byts) : ∀ (l : List Nat) (c : Nat) (s : Mr), s.Fine c → (l.foldl (Mr.mend n q b) s).Fine (c + l.length)
  | [], _, _, h => h
  | k :: l, c, s, h => by
    have := Mr.Fine.mends q b l (c + 1) (Mr.mend n q b s k) (h.mend q b k)
    rw [List.length_cons, show c + (l.length + 1) = c + 1 + l.length by omega]
    exact this
theorem Mr.Fine.heal (h : s.Fine c) (q : Pt) (all : Bool) : (s.heal n q all).1.Fine (c + 8) := by
  unfold Mr.heal
  split
  · have h4 := lks_len n s q all
    have hb := run_bad_le n s q (s.lks n q all)
    have hf : ({ s with found := (s.run n q (s.lks n q all)).F } : Mr).Fine (c + 4) :=
      ⟨h.fuse, fun i hi => Nat.le_trans (h.cache i hi) (by omega), h.astray, fun i => by
        have h1 := run_le n s q (s.lks n q all) i
        have h2 := h.found i
        show (s.run n q (s.lks n q all)).F i ≤ _
        omega, fun i => Nat.le_trans (h.mended i) (by omega), Nat.le_trans h.moves (by omega)⟩
    simp only
    split
    · exact hf.mono (by omega)
    · exact (Mr.Fine.mends q _ _ _ _ hf).mono (by omega)
  · exact h.mono (by omega)
theorem cseq_len (a : List Nat) : (cseq a 4).length ≤ 4 := by unfold cseq; exact Nat.le_trans (List.length_filter_le _ _) (by simp)
theorem Mr.Fine.write (h : s.Fine c) (q : Pt) (b : Byts) : (s.write n q b).1.Fine (c + 8) := by
  unfold Mr.write
  split
  · exact (Mr.Fine.puts q b _ c (s, 21) h).mono (by have := cseq_len q.a; omega)
  · exact h.mono (by omega)
theorem drop_le (l : List (Nat × Byts)) (a : Nat) : (dropC l a).length ≤ l.length := List.length_filter_le _ _
theorem fauD_fine (a : Ac) (ha : a.addr < 65536) {D : Dk} (h : D.cache.length ≤ c) (h2 : ∀ x, D.astray = some x → x < 65536) : (fauD n a D).cache.length ≤ c ∧ ∀ x, (fauD n a D).astray = some x → x < 65536 := by
  unfold fauD
  split
  · unfold Dk.crash
    split
    · exact ⟨h, h2⟩
    · exact ⟨by simp, fun x hx => by cases hx⟩
  · split
    · exact ⟨Nat.le_trans (drop_le _ _) h, h2⟩
    · exact ⟨h, h2⟩
  · split
    · exact ⟨Nat.le_trans (drop_le _ _) h, h2⟩
    · exact ⟨h, h2⟩
  · split
    · exact ⟨Nat.le_trans (drop_le _ _) h, h2⟩
    · exact ⟨h, h2⟩
  · exact ⟨h, h2⟩
  · exact ⟨h, fun x hx => by cases hx; exact ha⟩
  · exact ⟨h, h2⟩
  · exact ⟨h, h2⟩
theorem Mr.Fine.fau (h : s.Fine c) (a : Ac) (ha : a.addr < 65536) (hn : a.n ≤ 9223372036854775807) : (s.fau n a).Fine c := by
  unfold Mr.fau
  refine ⟨?_, fun i hi => ?_, fun i hi => ?_, h.found, h.mended, h.moves⟩
  · show (fauP a s.P).fuse ≤ _
    unfold fauP
    split
    · unfold Pwr.fused
      simp only
      split
      · exact h.fuse
      · split <;> omega
    · decide
    · exact h.fuse
  · by_cases e : i = a.k % 2
    · subst e
      simp only [upd1_same]
      exact (fauD_fine a ha (h.cache _ hi) (h.astray _ hi)).1
    · simp only [upd1_ne _ _ e]; exact h.cache _ hi
  · by_cases e : i = a.k % 2
    · subst e
      simp only [upd1_same]
      exact (fauD_fine a ha (h.cache _ hi) (h.astray _ hi)).2
    · simp only [upd1_ne _ _ e]; exact h.astray _ hi
theorem Mr.Fine.act (h : s.Fine c) (a : Am) (ha : a.ac.addr < 65536) (hn : a.ac.n ≤ 9223372036854775807) : (s.act n a).1.Fine (c + 8) := by
  unfold Mr.act
  split
  · exact h.heal _ _
  · exact h.heal _ _
  · exact h.write _ _
  · exact ((h.flush1 0).flush1 1).mono (by omega)
  · exact ⟨h.fuse, fun i hi => Nat.le_trans (h.cache i hi) (by omega), h.astray, fun i => Nat.le_trans (h.found i) (by omega), fun i => Nat.le_trans (h.mended i) (by omega), Nat.zero_le _⟩
  · exact (h.fau _ ha hn).mono (by omega)
end
theorem lst_big {w : World} {v : Value} {L : List Am} (h : Lst w v amL 51 L) (hin : ∀ a ∈ L, PtOk a.q) {i : Nat} {a : Am} (hi : L[i]? = some a) : ∃ b off c cs T fr, v = .slice (some ⟨b, off, none⟩) L.length c ∧ w.heap[b]? = some (.cells cs T fr) ∧ cs.extract (off + i * 51) (off + i * 51 + 51) = amv a ∧ off + i * 51 + 51 ≤ cs.size := by
  obtain ⟨A, c, rfl, _, _, h3⟩ := h
  have hlt := (List.getElem?_eq_some_iff.1 hi).1
  obtain ⟨b, off, rfl, _, hr⟩ := h3 (by omega)
  have ok := hin a (List.mem_of_getElem? hi)
  have hl := amL_len ok
  obtain ⟨o, ho, hoc⟩ := cells_of_cell (hr i a 0 _ hi rfl)
  have ho : w.heap[b]? = some o := ho
  obtain ⟨cs, T, fr, rfl⟩ : ∃ cs T fr, o = .cells cs T fr := by
    cases o with
    | cells cs T fr => exact ⟨_, _, _, rfl⟩
    | _ => cases hoc
  have hc : ∀ j, j < 51 → cs[off + i * 51 + j]? = (amL a)[j]? := fun j hj => by
    obtain ⟨u, hu⟩ : ∃ u, (amL a)[j]? = some u := ⟨_, List.getElem?_eq_getElem (by omega)⟩
    rw [hu, ← hr i a j u hi hu, cell_blk ho]
  have hsz : off + i * 51 + 51 ≤ cs.size := by
    have h50 := hc 50 (by omega)
    rw [List.getElem?_eq_getElem (show 50 < (amL a).length by omega)] at h50
    have := (Array.getElem?_eq_some_iff.1 h50).1
    omega
  refine ⟨b, off, c, cs, T, fr, rfl, ho, ?_, hsz⟩
  apply Array.ext_getElem?
  intro j
  rw [Array.getElem?_extract]
  by_cases hj : j < 51
  · rw [if_pos (by omega), hc j hj]
    simp [amv]
  · rw [if_neg (by omega), Array.getElem?_eq_none (by rw [amv_size ok]; omega)]
theorem bsl_am {a : Am} (ok : PtOk a.q) (w : World) : (Instr.buildSlice 22 1 #[(0, .agg (amv a))]).run Tryz.prog w = .ok (.slice (some ⟨w.heap.size, 0, none⟩) 1 1) (w.alloc (.cells (amv a) 65)) :=
  run_buildSlice1 Tryz.underlying22 Tryz.sizeOf65 (by kernel_rfl : (Tryz.prog.info? 65).bind (·.zero) = some (.agg (amv ⟨0, ptz, .slice none 0 0, [], false, ⟨0, 0, 0, .slice none 0 0, [], false, 0, .slice none 0 0, []⟩⟩))) (amv_size ok) (by decide) (by decide) w
end Go.Proofs.YtppilgkgnofkpaaGreatDoor
