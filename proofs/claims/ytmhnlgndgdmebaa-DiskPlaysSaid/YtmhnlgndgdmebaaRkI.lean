/- What the document says of an act. No condition but on sizes. -/
import Derived.Test.YtmhnlgndgdmebaaRkH
import Derived.Test.YtmhnlgndgdmebaaDkT
namespace Go.Proofs.Ytmhnlgndgdmebaa
open Go.RowKit Go.Kin

section
variable {w w1 w' : World} {d p r q n : Nat} {D : Dk} {P : Pwr} {O S X : Nat → Prop}
theorem Rd.crash' (h : Rd w r q n D P O) (ps : List Int) (v : Value) (hcl : D.cache.length ≤ 1000000) (hps : ps.length ≤ 1000000) (hpr : ∀ x ∈ ps, -9223372036854775808 ≤ x ∧ x ≤ 9223372036854775807) (hv : Sl w v ps.length (ps.map (Value.int .i64))) (hvO : 0 < ps.length → ∀ k, v.ownBlock = some k → ¬ O k ∧ k < w.heap.size) :
    Ret Try.prog 69 #[.pointer (some ⟨r, 0, none⟩), v] w fun v' w' => v' = .tuple #[] ∧ Rd w' r q n (D.crash ps) P (Gr O w w') ∧ Ch (fun k => O k ∨ k = q) w w' :=
  (h.crash ps v hcl hps hpr hv hvO).mono fun _ _ e => ⟨e.1, e.2.1, e.2.2.mono fun _ _ e => .inl e⟩
theorem fused_off {P : Pwr} (h : P.off = true) (n : Int) : P = P.fused n := by
  obtain ⟨off, fuse⟩ := P
  simp only at h
  subst h
  rfl
set_option maxHeartbeats 4000000 in
theorem says_any (h : Rd w r q n D P O) (a : Ac) (hfu : P.fuse ≤ 9223372036854775807) (hcl : D.cache.length ≤ 1000000) (hast : ∀ x, D.astray = some x → x < 65536) (hA : Ac.At w a fun k => O k ∨ k = q) :
    Ret Try.prog 45 #[.pointer (some ⟨r, 0, none⟩), .agg (acv a).toArray] w fun v' w' => v' = .tuple #[.string ⟨(acT n a D P).toArray⟩, .int .i64 (acE n a D P)] ∧ Rd w' r q n (acD n a D P) (acP n a D P) (Gr O w w') ∧ Ch (fun k => O k ∨ k = q) w w' := by
  refine v_enter Try.func45 Try.ntmps45 rfl (by simp) fun R' hR => ?_
  obtain ⟨dd, k, addr, v, b, short, nn, pv, ps⟩ := a
  obtain ⟨A1, c1, hv1, _⟩ := id hA.sl
  obtain ⟨A2, c2, hv2, _⟩ := id hA.ps
  simp only at hv1 hv2
  subst hv1 hv2
  have haddr : addr < 65536 := hA.addr
  have hplt := h.plt
  have holt := h.olt
  have ba := hp_alloc w (.cells #[.int .u8 dd, .int .u8 k, .int .u16 addr, .slice A1 b.length c1, .bool short, .int .i64 nn, .slice A2 ps.length c2] 62)
  have ca := (Ch.refl Nw w).alloc (.cells #[.int .u8 dd, .int .u8 k, .int .u16 addr, .slice A1 b.length c1, .bool short, .int .i64 nn, .slice A2 ps.length c2] 62)
  simp [go_sem, acv]
  generalize w.heap.size = X at ba
  generalize w.alloc (.cells #[.int .u8 dd, .int .u8 k, .int .u16 addr, .slice A1 b.length c1, .bool short, .int .i64 nn, .slice A2 ps.length c2] 62) = w1 at *
  have cX := fun i => cell_blk ba i
  have cX0 : w1.cell? ⟨X, 0, none⟩ = some (.int .u8 dd) := cX 0
  have s1 := h.ch ca (fun _ _ e => e) id
  have hA1 := hA.ch ca
  have done : ∀ (T : Byts) (E : Int) (u : World) (D' : Dk) (P' : Pwr), Rd u r q n D' P' (Gr O w1 u) → Ch (fun k => O k ∨ k = q) w1 u →
      T = acT n ⟨dd, k, addr, .slice A1 b.length c1, b, short, nn, .slice A2 ps.length c2, ps⟩ D P → E = acE n ⟨dd, k, addr, .slice A1 b.length c1, b, short, nn, .slice A2 ps.length c2, ps⟩ D P → D' = acD n ⟨dd, k, addr, .slice A1 b.length c1, b, short, nn, .slice A2 ps.length c2, ps⟩ D P → P' = acP n ⟨dd, k, addr, .slice A1 b.length c1, b, short, nn, .slice A2 ps.length c2, ps⟩ D P → R' (.tuple #[.string ⟨T.toArray⟩, .int .i64 E]) u := by
    rintro T E u D' P' hs hc rfl rfl rfl rfl
    exact hR _ _ ⟨rfl, hs.since holt h.qO hplt ca.size hc.size, (ca.mono fun _ _ e => e.elim).trans hc⟩
  clear hR
  obtain ⟨z, lm, lb, ls, hz⟩ := s1.dk
  have br := hz.blk
  have cr := fun i => cell_blk br i
  have fr := fun i => frz_blk br i
  have cr1 : w1.cell? ⟨r, 1, none⟩ = some (.pointer (some ⟨q, 0, none⟩)) := cr 1
  have cq := fun i => cell_blk s1.pw i
  have fq := fun i => frz_blk s1.pw i
  have hcases : dd = 0 ∨ dd = 1 ∨ dd = 2 ∨ dd = 3 ∨ dd = 4 ∨ dd = 5 ∨ dd = 6 ∨ dd = 7 ∨ dd = 8 ∨ dd = 9 ∨ dd = 10 ∨ dd = 11 ∨ ∃ m, dd = m + 12 := by
    rcases Nat.lt_or_ge dd 12 with h | h
    · omega
    · exact .inr (.inr (.inr (.inr (.inr (.inr (.inr (.inr (.inr (.inr (.inr (.inr ⟨dd - 12, by omega⟩)))))))))))
  rcases hcases with rfl | rfl | rfl | rfl | rfl | rfl | rfl | rfl | rfl | rfl | rfl | rfl | ⟨m, rfl⟩
  · simp [go_sem, cX0]
    refine v_draw' [(0, none), (1, none), (2, none), (3, none), (4, some [0, 1, 2]), (5, none), (6, some []), (7, none), (8, none)] (by kernel_rfl) (by kernel_rfl) ?_
    simp [go_sem, cX]
    refine (bytes_any ⟨0, k, addr, .slice A1 b.length c1, b, short, nn, .slice A2 ps.length c2, ps⟩ w1.drew (hA1.ch (Ch.refl Nw w1).drew).sl hA.bl).mono ?_
    rintro v3 w3 ⟨sl3, fr3, c3⟩
    have c3 := Ch.of_drew c3
    have cX3 := fun i => cell_blk (c3.obj ba id) i
    have s3 := s1.ch c3 (fun _ _ e => e) id
    have hst := sl3.str (P := Try.prog) rfl Try.underlying60 Try.underlying5 Try.underlying9
    simp [go_sem, cX3, hst]
    refine (s3.write addr haddr _ hfu hcl hast).mono ?_
    rintro _ w4 ⟨rfl, s4, k4⟩
    simp [go_sem]
    exact done [] _ _ _ _ (s4.since s1.olt h.qO s1.plt c3.size k4.size) ((c3.mono fun _ _ e => e.elim).trans k4) rfl rfl rfl rfl
  · simp [go_sem, cX0, cX]
    refine (read_rk hz s1.pw addr haddr hcl).mono ?_
    rintro _ w3 ⟨rfl, c3⟩
    simp [go_sem]
    exact done _ _ _ _ _ (s1.stay' c3) (c3.mono fun _ _ e => e.elim) rfl rfl rfl rfl
  · simp [go_sem, cX0, cX]
    refine (s1.flush hfu hcl).mono ?_
    rintro _ w3 ⟨rfl, s3, c3⟩
    simp [go_sem]
    exact done [] _ _ _ _ s3 c3 rfl (by simp [acE]) rfl rfl
  · simp [go_sem, cX0, cX]
    refine (s1.crash' ps _ hcl hA.pl hA.pr hA1.ps fun h0 k hk => ⟨fun e => (hA1.pX h0 k hk).1 (.inl e), (hA1.pX h0 k hk).2⟩).mono ?_
    rintro _ w3 ⟨rfl, s3, c3⟩
    simp [go_sem]
    exact done [] _ _ _ _ s3 c3 rfl rfl rfl rfl
  · simp [go_sem, cX0]
    refine v_draw' [(0, none), (1, none), (2, none), (3, none), (4, none), (5, none), (6, none), (7, none), (8, some [0, 1, 2, 3, 4, 5, 6]), (9, none), (10, some []), (11, none), (12, none)] (by kernel_rfl) (by kernel_rfl) ?_
    simp [go_sem, cX]
    refine (bytes_any ⟨4, k, addr, .slice A1 b.length c1, b, short, nn, .slice A2 ps.length c2, ps⟩ w1.drew (hA1.ch (Ch.refl Nw w1).drew).sl hA.bl).mono ?_
    rintro v3 w3 ⟨sl3, fr3, c3⟩
    have c3 := Ch.of_drew c3
    have cX3 := fun i => cell_blk (c3.obj ba id) i
    have s3 := s1.ch c3 (fun _ _ e => e) id
    have hst := sl3.str (P := Try.prog) rfl Try.underlying60 Try.underlying5 Try.underlying9
    simp [go_sem, cX3, hst]
    refine (s3.fault 0 (by omega) addr haddr _ hcl).mono ?_
    rintro _ w4 ⟨rfl, s4, k4⟩
    simp [go_sem]
    exact done [] _ _ _ _ (s4.since s1.olt h.qO s1.plt c3.size k4.size) ((c3.mono fun _ _ e => e.elim).trans (k4.mono fun _ _ e => .inl e)) rfl (by simp [acE, and_comm]) (by simp [acD, faultD, and_comm]) rfl
  · simp [go_sem, cX0]
    refine v_draw' [(0, none), (1, none), (2, none), (3, none), (4, none), (5, none), (6, none), (7, none), (8, some [0, 1, 2, 3, 4, 5, 6]), (9, none), (10, some []), (11, none), (12, none)] (by kernel_rfl) (by kernel_rfl) ?_
    simp [go_sem, cX]
    refine (bytes_any ⟨5, k, addr, .slice A1 b.length c1, b, short, nn, .slice A2 ps.length c2, ps⟩ w1.drew (hA1.ch (Ch.refl Nw w1).drew).sl hA.bl).mono ?_
    rintro v3 w3 ⟨sl3, fr3, c3⟩
    have c3 := Ch.of_drew c3
    have cX3 := fun i => cell_blk (c3.obj ba id) i
    have s3 := s1.ch c3 (fun _ _ e => e) id
    have hst := sl3.str (P := Try.prog) rfl Try.underlying60 Try.underlying5 Try.underlying9
    simp [go_sem, cX3, hst]
    refine (s3.fault 1 (by omega) addr haddr _ hcl).mono ?_
    rintro _ w4 ⟨rfl, s4, k4⟩
    simp [go_sem]
    exact done [] _ _ _ _ (s4.since s1.olt h.qO s1.plt c3.size k4.size) ((c3.mono fun _ _ e => e.elim).trans (k4.mono fun _ _ e => .inl e)) rfl (by simp [acE, and_comm]) (by simp [acD, faultD, and_comm]) rfl
  · simp [go_sem, cX0]
    refine v_draw' [(0, none), (1, none), (2, none), (3, none), (4, none), (5, none), (6, none), (7, none), (8, some [0, 1, 2, 3, 4, 5, 6]), (9, none), (10, some []), (11, none), (12, none)] (by kernel_rfl) (by kernel_rfl) ?_
    simp [go_sem, cX]
    refine (bytes_any ⟨6, k, addr, .slice A1 b.length c1, b, short, nn, .slice A2 ps.length c2, ps⟩ w1.drew (hA1.ch (Ch.refl Nw w1).drew).sl hA.bl).mono ?_
    rintro v3 w3 ⟨sl3, fr3, c3⟩
    have c3 := Ch.of_drew c3
    have cX3 := fun i => cell_blk (c3.obj ba id) i
    have s3 := s1.ch c3 (fun _ _ e => e) id
    have hst := sl3.str (P := Try.prog) rfl Try.underlying60 Try.underlying5 Try.underlying9
    simp [go_sem, cX3, hst]
    refine (s3.fault 2 (by omega) addr haddr _ hcl).mono ?_
    rintro _ w4 ⟨rfl, s4, k4⟩
    simp [go_sem]
    exact done [] _ _ _ _ (s4.since s1.olt h.qO s1.plt c3.size k4.size) ((c3.mono fun _ _ e => e.elim).trans (k4.mono fun _ _ e => .inl e)) rfl (by simp [acE, and_comm]) (by simp [acD, faultD, and_comm]) rfl
  · obtain ⟨k3, c3⟩ := hz.setF (i := 7) (b := true) (D' := { D with lose := true }) rfl rfl rfl rfl rfl rfl
    simp [go_sem, cX0, cr, fr, rcs]
    exact done [] _ _ _ _ ⟨k3, s1.pw.ch c3 h.qO, s1.gr⟩ (c3.mono fun _ _ e => .inl e) rfl rfl rfl rfl
  · have cal := (Ch.refl Nw w1).alloc (.cells #[.int .u16 addr] 24)
    have cra := fun i => cell_blk (cal.obj br id) i
    have fra := fun i => frz_blk (cal.obj br id) i
    obtain ⟨k3, c3⟩ := hz.setA (a := some addr) cal (v := .slice (some ⟨w1.heap.size, 0, none⟩) 1 1) (one_lit w1 _ _) fun j hj => by simp [Value.ownBlock] at hj; omega
    simp [go_sem, cX0, cX, cra, fra, rcs]
    exact done [] _ _ _ _ ⟨k3, s1.pw.ch c3 h.qO, s1.gr⟩ (c3.mono fun _ _ e => .inl e) rfl rfl rfl rfl
  · obtain ⟨k3, c3⟩ := hz.setF (i := 6) (b := true) (D' := { D with dead := true }) rfl rfl rfl rfl rfl rfl
    simp [go_sem, cX0, cr, fr, rcs]
    exact done [] _ _ _ _ ⟨k3, s1.pw.ch c3 h.qO, s1.gr⟩ (c3.mono fun _ _ e => .inl e) rfl rfl rfl rfl
  · cases ho : P.off with
    | true =>
      simp [go_sem, cX0, cr1, cq, ho]
      exact done [] _ _ _ _ (s1.stay' (Ch.refl _ _)) (Ch.refl _ _) rfl rfl rfl (fused_off ho nn)
    | false =>
      simp [go_sem, cX0, cr1, cq, ho]
      refine v_draw' [(0, none), (1, none), (2, none), (3, none), (4, none), (5, none), (6, none), (7, none), (8, none), (9, some [])] (by kernel_rfl) (by kernel_rfl) ?_
      simp [go_sem, cX, cr1, cq, fq, ho]
      have c3 : Ch (one q) w1 (w1.setCell ⟨q, 1, none⟩ (.int .i64 (if nn < -1 then -1 else nn))).drew := ((Ch.refl (one q) w1).setCell (p := ⟨q, 1, none⟩) (.inl rfl) _).drew
      have h3 : PwR (w1.setCell ⟨q, 1, none⟩ (.int .i64 (if nn < -1 then -1 else nn))).drew q (P.fused nn) := by
        have e := hp_setCell w1 q 1 (.int .i64 (if nn < -1 then -1 else nn))
        rw [s1.pw, setOf_cells] at e
        unfold PwR Pwr.fused
        rw [hp_drew, e, ho]
        simp
      exact done [] _ _ _ _ (s1.power h3 c3) (c3.mono fun _ _ e => .inr e) rfl rfl rfl rfl
  · have e1 : (w1.setCell ⟨q, 0, none⟩ (.bool false)).heap[q]? = some (.cells #[.bool false, .int .i64 P.fuse] 81 (0, 0)) := by rw [hp_setCell, s1.pw, setOf_cells]; simp
    simp [go_sem, cX0, cr1, cq, fq]
    have c3 : Ch (one q) w1 ((w1.setCell ⟨q, 0, none⟩ (.bool false)).setCell ⟨q, 1, none⟩ (.int .i64 (-1))) := ((Ch.refl (one q) w1).setCell (p := ⟨q, 0, none⟩) (.inl rfl) _).setCell (p := ⟨q, 1, none⟩) (.inl rfl) _
    have h3 : PwR ((w1.setCell ⟨q, 0, none⟩ (.bool false)).setCell ⟨q, 1, none⟩ (.int .i64 (-1))) q Pwr.on := by
      unfold PwR
      rw [hp_setCell, e1, setOf_cells]
      rfl
    exact done [] _ _ _ _ (s1.power h3 c3) (c3.mono fun _ _ e => .inr e) rfl rfl rfl rfl
  · have ne : ∀ j : Int, j < 12 → (((m + 12 : Nat) : Int) == j) = false := fun j hj => beq_false_of_ne (by omega)
    have e0 := ne 0 (by omega)
    have e1 := ne 1 (by omega)
    have e2 := ne 2 (by omega)
    have e3 := ne 3 (by omega)
    have e4 := ne 4 (by omega)
    have e5 := ne 5 (by omega)
    have e6 := ne 6 (by omega)
    have e7 := ne 7 (by omega)
    have e8 := ne 8 (by omega)
    have e9 := ne 9 (by omega)
    have e10 := ne 10 (by omega)
    have e11 := ne 11 (by omega)
    generalize hM : ((m + 12 : Nat) : Int) = M at *
    simp [go_sem, cX0, cr1, e0, e1, e2, e3, e4, e5, e6, e7, e8, e9, e10, e11]
    refine (rstep_any q P w1 s1.pw hfu).mono ?_
    rintro _ w3 ⟨rfl, h3, c3⟩
    have s3 := s1.power (P' := P.step) h3 c3
    cases hmd : P.made with
    | true =>
      simp [go_sem]
      exact done [] _ _ _ _ s3 (c3.mono fun _ _ e => .inr e) rfl (by simp [acE, hmd]) rfl rfl
    | false =>
      simp [go_sem]
      exact done [] _ _ _ _ s3 (c3.mono fun _ _ e => .inr e) rfl (by simp [acE, hmd]) rfl rfl
end
end Go.Proofs.Ytmhnlgndgdmebaa
