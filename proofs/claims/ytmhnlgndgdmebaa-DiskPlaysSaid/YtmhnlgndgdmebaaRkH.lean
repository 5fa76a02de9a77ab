/- An act on a disk, and what the document says of it. No condition but on sizes. -/
import Derived.Test.YtmhnlgndgdmebaaRkG
import Derived.Test.YtmhnlgndgdmebaaDkU
namespace Go.Proofs.Ytmhnlgndgdmebaa
open Go.RowKit Go.Kin

/-- what an act makes of a disk, of the power; its text, its error -/
def acD (n : Nat) (a : Ac) (D : Dk) (P : Pwr) : Dk := match a.d with
  | 0 => D.write n P a.addr a.bytes
  | 1 => D
  | 2 => if D.able P && P.made then D.flush else D
  | 3 => D.crash a.ps
  | 4 => if a.bytes.length = 512 ∧ a.addr < n then D.rot a.addr a.bytes else D
  | 5 => if a.addr < n then D.bads a.addr else D
  | 6 => if a.addr < n then D.stick a.addr else D
  | 7 => { D with lose := true }
  | 8 => { D with astray := some a.addr }
  | 9 => { D with dead := true }
  | _ => D
def acP (n : Nat) (a : Ac) (D : Dk) (P : Pwr) : Pwr := match a.d with
  | 0 => D.wpow n P a.addr a.bytes
  | 1 => P
  | 2 => if D.able P then P.step else P
  | 3 => P
  | 4 => P
  | 5 => P
  | 6 => P
  | 7 => P
  | 8 => P
  | 9 => P
  | 10 => P.fused a.n
  | 11 => Pwr.on
  | _ => P.step
def acT (n : Nat) (a : Ac) (D : Dk) (P : Pwr) : Byts := if a.d = 1 then readT n D P a.addr else []
def acE (n : Nat) (a : Ac) (D : Dk) (P : Pwr) : Int := match a.d with
  | 0 => wrE (D.writes n P a.addr a.bytes)
  | 1 => readE n D P a.addr
  | 2 => if D.able P && P.made then 0 else 3
  | 3 => 0
  | 4 => if a.bytes.length = 512 ∧ a.addr < n then 0 else 1
  | 5 => if a.addr < n then 0 else 1
  | 6 => if a.addr < n then 0 else 1
  | 7 => 0
  | 8 => 0
  | 9 => 0
  | 10 => 0
  | 11 => 0
  | _ => if P.made then 0 else 3
/-- an act that lies in a world, its bytes and picks apart from X -/
structure Ac.At (w : World) (a : Ac) (X : Nat → Prop) : Prop where
  addr : a.addr < 65536
  d : a.d < 256
  n : -9223372036854775808 ≤ a.n ∧ a.n ≤ 9223372036854775807
  sl : Sl w a.v a.b.length (bvs a.b)
  vX : 0 < a.b.length → ∀ k, a.v.ownBlock = some k → ¬ X k ∧ k < w.heap.size
  bl : a.b.length ≤ 1000000
  ps : Sl w a.pv a.ps.length (a.ps.map (Value.int .i64))
  pX : 0 < a.ps.length → ∀ k, a.pv.ownBlock = some k → ¬ X k ∧ k < w.heap.size
  pl : a.ps.length ≤ 1000000
  pr : ∀ x ∈ a.ps, -9223372036854775808 ≤ x ∧ x ≤ 9223372036854775807
section
variable {w w1 w' : World} {d p r q n : Nat} {D : Dk} {P : Pwr} {O S X : Nat → Prop}
theorem Ac.At.ch {a : Ac} (h : Ac.At w a X) (hc : Ch Nw w w') : Ac.At w' a X := ⟨h.addr, h.d, h.n, h.sl.ch hc fun _ _ e => e, fun h0 k hk => ⟨(h.vX h0 k hk).1, Nat.lt_of_lt_of_le (h.vX h0 k hk).2 hc.size⟩, h.bl, h.ps.ch hc fun _ _ e => e, fun h0 k hk => ⟨(h.pX h0 k hk).1, Nat.lt_of_lt_of_le (h.pX h0 k hk).2 hc.size⟩, h.pl, h.pr⟩
theorem Ac.At.bytes {a : Ac} (h : Ac.At w a X) {v : Value} {B : Nat} (hb : w.heap.size ≤ B) (hv : a.short = true ∧ v = a.v ∨ Fresh B v) (hX : ∀ k, X k → k < w.heap.size) (h0 : 0 < a.bytes.length) : ∀ k, v.ownBlock = some k → ¬ X k := by
  intro k hk
  rcases hv with ⟨hs, rfl⟩ | hf
  · have e : a.bytes = a.b := by unfold Ac.bytes; rw [if_pos hs]
    rw [e] at h0
    exact (h.vX h0 k hk).1
  · have := hf k hk
    exact fun e => by have := hX k e; omega
theorem Sd.since (h : Sd w' d p n D P (Gr O w1 w')) (ho : ∀ k, O k → k < w.heap.size) (hpO : ¬ O p) (hp : p < w.heap.size) (h1 : w.heap.size ≤ w1.heap.size) (h2 : w1.heap.size ≤ w'.heap.size) : Sd w' d p n D P (Gr O w w') :=
  ⟨h.dk.mono (fun k hk => hk.imp id fun e => ⟨by omega, e.2⟩) (Gr.lt ho (by omega)), h.pw, fun e => e.elim hpO fun e => by omega⟩
theorem Sd.stay' (h : Sd w d p n D P O) (hc : Ch Nw w w') : Sd w' d p n D P (Gr O w w') := by
  have h1 := h.ch hc (fun _ _ e => e) id
  exact ⟨h1.dk.mono (fun _ => .inl) (Gr.lt h.olt hc.size), h1.pw, h.gr⟩
theorem Sd.power {P' : Pwr} (h : Sd w d p n D P O) (hp : PwAt w' p P') (hc : Ch (one p) w w') : Sd w' d p n D P' (Gr O w w') := by
  have h1 := h.dk.ch hc fun k hk e => by simp only [one] at e; subst e; exact h.pO hk
  exact ⟨h1.mono (fun _ => .inl) (Gr.lt h.olt hc.size), hp, h.gr⟩
theorem Rd.olt (h : Rd w r q n D P O) : ∀ k, O k → k < w.heap.size := h.dk.olt
theorem Rd.since (h : Rd w' r q n D P (Gr O w1 w')) (ho : ∀ k, O k → k < w.heap.size) (hpO : ¬ O q) (hp : q < w.heap.size) (h1 : w.heap.size ≤ w1.heap.size) (h2 : w1.heap.size ≤ w'.heap.size) : Rd w' r q n D P (Gr O w w') :=
  ⟨h.dk.since ho h1 h2, h.pw, fun e => e.elim hpO fun e => by omega⟩
theorem Rd.stay' (h : Rd w r q n D P O) (hc : Ch Nw w w') : Rd w' r q n D P (Gr O w w') := by
  have h1 := h.ch hc (fun _ _ e => e) id
  exact ⟨h1.dk.mono (fun _ => .inl) (Gr.lt h.olt hc.size), h1.pw, h.gr⟩
theorem Rd.power {P' : Pwr} (h : Rd w r q n D P O) (hp : PwR w' q P') (hc : Ch (one q) w w') : Rd w' r q n D P' (Gr O w w') := by
  have h1 := h.dk.ch hc fun k hk e => by simp only [one] at e; subst e; exact h.qO hk
  exact ⟨h1.mono (fun _ => .inl) (Gr.lt h.olt hc.size), hp, h.gr⟩
set_option maxHeartbeats 4000000 in
theorem does_any (h : Sd w d p n D P O) (a : Ac) (hfu : P.fuse ≤ 9223372036854775807) (hcl : D.cache.length ≤ 1000000) (hast : ∀ x, D.astray = some x → x < 65536) (hA : Ac.At w a fun k => O k ∨ k = p) :
    Ret Try.prog 44 #[.pointer (some ⟨d, 0, none⟩), .pointer (some ⟨p, 0, none⟩), .agg (acv a).toArray] w fun v' w' => v' = .tuple #[.string ⟨(acT n a D P).toArray⟩, .int .i64 (acE n a D P)] ∧ Sd w' d p n (acD n a D P) (acP n a D P) (Gr O w w') ∧ Ch (fun k => O k ∨ k = p) w w' := by
  refine v_enter Try.func44 Try.ntmps44 rfl (by simp) fun R' hR => ?_
  obtain ⟨dd, k, addr, v, b, short, nn, pv, ps⟩ := a
  obtain ⟨A1, c1, hv1, _⟩ := id hA.sl
  obtain ⟨A2, c2, hv2, _⟩ := id hA.ps
  simp only at hv1 hv2
  subst hv1 hv2
  have haddr : addr < 65536 := hA.addr
  have hplt := h.plt
  have holt := h.olt
  have ba := hp_alloc w (.cells #[.int .u8 dd, .int .u8 k, .int .u16 addr, .slice A1 b.length c1, .bool short, .int .i64 nn, .slice A2 ps.length c2] 62)
  have ca := (Ch.refl Nw w).alloc (.cells #[.int .u8 dd, .int .u8 k, .int .u16 addr, .slice A1 b.length c1, .bool short, .int .i64 nn, .slice A2 ps.length c2] 62)
  simp [go_sem, acv]
  generalize w.heap.size = X at ba
  generalize w.alloc (.cells #[.int .u8 dd, .int .u8 k, .int .u16 addr, .slice A1 b.length c1, .bool short, .int .i64 nn, .slice A2 ps.length c2] 62) = w1 at *
  have cX := fun i => cell_blk ba i
  have cX0 : w1.cell? ⟨X, 0, none⟩ = some (.int .u8 dd) := cX 0
  have s1 := h.ch ca (fun _ _ e => e) id
  have hA1 := hA.ch ca
  have done : ∀ (T : Byts) (E : Int) (u : World) (D' : Dk) (P' : Pwr), Sd u d p n D' P' (Gr O w1 u) → Ch (fun k => O k ∨ k = p) w1 u →
      T = acT n ⟨dd, k, addr, .slice A1 b.length c1, b, short, nn, .slice A2 ps.length c2, ps⟩ D P → E = acE n ⟨dd, k, addr, .slice A1 b.length c1, b, short, nn, .slice A2 ps.length c2, ps⟩ D P → D' = acD n ⟨dd, k, addr, .slice A1 b.length c1, b, short, nn, .slice A2 ps.length c2, ps⟩ D P → P' = acP n ⟨dd, k, addr, .slice A1 b.length c1, b, short, nn, .slice A2 ps.length c2, ps⟩ D P → R' (.tuple #[.string ⟨T.toArray⟩, .int .i64 E]) u := by
    rintro T E u D' P' hs hc rfl rfl rfl rfl
    exact hR _ _ ⟨rfl, hs.since holt h.pO hplt ca.size hc.size, (ca.mono fun _ _ e => e.elim).trans hc⟩
  clear hR
  have hcases : dd = 0 ∨ dd = 1 ∨ dd = 2 ∨ dd = 3 ∨ dd = 4 ∨ dd = 5 ∨ dd = 6 ∨ dd = 7 ∨ dd = 8 ∨ dd = 9 ∨ dd = 10 ∨ dd = 11 ∨ ∃ m, dd = m + 12 := by
    rcases Nat.lt_or_ge dd 12 with h | h
    · omega
    · exact .inr (.inr (.inr (.inr (.inr (.inr (.inr (.inr (.inr (.inr (.inr (.inr ⟨dd - 12, by omega⟩)))))))))))
  rcases hcases with rfl | rfl | rfl | rfl | rfl | rfl | rfl | rfl | rfl | rfl | rfl | rfl | ⟨m, rfl⟩
  · simp [go_sem, cX0]
    refine v_draw' [(0, none), (1, none), (2, none), (3, none), (4, some [0, 1, 2]), (5, some []), (6, none), (7, none)] (by kernel_rfl) (by kernel_rfl) ?_
    simp [go_sem, cX]
    refine (bytes_any ⟨0, k, addr, .slice A1 b.length c1, b, short, nn, .slice A2 ps.length c2, ps⟩ w1.drew (hA1.ch (Ch.refl Nw w1).drew).sl hA.bl).mono ?_
    rintro v3 w3 ⟨sl3, fr3, c3⟩
    have c3 := Ch.of_drew c3
    have cX3 := fun i => cell_blk (c3.obj ba id) i
    have s3 := s1.ch c3 (fun _ _ e => e) id
    have aw := hA1.bytes (B := w1.heap.size) (v := v3) (Nat.le_refl _) fr3 fun k hk => hk.elim (fun e => s1.olt k e) fun e => e ▸ s1.plt
    simp [go_sem, cX3]
    refine (s3.write0 addr haddr _ v3 hfu hcl hast sl3 fun h0 k hk => ⟨fun e => aw h0 k hk (.inl e), fun e => aw h0 k hk (.inr e)⟩).mono ?_
    rintro _ w4 ⟨rfl, s4, k4⟩
    simp [go_sem]
    exact done [] _ _ _ _ (s4.since s1.olt h.pO s1.plt c3.size k4.size) ((c3.mono fun _ _ e => e.elim).trans k4) rfl rfl rfl rfl
  · simp [go_sem, cX0, cX]
    refine (s1.read addr haddr).mono ?_
    rintro v3 w3 ⟨r3, s3, c3⟩
    rcases r3 with ⟨he, b3, u3, hl, rfl, hbl, sl3, _⟩ | ⟨he, rfl⟩
    · have hst := sl3.str (P := Try.prog) hbl Try.underlying60 Try.underlying5 Try.underlying9
      simp [go_sem, hst]
      exact done _ _ _ _ _ (s1.stay' c3) (c3.mono fun _ _ e => e.elim) (by simp [acT, readT, he, hl]) (by simp [acE, he]) rfl rfl
    · have hst := (Sl.nil w3).str (P := Try.prog) (l := []) rfl Try.underlying60 Try.underlying5 Try.underlying9
      simp [go_sem, hst]
      exact done [] _ _ _ _ (s1.stay' c3) (c3.mono fun _ _ e => e.elim) (by simp [acT, readT, he]) rfl rfl rfl
  · simp [go_sem, cX0, cX]
    refine (s1.flush hfu hcl).mono ?_
    rintro _ w3 ⟨rfl, s3, c3⟩
    simp [go_sem]
    exact done [] _ _ _ _ s3 c3 rfl (by simp [acE]) rfl rfl
  · simp [go_sem, cX0, cX]
    refine (s1.crash ps _ hcl hA.pl hA.pr hA1.ps fun h0 k hk e => (hA.pX h0 k hk).1 (.inl e)).mono ?_
    rintro _ w3 ⟨rfl, s3, c3⟩
    simp [go_sem]
    exact done [] _ _ _ _ s3 (c3.mono fun _ _ e => .inl e) rfl rfl rfl rfl
  · simp [go_sem, cX0]
    refine v_draw' [(0, none), (1, none), (2, none), (3, none), (4, some [0, 1, 2]), (5, some []), (6, none), (7, none)] (by kernel_rfl) (by kernel_rfl) ?_
    simp [go_sem, cX]
    refine (bytes_any ⟨4, k, addr, .slice A1 b.length c1, b, short, nn, .slice A2 ps.length c2, ps⟩ w1.drew (hA1.ch (Ch.refl Nw w1).drew).sl hA.bl).mono ?_
    rintro v3 w3 ⟨sl3, fr3, c3⟩
    have c3 := Ch.of_drew c3
    have cX3 := fun i => cell_blk (c3.obj ba id) i
    have s3 := s1.ch c3 (fun _ _ e => e) id
    have aw := hA1.bytes (B := w1.heap.size) (v := v3) (Nat.le_refl _) fr3 fun k hk => hk.elim (fun e => s1.olt k e) fun e => e ▸ s1.plt
    simp [go_sem, cX3]
    refine (s3.rot0 addr haddr _ v3 hcl sl3 fun h0 k hk e => aw h0 k hk (.inl e)).mono ?_
    rintro _ w4 ⟨rfl, s4, k4⟩
    have k4 : Ch (fun k => O k ∨ k = p) w3 w4 := k4.mono fun _ _ e => .inl e
    simp [go_sem]
    exact done [] _ _ _ _ (s4.since s1.olt h.pO s1.plt c3.size k4.size) ((c3.mono fun _ _ e => e.elim).trans k4) rfl rfl rfl rfl
  · simp [go_sem, cX0, cX]
    refine (s1.bad addr haddr hcl).mono ?_
    rintro _ w3 ⟨rfl, s3, c3⟩
    simp [go_sem]
    exact done [] _ _ _ _ s3 (c3.mono fun _ _ e => .inl e) rfl rfl rfl rfl
  · simp [go_sem, cX0, cX]
    refine (s1.stick addr haddr hcl).mono ?_
    rintro _ w3 ⟨rfl, s3, c3⟩
    simp [go_sem]
    exact done [] _ _ _ _ s3 (c3.mono fun _ _ e => .inl e) rfl rfl rfl rfl
  · simp [go_sem, cX0, cX]
    refine (s1.lose).mono ?_
    rintro _ w3 ⟨rfl, s3, c3⟩
    simp [go_sem]
    exact done [] _ _ _ _ s3 (c3.mono fun _ _ e => .inl e) rfl rfl rfl rfl
  · simp [go_sem, cX0, cX]
    refine (s1.astray addr).mono ?_
    rintro _ w3 ⟨rfl, s3, c3⟩
    simp [go_sem]
    exact done [] _ _ _ _ s3 (c3.mono fun _ _ e => .inl e) rfl rfl rfl rfl
  · simp [go_sem, cX0, cX]
    refine (s1.die).mono ?_
    rintro _ w3 ⟨rfl, s3, c3⟩
    simp [go_sem]
    exact done [] _ _ _ _ s3 (c3.mono fun _ _ e => .inl e) rfl rfl rfl rfl
  · simp [go_sem, cX0, cX]
    refine (fuse_any p P.off P.fuse nn w1 s1.pw).mono ?_
    rintro _ w3 ⟨rfl, h3, c3, _⟩
    simp [go_sem]
    exact done [] _ _ _ _ (s1.power (P' := P.fused nn) h3 c3) (c3.mono fun _ _ e => .inr e) rfl rfl rfl rfl
  · simp [go_sem, cX0, cX]
    refine (back_any p P.off P.fuse w1 s1.pw).mono ?_
    rintro _ w3 ⟨rfl, h3, c3, _⟩
    simp [go_sem]
    exact done [] _ _ _ _ (s1.power (P' := Pwr.on) h3 c3) (c3.mono fun _ _ e => .inr e) rfl rfl rfl rfl
  · have ne : ∀ j : Int, j < 12 → (((m + 12 : Nat) : Int) == j) = false := fun j hj => beq_false_of_ne (by omega)
    have e0 := ne 0 (by omega)
    have e1 := ne 1 (by omega)
    have e2 := ne 2 (by omega)
    have e3 := ne 3 (by omega)
    have e4 := ne 4 (by omega)
    have e5 := ne 5 (by omega)
    have e6 := ne 6 (by omega)
    have e7 := ne 7 (by omega)
    have e8 := ne 8 (by omega)
    have e9 := ne 9 (by omega)
    have e10 := ne 10 (by omega)
    have e11 := ne 11 (by omega)
    generalize hM : ((m + 12 : Nat) : Int) = M at *
    simp [go_sem, cX0, e0, e1, e2, e3, e4, e5, e6, e7, e8, e9, e10, e11]
    refine (step_any p P.off P.fuse w1 s1.pw hfu).mono ?_
    rw [stepS_eq]
    rintro _ w3 ⟨rfl, h3, c3, _⟩
    have s3 := s1.power (P' := P.step) h3 c3
    cases hmd : P.made with
    | true =>
      simp [go_sem]
      exact done [] _ _ _ _ s3 (c3.mono fun _ _ e => .inr e) rfl (by simp [acE, hmd]) rfl rfl
    | false =>
      simp [go_sem]
      exact done [] _ _ _ _ s3 (c3.mono fun _ _ e => .inr e) rfl (by simp [acE, hmd]) rfl rfl
end
end Go.Proofs.Ytmhnlgndgdmebaa
