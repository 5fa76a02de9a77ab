/- What befalls the disks of the program's mirror and of the document's. No condition but on sizes. -/
import Derived.Test.YtppilgkgnofkpaaGreatDoorRmE
import Derived.Test.YtppilgkgnofkpaaGreatDoorMrX
set_option linter.unusedSimpArgs false
set_option linter.unusedVariables false

namespace Go.Proofs.YtppilgkgnofkpaaGreatDoor
open Go.RowKit Go.Kin

theorem fused_off' {P : Pwr} (h : P.off = true) (n : Int) : P.fused n = P := by
  obtain ⟨off, fuse⟩ := P
  simp only at h
  subst h
  rfl
theorem lit_one (w : World) (x : Value) (e : TypeId) : (w.alloc (.cells #[x] e)).ownsRow 0 e 1 (.slice (some ⟨w.heap.size, 0, none⟩) 1 1) 1 [x] := by
  have := World.ownsRow_lit (size := 1) (e := e) w #[x] 1 (base := 0) (Nat.zero_le _) (by decide) (by simp)
  simpa using this
/-- the program's mirror and the document's, side by side -/
def Two (x p m n : Nat) (z : Mz) (mm q : Nat) (d e : Nat → Nat) (s t : Mr) : List HP := [fun w O => PrAt w x p m n z s O, RmAt mm q n d e t]
section
variable {w w' : World} {x p m n mm q i c : Nat} {z : Mz} {d e : Nat → Nat} {s t : Mr} {O : Nat → Prop}
theorem Two.ok : ∀ H ∈ Two x p m n z mm q d e s t, HOk H := by
  intro H hH
  simp only [Two, List.mem_cons, List.not_mem_nil, or_false] at hH
  rcases hH with rfl | rfl
  · exact PrAt.ok
  · exact RmAt.ok ..
theorem Two.pr (h : SepL (Two x p m n z mm q d e s t) w O) : ∃ O1, PrAt w x p m n z s O1 := by
  obtain ⟨O1, h1, _⟩ := h.get (i := 0) rfl
  exact ⟨O1, h1⟩
theorem Two.rm (h : SepL (Two x p m n z mm q d e s t) w O) : ∃ O1, RmAt mm q n d e t w O1 := by
  obtain ⟨O1, h1, _⟩ := h.get (i := 1) rfl
  exact ⟨O1, h1⟩
theorem Two.stepP {f : FuncId} {args : Array Value} {R : Value → World → Prop} {s' : Mr} (h : SepL (Two x p m n z mm q d e s t) w O) (hf : ∀ O1, PrAt w x p m n z s O1 → (∀ k, O1 k → O k) → Ret Tryz.prog f args w fun v w' => R v w' ∧ PrAt w' x p m n z s' (Gr O1 w w') ∧ Ch O1 w w') :
    Ret Tryz.prog f args w fun v w' => R v w' ∧ SepL (Two x p m n z mm q d e s' t) w' (Gr O w w') ∧ Ch O w w' :=
  SepL.step h Two.ok (i := 0) rfl PrAt.ok hf
theorem Two.stepR {f : FuncId} {args : Array Value} {R : Value → World → Prop} {t' : Mr} (h : SepL (Two x p m n z mm q d e s t) w O) (hf : ∀ O1, RmAt mm q n d e t w O1 → (∀ k, O1 k → O k) → Ret Tryz.prog f args w fun v w' => R v w' ∧ RmAt mm q n d e t' w' (Gr O1 w w') ∧ Ch O1 w w') :
    Ret Tryz.prog f args w fun v w' => R v w' ∧ SepL (Two x p m n z mm q d e s t') w' (Gr O w w') ∧ Ch O w w' :=
  SepL.step h Two.ok (i := 1) rfl (RmAt.ok ..) hf
theorem Two.moveR {t' : Mr} (h : SepL (Two x p m n z mm q d e s t) w O) (hf : ∀ O1, RmAt mm q n d e t w O1 → (∀ k, O1 k → O k) → RmAt mm q n d e t' w' (Gr O1 w w') ∧ Ch O1 w w') :
    SepL (Two x p m n z mm q d e s t') w' (Gr O w w') ∧ Ch O w w' :=
  SepL.move h Two.ok (i := 1) rfl hf
theorem Two.ch {S : Nat → Prop} (h : SepL (Two x p m n z mm q d e s t) w O) (hc : Ch S w w') (hS : ∀ k, O k → ¬ S k) : SepL (Two x p m n z mm q d e s t) w' O := (SepL.ok Two.ok).ch h hc hS
theorem Two.weak {O' : Nat → Prop} (h : SepL (Two x p m n z mm q d e s t) w O) (ho : ∀ k, O k → O' k) (hl : ∀ k, O' k → k < w.heap.size) : SepL (Two x p m n z mm q d e s t) w O' := (SepL.ok Two.ok).weak h ho hl
theorem Two.then' {w1 : World} (h : SepL (Two x p m n z mm q d e s t) w' (Gr (Gr O w w1) w1 w')) (hl : ∀ k, O k → k < w.heap.size) (h1 : w.heap.size ≤ w1.heap.size) (h2 : w1.heap.size ≤ w'.heap.size) : SepL (Two x p m n z mm q d e s t) w' (Gr O w w') :=
  Two.weak h (fun k hk => gr2 h1 h2 hk) (Gr.lt hl (by omega))
end
section
variable {w w' : World} {x p m n mm q i c : Nat} {z : Mz} {d e : Nat → Nat} {s : Mr} {O : Nat → Prop}
set_option maxRecDepth 100000 in
set_option maxHeartbeats 8000000 in
theorem faults_any (h : SepL (Two x p m n z mm q d e s s) w O) (a : Ac) (hA : Ac.At w a O) (hk256 : a.k < 256) (fine : s.Fine c) (hc : c ≤ 700000) :
    Ret Tryz.prog 17 #[.pointer (some ⟨x, 0, none⟩), .pointer (some ⟨mm, 0, none⟩), .agg (acv a).toArray] w fun v' w' => v' = .tuple #[] ∧ SepL (Two x p m n z mm q d e (s.fau n a) (s.fau n a)) w' (Gr O w w') ∧ Ch O w w' := by
  refine v_enter Tryz.func17 Tryz.ntmps17 rfl (by simp) fun R' hR => ?_
  have hlO := h.lt
  have hfau : ∀ kk, a.k % 2 = kk → s.fau n a = { s with dk := upd1 s.dk kk (fauD n a (s.dk kk)), P := fauP a s.P } := fun kk e => by unfold Mr.fau; rw [e]
  obtain ⟨dd, k, addr, v, b, short, nn, pv, ps⟩ := a
  obtain ⟨A1, c1, hv1, _⟩ := id hA.sl
  obtain ⟨A2, c2, hv2, _⟩ := id hA.ps
  simp only at hv1 hv2
  subst hv1 hv2
  have haddr : addr < 65536 := hA.addr
  simp only at hk256
  have ba := hp_alloc w (.cells #[.int .u8 dd, .int .u8 k, .int .u16 addr, .slice A1 b.length c1, .bool short, .int .i64 nn, .slice A2 ps.length c2] 63)
  have ca := (Ch.refl Nw w).alloc (.cells #[.int .u8 dd, .int .u8 k, .int .u16 addr, .slice A1 b.length c1, .bool short, .int .i64 nn, .slice A2 ps.length c2] 63)
  have hwk : IntKind.i64.wrap ((k : Nat) : Int) = k := by rw [IntKind.wrap_i64]; omega
  have hr0 : ((k : Int)).tmod 2 = ((k % 2 : Nat) : Int) := by rw [Int.tmod_eq_emod_of_nonneg (by omega)]; omega
  obtain ⟨kk, hkk⟩ : ∃ kk, k % 2 = kk := ⟨_, rfl⟩
  have hfa := hfau kk hkk
  clear hfau
  rw [hkk] at hr0
  have hk2 : kk < 2 := by omega
  have hk2i : (kk : Int) < 2 := by omega
  simp [go_sem, acv, hwk, hr0]
  obtain ⟨g, hg⟩ : ∃ g, w.heap.size = g := ⟨_, rfl⟩
  rw [hg] at ba ⊢
  revert ba ca
  generalize w.alloc (.cells #[.int .u8 dd, .int .u8 k, .int .u16 addr, .slice A1 b.length c1, .bool short, .int .i64 nn, .slice A2 ps.length c2] 63) = w1
  intro ca ba
  have hA1 := hA.ch ca
  refine (full_any (.slice A1 b.length c1) b w1 hA1.sl hA.bl).mono ?_
  rintro vf w2 ⟨mf, cf, uf⟩
  obtain ⟨Af, cpf, hvf⟩ : ∃ A c, vf = .slice A 512 c := by
    rcases mf.2 with ⟨hv, h0⟩ | ⟨g, cap, cur, hv, _⟩
    · exact absurd h0 (by decide)
    · exact ⟨_, _, hv⟩
  have hvO : ∀ j, vf.ownBlock = some j → ¬ O j := fun j hj e => by have := uf j hj; have := ca.size; have := hlO j e; omega
  have cw2 : Ch Nw w w2 := ca.trans cf
  have b2 := cf.obj ba id
  have cX := fun i => cell_blk b2 i
  have hA2 := hA.ch cw2
  have h2 := Two.ch h cw2 fun _ _ e => e
  have h2d := Two.ch h2 (Ch.refl Nw w2).drew fun _ _ e => e
  have hsz := cw2.size
  have hl2 : ∀ k, O k → k < w2.heap.size := fun k hk => by have := hlO k hk; omega
  have nX : ¬ O g := fun e => by have := hlO g e; omega
  obtain ⟨O1, hp2⟩ := Two.pr h2
  have x0 : w2.cell? ⟨x, 0, none⟩ = some (.pointer (some ⟨p, 0, none⟩)) := hp2.cell 0
  have xd : w2.cell? ⟨x, 1 + kk, none⟩ = some (.pointer (some ⟨z.d kk, 0, none⟩)) := by
    rw [hp2.cell]
    rcases lt2 hk2 with rfl | rfl <;> rfl
  have fin : ∀ {W : World} {s' : Mr}, s.fau n ⟨dd, k, addr, .slice A1 b.length c1, b, short, nn, .slice A2 ps.length c2, ps⟩ = s' → SepL (Two x p m n z mm q d e s' s') W (Gr O w2 W) → Ch O w2 W → R' (.tuple #[]) W := fun {W s'} e h1 h2 => by
    subst e
    exact hR _ _ ⟨rfl, Two.weak h1 (fun k hk => hk.imp id fun e => ⟨by omega, e.2⟩) (Gr.lt hlO (Nat.le_trans hsz h2.size)), (cw2.mono fun _ _ e => e.elim).trans h2⟩
  clear hR
  have cX0 : w2.cell? ⟨g, 0, none⟩ = some (.int .u8 dd) := cX 0
  have cX2 : w2.cell? ⟨g, 2, none⟩ = some (.int .u16 addr) := cX 2
  have cX5 : w2.cell? ⟨g, 5, none⟩ = some (.int .i64 nn) := cX 5
  have cX6 : w2.cell? ⟨g, 6, none⟩ = some (.slice A2 ps.length c2) := cX 6
  have hcl : (s.dk kk).cache.length ≤ 1000000 := by have := fine.cache kk hk2; omega
  have same : upd1 s.dk kk (s.dk kk) = s.dk := dk_same s kk
  have ps1 : ps.length ≤ 1000000 := hA.pl
  have hcases : dd = 3 ∨ dd = 4 ∨ dd = 5 ∨ dd = 6 ∨ dd = 7 ∨ dd = 8 ∨ dd = 9 ∨ dd = 10 ∨ dd = 11 ∨ (dd < 3 ∨ 11 < dd) := by omega
  rcases hcases with rfl | rfl | rfl | rfl | rfl | rfl | rfl | rfl | rfl | hfo
  · have hfa : s.fau n _ = { s with dk := upd1 s.dk kk ((s.dk kk).crash ps), P := s.P } := hfa
    simp [go_sem, cX0]
    refine v_draw' [(0, none), (1, none), (2, none), (3, none), (4, none), (5, none), (6, none), (7, none), (8, some [])] (by kernel_rfl) (by kernel_rfl) ?_
    simp [go_sem, xd, hk2, hk2i, cX6]
    refine (Two.stepP h2d (s' := { s with dk := upd1 s.dk kk ((s.dk kk).crash ps) }) (R := fun v' _ => v' = .tuple #[]) fun O1 h1 hO => h1.disk hk2 fun B hB hBO hBp => (hB.crash ps _ hcl (by omega) hA.pr (hA2.ch (Ch.refl Nw w2).drew).ps fun h0 j hj e => (hA.pX h0 j hj).1 (hO j (hBO j e))).mono fun v w' hh => ⟨hh.1, hh.2.1, hh.2.2⟩).mono ?_
    rintro v4 w4 ⟨hv4, p4, k4⟩
    subst hv4
    have k4 : Ch O w2 w4 := Ch.of_drew k4
    have p4 : SepL (Two x p m n z mm q d e { s with dk := upd1 s.dk kk ((s.dk kk).crash ps) } s) w4 (Gr O w2 w4) := p4
    have hs4 := k4.size
    obtain ⟨O4, r4⟩ := Two.rm p4
    obtain ⟨B4, hB4⟩ := r4.get hk2
    obtain ⟨z4, lm4, lb4, ls4, hP4⟩ := hB4.dk
    have rd := r4.dcell hk2
    have p4d := Two.ch p4 (Ch.refl Nw w4).drew fun _ _ e => e
    have b4 := k4.obj b2 nX
    have cX' := fun i => cell_blk b4 i
    have cX2' : w4.cell? ⟨g, 2, none⟩ = some (.int .u16 addr) := cX' 2
    have cX5' : w4.cell? ⟨g, 5, none⟩ = some (.int .i64 nn) := cX' 5
    have cX6' : w4.cell? ⟨g, 6, none⟩ = some (.slice A2 ps.length c2) := cX' 6
    simp [go_sem]
    refine v_draw' [(0, none), (1, none), (2, none), (3, none), (4, none), (5, none), (6, none), (7, none), (8, some [])] (by kernel_rfl) (by kernel_rfl) ?_
    have hps4 : Sl w4 (.slice A2 ps.length c2) ps.length (ps.map (Value.int .i64)) := by
      have hh := hA2.ps
      by_cases h0 : 0 < ps.length
      · exact hh.ch k4 fun j hj => (hA.pX h0 j hj).1
      · obtain ⟨A, c, e1, e2, e3, e4⟩ := hh
        exact ⟨A, c, e1, e2, e3, fun h => absurd h (by simpa using h0)⟩
    simp [go_sem, rd, hk2, hk2i, cX6']
    refine (Two.stepR p4d (t' := { s with dk := upd1 s.dk kk ((s.dk kk).crash ps) }) (R := fun v' _ => v' = .tuple #[]) fun O1 h1 hO => h1.disk hk2 (P' := s.P) fun B hB hBO => hB.crash' ps _ hcl ps1 hA.pr (hps4.ch (Ch.refl Nw w4).drew fun _ _ e => e) fun h0 j hj => ⟨fun e => (hO j (hBO j e)).elim (hA.pX h0 j hj).1 fun e => by have h7 := (hA2.pX h0 j hj).2; omega, Nat.lt_of_lt_of_le (hA2.pX h0 j hj).2 hs4⟩).mono ?_
    rintro v5 w5 ⟨hv5, p5, k5⟩
    subst hv5
    have k5 : Ch (Gr O w2 w4) w4 w5 := Ch.of_drew k5
    simp [go_sem]
    exact fin hfa (Two.then' p5 hl2 hs4 k5.size) (Ch.then' k4 k5)
  · have hfa : s.fau n _ = { s with dk := upd1 s.dk kk (if addr < n then (s.dk kk).rot addr (fullB b) else s.dk kk), P := s.P } := hfa
    simp [go_sem, cX0]
    refine v_draw' [(0, none), (1, none), (2, none), (3, none), (4, none), (5, none), (6, none), (7, none), (8, none), (9, some [])] (by kernel_rfl) (by kernel_rfl) ?_
    simp [go_sem, xd, hk2, hk2i, cX2]
    refine (Two.stepP h2d (s' := { s with dk := upd1 s.dk kk (if addr < n then (s.dk kk).rot addr (fullB b) else s.dk kk) }) (R := fun v' _ => v' = .int .i64 (if (fullB b).length = 512 ∧ addr < n then 0 else 1)) fun O1 h1 hO => h1.disk hk2 fun B hB hBO hBp => (hB.rot addr haddr (fullB b) vf hcl (by rw [fullB_len]; exact (Sl.of_own mf).ch (Ch.refl Nw w2).drew fun _ _ e => e) fun j hj e => hvO j hj (hO j (hBO j e))).mono fun v w' hh => ⟨hh.1, by simpa [fullB_len] using hh.2.1, hh.2.2⟩).mono ?_
    rintro v4 w4 ⟨hv4, p4, k4⟩
    subst hv4
    have k4 : Ch O w2 w4 := Ch.of_drew k4
    have p4 : SepL (Two x p m n z mm q d e { s with dk := upd1 s.dk kk (if addr < n then (s.dk kk).rot addr (fullB b) else s.dk kk) } s) w4 (Gr O w2 w4) := p4
    have hs4 := k4.size
    obtain ⟨O4, r4⟩ := Two.rm p4
    obtain ⟨B4, hB4⟩ := r4.get hk2
    obtain ⟨z4, lm4, lb4, ls4, hP4⟩ := hB4.dk
    have rd := r4.dcell hk2
    have p4d := Two.ch p4 (Ch.refl Nw w4).drew fun _ _ e => e
    have b4 := k4.obj b2 nX
    have cX' := fun i => cell_blk b4 i
    have cX2' : w4.cell? ⟨g, 2, none⟩ = some (.int .u16 addr) := cX' 2
    have cX5' : w4.cell? ⟨g, 5, none⟩ = some (.int .i64 nn) := cX' 5
    have cX6' : w4.cell? ⟨g, 6, none⟩ = some (.slice A2 ps.length c2) := cX' 6
    simp [go_sem]
    refine v_draw' [(0, none), (1, none), (2, none), (3, none), (4, none), (5, none), (6, none), (7, none), (8, none), (9, none), (10, some [])] (by kernel_rfl) (by kernel_rfl) ?_
    have hst : ∀ W, Ch Nw w4 W → _ := fun W hW => (((Sl.of_own mf).ch k4 hvO).ch hW fun _ _ e => e).str (P := Tryz.prog) (fullB_len b) Tryz.underlying59 Tryz.underlying5 Tryz.underlying9
    have hst1 := hst w4 (Ch.refl _ _)
    have hst2 := hst w4.drew (Ch.refl _ _).drew
    simp [go_sem, rd, hk2, hk2i, cX2', hst1, hst2]
    refine (Two.stepR p4d (t' := { s with dk := upd1 s.dk kk (if addr < n then (s.dk kk).rot addr (fullB b) else s.dk kk) }) (R := fun v' _ => v' = .int .i64 (if addr < n ∧ ((0 : Nat) = 0 → (fullB b).length = 512) then 0 else 1)) fun O1 h1 hO => h1.disk hk2 (P' := s.P) fun B hB hBO => (hB.fault 0 (by omega) addr haddr (fullB b) hcl).mono fun v w' hh => ⟨hh.1, by simpa [fullB_len, faultD] using hh.2.1, hh.2.2.mono fun _ _ e => .inl e⟩).mono ?_
    rintro v5 w5 ⟨hv5, p5, k5⟩
    subst hv5
    have k5 : Ch (Gr O w2 w4) w4 w5 := Ch.of_drew k5
    simp [go_sem]
    exact fin hfa (Two.then' p5 hl2 hs4 k5.size) (Ch.then' k4 k5)
  · have hfa : s.fau n _ = { s with dk := upd1 s.dk kk (if addr < n then (s.dk kk).bads addr else s.dk kk), P := s.P } := hfa
    simp [go_sem, cX0]
    refine v_draw' [(0, none), (1, none), (2, none), (3, none), (4, none), (5, none), (6, none), (7, none), (8, some [])] (by kernel_rfl) (by kernel_rfl) ?_
    simp [go_sem, xd, hk2, hk2i, cX2]
    refine (Two.stepP h2d (s' := { s with dk := upd1 s.dk kk (if addr < n then (s.dk kk).bads addr else s.dk kk) }) (R := fun v' _ => v' = .int .i64 (if addr < n then 0 else 1)) fun O1 h1 hO => h1.disk hk2 fun B hB hBO hBp => (hB.bad addr haddr hcl).mono fun v w' hh => ⟨hh.1, hh.2.1, hh.2.2⟩).mono ?_
    rintro v4 w4 ⟨hv4, p4, k4⟩
    subst hv4
    have k4 : Ch O w2 w4 := Ch.of_drew k4
    have p4 : SepL (Two x p m n z mm q d e { s with dk := upd1 s.dk kk (if addr < n then (s.dk kk).bads addr else s.dk kk) } s) w4 (Gr O w2 w4) := p4
    have hs4 := k4.size
    obtain ⟨O4, r4⟩ := Two.rm p4
    obtain ⟨B4, hB4⟩ := r4.get hk2
    obtain ⟨z4, lm4, lb4, ls4, hP4⟩ := hB4.dk
    have rd := r4.dcell hk2
    have p4d := Two.ch p4 (Ch.refl Nw w4).drew fun _ _ e => e
    have b4 := k4.obj b2 nX
    have cX' := fun i => cell_blk b4 i
    have cX2' : w4.cell? ⟨g, 2, none⟩ = some (.int .u16 addr) := cX' 2
    have cX5' : w4.cell? ⟨g, 5, none⟩ = some (.int .i64 nn) := cX' 5
    have cX6' : w4.cell? ⟨g, 6, none⟩ = some (.slice A2 ps.length c2) := cX' 6
    simp [go_sem]
    refine v_draw' [(0, none), (1, none), (2, none), (3, none), (4, none), (5, none), (6, none), (7, none), (8, some [])] (by kernel_rfl) (by kernel_rfl) ?_
    simp [go_sem, rd, hk2, hk2i, cX2']
    refine (Two.stepR p4d (t' := { s with dk := upd1 s.dk kk (if addr < n then (s.dk kk).bads addr else s.dk kk) }) (R := fun v' _ => v' = .int .i64 (if addr < n ∧ ((1 : Nat) = 0 → ([] : Byts).length = 512) then 0 else 1)) fun O1 h1 hO => h1.disk hk2 (P' := s.P) fun B hB hBO => (hB.fault 1 (by omega) addr haddr [] hcl).mono fun v w' hh => ⟨hh.1, by simpa [faultD] using hh.2.1, hh.2.2.mono fun _ _ e => .inl e⟩).mono ?_
    rintro v5 w5 ⟨hv5, p5, k5⟩
    subst hv5
    have k5 : Ch (Gr O w2 w4) w4 w5 := Ch.of_drew k5
    simp [go_sem]
    exact fin hfa (Two.then' p5 hl2 hs4 k5.size) (Ch.then' k4 k5)
  · have hfa : s.fau n _ = { s with dk := upd1 s.dk kk (if addr < n then (s.dk kk).stick addr else s.dk kk), P := s.P } := hfa
    simp [go_sem, cX0]
    refine v_draw' [(0, none), (1, none), (2, none), (3, none), (4, none), (5, none), (6, none), (7, none), (8, some [])] (by kernel_rfl) (by kernel_rfl) ?_
    simp [go_sem, xd, hk2, hk2i, cX2]
    refine (Two.stepP h2d (s' := { s with dk := upd1 s.dk kk (if addr < n then (s.dk kk).stick addr else s.dk kk) }) (R := fun v' _ => v' = .int .i64 (if addr < n then 0 else 1)) fun O1 h1 hO => h1.disk hk2 fun B hB hBO hBp => (hB.stick addr haddr hcl).mono fun v w' hh => ⟨hh.1, hh.2.1, hh.2.2⟩).mono ?_
    rintro v4 w4 ⟨hv4, p4, k4⟩
    subst hv4
    have k4 : Ch O w2 w4 := Ch.of_drew k4
    have p4 : SepL (Two x p m n z mm q d e { s with dk := upd1 s.dk kk (if addr < n then (s.dk kk).stick addr else s.dk kk) } s) w4 (Gr O w2 w4) := p4
    have hs4 := k4.size
    obtain ⟨O4, r4⟩ := Two.rm p4
    obtain ⟨B4, hB4⟩ := r4.get hk2
    obtain ⟨z4, lm4, lb4, ls4, hP4⟩ := hB4.dk
    have rd := r4.dcell hk2
    have p4d := Two.ch p4 (Ch.refl Nw w4).drew fun _ _ e => e
    have b4 := k4.obj b2 nX
    have cX' := fun i => cell_blk b4 i
    have cX2' : w4.cell? ⟨g, 2, none⟩ = some (.int .u16 addr) := cX' 2
    have cX5' : w4.cell? ⟨g, 5, none⟩ = some (.int .i64 nn) := cX' 5
    have cX6' : w4.cell? ⟨g, 6, none⟩ = some (.slice A2 ps.length c2) := cX' 6
    simp [go_sem]
    refine v_draw' [(0, none), (1, none), (2, none), (3, none), (4, none), (5, none), (6, none), (7, none), (8, some [])] (by kernel_rfl) (by kernel_rfl) ?_
    simp [go_sem, rd, hk2, hk2i, cX2']
    refine (Two.stepR p4d (t' := { s with dk := upd1 s.dk kk (if addr < n then (s.dk kk).stick addr else s.dk kk) }) (R := fun v' _ => v' = .int .i64 (if addr < n ∧ ((2 : Nat) = 0 → ([] : Byts).length = 512) then 0 else 1)) fun O1 h1 hO => h1.disk hk2 (P' := s.P) fun B hB hBO => (hB.fault 2 (by omega) addr haddr [] hcl).mono fun v w' hh => ⟨hh.1, by simpa [faultD] using hh.2.1, hh.2.2.mono fun _ _ e => .inl e⟩).mono ?_
    rintro v5 w5 ⟨hv5, p5, k5⟩
    subst hv5
    have k5 : Ch (Gr O w2 w4) w4 w5 := Ch.of_drew k5
    simp [go_sem]
    exact fin hfa (Two.then' p5 hl2 hs4 k5.size) (Ch.then' k4 k5)
  · have hfa : s.fau n _ = { s with dk := upd1 s.dk kk ({ s.dk kk with lose := true }), P := s.P } := hfa
    simp [go_sem, cX0]
    simp [go_sem, xd, hk2, hk2i]
    refine (Two.stepP h2 (s' := { s with dk := upd1 s.dk kk { s.dk kk with lose := true } }) (R := fun v' _ => v' = .tuple #[]) fun O1 h1 hO => h1.disk hk2 fun B hB hBO hBp => (hB.lose).mono fun v w' hh => ⟨hh.1, hh.2.1, hh.2.2⟩).mono ?_
    rintro v4 w4 ⟨hv4, p4, k4⟩
    subst hv4
    have k4 : Ch O w2 w4 := k4
    have p4 : SepL (Two x p m n z mm q d e { s with dk := upd1 s.dk kk { s.dk kk with lose := true } } s) w4 (Gr O w2 w4) := p4
    have hs4 := k4.size
    obtain ⟨O4, r4⟩ := Two.rm p4
    obtain ⟨B4, hB4⟩ := r4.get hk2
    obtain ⟨z4, lm4, lb4, ls4, hP4⟩ := hB4.dk
    have rd := r4.dcell hk2
    have p4d := Two.ch p4 (Ch.refl Nw w4).drew fun _ _ e => e
    have b4 := k4.obj b2 nX
    have cX' := fun i => cell_blk b4 i
    have cX2' : w4.cell? ⟨g, 2, none⟩ = some (.int .u16 addr) := cX' 2
    have cX5' : w4.cell? ⟨g, 5, none⟩ = some (.int .i64 nn) := cX' 5
    have cX6' : w4.cell? ⟨g, 6, none⟩ = some (.slice A2 ps.length c2) := cX' 6
    simp [go_sem]
    have cr := fun i => cell_blk hP4.blk i
    have fr := fun i => frz_blk hP4.blk i
    have cr7 : w4.cell? ⟨d kk, 7, none⟩ = some (.bool (s.dk kk).lose) := cr 7
    simp [go_sem, rd, hk2, hk2i, cr7, fr]
    obtain ⟨p5, k5⟩ := Two.moveR p4 (w' := w4.setCell ⟨d kk, 7, none⟩ (.bool true)) (t' := { s with dk := upd1 s.dk kk { s.dk kk with lose := true } }) fun O1 h1 hO => h1.dmove hk2 (P' := s.P) fun B hB hBO => by
      obtain ⟨zz, lm, lb, ls, hz⟩ := hB.dk
      obtain ⟨k3, c3⟩ := hz.setF (i := 7) (b := true) (D' := { s.dk kk with lose := true }) rfl rfl rfl rfl rfl rfl
      exact ⟨⟨k3, hB.pw.ch c3 hB.qO, hB.gr⟩, c3.mono fun _ _ e => .inl e⟩
    exact fin hfa (Two.then' p5 hl2 hs4 k5.size) (Ch.then' k4 k5)
  · have hfa : s.fau n _ = { s with dk := upd1 s.dk kk ({ s.dk kk with astray := some addr }), P := s.P } := hfa
    simp [go_sem, cX0]
    refine v_draw' [(0, none), (1, none), (2, none), (3, none), (4, none), (5, none), (6, none), (7, none), (8, some [])] (by kernel_rfl) (by kernel_rfl) ?_
    simp [go_sem, xd, hk2, hk2i, cX2]
    refine (Two.stepP h2d (s' := { s with dk := upd1 s.dk kk { s.dk kk with astray := some addr } }) (R := fun v' _ => v' = .tuple #[]) fun O1 h1 hO => h1.disk hk2 fun B hB hBO hBp => (hB.astray addr).mono fun v w' hh => ⟨hh.1, hh.2.1, hh.2.2⟩).mono ?_
    rintro v4 w4 ⟨hv4, p4, k4⟩
    subst hv4
    have k4 : Ch O w2 w4 := Ch.of_drew k4
    have p4 : SepL (Two x p m n z mm q d e { s with dk := upd1 s.dk kk { s.dk kk with astray := some addr } } s) w4 (Gr O w2 w4) := p4
    have hs4 := k4.size
    obtain ⟨O4, r4⟩ := Two.rm p4
    obtain ⟨B4, hB4⟩ := r4.get hk2
    obtain ⟨z4, lm4, lb4, ls4, hP4⟩ := hB4.dk
    have rd := r4.dcell hk2
    have p4d := Two.ch p4 (Ch.refl Nw w4).drew fun _ _ e => e
    have b4 := k4.obj b2 nX
    have cX' := fun i => cell_blk b4 i
    have cX2' : w4.cell? ⟨g, 2, none⟩ = some (.int .u16 addr) := cX' 2
    have cX5' : w4.cell? ⟨g, 5, none⟩ = some (.int .i64 nn) := cX' 5
    have cX6' : w4.cell? ⟨g, 6, none⟩ = some (.slice A2 ps.length c2) := cX' 6
    simp [go_sem]
    refine v_draw' [(0, none), (1, none), (2, none), (3, none), (4, none), (5, none), (6, none), (7, none), (8, some [0, 1, 2, 3, 4, 5]), (9, none), (10, none), (11, some [])] (by kernel_rfl) (by kernel_rfl) ?_
    have cal := (Ch.refl Nw w4).alloc (.cells #[.int .u16 addr] 52)
    have cra := cell_blk (cal.obj hP4.blk id) 8
    have fra := frz_blk (cal.obj hP4.blk id) 8
    have rda := cal.cell rd id
    simp [rcs] at cra
    simp [go_sem, rd, rda, hk2, hk2i, cX2', cra, fra]
    obtain ⟨p5, k5⟩ := Two.moveR p4 (w' := (w4.alloc (.cells #[.int .u16 addr] 52)).setCell ⟨d kk, 8, none⟩ (.slice (some ⟨w4.heap.size, 0, none⟩) 1 1)) (t' := { s with dk := upd1 s.dk kk { s.dk kk with astray := some addr } }) fun O1 h1 hO => h1.dmove hk2 (P' := s.P) fun B hB hBO => by
      obtain ⟨zz, lm, lb, ls, hz⟩ := hB.dk
      obtain ⟨k3, c3⟩ := hz.setA (a := some addr) cal (v := .slice (some ⟨w4.heap.size, 0, none⟩) 1 1) (lit_one w4 _ _) fun j hj => by simp [Value.ownBlock] at hj; omega
      exact ⟨⟨k3, hB.pw.ch c3 hB.qO, hB.gr⟩, c3.mono fun _ _ e => .inl e⟩
    have p6 := Two.then' p5 hl2 hs4 k5.size
    have k6 := Ch.then' k4 k5
    first
      | exact fin hfa (Two.ch p6 (Ch.refl Nw _).drew fun _ _ e => e) k6.drew
      | exact fin hfa (Two.ch p6 (Ch.refl Nw _).drew.drew fun _ _ e => e) k6.drew.drew
  · have hfa : s.fau n _ = { s with dk := upd1 s.dk kk ({ s.dk kk with dead := true }), P := s.P } := hfa
    simp [go_sem, cX0]
    simp [go_sem, xd, hk2, hk2i]
    refine (Two.stepP h2 (s' := { s with dk := upd1 s.dk kk { s.dk kk with dead := true } }) (R := fun v' _ => v' = .tuple #[]) fun O1 h1 hO => h1.disk hk2 fun B hB hBO hBp => (hB.die).mono fun v w' hh => ⟨hh.1, hh.2.1, hh.2.2⟩).mono ?_
    rintro v4 w4 ⟨hv4, p4, k4⟩
    subst hv4
    have k4 : Ch O w2 w4 := k4
    have p4 : SepL (Two x p m n z mm q d e { s with dk := upd1 s.dk kk { s.dk kk with dead := true } } s) w4 (Gr O w2 w4) := p4
    have hs4 := k4.size
    obtain ⟨O4, r4⟩ := Two.rm p4
    obtain ⟨B4, hB4⟩ := r4.get hk2
    obtain ⟨z4, lm4, lb4, ls4, hP4⟩ := hB4.dk
    have rd := r4.dcell hk2
    have p4d := Two.ch p4 (Ch.refl Nw w4).drew fun _ _ e => e
    have b4 := k4.obj b2 nX
    have cX' := fun i => cell_blk b4 i
    have cX2' : w4.cell? ⟨g, 2, none⟩ = some (.int .u16 addr) := cX' 2
    have cX5' : w4.cell? ⟨g, 5, none⟩ = some (.int .i64 nn) := cX' 5
    have cX6' : w4.cell? ⟨g, 6, none⟩ = some (.slice A2 ps.length c2) := cX' 6
    simp [go_sem]
    have cr := fun i => cell_blk hP4.blk i
    have fr := fun i => frz_blk hP4.blk i
    have cr7 : w4.cell? ⟨d kk, 6, none⟩ = some (.bool (s.dk kk).dead) := cr 6
    simp [go_sem, rd, hk2, hk2i, cr7, fr]
    obtain ⟨p5, k5⟩ := Two.moveR p4 (w' := w4.setCell ⟨d kk, 6, none⟩ (.bool true)) (t' := { s with dk := upd1 s.dk kk { s.dk kk with dead := true } }) fun O1 h1 hO => h1.dmove hk2 (P' := s.P) fun B hB hBO => by
      obtain ⟨zz, lm, lb, ls, hz⟩ := hB.dk
      obtain ⟨k3, c3⟩ := hz.setF (i := 6) (b := true) (D' := { s.dk kk with dead := true }) rfl rfl rfl rfl rfl rfl
      exact ⟨⟨k3, hB.pw.ch c3 hB.qO, hB.gr⟩, c3.mono fun _ _ e => .inl e⟩
    exact fin hfa (Two.then' p5 hl2 hs4 k5.size) (Ch.then' k4 k5)
  · have hfa : s.fau n _ = { s with dk := upd1 s.dk kk (s.dk kk), P := s.P.fused nn } := hfa
    simp [go_sem, cX0]
    rw [same] at hfa
    refine v_draw' [(0, none), (1, none), (2, none), (3, none), (4, none), (5, none), (6, some [])] (by kernel_rfl) (by kernel_rfl) ?_
    simp [go_sem, x0, cX5]
    refine (Two.stepP h2d (s' := { s with P := s.P.fused nn }) (R := fun v' _ => v' = .tuple #[]) fun O1 h1 hO => h1.power fun hp => (fuse_any p s.P.off s.P.fuse nn _ hp).mono fun v w' hh => ⟨hh.1, hh.2.1, hh.2.2.1⟩).mono ?_
    rintro v4 w4 ⟨hv4, p4, k4⟩
    subst hv4
    have k4 : Ch O w2 w4 := Ch.of_drew k4
    have p4 : SepL (Two x p m n z mm q d e { s with P := s.P.fused nn } s) w4 (Gr O w2 w4) := p4
    have hs4 := k4.size
    obtain ⟨O4, r4⟩ := Two.rm p4
    obtain ⟨B4, hB4⟩ := r4.get hk2
    obtain ⟨z4, lm4, lb4, ls4, hP4⟩ := hB4.dk
    have rd := r4.dcell hk2
    have p4d := Two.ch p4 (Ch.refl Nw w4).drew fun _ _ e => e
    have b4 := k4.obj b2 nX
    have cX' := fun i => cell_blk b4 i
    have cX2' : w4.cell? ⟨g, 2, none⟩ = some (.int .u16 addr) := cX' 2
    have cX5' : w4.cell? ⟨g, 5, none⟩ = some (.int .i64 nn) := cX' 5
    have cX6' : w4.cell? ⟨g, 6, none⟩ = some (.slice A2 ps.length c2) := cX' 6
    simp [go_sem]
    have rd0 := r4.dcell (i := 0) (by omega)
    obtain ⟨B0, hB0⟩ := r4.get (i := 0) (by omega)
    obtain ⟨z0, lm0, lb0, ls0, hP0⟩ := hB0.dk
    have cr1 : w4.cell? ⟨d 0, 1, none⟩ = some (.pointer (some ⟨q, 0, none⟩)) := cell_blk hP0.blk 1
    have cq := fun i => cell_blk hB0.pw i
    have fq := fun i => frz_blk hB0.pw i
    cases ho : s.P.off with
    | true =>
      simp [go_sem, rd0, cr1, cq, ho]
      rw [fused_off' ho] at p4 hfa
      exact fin hfa p4 k4
    | false =>
      simp [go_sem, rd0, cr1, cq, ho]
      refine v_draw' [(0, none), (1, none), (2, none), (3, none), (4, none), (5, none), (6, none), (7, none), (8, none), (9, none), (10, none), (11, none), (12, none), (13, some [])] (by kernel_rfl) (by kernel_rfl) ?_
      simp [go_sem, rd0, cr1, cq, fq, ho, cX5']
      have c5 : Ch (one q) w4 (w4.setCell ⟨q, 1, none⟩ (.int .i64 (if nn < -1 then -1 else nn))) := (Ch.refl (one q) w4).setCell (p := ⟨q, 1, none⟩) (.inl rfl) _
      obtain ⟨p5, k5⟩ := Two.moveR p4 (t' := { s with P := s.P.fused nn }) fun O1 h1 hO => h1.pmove (P' := s.P.fused nn) (fun hp => by
        have e := hp_setCell w4 q 1 (.int .i64 (if nn < -1 then -1 else nn))
        rw [hp, setOf_cells] at e
        unfold PwR Pwr.fused
        rw [e, ho]
        simp) c5
      have p6 := Two.then' p5 hl2 hs4 k5.size
      have k6 := Ch.then' k4 k5
      first
        | exact fin hfa (Two.ch p6 (Ch.refl Nw _).drew fun _ _ e => e) k6.drew
        | exact fin hfa (Two.ch p6 (Ch.refl Nw _).drew.drew fun _ _ e => e) k6.drew.drew
  · have hfa : s.fau n _ = { s with dk := upd1 s.dk kk (s.dk kk), P := Pwr.on } := hfa
    simp [go_sem, cX0]
    rw [same] at hfa
    simp [go_sem, x0]
    refine (Two.stepP h2 (s' := { s with P := Pwr.on }) (R := fun v' _ => v' = .tuple #[]) fun O1 h1 hO => h1.power fun hp => (back_any p s.P.off s.P.fuse _ hp).mono fun v w' hh => ⟨hh.1, hh.2.1, hh.2.2.1⟩).mono ?_
    rintro v4 w4 ⟨hv4, p4, k4⟩
    subst hv4
    have k4 : Ch O w2 w4 := k4
    have p4 : SepL (Two x p m n z mm q d e { s with P := Pwr.on } s) w4 (Gr O w2 w4) := p4
    have hs4 := k4.size
    obtain ⟨O4, r4⟩ := Two.rm p4
    obtain ⟨B4, hB4⟩ := r4.get hk2
    obtain ⟨z4, lm4, lb4, ls4, hP4⟩ := hB4.dk
    have rd := r4.dcell hk2
    have p4d := Two.ch p4 (Ch.refl Nw w4).drew fun _ _ e => e
    have b4 := k4.obj b2 nX
    have cX' := fun i => cell_blk b4 i
    have cX2' : w4.cell? ⟨g, 2, none⟩ = some (.int .u16 addr) := cX' 2
    have cX5' : w4.cell? ⟨g, 5, none⟩ = some (.int .i64 nn) := cX' 5
    have cX6' : w4.cell? ⟨g, 6, none⟩ = some (.slice A2 ps.length c2) := cX' 6
    simp [go_sem]
    have rd0 := r4.dcell (i := 0) (by omega)
    obtain ⟨B0, hB0⟩ := r4.get (i := 0) (by omega)
    obtain ⟨z0, lm0, lb0, ls0, hP0⟩ := hB0.dk
    have cr1 : w4.cell? ⟨d 0, 1, none⟩ = some (.pointer (some ⟨q, 0, none⟩)) := cell_blk hP0.blk 1
    have cq := fun i => cell_blk hB0.pw i
    have fq := fun i => frz_blk hB0.pw i
    simp [go_sem, rd0, cr1, cq, fq]
    have c5 : Ch (one q) w4 ((w4.setCell ⟨q, 0, none⟩ (.bool false)).setCell ⟨q, 1, none⟩ (.int .i64 (-1))) := ((Ch.refl (one q) w4).setCell (p := ⟨q, 0, none⟩) (.inl rfl) _).setCell (p := ⟨q, 1, none⟩) (.inl rfl) _
    obtain ⟨p5, k5⟩ := Two.moveR p4 (t' := { s with P := Pwr.on }) fun O1 h1 hO => h1.pmove (P' := Pwr.on) (fun hp => by
      have e1 : (w4.setCell ⟨q, 0, none⟩ (.bool false)).heap[q]? = some (.cells #[.bool false, .int .i64 s.P.fuse] 36 (0, 0)) := by rw [hp_setCell, hp, setOf_cells]; simp
      unfold PwR
      rw [hp_setCell, e1, setOf_cells]
      rfl) c5
    exact fin hfa (Two.then' p5 hl2 hs4 k5.size) (Ch.then' k4 k5)
  · have n0 : ∀ j : Int, 3 ≤ j → j ≤ 11 → ((dd : Int) == j) = false := fun j h1 h2 => beq_false_of_ne (by omega)
    have k3 := n0 3 (by omega) (by omega)
    have k4 := n0 4 (by omega) (by omega)
    have k5 := n0 5 (by omega) (by omega)
    have k6 := n0 6 (by omega) (by omega)
    have k7 := n0 7 (by omega) (by omega)
    have k8 := n0 8 (by omega) (by omega)
    have k9 := n0 9 (by omega) (by omega)
    have k10 := n0 10 (by omega) (by omega)
    have k11 := n0 11 (by omega) (by omega)
    have eD : fauD n ⟨dd, k, addr, .slice A1 b.length c1, b, short, nn, .slice A2 ps.length c2, ps⟩ (s.dk kk) = s.dk kk := by unfold fauD; simp only; split <;> first | rfl | omega
    have eP : fauP ⟨dd, k, addr, .slice A1 b.length c1, b, short, nn, .slice A2 ps.length c2, ps⟩ s.P = s.P := by unfold fauP; simp only; split <;> first | rfl | omega
    rw [eD, eP, same] at hfa
    simp [go_sem, cX0, k3, k4, k5, k6, k7, k8, k9, k10, k11]
    exact fin hfa (Two.weak h2 (fun _ => .inl) (Gr.lt hl2 (Nat.le_refl _))) (Ch.refl _ _)
end
end Go.Proofs.YtppilgkgnofkpaaGreatDoor
