/- The law's alike; and disks, the document's and the program's, side by side. No condition but on sizes. -/
import Derived.Test.YtmhnlgndgdmebaaRkI
namespace Go.Proofs.Ytmhnlgndgdmebaa
open Go.RowKit Go.Kin

section
variable {w w1 w' : World} {d p r q n : Nat} {D : Dk} {P Q : Pwr} {O E : Nat → Prop}
theorem alike_any (h : Sd w d p n D P O) (g : Rd w r q n D Q E) (hn : n ≤ 4096) (hcl : D.cache.length ≤ 1000000) :
    Ret Try.prog 46 #[.pointer (some ⟨d, 0, none⟩), .pointer (some ⟨r, 0, none⟩)] w fun v' w' => v' = .bool true ∧ Ch Nw w w' := by
  refine v_enter Try.func46 Try.ntmps46 rfl (by simp) fun R' hR => ?_
  obtain ⟨z, lm, lb, ls, hz⟩ := g.dk
  have c0 : w.cell? ⟨r, 0, none⟩ = some (.int .i64 n) := cell_blk hz.blk 0
  have c3 : w.cell? ⟨r, 3, none⟩ = some z.cv := cell_blk hz.blk 3
  have c6 : w.cell? ⟨r, 6, none⟩ = some (.bool D.dead) := cell_blk hz.blk 6
  obtain ⟨Ac', cc, hcv⟩ := hz.cache.lit
  rw [hcv] at c3
  have sd := h.ch (Ch.refl Nw w).drew (fun _ _ e => e) id
  simp [go_sem]
  refine v_draw' [(0, none), (2, none), (3, none), (4, none), (5, none), (1, some [2, 3, 4, 5]), (6, none), (7, none), (8, none), (10, none), (11, none), (12, none), (13, none), (9, some [10, 11, 12, 13]), (14, none), (15, none), (16, none), (17, none), (19, none), (20, none), (21, none), (22, none), (23, none), (18, some [19, 20, 21, 22, 23]), (24, none), (25, none)] (by kernel_rfl) (by kernel_rfl) ?_
  have cd0 : w.drew.cell? ⟨r, 0, none⟩ = _ := c0
  have cd3 : w.drew.cell? ⟨r, 3, none⟩ = _ := c3
  have cd6 : w.drew.cell? ⟨r, 6, none⟩ = _ := c6
  have go : ∀ b : Bool, D.dead = b → (b = b) := fun _ _ => rfl
  simp [go_sem, c6]
  refine sd.dead.mono ?_
  rintro _ w1 ⟨rfl, hw1⟩
  subst w1
  simp [go_sem, c6, c0]
  refine sd.blocks.mono ?_
  rintro _ w1 ⟨rfl, hw1⟩
  subst w1
  simp [go_sem, c0, c3]
  refine sd.cached.mono ?_
  rintro _ w1 ⟨rfl, hw1⟩
  subst w1
  have hn2 : IntKind.i64.wrap ((n : Int) + 2) = ((n + 2 : Nat) : Int) := by rw [IntKind.wrap_i64]; omega
  simp [go_sem, c3]
  refine v_loop (fun t f u => ∃ i, t = n + 2 - i ∧ i ≤ n + 2 ∧ f 0 = .pointer (some ⟨d, 0, none⟩) ∧ f 1 = .pointer (some ⟨r, 0, none⟩) ∧ f 5 = .int .i64 i ∧ Ch Nw w u) (n + 2)
    ⟨0, rfl, by omega, by simp, by simp, by simp, (Ch.refl Nw w).drew⟩ ?_
  rintro J hJ _ f u ⟨i, rfl, hi, f0, f1, f5, cu⟩
  have cu0 := cu.cell c0 id
  by_cases hlt : i < n + 2
  · have hii : (i : Int) < ((n + 2 : Nat) : Int) := by omega
    have hii2 : (i : Int) < (n : Int) + 2 := by omega
    have hwi : IntKind.i64.wrap ((i : Int) + 1) = ((i + 1 : Nat) : Int) := by rw [IntKind.wrap_i64]; omega
    have hw16 : IntKind.u16.wrap (i : Int) = i := u16_any (by omega)
    simp [go_sem, f0, f1, f5, cu0, hn2, hii, hii2, hw16]
    refine ((h.ch cu (fun _ _ e => e) id).look i (by omega)).mono ?_
    rintro v3 w3 ⟨l3, _, c3'⟩
    have cu3 := cu.trans c3'
    cases hl : D.look n i with
    | none =>
      rw [hl] at l3
      simp only [LookR] at l3
      subst l3
      have hst := fun w => (Sl.nil w).str (P := Try.prog) (l := []) rfl Try.underlying60 Try.underlying5 Try.underlying9
      simp [go_sem, f1, f5, hw16]
      refine (look_rk (hz.ch cu3 fun _ _ e => e) i (by omega) hcl).mono ?_
      rintro _ w4 ⟨rfl, c4⟩
      simp [go_sem, hl, lastV, hst, f5, hwi]
      exact Rnd.intro (n + 2 - (i + 1)) (by omega) (hJ _ _ _ ⟨i + 1, rfl, by omega, by simp [f0], by simp [f1], by simp, cu3.trans c4⟩)
    | some b =>
      rw [hl] at l3
      obtain ⟨x, rfl, hbl, sl3, _⟩ := l3
      simp [go_sem, f1, f5, hw16]
      refine (look_rk (hz.ch cu3 fun _ _ e => e) i (by omega) hcl).mono ?_
      rintro _ w4 ⟨rfl, c4⟩
      have hst := (sl3.ch c4 fun _ _ e => e).str (P := Try.prog) hbl Try.underlying60 Try.underlying5 Try.underlying9
      simp [go_sem, hl, lastV, hst, f5, hwi]
      exact Rnd.intro (n + 2 - (i + 1)) (by omega) (hJ _ _ _ ⟨i + 1, rfl, by omega, by simp [f0], by simp [f1], by simp, cu3.trans c4⟩)
  · obtain rfl : i = n + 2 := by omega
    simp [go_sem, f1, f5, cu0, hn2]
    exact hR _ _ ⟨rfl, cu⟩
end
/-- a disk, the document's, and the blocks of both -/
structure Ent where
  c : Nat
  r : Nat
  l1 : Nat
  h1 : Nat
  l2 : Nat
  h2 : Nat
def Ent.A (e : Ent) : Nat → Prop := fun k => e.l1 ≤ k ∧ k < e.h1
def Ent.E (e : Ent) : Nat → Prop := fun k => e.l2 ≤ k ∧ k < e.h2
/-- disks that are being made -/
structure Mk (W u : World) (p q n : Nat) (es : List Ent) (vd vw : Value) : Prop where
  each : ∀ e ∈ es, Sd u e.c p n Dk.new Pwr.on e.A ∧ Rd u e.r q n Dk.new Pwr.on e.E ∧ e.h1 ≤ e.l2 ∧ W.heap.size ≤ e.l1 ∧ e.h2 ≤ u.heap.size ∧ p < e.l1 ∧ q < e.l1 ∧ e.l1 ≤ e.h1 ∧ e.l2 ≤ e.h2
  pw : List.Pairwise (fun x y : Ent => x.h2 ≤ y.l1) es
  od : u.ownsRow 0 56 1 vd es.length (es.map fun e => .pointer (some ⟨e.c, 0, none⟩))
  ow : u.ownsRow 0 84 1 vw es.length (es.map fun e => .pointer (some ⟨e.r, 0, none⟩))
  xd : ∀ k, vd.ownBlock = some k → W.heap.size ≤ k ∧ k ≠ p ∧ k ≠ q ∧ vw.ownBlock ≠ some k ∧ ∀ e ∈ es, ¬ e.A k ∧ ¬ e.E k
  xw : ∀ k, vw.ownBlock = some k → W.heap.size ≤ k ∧ k ≠ p ∧ k ≠ q ∧ ∀ e ∈ es, ¬ e.A k ∧ ¬ e.E k
  pg : W.heap.size ≤ p ∧ W.heap.size ≤ q ∧ p ≠ q
  p : PwAt u p Pwr.on
  q : PwR u q Pwr.on
  ch : Ch Nw W u
theorem tyPD : Ty1 Try.prog 82 56 (.pointer none) 8 := ⟨Try.underlying82, by kernel_rfl, rfl⟩
theorem tyPR : Ty1 Try.prog 83 84 (.pointer none) 8 := ⟨Try.underlying83, by kernel_rfl, rfl⟩
section
variable {W u u' : World} {p q n : Nat} {es : List Ent} {vd vw vd' vw' : Value}
theorem Mk.stay (h : Mk W u p q n es vd vw) (hc : Ch Nw u u') : Mk W u' p q n es vd vw :=
  ⟨fun e he => by
    obtain ⟨a, b, c1, c2, c3, c4⟩ := h.each e he
    exact ⟨a.ch hc (fun _ _ e => e) id, b.ch hc (fun _ _ e => e) id, c1, c2, Nat.le_trans c3 hc.size, c4⟩, h.pw, own_ch h.od hc fun _ _ e => e, own_ch h.ow hc fun _ _ e => e, h.xd, h.xw, h.pg, h.p.ch hc id, h.q.ch hc id, h.ch.trans hc⟩
/-- one more -/
theorem Mk.put (h : Mk W u p q n es vd vw) {u1 u2 u3 u4 : World} {c r : Nat} (h1 : Sd u1 c p n Dk.new Pwr.on fun k => u.heap.size ≤ k ∧ k < u1.heap.size) (c1 : Ch Nw u u1)
    (od : u2.ownsRow 0 56 1 vd' (es.length + 1) (es.map (fun e => .pointer (some ⟨e.c, 0, none⟩)) ++ [.pointer (some ⟨c, 0, none⟩)])) (c2 : Ch (fun k => vd.ownBlock = some k) u1 u2) (f2 : vd'.ownBlock = vd.ownBlock ∨ Fresh u1.heap.size vd')
    (h3 : Rd u3 r q n Dk.new Pwr.on fun k => u2.heap.size ≤ k ∧ k < u3.heap.size) (c3 : Ch Nw u2 u3)
    (ow : u4.ownsRow 0 84 1 vw' (es.length + 1) (es.map (fun e => .pointer (some ⟨e.r, 0, none⟩)) ++ [.pointer (some ⟨r, 0, none⟩)])) (c4 : Ch (fun k => vw.ownBlock = some k) u3 u4) (f4 : vw'.ownBlock = vw.ownBlock ∨ Fresh u3.heap.size vw') :
    Mk W u4 p q n (es ++ [⟨c, r, u.heap.size, u1.heap.size, u2.heap.size, u3.heap.size⟩]) vd' vw' := by
  have s0 := h.ch.size
  have s1 := c1.size
  have s2 := c2.size
  have s3 := c3.size
  have s4 := c4.size
  have lp : p < u.heap.size := lt_of_block h.p
  have lq : q < u.heap.size := lt_of_block h.q
  have lvd : ∀ k, vd.ownBlock = some k → k < u.heap.size := own_blt h.od
  have lvw : ∀ k, vw.ownBlock = some k → k < u.heap.size := own_blt h.ow
  have lvd' : ∀ k, vd'.ownBlock = some k → k < u2.heap.size := own_blt od
  have b2 : ∀ k, vd'.ownBlock = some k → vd.ownBlock = some k ∨ (u1.heap.size ≤ k ∧ k < u2.heap.size) := fun k hk => f2.elim (fun e => .inl (e ▸ hk)) fun e => .inr ⟨e k hk, lvd' k hk⟩
  have b4 : ∀ k, vw'.ownBlock = some k → vw.ownBlock = some k ∨ u3.heap.size ≤ k := fun k hk => f4.elim (fun e => .inl (e ▸ hk)) fun e => .inr (e k hk)
  have od4 := own_ch (own_ch od c3 fun _ _ e => e) c4 fun k hk e => by
    have := lvw k e
    rcases b2 k hk with e2 | e2
    · exact (h.xd k e2).2.2.2.1 e
    · omega
  refine ⟨fun e he => ?_, ?_, by simpa using od4, by simpa using ow, fun k hk => ?_, fun k hk => ?_, h.pg, ?_, ?_, ?_⟩
  · rcases List.mem_append.1 he with he | he
    · obtain ⟨a, b, d1, d2, d3, d4, d5, d6, d7⟩ := h.each e he
      have ad : ∀ k, e.A k → vd.ownBlock ≠ some k ∧ vw.ownBlock ≠ some k := fun k hk => ⟨fun x => ((h.xd k x).2.2.2.2 e he).1 hk, fun x => ((h.xw k x).2.2.2 e he).1 hk⟩
      have ed : ∀ k, e.E k → vd.ownBlock ≠ some k ∧ vw.ownBlock ≠ some k := fun k hk => ⟨fun x => ((h.xd k x).2.2.2.2 e he).2 hk, fun x => ((h.xw k x).2.2.2 e he).2 hk⟩
      exact ⟨(((a.ch c1 (fun _ _ e => e) id).ch c2 (fun k hk e => (ad k hk).1 e) fun e => (h.xd p e).2.1 rfl).ch c3 (fun _ _ e => e) id).ch c4 (fun k hk e => (ad k hk).2 e) fun e => (h.xw p e).2.1 rfl,
        (((b.ch c1 (fun _ _ e => e) id).ch c2 (fun k hk e => (ed k hk).1 e) fun e => (h.xd q e).2.2.1 rfl).ch c3 (fun _ _ e => e) id).ch c4 (fun k hk e => (ed k hk).2 e) fun e => (h.xw q e).2.2.1 rfl, d1, d2, by omega, d4, d5, d6, d7⟩
    · simp only [List.mem_singleton] at he
      subst he
      refine ⟨((h1.ch c2 (fun k hk e => by have := lvd k e; omega) fun e => (h.xd p e).2.1 rfl).ch c3 (fun _ _ e => e) id).ch c4 (fun k hk e => by have := lvw k e; have := hk.1; omega) fun e => (h.xw p e).2.1 rfl,
        h3.ch c4 (fun k hk e => by have := lvw k e; omega) fun e => (h.xw q e).2.2.1 rfl, s2, s0, s4, lp, lq, s1, s3⟩
  · refine List.pairwise_append.2 ⟨h.pw, by simp, fun x hx y hy => ?_⟩
    simp only [List.mem_singleton] at hy
    subst hy
    exact (h.each x hx).2.2.2.2.1
  · have hne : vw'.ownBlock ≠ some k := fun e => by
      rcases b2 k hk with e2 | e2
      · have := lvd k e2
        rcases b4 k e with e4 | e4
        · exact (h.xd k e2).2.2.2.1 e4
        · omega
      · rcases b4 k e with e4 | e4
        · have := lvw k e4; omega
        · omega
    rcases b2 k hk with e2 | e2
    · obtain ⟨x1, x2, x3, _, x5⟩ := h.xd k e2
      have := lvd k e2
      refine ⟨x1, x2, x3, hne, fun e he => ?_⟩
      rcases List.mem_append.1 he with he | he
      · exact x5 e he
      · simp only [List.mem_singleton] at he
        subst he
        exact ⟨fun hk => by have : u.heap.size ≤ k := hk.1; omega, fun hk => by have : u2.heap.size ≤ k := hk.1; omega⟩
    · refine ⟨by omega, by omega, by omega, hne, fun e he => ?_⟩
      rcases List.mem_append.1 he with he | he
      · have d3 := (h.each e he).2.2.2.2.1
        have d1 := (h.each e he).2.2.1
        have d7 := (h.each e he).2.2.2.2.2.2.2.2
        exact ⟨fun hk => by have := hk.2; omega, fun hk => by have := hk.2; omega⟩
      · simp only [List.mem_singleton] at he
        subst he
        exact ⟨fun hk => by have : k < u1.heap.size := hk.2; omega, fun hk => by have : u2.heap.size ≤ k := hk.1; omega⟩
  · rcases b4 k hk with e4 | e4
    · obtain ⟨x1, x2, x3, x5⟩ := h.xw k e4
      have := lvw k e4
      refine ⟨x1, x2, x3, fun e he => ?_⟩
      rcases List.mem_append.1 he with he | he
      · exact x5 e he
      · simp only [List.mem_singleton] at he
        subst he
        exact ⟨fun hk => by have : u.heap.size ≤ k := hk.1; omega, fun hk => by have : u2.heap.size ≤ k := hk.1; omega⟩
    · refine ⟨by omega, by omega, by omega, fun e he => ?_⟩
      rcases List.mem_append.1 he with he | he
      · have d3 := (h.each e he).2.2.2.2.1
        have d1 := (h.each e he).2.2.1
        have d7 := (h.each e he).2.2.2.2.2.2.2.2
        exact ⟨fun hk => by have := hk.2; omega, fun hk => by have := hk.2; omega⟩
      · simp only [List.mem_singleton] at he
        subst he
        exact ⟨fun hk => by have : k < u1.heap.size := hk.2; omega, fun hk => by have : k < u3.heap.size := hk.2; omega⟩
  · exact (((h.p.ch c1 id).ch c2 fun e => (h.xd p e).2.1 rfl).ch c3 id).ch c4 fun e => (h.xw p e).2.1 rfl
  · exact (((h.q.ch c1 id).ch c2 fun e => (h.xd q e).2.2.1 rfl).ch c3 id).ch c4 fun e => (h.xw q e).2.2.1 rfl
  · exact (((h.ch.trans c1).trans' c2 fun k hk e => by have := (h.xd k e).1; omega).trans c3).trans' c4 fun k hk e => by have := (h.xw k e).1; omega
end
/-- a new one of the document's -/
def rz : Rn := ⟨.slice none 0 0, .slice none 0 0, .slice none 0 0, .slice none 0 0, .slice none 0 0⟩
theorem rd_new (n q : Nat) (w : World) (P : Pwr) (h2 : n ≤ 4096) (hp : PwR w q P) : Rd (w.alloc (.cells (rcs n q rz Dk.new) 88)) w.heap.size q n Dk.new P fun k => w.heap.size ≤ k ∧ k < w.heap.size + 1 := by
  have ba := hp_alloc w (.cells (rcs n q rz Dk.new) 88)
  have ca := (Ch.refl Nw w).alloc (.cells (rcs n q rz Dk.new) 88)
  have hs : (w.alloc (.cells (rcs n q rz Dk.new) 88)).heap.size = w.heap.size + 1 := by simp
  refine ⟨⟨rz, [], [], [], ba, RowB.nil _, RowB.nil _, RowA.nil _, RowA.nil _, RowA.nil _, fun _ => rfl, fun _ => rfl, fun _ => rfl, fun k hk => ?_, fun k hk => ?_, fun k hk => ?_, by simp [rz, Value.ownBlock], Dk.Ok.new n, ⟨Nda.nil n, Nda.nil n, Nda.nil n⟩, by omega, fun k hk => by rw [hs]; exact hk.2⟩, hp.ch ca id, fun e => by have := lt_of_block hp; omega⟩
  · rcases hk with rfl | hk
    · omega
    · simp [rz, Value.ownBlock] at hk
  · simp [Rn.Y, rz, Value.ownBlock] at hk
  · simp [Rn.Y, rz, Value.ownBlock] at hk
end Go.Proofs.Ytmhnlgndgdmebaa
