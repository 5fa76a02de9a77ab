/- The law's helper asked, walked: one ask, of a reader and of the document's. No condition but on sizes. -/
import Derived.Test.YtbodlpncejhliaaWireF
namespace Go.Proofs.Ytbodlpncejhliaa
open Go.RowKit Go.Kin

theorem Rdr.ch {S : Nat → Prop} {w w' : World} {g : Nat} {l : List UInt8} {e : Int} (h : Rdr w g l e) (hc : Ch S w w') (hn : ¬ S g) : (∀ k, S k → False) → Rdr w' g l e := by
  intro hs
  obtain ⟨v, h1, h2, h3⟩ := h
  exact ⟨v, hc.obj h1 hn, h2.ch hc (fun k _ => hs k), h3⟩
theorem Rdr.drew {w : World} {g : Nat} {l : List UInt8} {e : Int} (h : Rdr w g l e) : Rdr w.drew g l e := h
theorem noByte {w : World} {k : Nat} {A : Option Addr} {x y T : Nat} {u : Int} {z : Nat × Nat} (hb : w.heap[k]? = some (.cells #[.slice A x y, .int .i64 u] T z)) (p : Addr) (c : UInt8) (hc : w.cell? p = some (bv c)) : p.block ≠ k := by
  rintro rfl
  obtain ⟨b, off, sp⟩ := p
  simp only [World.cell?, hb] at hc
  split at hc
  · cases hc
  · match off with
    | 0 => simp [bv] at hc
    | 1 => simp [bv] at hc
    | off + 2 => simp at hc
theorem slAway {w w' : World} {k : Nat} {A : Option Addr} {x y T : Nat} {u : Int} {z : Nat × Nat} {v : Value} {n : Nat} {l : List UInt8} (h : Sl w v n (bvs l)) (hb : w.heap[k]? = some (.cells #[.slice A x y, .int .i64 u] T z)) (hc : Ch (only k) w w') : Sl w' v n (bvs l) := by
  obtain ⟨A, c, rfl, h1, h2, h3⟩ := h
  refine ⟨A, c, rfl, h1, h2, fun hp => ?_⟩
  obtain ⟨ad, rfl, hr⟩ := h3 hp
  refine ⟨ad, rfl, fun j u hu => ?_⟩
  have hcu := hr j u hu
  simp only [bvs, List.getElem?_map, Option.map_eq_some_iff] at hu
  obtain ⟨c0, _, rfl⟩ := hu
  exact hc.cell hcu (noByte hb _ _ hcu)
theorem Rdr.away {w w' : World} {g k : Nat} {l : List UInt8} {e : Int} {A : Option Addr} {x y T : Nat} {u : Int} {z : Nat × Nat} (h : Rdr w g l e) (hb : w.heap[k]? = some (.cells #[.slice A x y, .int .i64 u] T z)) (hg : g ≠ k) (hc : Ch (only k) w w') : Rdr w' g l e := by
  obtain ⟨v, h1, h2, h3⟩ := h
  exact ⟨v, hc.obj h1 hg, slAway h2 hb hc, h3⟩
theorem wrap64 {n : Nat} (h : n < 256 ^ 8) : IntKind.u64.wrap (n : Int) = (n : Int) := by
  rw [show (256 : Nat) ^ 8 = 18446744073709551616 by decide] at h
  rw [IntKind.wrap_u64]; omega
theorem noughts_same (l : List UInt8) (e : Int) (n : Nat) : noughtR l e n = noughtS l e n := by
  have h : ∀ r : List UInt8, nz r = !r.all (· == 0) := fun r => by
    induction r with
    | nil => rfl
    | cons c r ih =>
      show (c != 0 || nz r) = !((c == 0) && r.all (· == 0))
      rw [ih]
      cases hc : (c == 0) <;> simp [bne, hc]
  unfold noughtR noughtS
  rw [h]
  by_cases he : e = 0
  · by_cases hl : l.length < n
    · simp [rawS, he, hl]
    · have e1 : rawS l e n = (l.take n, l.drop n, 0) := by simp [rawS, he, hl]
      rw [e1]
      cases hq : (List.take n l).all fun x => x == 0 <;> simp only [failS] <;> rfl
  · simp [rawS, he]
theorem end_same (l : List UInt8) (e : Int) : (if e = 0 ∧ 0 < l.length then [] else l) = (endS l e).1 ∧ (if e = 0 ∧ 0 < l.length then 5 else e) = (endS l e).2 := by
  unfold endS failS
  by_cases he : e = 0 <;> by_cases hl : 0 < l.length <;> simp [he, hl]
abbrev askT : Nat := 52
/-- what is left of a list, and the error, behind an ask -/
def askS (l : List UInt8) (e : Int) (d n : Int) : List UInt8 × Int :=
  if d = 0 then (rawS l e 1).2 else if d = 1 then (rawS l e 2).2 else if d = 2 then (rawS l e 4).2 else if d = 3 then (rawS l e 8).2
  else if d = 4 then (rawS l e n.toNat).2 else if d = 5 then noughtS l e n.toNat else if d = 6 then failS l e 5 else endS l e

set_option maxHeartbeats 1000000 in
theorem asked_any (g : Nat) (v : Value) (l : List UInt8) (e d n : Int) (own : Option Nat) (w : World) (hl : l.length ≤ 1000000000) (hn : n ≤ 9223372036854775807) (hg : Rdr w g l e) (h : RefR w v l e own)
    (hown : ∀ k, own = some k → k < w.heap.size ∧ k ≠ g) :
    Ret Try.prog 21 #[.pointer (some ⟨g, 0, none⟩), v, .agg #[.int .u8 d, .int .i64 n]] w fun v' w' => ∃ r, v' = .tuple #[.bool true, r] ∧
      Rdr w' g (askS l e d n).1 (askS l e d n).2 ∧ RefR w' r (askS l e d n).1 (askS l e d n).2 own ∧ Ch (only g) w w' := by
  obtain ⟨s, rfl, hs, ho⟩ := h
  obtain ⟨A, c, rfl, _⟩ := id hs
  refine v_enter Try.func21 Try.ntmps21 rfl (by simp) fun R' hR => ?_
  have hlt : ∀ k, own = some k → k < w.heap.size := fun k hk => (hown k hk).1
  have hgl := hg.lt
  generalize hw3 : ((w.alloc (.cells #[.slice A l.length c, .int .i64 e] rdrT)).alloc (.cells #[.int .u8 d, .int .i64 n] askT)).alloc (.cells #[.slice none 0 0, .int .i64 0] rdrT) = w3
  have hc3 : Ch Nw w w3 := by rw [← hw3]; exact (((Ch.refl Nw w).alloc _).alloc _).alloc _
  have hz3 : w3.heap.size = w.heap.size + 3 := by rw [← hw3]; simp
  have b4 : w3.heap[w.heap.size]? = some (.cells #[.slice A l.length c, .int .i64 e] rdrT (0, 0)) := by rw [← hw3]; simpa using (((Ch.refl Nw _).alloc (.cells #[.int .u8 d, .int .i64 n] askT)).alloc (.cells #[.slice none 0 0, .int .i64 0] rdrT)).obj (heap_alloc_new w (.cells #[.slice A l.length c, .int .i64 e] rdrT)) (fun e => e)
  have b5 : w3.heap[w.heap.size + 1]? = some (.cells #[.int .u8 d, .int .i64 n] askT (0, 0)) := by rw [← hw3]; simpa using ((Ch.refl Nw _).alloc (.cells #[.slice none 0 0, .int .i64 0] rdrT)).obj (heap_alloc_new (w.alloc (.cells #[.slice A l.length c, .int .i64 e] rdrT)) (.cells #[.int .u8 d, .int .i64 n] askT)) (fun e => e)
  have b7 : w3.heap[w.heap.size + 1 + 1]? = some (.cells #[.slice none 0 0, .int .i64 0] rdrT (0, 0)) := by rw [← hw3]; simpa using heap_alloc_new ((w.alloc (.cells #[.slice A l.length c, .int .i64 e] rdrT)).alloc (.cells #[.int .u8 d, .int .i64 n] askT)) (.cells #[.slice none 0 0, .int .i64 0] rdrT)
  have hog : ∀ s2 : Value, (s2.ownBlock = own ∨ s2.ownBlock = none) → ∀ k, s2.ownBlock = some k → ¬ only g k := by
    rintro s2 k5 k hk rfl
    rcases k5 with k5 | k5
    · exact (hown _ (by rw [← k5, hk])).2 rfl
    · rw [k5] at hk; cases hk
  have nog : ∀ {w1 w2 : World}, Ch Nw w1 w2 → Ch (only g) w1 w2 := fun k => k.mono fun _ _ e => e.elim
  have fin : ∀ (w6 : World) (l2 : List UInt8) (e2 : Int) (s2 : Value) (r : Value), Ch (only g) w w6 → Rdr w6 g l2 e2 → Sl w6 s2 l2.length (bvs l2) → (s2.ownBlock = own ∨ s2.ownBlock = none) → askS l e d n = (l2, e2) → r = .agg #[s2, .int .i64 e2] →
      w6.heap[w.heap.size + 1 + 1]? = some (.cells #[.slice none 0 0, .int .i64 0] rdrT (0, 0)) → R' (.tuple #[.bool true, r]) ((w6.setCell ⟨w.heap.size + 1 + 1, 0, none⟩ s2).setCell ⟨w.heap.size + 1 + 1, 1, none⟩ (.int .i64 e2)) := by
    intro w6 l2 e2 s2 r k1 k3 k4 k5 k6 k7 k8
    rw [k6] at hR
    have hc := chTwo w6 (w.heap.size + 1 + 1) s2 (.int .i64 e2)
    refine hR _ _ ⟨_, rfl, k3.away k8 (by omega) hc, ⟨s2, k7, slAway k4 k8 hc, k5⟩, k1.trans' hc fun j hj e => ?_⟩
    unfold only at e; omega
  by_cases h0 : d = 0
  · subst h0
    simp [go_sem]
    rw [hw3]
    refine (refNumM _ l e 1 own w3 hl (by omega) ⟨_, rfl, hs.ch hc3 (fun _ _ e => e), ho⟩ (fun k hk => by have := hlt k hk; omega)).mono ?_
    rintro v4 w4 ⟨r, rfl, ⟨s4, rfl, hs4, ho4⟩, hc4⟩
    obtain ⟨A4, c4, rfl, _⟩ := id hs4
    have hz4 := hc4.size
    simp [go_sem]
    generalize hw5 : w4.alloc _ = w5
    have hc5 : Ch Nw w4 w5 := by rw [← hw5]; exact (Ch.refl Nw w4).alloc _
    have hb5 : w5.heap[w4.heap.size]? = some (.cells #[.slice A4 (rawS l e 1).2.1.length c4, .int .i64 (rawS l e 1).2.2] rdrT (0, 0)) := by rw [← hw5]; exact heap_alloc_new _ _
    have hg5 : Rdr w5 g l e := hg.ch (hc3.trans (hc4.trans hc5)) (fun e => e) (fun _ e => e)
    have hz5 : w5.heap.size = w4.heap.size + 1 := by rw [← hw5]; simp
    have hb7 := (hc4.trans hc5).obj b7 (fun e => e)
    obtain ⟨p0, p1, p2, p3⟩ := blk_cells hb7
    obtain ⟨q0, q1, q2, q3⟩ := blk_cells hb5
    refine v_draw' [(0, none), (3, none), (5, none), (1, some [3, 5]), (2, none), (4, none), (6, none), (7, some [])] (by kernel_rfl) (by kernel_rfl) ?_
    simp [go_sem, q0, q1]
    refine (ru8 g l e _ hl hg5.drew).mono ?_
    rintro _ w6 ⟨rfl, hg6, hc6⟩
    have hc6 := hc6.of_drew
    obtain ⟨p0', p1', p2', p3'⟩ := blk_cells (hc6.obj hb7 (by unfold only; omega))
    obtain ⟨q0', q1', q2', q3'⟩ := blk_cells (hc6.obj hb5 (by unfold only; omega))
    simp [go_sem, p0', p1', p2', p3', q0', q1']
    have hu := Lib.hid (wrap64 (Nat.lt_of_lt_of_le (fromLe_lt (rawS l e 1).1) (Nat.pow_le_pow_right (by omega) (Nat.le_trans (rawS_le l e 1) (show 1 ≤ 8 by omega)))))
    rw [hu.out]
    simp only [BEq.rfl]
    exact fin w6 _ _ _ _ ((nog (hc3.trans (hc4.trans hc5))).trans hc6) hg6 ((hs4.ch hc5 fun _ _ e => e).ch hc6 (hog _ ho4)) ho4 (by simp [askS]) rfl (hc6.obj hb7 (by unfold only; omega))
  by_cases h1 : d = 1
  · subst h1
    simp [go_sem]
    rw [hw3]
    refine (refNumM _ l e 2 own w3 hl (by omega) ⟨_, rfl, hs.ch hc3 (fun _ _ e => e), ho⟩ (fun k hk => by have := hlt k hk; omega)).mono ?_
    rintro v4 w4 ⟨r, rfl, ⟨s4, rfl, hs4, ho4⟩, hc4⟩
    obtain ⟨A4, c4, rfl, _⟩ := id hs4
    have hz4 := hc4.size
    simp [go_sem]
    generalize hw5 : w4.alloc _ = w5
    have hc5 : Ch Nw w4 w5 := by rw [← hw5]; exact (Ch.refl Nw w4).alloc _
    have hb5 : w5.heap[w4.heap.size]? = some (.cells #[.slice A4 (rawS l e 2).2.1.length c4, .int .i64 (rawS l e 2).2.2] rdrT (0, 0)) := by rw [← hw5]; exact heap_alloc_new _ _
    have hg5 : Rdr w5 g l e := hg.ch (hc3.trans (hc4.trans hc5)) (fun e => e) (fun _ e => e)
    have hz5 : w5.heap.size = w4.heap.size + 1 := by rw [← hw5]; simp
    have hb7 := (hc4.trans hc5).obj b7 (fun e => e)
    obtain ⟨p0, p1, p2, p3⟩ := blk_cells hb7
    obtain ⟨q0, q1, q2, q3⟩ := blk_cells hb5
    refine v_draw' [(0, none), (3, none), (5, none), (1, some [3, 5]), (2, none), (4, none), (6, none), (7, some [])] (by kernel_rfl) (by kernel_rfl) ?_
    simp [go_sem, q0, q1]
    refine (ru16 g l e _ hl hg5.drew).mono ?_
    rintro _ w6 ⟨rfl, hg6, hc6⟩
    have hc6 := hc6.of_drew
    obtain ⟨p0', p1', p2', p3'⟩ := blk_cells (hc6.obj hb7 (by unfold only; omega))
    obtain ⟨q0', q1', q2', q3'⟩ := blk_cells (hc6.obj hb5 (by unfold only; omega))
    simp [go_sem, p0', p1', p2', p3', q0', q1']
    have hu := Lib.hid (wrap64 (Nat.lt_of_lt_of_le (fromLe_lt (rawS l e 2).1) (Nat.pow_le_pow_right (by omega) (Nat.le_trans (rawS_le l e 2) (show 2 ≤ 8 by omega)))))
    rw [hu.out]
    simp only [BEq.rfl]
    exact fin w6 _ _ _ _ ((nog (hc3.trans (hc4.trans hc5))).trans hc6) hg6 ((hs4.ch hc5 fun _ _ e => e).ch hc6 (hog _ ho4)) ho4 (by simp [askS]) rfl (hc6.obj hb7 (by unfold only; omega))
  by_cases h2 : d = 2
  · subst h2
    simp [go_sem]
    rw [hw3]
    refine (refNumM _ l e 4 own w3 hl (by omega) ⟨_, rfl, hs.ch hc3 (fun _ _ e => e), ho⟩ (fun k hk => by have := hlt k hk; omega)).mono ?_
    rintro v4 w4 ⟨r, rfl, ⟨s4, rfl, hs4, ho4⟩, hc4⟩
    obtain ⟨A4, c4, rfl, _⟩ := id hs4
    have hz4 := hc4.size
    simp [go_sem]
    generalize hw5 : w4.alloc _ = w5
    have hc5 : Ch Nw w4 w5 := by rw [← hw5]; exact (Ch.refl Nw w4).alloc _
    have hb5 : w5.heap[w4.heap.size]? = some (.cells #[.slice A4 (rawS l e 4).2.1.length c4, .int .i64 (rawS l e 4).2.2] rdrT (0, 0)) := by rw [← hw5]; exact heap_alloc_new _ _
    have hg5 : Rdr w5 g l e := hg.ch (hc3.trans (hc4.trans hc5)) (fun e => e) (fun _ e => e)
    have hz5 : w5.heap.size = w4.heap.size + 1 := by rw [← hw5]; simp
    have hb7 := (hc4.trans hc5).obj b7 (fun e => e)
    obtain ⟨p0, p1, p2, p3⟩ := blk_cells hb7
    obtain ⟨q0, q1, q2, q3⟩ := blk_cells hb5
    refine v_draw' [(0, none), (3, none), (5, none), (1, some [3, 5]), (2, none), (4, none), (6, none), (7, some [])] (by kernel_rfl) (by kernel_rfl) ?_
    simp [go_sem, q0, q1]
    refine (ru32 g l e _ hl hg5.drew).mono ?_
    rintro _ w6 ⟨rfl, hg6, hc6⟩
    have hc6 := hc6.of_drew
    obtain ⟨p0', p1', p2', p3'⟩ := blk_cells (hc6.obj hb7 (by unfold only; omega))
    obtain ⟨q0', q1', q2', q3'⟩ := blk_cells (hc6.obj hb5 (by unfold only; omega))
    simp [go_sem, p0', p1', p2', p3', q0', q1']
    have hu := Lib.hid (wrap64 (Nat.lt_of_lt_of_le (fromLe_lt (rawS l e 4).1) (Nat.pow_le_pow_right (by omega) (Nat.le_trans (rawS_le l e 4) (show 4 ≤ 8 by omega)))))
    rw [hu.out]
    simp only [BEq.rfl]
    exact fin w6 _ _ _ _ ((nog (hc3.trans (hc4.trans hc5))).trans hc6) hg6 ((hs4.ch hc5 fun _ _ e => e).ch hc6 (hog _ ho4)) ho4 (by simp [askS]) rfl (hc6.obj hb7 (by unfold only; omega))
  by_cases h3 : d = 3
  · subst h3
    simp [go_sem]
    rw [hw3]
    refine (refNumM _ l e 8 own w3 hl (by omega) ⟨_, rfl, hs.ch hc3 (fun _ _ e => e), ho⟩ (fun k hk => by have := hlt k hk; omega)).mono ?_
    rintro v4 w4 ⟨r, rfl, ⟨s4, rfl, hs4, ho4⟩, hc4⟩
    obtain ⟨A4, c4, rfl, _⟩ := id hs4
    have hz4 := hc4.size
    simp [go_sem]
    generalize hw5 : w4.alloc _ = w5
    have hc5 : Ch Nw w4 w5 := by rw [← hw5]; exact (Ch.refl Nw w4).alloc _
    have hb5 : w5.heap[w4.heap.size]? = some (.cells #[.slice A4 (rawS l e 8).2.1.length c4, .int .i64 (rawS l e 8).2.2] rdrT (0, 0)) := by rw [← hw5]; exact heap_alloc_new _ _
    have hg5 : Rdr w5 g l e := hg.ch (hc3.trans (hc4.trans hc5)) (fun e => e) (fun _ e => e)
    have hz5 : w5.heap.size = w4.heap.size + 1 := by rw [← hw5]; simp
    have hb7 := (hc4.trans hc5).obj b7 (fun e => e)
    obtain ⟨p0, p1, p2, p3⟩ := blk_cells hb7
    obtain ⟨q0, q1, q2, q3⟩ := blk_cells hb5
    refine v_draw' [(0, none), (2, none), (4, none), (1, some [2, 4]), (3, none), (5, none), (6, some [])] (by kernel_rfl) (by kernel_rfl) ?_
    simp [go_sem, q0, q1]
    refine (ru64 g l e _ hl hg5.drew).mono ?_
    rintro _ w6 ⟨rfl, hg6, hc6⟩
    have hc6 := hc6.of_drew
    obtain ⟨p0', p1', p2', p3'⟩ := blk_cells (hc6.obj hb7 (by unfold only; omega))
    obtain ⟨q0', q1', q2', q3'⟩ := blk_cells (hc6.obj hb5 (by unfold only; omega))
    simp [go_sem, p0', p1', p2', p3', q0', q1']
    exact fin w6 _ _ _ _ ((nog (hc3.trans (hc4.trans hc5))).trans hc6) hg6 ((hs4.ch hc5 fun _ _ e => e).ch hc6 (hog _ ho4)) ho4 (by simp [askS]) rfl (hc6.obj hb7 (by unfold only; omega))
  by_cases h4 : d = 4
  · subst h4
    simp [go_sem]
    rw [hw3]
    refine (refRaw _ l e n own w3 hl hn ⟨_, rfl, hs.ch hc3 (fun _ _ e => e), ho⟩).mono ?_
    rintro v4 w4 ⟨sb, r, rfl, hsb, hob, ⟨s4, rfl, hs4, ho4⟩, hc4⟩
    obtain ⟨A4, c4, rfl, _⟩ := id hs4
    have hz4 := hc4.size
    simp [go_sem]
    generalize hw5 : w4.alloc _ = w5
    have hc5 : Ch Nw w4 w5 := by rw [← hw5]; exact (Ch.refl Nw w4).alloc _
    have hb5 : w5.heap[w4.heap.size]? = some (.cells #[.slice A4 (rawS l e n.toNat).2.1.length c4, .int .i64 (rawS l e n.toNat).2.2] rdrT (0, 0)) := by rw [← hw5]; exact heap_alloc_new _ _
    have hg5 : Rdr w5 g l e := hg.ch (hc3.trans (hc4.trans hc5)) (fun e => e) (fun _ e => e)
    have hz5 : w5.heap.size = w4.heap.size + 1 := by rw [← hw5]; simp
    have hb7 := (hc4.trans hc5).obj b7 (fun e => e)
    have ha5 := (hc4.trans hc5).obj b5 (fun e => e)
    obtain ⟨a0, a1, a2, a3⟩ := blk_cells ha5
    obtain ⟨p0, p1, p2, p3⟩ := blk_cells hb7
    obtain ⟨q0, q1, q2, q3⟩ := blk_cells hb5
    refine v_draw' [(0, none), (1, none), (2, none), (5, none), (6, none), (8, none), (3, some [5, 6, 8]), (4, none), (7, none), (9, none), (10, some [])] (by kernel_rfl) (by kernel_rfl) ?_
    have sx := fun {w : World} {v : Value} {l : List UInt8} {n : Nat} (h : Sl w v n (bvs l)) (hn : l.length = n) => h.str (P := Try.prog) hn Try.underlying22 Try.underlying5 Try.underlying9
    have hb0 := sx (hsb.ch hc5 fun _ _ e => e).drew rfl
    simp [go_sem, q0, q1, a1, hb0]
    refine (raw_any g l e n _ hn hl hg5.drew).mono ?_
    rintro v6 w6 ⟨ho6, hf6, hg6, hc6⟩
    have hc6 := hc6.of_drew
    have hb1 := sx (Sl.of_own ho6) rfl
    have hb2 := sx ((hsb.ch hc5 fun _ _ e => e).ch hc6 (hog _ hob)) rfl
    obtain ⟨a0', a1', a2', a3'⟩ := blk_cells (hc6.obj ha5 (by unfold only; omega))
    obtain ⟨p0', p1', p2', p3'⟩ := blk_cells (hc6.obj hb7 (by unfold only; omega))
    obtain ⟨q0', q1', q2', q3'⟩ := blk_cells (hc6.obj hb5 (by unfold only; omega))
    simp [go_sem, p0', p1', p2', p3', q0', q1', hb1, hb2]
    exact fin w6 _ _ _ _ ((nog (hc3.trans (hc4.trans hc5))).trans hc6) hg6 ((hs4.ch hc5 fun _ _ e => e).ch hc6 (hog _ ho4)) ho4 (by simp [askS]) rfl (hc6.obj hb7 (by unfold only; omega))
  by_cases h5 : d = 5
  · subst h5
    simp [go_sem]
    rw [hw3]
    have hg3 : Rdr w3 g l e := hg.ch hc3 (fun e => e) (fun _ e => e)
    refine (noughts_any g l e n w3 hn hl hg3).mono ?_
    rintro _ w4 ⟨rfl, hg4, hc4⟩
    obtain ⟨a0, a1, a2, a3⟩ := blk_cells (hc4.obj b5 (by unfold only; omega))
    obtain ⟨p0, p1, p2, p3⟩ := blk_cells (hc4.obj b4 (by unfold only; omega))
    simp [go_sem, a1, p0, p1]
    have hs4 := (hs.ch hc3 (fun _ _ e => e)).ch hc4 (hog _ ho)
    have hF := refNoughts _ l e n own w4 hl hn ⟨_, rfl, hs4, ho⟩ (fun k hk => by have := hlt k hk; have := hc4.size; omega)
    rw [noughts_same] at hF
    refine hF.mono ?_
    rintro _ w5 ⟨⟨s5, rfl, hs5, ho5⟩, hc5⟩
    obtain ⟨A5, c5, rfl, _⟩ := id hs5
    obtain ⟨q0, q1, q2, q3⟩ := blk_cells (hc5.obj (hc4.obj b7 (by unfold only; omega)) (fun e => e))
    simp [go_sem, q0, q1, q2, q3]
    exact fin w5 _ _ _ _ (((nog hc3).trans hc4).trans (nog hc5)) (hg4.ch hc5 (fun e => e) (fun _ e => e)) hs5 ho5 (by simp [askS]) rfl (hc5.obj (hc4.obj b7 (by unfold only; omega)) (fun e => e))
  have o0 : (d == 0) = false := by simpa using h0
  have o1 : (d == 1) = false := by simpa using h1
  have o2 : (d == 2) = false := by simpa using h2
  have o3 : (d == 3) = false := by simpa using h3
  have o4 : (d == 4) = false := by simpa using h4
  have o5 : (d == 5) = false := by simpa using h5
  by_cases h6 : d = 6
  · subst h6
    simp [go_sem]
    rw [hw3]
    have hg3 : Rdr w3 g l e := hg.ch hc3 (fun e => e) (fun _ e => e)
    refine (bad_any g l e w3 hg3).mono ?_
    rintro _ w4 ⟨rfl, hg4, hc4⟩
    have hz4 := hc4.size
    have c4 := hc4.obj b4 (by unfold only; omega)
    have c7 := hc4.obj b7 (by unfold only; omega)
    obtain ⟨p0, p1, p2, p3⟩ := blk_cells c4
    obtain ⟨q0, q1, q2, q3⟩ := blk_cells c7
    by_cases he : e = 0
    · subst he
      simp [go_sem, p0, p1, p2, p3]
      refine v_draw' [(0, none), (1, none), (2, some [])] (by kernel_rfl) (by kernel_rfl) ?_
      have hc5 := chTwo w4 w.heap.size (.slice none 0 0) (.int .i64 5)
      obtain ⟨q0', q1', q2', q3'⟩ := blk_cells (hc5.obj c7 (by unfold only; omega))
      simp [go_sem, p0, p1, q0', q1', q2', q3']
      have hc5 := hc5.drew
      exact fin _ [] 5 _ _ (((nog hc3).trans hc4).trans' hc5 fun j hj e => by unfold only at e; omega) (by simpa [failS] using hg4.away c4 (by omega) hc5) (Sl.nil _) (.inr rfl) (by simp [askS, failS]) rfl (hc5.obj c7 (by unfold only; omega))
    · have he' : (e == 0) = false := by simpa using he
      simp [go_sem, p1, he']
      refine v_draw' [(0, none), (1, none), (2, some [])] (by kernel_rfl) (by kernel_rfl) ?_
      simp [go_sem, p0, p1, q0, q1, q2, q3]
      exact fin w4.drew l e _ _ ((nog hc3).trans hc4.drew) (by simpa [failS, he] using hg4.drew) (by simpa [failS, he] using ((hs.ch hc3 (fun _ _ e => e)).ch hc4 (hog _ ho)).drew) ho (by simp [askS, failS, he]) (by simp) c7
  have o6 : (d == 6) = false := by simpa using h6
  simp [go_sem, o0, o1, o2, o3, o4, o5, o6]
  rw [hw3]
  have hF := refEnd _ l e own w3 ⟨_, rfl, hs.ch hc3 (fun _ _ e => e), ho⟩
  rw [(end_same l e).1, (end_same l e).2] at hF
  refine hF.mono ?_
  rintro _ w4 ⟨⟨s4, rfl, hs4, ho4⟩, hc4⟩
  obtain ⟨A4, c4, rfl, _⟩ := id hs4
  have hz4 := hc4.size
  simp [go_sem]
  generalize hw5 : w4.alloc _ = w5
  have hc5 : Ch Nw w4 w5 := by rw [← hw5]; exact (Ch.refl Nw w4).alloc _
  have hb5 : w5.heap[w4.heap.size]? = some (.cells #[.slice A4 (endS l e).1.length c4, .int .i64 (endS l e).2] rdrT (0, 0)) := by rw [← hw5]; exact heap_alloc_new _ _
  have hg5 : Rdr w5 g l e := hg.ch (hc3.trans (hc4.trans hc5)) (fun e => e) (fun _ e => e)
  have hz5 : w5.heap.size = w4.heap.size + 1 := by rw [← hw5]; simp
  have hb7 := (hc4.trans hc5).obj b7 (fun e => e)
  obtain ⟨p0, p1, p2, p3⟩ := blk_cells hb7
  obtain ⟨q0, q1, q2, q3⟩ := blk_cells hb5
  refine v_draw' [(0, none), (2, none), (3, none), (5, none), (1, some [2, 3, 5]), (4, none), (6, none), (7, some [])] (by kernel_rfl) (by kernel_rfl) ?_
  simp [go_sem, q0, q1]
  refine (end_any g l e _ hg5.drew).mono ?_
  rintro _ w6 ⟨rfl, hg6, hc6⟩
  have hc6 := hc6.of_drew
  obtain ⟨p0', p1', p2', p3'⟩ := blk_cells (hc6.obj hb7 (by unfold only; omega))
  obtain ⟨q0', q1', q2', q3'⟩ := blk_cells (hc6.obj hb5 (by unfold only; omega))
  simp [go_sem, p0', p1', p2', p3', q0', q1']
  exact fin w6 _ _ _ _ ((nog (hc3.trans (hc4.trans hc5))).trans hc6) hg6 ((hs4.ch hc5 fun _ _ e => e).ch hc6 (hog _ ho4)) ho4 (by simp [askS, h0, h1, h2, h3, h4, h5, h6]) rfl (hc6.obj hb7 (by unfold only; omega))
end Go.Proofs.Ytbodlpncejhliaa
