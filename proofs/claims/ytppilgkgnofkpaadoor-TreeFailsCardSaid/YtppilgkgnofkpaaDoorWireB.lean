/- What package wire's Reader answers, as contracts on calls: a reader's block holds what is left and the first error. No condition but on sizes. -/
import Derived.Test.YtppilgkgnofkpaaDoorWireA
import Derived.Test.YtppilgkgnofkpaaDoorVee
set_option linter.unusedSimpArgs false
set_option linter.unusedVariables false

namespace Go.Proofs.YtppilgkgnofkpaaDoor
open Go.RowKit Go.Kin

/-- block g is a reader: l is left, of bytes that lie in block o, e its error -/
def Rdr (w : World) (g o : Nat) (l : List UInt8) (e : Int) : Prop :=
  ∃ v, w.heap[g]? = some (.cells #[v, .int .i64 e] 207 (0, 0)) ∧ Sl w v l.length (bvs l) ∧ v.ownBlock ≠ some g ∧ ∀ k, v.ownBlock = some k → k = o
def only (g : Nat) : Nat → Prop := fun k => k = g

theorem Rdr.lt {w : World} {g o : Nat} {l : List UInt8} {e : Int} (h : Rdr w g o l e) : g < w.heap.size := by
  obtain ⟨v, h1, _⟩ := h
  exact lt_of_block h1

theorem Rdr.ch {S : Nat → Prop} {w w' : World} {g o : Nat} {l : List UInt8} {e : Int} (h : Rdr w g o l e) (hc : Ch S w w') (hg : ¬ S g) (ho : ¬ S o) : Rdr w' g o l e := by
  obtain ⟨v, h1, h2, h3, h4⟩ := h
  exact ⟨v, hc.obj h1 hg, h2.ch hc (fun k hk e => ho (by rw [← h4 k hk]; exact e)), h3, h4⟩

theorem blk_cells {w : World} {g : Nat} {v u : Value} {T : Nat} (hb : w.heap[g]? = some (.cells #[v, u] T (0, 0))) :
    w.cell? ⟨g, 0, none⟩ = some v ∧ w.cell? ⟨g, 1, none⟩ = some u ∧ w.frozen? ⟨g, 0, none⟩ = false ∧ w.frozen? ⟨g, 1, none⟩ = false := by
  simp [World.cell?, World.frozen?, hb]
theorem blk_set0 {w : World} {g : Nat} {v u x : Value} {T : Nat} (hb : w.heap[g]? = some (.cells #[v, u] T (0, 0))) : (w.setCell ⟨g, 0, none⟩ x).heap[g]? = some (.cells #[x, u] T (0, 0)) := by
  simp [World.setCell, Array.getElem?_modify, hb]
theorem blk_set1 {w : World} {g : Nat} {v u x : Value} {T : Nat} (hb : w.heap[g]? = some (.cells #[v, u] T (0, 0))) : (w.setCell ⟨g, 1, none⟩ x).heap[g]? = some (.cells #[v, x] T (0, 0)) := by
  simp [World.setCell, Array.getElem?_modify, hb]

theorem fail_yes (g : Nat) {o : Nat} (l : List UInt8) (e : Int) (w : World) (h : Rdr w g o l 0) :
    Ret Tryd.prog 120 #[.pointer (some ⟨g, 0, none⟩), .int .i64 e] w fun v' w' => v' = .tuple #[] ∧ Rdr w' g o [] e ∧ Ch (only g) w w' := by
  obtain ⟨v, hb, hs, hne, hno⟩ := h
  refine v_enter Tryd.func120 Tryd.ntmps120 rfl (by simp) fun R' hR => ?_
  obtain ⟨h0, h1, f0, f1⟩ := blk_cells hb
  simp [go_sem, h0, h1, f0, f1]
  refine hR _ _ ⟨rfl, ⟨.slice none 0 0, ?_, Sl.nil _, by simp [Value.ownBlock]⟩, ?_⟩
  · exact blk_set1 (blk_set0 hb)
  · exact ((Ch.refl (only g) w).setCell (p := ⟨g, 0, none⟩) (.inl rfl) _).setCell (p := ⟨g, 1, none⟩) (.inl rfl) _
theorem fail_no (g : Nat) {o : Nat} (l : List UInt8) (e e0 : Int) (w : World) (h : Rdr w g o l e0) (he : e0 ≠ 0) :
    Ret Tryd.prog 120 #[.pointer (some ⟨g, 0, none⟩), .int .i64 e] w fun v' w' => v' = .tuple #[] ∧ w' = w := by
  obtain ⟨v, hb, hs, hne, hno⟩ := h
  refine v_enter Tryd.func120 Tryd.ntmps120 rfl (by simp) fun R' hR => ?_
  obtain ⟨h0, h1, f0, f1⟩ := blk_cells hb
  have he' : (e0 == 0) = false := by simpa using he
  simp [go_sem, h1, he']
  exact hR _ _ ⟨rfl, rfl⟩
/-- what fail does -/
def failS (l : List UInt8) (e0 e : Int) : List UInt8 × Int := if e0 = 0 then ([], e) else (l, e0)
theorem fail_any (g : Nat) {o : Nat} (l : List UInt8) (e e0 : Int) (w : World) (h : Rdr w g o l e0) :
    Ret Tryd.prog 120 #[.pointer (some ⟨g, 0, none⟩), .int .i64 e] w fun v' w' => v' = .tuple #[] ∧ Rdr w' g o (failS l e0 e).1 (failS l e0 e).2 ∧ Ch (only g) w w' := by
  unfold failS
  by_cases he : e0 = 0
  · subst he
    exact (fail_yes g l e w h).mono fun v' w' h => by simpa using h
  · refine (fail_no g l e e0 w h he).mono ?_
    rintro v' w' ⟨rfl, rfl⟩
    rw [if_neg he]
    exact ⟨rfl, h, Ch.refl _ _⟩

/-- what take, and so Raw, answers, and what is left -/
def rawS (l : List UInt8) (e : Int) (n : Nat) : List UInt8 × List UInt8 × Int :=
  if e ≠ 0 then ([], l, e) else if l.length < n then ([], [], 4) else (l.take n, l.drop n, 0)

theorem take_any (g : Nat) {o : Nat} (l : List UInt8) (e : Int) (n : Nat) (w : World) (hl : l.length ≤ 1000000000) (h : Rdr w g o l e) :
    Ret Tryd.prog 131 #[.pointer (some ⟨g, 0, none⟩), .int .i64 n] w fun v' w' =>
      Sl w' v' (rawS l e n).1.length (bvs (rawS l e n).1) ∧ v'.ownBlock ≠ some g ∧ Rdr w' g o (rawS l e n).2.1 (rawS l e n).2.2 ∧ Ch (only g) w w' := by
  have h' := h
  obtain ⟨v, hb, hs, hne, hno⟩ := h
  obtain ⟨h0, h1, f0, f1⟩ := blk_cells hb
  have hlen := hs.len Tryd.underlying29 3
  refine v_enter Tryd.func131 Tryd.ntmps131 rfl (by simp) fun R' hR => ?_
  by_cases hlt : l.length < n
  · simp [go_sem, h0, hlen, hlt]
    refine (fail_any g l 4 e w h').mono ?_
    rintro v' w' ⟨rfl, hr, hc⟩
    have hne' : (failS l e 4).2 ≠ 0 := by unfold failS; split <;> simp [*]
    have hr' := hr
    obtain ⟨v2, hb2, hs2, hn2, hno2⟩ := hr
    obtain ⟨h20, h21, f20, f21⟩ := blk_cells hb2
    have he' : ((failS l e 4).2 != 0) = true := by simpa using hne'
    simp [go_sem, h21, he']
    refine hR (.slice none 0 0) _ ⟨?_, by simp [Value.ownBlock], ?_, hc⟩
    · unfold rawS
      split <;> simp [bvs, Sl.nil]
    · unfold rawS failS at *
      by_cases he : e = 0
      · simpa [he, hlt] using hr'
      · simpa [he] using hr'
  · by_cases he : e = 0
    · subst he
      obtain ⟨v1, hs1, ho1, hr1⟩ := hs.cut3 tyB (bvs_length l) n (by omega)
      obtain ⟨v2, hs2, ho2, _, _, hr2⟩ := hs.cut tyB (bvs_length l) n l.length (by omega) (Nat.le_refl _)
      have hr2 := hr2 rfl
      obtain ⟨A2, c2, rfl, _⟩ := id hs2
      simp [go_sem, h0, h1, f0, hlen, hlt, hr1, hr2]
      have hn1 : v1.ownBlock ≠ some g := by rw [ho1]; exact hne
      have hn2 : (Value.slice A2 (l.length - n) c2).ownBlock ≠ some g := by rw [ho2]; exact hne
      have hc : Ch (only g) w (w.setCell ⟨g, 0, none⟩ (.slice A2 (l.length - n) c2)) := (Ch.refl (only g) w).setCell (p := ⟨g, 0, none⟩) (.inl rfl) _
      have nn : ∀ {v : Value}, v.ownBlock ≠ some g → ∀ k, v.ownBlock = some k → ¬ only g k := fun h k hk e => h (by rw [hk, e])
      have e1 : rawS l 0 n = (l.take n, l.drop n, 0) := by simp [rawS, hlt]
      rw [e1] at hR
      refine hR v1 _ ⟨?_, hn1, ⟨_, blk_set0 hb, ?_, hn2, by rw [ho2]; exact hno⟩, hc⟩
      · have := hs1.ch hc (nn hn1)
        simpa [bvs, List.map_take, show min n l.length = n by omega] using this
      · have := hs2.ch hc (nn hn2)
        rw [show l.length = (bvs l).length from (bvs_length l).symm, List.take_length] at this
        simpa [bvs, List.map_drop] using this
    · have he' : (e != 0) = true := by simpa using he
      simp [go_sem, h0, h1, hlen, hlt, he']
      refine hR (.slice none 0 0) _ ⟨?_, by simp [Value.ownBlock], ?_, Ch.refl _ _⟩
      · simp [rawS, he, bvs, Sl.nil]
      · simpa [rawS, he] using h'

/-- Raw at a reader. -/
theorem raw_any (g : Nat) {o : Nat} (l : List UInt8) (e : Int) (n : Int) (w : World) (hn : n ≤ 9223372036854775807) (hl : l.length ≤ 1000000000) (h : Rdr w g o l e) :
    Ret Tryd.prog 112 #[.pointer (some ⟨g, 0, none⟩), .int .i64 n] w fun v' w' =>
      w'.ownsRow 0 5 1 v' (rawS l e n.toNat).1.length (bvs (rawS l e n.toNat).1) ∧ Fresh w.heap.size v' ∧ Rdr w' g o (rawS l e n.toNat).2.1 (rawS l e n.toNat).2.2 ∧ Ch (only g) w w' := by
  refine v_enter Tryd.func112 Tryd.ntmps112 rfl (by simp) fun R' hR => ?_
  simp [go_sem]
  rw [show (if n < 0 then 0 else n) = ((n.toNat : Nat) : Int) by split <;> omega]
  refine (take_any g l e n.toNat w hl h).mono ?_
  rintro v1 w1 ⟨hs1, hn1, hr1, hc1⟩
  simp [go_sem]
  have hl1 : (rawS l e n.toNat).1.length ≤ 1000000000 := by
    unfold rawS
    split
    · simp
    · split
      · simp
      · simp; omega
  refine (clone_any v1 _ _ w1 hl1 rfl hs1).mono ?_
  rintro v2 w2 ⟨k1, k2, k3⟩
  simp [go_sem]
  have hf : Fresh w.heap.size v2 := k3.mono hc1.size
  refine hR _ _ ⟨k1, hf, ?_, hc1.trans' k2 fun _ _ e => e.elim⟩
  obtain ⟨v3, b1, b2, b3⟩ := hr1
  exact ⟨v3, k2.obj b1 (fun e => e), b2.ch k2 (fun _ _ e => e), b3⟩

theorem raw_nil (n : Int) (w : World) : Ret Tryd.prog 112 #[.pointer none, .int .i64 n] w fun v' w' => v' = .slice none 0 0 ∧ w' = w := by
  refine v_enter Tryd.func112 Tryd.ntmps112 rfl (by simp) fun R' hR => ?_
  simp [go_sem]
  exact hR _ _ ⟨rfl, rfl⟩

theorem new_any (v : Value) (l : List UInt8) (w : World) (hl : l.length ≤ 1000000000) (hs : Sl w v l.length (bvs l)) :
    Ret Tryd.prog 91 #[v] w fun v' w' => ∃ g o, v' = .pointer (some ⟨g, 0, none⟩) ∧ w.heap.size ≤ g ∧ w.heap.size ≤ o ∧ o < w'.heap.size ∧ Rdr w' g o l 0 ∧ Ch Nw w w' := by
  refine v_enter Tryd.func91 Tryd.ntmps91 rfl (by simp) fun R' hR => ?_
  simp [go_sem]
  refine (clone_any v _ _ w hl rfl hs).mono ?_
  rintro v1 w1 ⟨k1, k2, k3⟩
  obtain ⟨A, c, rfl, _⟩ := Sl.of_own k1
  simp [go_sem]
  have hz := k2.size
  cases A with
  | none =>
    refine hR _ _ ⟨w1.heap.size, w1.heap.size, rfl, k2.size, k2.size, by simp, ⟨_, heap_alloc_new w1 _, (Sl.of_own k1).alloc _, fun e => by simp [Value.ownBlock] at e, fun k e => by simp [Value.ownBlock] at e⟩, k2.alloc _⟩
  | some ad =>
    have h1 := (k1.lt ad.block rfl).2
    have h2 := k3 ad.block rfl
    refine hR _ _ ⟨w1.heap.size, ad.block, rfl, k2.size, h2, by simp; omega, ⟨_, heap_alloc_new w1 _, (Sl.of_own k1).alloc _, fun e => ?_, fun k e => ?_⟩, k2.alloc _⟩
    · simp [Value.ownBlock] at e; omega
    · simp [Value.ownBlock] at e; omega

theorem bad_any (g : Nat) {o : Nat} (l : List UInt8) (e : Int) (w : World) (h : Rdr w g o l e) :
    Ret Tryd.prog 119 #[.pointer (some ⟨g, 0, none⟩)] w fun v' w' => v' = .tuple #[] ∧ Rdr w' g o (failS l e 5).1 (failS l e 5).2 ∧ Ch (only g) w w' := by
  refine v_enter Tryd.func119 Tryd.ntmps119 rfl (by simp) fun R' hR => ?_
  simp [go_sem]
  refine (fail_any g l 5 e w h).mono ?_
  rintro v1 w1 ⟨rfl, k1, k2⟩
  simp [go_sem]
  exact hR _ _ ⟨rfl, k1, k2⟩
theorem bad_nil (w : World) : Ret Tryd.prog 119 #[.pointer none] w fun v' w' => v' = .tuple #[] ∧ w' = w := by
  refine v_enter Tryd.func119 Tryd.ntmps119 rfl (by simp) fun R' hR => ?_
  simp [go_sem]
  exact hR _ _ ⟨rfl, rfl⟩
theorem left_any (g : Nat) {o : Nat} (l : List UInt8) (e : Int) (w : World) (h : Rdr w g o l e) :
    Ret Tryd.prog 118 #[.pointer (some ⟨g, 0, none⟩)] w fun v' w' => v' = .int .i64 l.length ∧ w' = w := by
  obtain ⟨v, hb, hs, hne, hno⟩ := h
  obtain ⟨h0, h1, f0, f1⟩ := blk_cells hb
  have hlen := hs.len Tryd.underlying29 3
  refine v_enter Tryd.func118 Tryd.ntmps118 rfl (by simp) fun R' hR => ?_
  simp [go_sem, h0, hlen]
  exact hR _ _ ⟨rfl, rfl⟩
theorem left_nil (w : World) : Ret Tryd.prog 118 #[.pointer none] w fun v' w' => v' = .int .i64 0 ∧ w' = w := by
  refine v_enter Tryd.func118 Tryd.ntmps118 rfl (by simp) fun R' hR => ?_
  simp [go_sem]
  exact hR _ _ ⟨rfl, rfl⟩
theorem err_any (g : Nat) {o : Nat} (l : List UInt8) (e : Int) (w : World) (h : Rdr w g o l e) :
    Ret Tryd.prog 121 #[.pointer (some ⟨g, 0, none⟩)] w fun v' w' => v' = .int .i64 e ∧ w' = w := by
  obtain ⟨v, hb, hs, hne, hno⟩ := h
  obtain ⟨h0, h1, f0, f1⟩ := blk_cells hb
  refine v_enter Tryd.func121 Tryd.ntmps121 rfl (by simp) fun R' hR => ?_
  simp [go_sem, h1]
  exact hR _ _ ⟨rfl, rfl⟩
theorem err_nil (w : World) : Ret Tryd.prog 121 #[.pointer none] w fun v' w' => v' = .int .i64 2 ∧ w' = w := by
  refine v_enter Tryd.func121 Tryd.ntmps121 rfl (by simp) fun R' hR => ?_
  simp [go_sem]
  exact hR _ _ ⟨rfl, rfl⟩
def endS (l : List UInt8) (e : Int) : List UInt8 × Int := if 0 < l.length then failS l e 5 else (l, e)
theorem end_any (g : Nat) {o : Nat} (l : List UInt8) (e : Int) (w : World) (h : Rdr w g o l e) :
    Ret Tryd.prog 95 #[.pointer (some ⟨g, 0, none⟩)] w fun v' w' => v' = .int .i64 (endS l e).2 ∧ Rdr w' g o (endS l e).1 (endS l e).2 ∧ Ch (only g) w w' := by
  refine v_enter Tryd.func95 Tryd.ntmps95 rfl (by simp) fun R' hR => ?_
  simp [go_sem]
  refine (left_any g l e w h).mono ?_
  rintro v1 w1 ⟨rfl, rfl⟩
  by_cases hl : 0 < l.length
  · simp [go_sem, hl]
    refine (fail_any g l 5 e w1 h).mono ?_
    rintro v2 w2 ⟨rfl, k1, k2⟩
    simp [go_sem]
    refine (err_any g _ _ w2 k1).mono ?_
    rintro v3 w3 ⟨rfl, rfl⟩
    simp [go_sem]
    exact hR _ _ (by simpa [endS, hl] using ⟨k1, k2⟩)
  · simp [go_sem, hl]
    refine (err_any g _ _ w1 h).mono ?_
    rintro v3 w3 ⟨rfl, rfl⟩
    simp [go_sem]
    exact hR _ _ (by simpa [endS, hl] using ⟨h, Ch.refl _ _⟩)
theorem end_nil (w : World) : Ret Tryd.prog 95 #[.pointer none] w fun v' w' => v' = .int .i64 2 ∧ w' = w := by
  refine v_enter Tryd.func95 Tryd.ntmps95 rfl (by simp) fun R' hR => ?_
  simp [go_sem]
  refine (left_nil w).mono ?_
  rintro v1 w1 ⟨rfl, rfl⟩
  simp [go_sem]
  refine (err_nil _).mono ?_
  rintro v1 w1 ⟨rfl, rfl⟩
  simp [go_sem]
  exact hR _ _ ⟨rfl, rfl⟩
end Go.Proofs.YtppilgkgnofkpaaDoor
