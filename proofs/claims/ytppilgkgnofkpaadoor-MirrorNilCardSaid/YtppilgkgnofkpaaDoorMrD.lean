/- The mirror's copies, mended. No condition but on sizes. -/
import Derived.Test.YtppilgkgnofkpaaDoorMrC
set_option linter.unusedSimpArgs false
set_option linter.unusedVariables false

namespace Go.Proofs.YtppilgkgnofkpaaDoor
open Go.RowKit Go.Kin

/-- numbers that are not too great -/
structure Mr.Fine (s : Mr) (c : Nat) : Prop where
  fuse : s.P.fuse ≤ 9223372036854775807
  cache : ∀ i, i < 2 → (s.dk i).cache.length ≤ c
  astray : ∀ i, i < 2 → ∀ x, (s.dk i).astray = some x → x < 65536
  found : ∀ i, s.found i ≤ c
  mended : ∀ i, s.mended i ≤ c
  moves : s.moves.length ≤ c
theorem gr2 {O : Nat → Prop} {w w1 w2 : World} (h1 : w.heap.size ≤ w1.heap.size) (h2 : w1.heap.size ≤ w2.heap.size) {k : Nat} (h : Gr (Gr O w w1) w1 w2 k) : Gr O w w2 k := by
  rcases h with (h | h) | h
  · exact .inl h
  · exact .inr ⟨h.1, by omega⟩
  · exact .inr ⟨by omega, h.2⟩
theorem Dk.write_cache (n : Nat) (D : Dk) (P : Pwr) (a : Nat) (b : Byts) : (D.write n P a b).cache.length ≤ D.cache.length + 1 ∧ ((D.write n P a b).astray = D.astray ∨ (D.write n P a b).astray = none) := by
  unfold Dk.write Dk.put
  split
  · split
    · exact ⟨Nat.le_succ _, .inl rfl⟩
    · cases hda : D.astray with
      | none =>
        simp only [hda]
        split
        · simp [hda]
        · simp [hda]
      | some x =>
        simp only [hda]
        split
        · simp
        · simp
  · exact ⟨Nat.le_succ _, .inl rfl⟩
theorem Dk.wpow_fuse (n : Nat) (D : Dk) (P : Pwr) (a : Nat) (b : Byts) (h : P.fuse ≤ 9223372036854775807) : (D.wpow n P a b).fuse ≤ 9223372036854775807 := by
  unfold Dk.wpow
  split
  · exact h
  · split
    · exact h
    · exact Pwr.step_fuse h (by decide)
section
variable {w w' : World} {m p n i : Nat} {z : Mz} {s : Mr} {mv : Value} {A : Nat → Nat → Prop} {O O' S : Nat → Prop} {c : Nat}
theorem Mr.Fine.writ (h : s.Fine c) (q : Pt) (b : Byts) (k : Nat) : (s.writ n q b k).Fine (c + 1) := by
  unfold Mr.writ
  have hw := Dk.write_cache n (s.dk (k / 2)) s.P (adr q k) b
  refine ⟨Dk.wpow_fuse _ _ _ _ _ h.fuse, fun i hi => ?_, fun i hi => ?_, fun i => Nat.le_succ_of_le (h.found i), fun i => Nat.le_succ_of_le (h.mended i), Nat.le_succ_of_le h.moves⟩
  · by_cases e : i = k / 2
    · subst e; simp only [upd1_same]; have := h.cache _ hi; omega
    · simp only [upd1_ne _ _ e]; have := h.cache _ hi; omega
  · by_cases e : i = k / 2
    · subst e
      simp only [upd1_same]
      rcases hw.2 with e | e
      · rw [e]; exact h.astray _ hi
      · rw [e]; simp
    · simp only [upd1_ne _ _ e]; exact h.astray _ hi
theorem Mr.Fine.mend (h : s.Fine c) (q : Pt) (b : Byts) (k : Nat) : (s.mend n q b k).Fine (c + 1) := by
  have h1 := h.writ (n := n) q b k
  unfold Mr.mend
  simp only
  split
  · refine ⟨h1.fuse, h1.cache, h1.astray, h1.found, fun i => ?_, h1.moves⟩
    simp only [upd1]
    have := h.mended i
    have e : (s.writ n q b k).mended = s.mended := rfl
    rw [e]
    have := h.mended (k / 2)
    split <;> omega
  · have h2 : ((s.writ n q b k).sicks n (k / 2) (adr q k)).Fine (c + 1) := by
      unfold Mr.sicks
      split
      · exact h1
      · exact ⟨h1.fuse, h1.cache, h1.astray, h1.found, h1.mended, h1.moves⟩
    have hm : ((s.writ n q b k).sicks n (k / 2) (adr q k)).moves = s.moves := by unfold Mr.sicks; split <;> rfl
    unfold Mr.moved
    split
    · exact h2
    · refine ⟨h2.fuse, h2.cache, h2.astray, h2.found, h2.mended, ?_⟩
      simp only [hm, List.length_append, List.length_singleton]
      have := h.moves
      omega
theorem MrAt.weak (h : MrAt w m p n z s O) (hO : ∀ k, O k → O' k) (hl : ∀ k, O' k → k < w.heap.size) : MrAt w m p n z s O' := by
  obtain ⟨mv, A, h1, h2, _⟩ := h
  exact ⟨mv, A, h1, fun k hk => hO k (h2 k hk), hl⟩
theorem MrAt.lt (h : MrAt w m p n z s O) : ∀ k, O k → k < w.heap.size := by
  obtain ⟨_, _, _, _, h3⟩ := h
  exact h3
theorem MrAt.own (h : MrAt w m p n z s O) : O m ∧ O z.sp ∧ O p := by
  obtain ⟨_, _, _, h2, _⟩ := h
  exact ⟨h2 _ (.inl (.inl rfl)), h2 _ (.inl (.inr (.inl rfl))), h2 _ (.inr (.inr (.inr rfl)))⟩
/-- a disk's step -/
theorem MrAt.disk {f : FuncId} {args : Array Value} {D' : Dk} {P' : Pwr} {R : Value → World → Prop} (h : MrAt w m p n z s O) (hi : i < 2)
    (hd : ∀ B, Sd w (z.d i) p n (s.dk i) s.P B → (∀ k, B k → O k) → Ret Tryd.prog f args w fun v' w' => R v' w' ∧ Sd w' (z.d i) p n D' P' (Gr B w w') ∧ Ch (fun k => B k ∨ k = p) w w') :
    Ret Tryd.prog f args w fun v' w' => R v' w' ∧ MrAt w' m p n z { s with dk := upd1 s.dk i D', P := P' } (Gr O w w') ∧ Ch O w w' := by
  obtain ⟨mv, A, h1, h2, h3⟩ := h
  have hA : ∀ k, A i k → O k := fun k hk => h2 k (by rcases lt2 hi with rfl | rfl; exact .inr (.inl hk); exact .inr (.inr (.inl hk)))
  refine (hd (A i) (h1.sd i hi) hA).mono ?_
  rintro v' w' ⟨hR, h4, h5⟩
  refine ⟨hR, ⟨mv, _, h1.disk hi h4 h5, fun k hk => (h1.diskO hi hk).imp (h2 k) id, Gr.lt h3 h5.size⟩, h5.mono fun k _ e => e.elim (hA k) fun e => by subst e; exact h2 _ (.inr (.inr (.inr rfl)))⟩
/-- the moves, held against a pointer -/
theorem mv_at (h : w.ownsRow 0 28 41 mv s.moves.length (rowsL pt s.moves)) (ok : ∀ q ∈ s.moves, PtOk q) {k : Nat} {x : Pt} (hk : s.moves[k]? = some x) : ∃ g cap cur, mv = .slice (some ⟨g, 0, none⟩) s.moves.length cap ∧ s.moves.length ≤ cap ∧ w.heap[g]? = some (.cells cur 28 (0, 0)) ∧ cur.extract (k * 41) (k * 41 + 41) = pt x ∧ k * 41 + 41 ≤ cur.size := by
  have hkl := (List.getElem?_eq_some_iff.1 hk).1
  rcases h.2 with ⟨_, h0⟩ | ⟨g, cap, cur, hv, _, hgb, hc, _, hsz, ht⟩
  · omega
  refine ⟨g, cap, cur, hv, hc, hgb, ?_, by omega⟩
  have hr := rows_get (f := pt) (n := 41) (fun x hx => pt_size (ok x hx)) hk
  rw [← hr]
  apply Array.ext'
  rw [Array.toList_extract, Array.toList_extract, List.extract_eq_take_drop, List.extract_eq_take_drop, show (rowsOf pt s.moves).toList = rowsL pt s.moves by simp [rowsOf], ← ht]
  rw [List.drop_take, List.take_take]
  congr 1
  omega
set_option maxRecDepth 100000 in
theorem contains_any (h : w.ownsRow 0 28 41 mv s.moves.length (rowsL pt s.moves)) (ok : ∀ q ∈ s.moves, PtOk q) (q : Pt) (okq : PtOk q) (hl : s.moves.length ≤ 1000000) : Ret Tryd.prog 85 #[mv, .agg (pt q)] w fun v' w' => v' = .bool (s.moves.contains q) ∧ Ch Nw w w' := by
  have hps := pt_size okq
  have hpa := pt_all okq
  have hix : ∀ w0, Ch Nw w w0 → Ret Tryd.prog 104 #[mv, .agg (pt q)] w0 fun v' w' => (∃ k : Int, v' = .int .i64 k ∧ decide (0 ≤ k) = s.moves.contains q) ∧ Ch Nw w0 w' := fun w0 c0 => by
    refine v_enter Tryd.func104 Tryd.ntmps104 rfl (by simp) fun R' hR => ?_
    have hlen : ∀ w', (Builtin.len_ #[48] 3 #[mv]).run Tryd.prog w' = .ok (.int .i64 s.moves.length) w' := fun w' => by
      rcases h.2 with ⟨hv, h0⟩ | ⟨g, cap, cur, hv, _⟩
      · subst hv; simp [Builtin.len_, run_underlying Tryd.underlying48, goInt, h0]
      · subst hv; simp [Builtin.len_, run_underlying Tryd.underlying48, goInt]
    have b0 := hp_alloc w0 (.cells (pt q) 28)
    have ca := (Ch.refl Nw w0).alloc (.cells (pt q) 28)
    simp [go_sem, hlen]
    obtain ⟨g0, hg0⟩ : ∃ g, w0.heap.size = g := ⟨_, rfl⟩
    rw [hg0] at b0 ⊢
    generalize w0.alloc (.cells (pt q) 28) = w1 at *
    refine v_loop (fun r f u => ∃ k, r = s.moves.length - k ∧ k ≤ s.moves.length ∧ f 8 = .int .i64 k ∧ f 7 = .int .i64 s.moves.length ∧ f 0 = mv ∧ f 3 = .pointer (some ⟨g0, 0, none⟩) ∧ (∀ j x, j < k → s.moves[j]? = some x → x ≠ q) ∧ Ch Nw w1 u) s.moves.length
      ⟨0, rfl, Nat.zero_le _, by simp, by simp, by simp, by simp, fun j x hj => by omega, Ch.refl _ _⟩ ?_
    rintro J hJ _ f u ⟨k, rfl, hk, f8, f7, f0, f3, hno, cu⟩
    have bu := cu.obj b0 id
    by_cases hlt : k < s.moves.length
    · have hlti : (k : Int) < s.moves.length := by omega
      obtain ⟨x, hx⟩ : ∃ x, s.moves[k]? = some x := ⟨_, List.getElem?_eq_getElem hlt⟩
      have okx := ok x (List.mem_of_getElem? hx)
      obtain ⟨g, cap, cur, hmv, hcap, hgb, hex, hsz⟩ := mv_at h ok hx
      have hgu := (c0.trans (ca.trans cu)).obj hgb id
      have hgud := ((Ch.refl Nw u).drew).obj hgu id
      have hbud := ((Ch.refl Nw u).drew).obj bu id
      have hwk : IntKind.i64.wrap ((k : Int) + 1) = (k : Int) + 1 := by rw [IntKind.wrap_i64]; omega
      have heq := fun w => eq_pt (w := w) okq okx
      have hxs := pt_size okx
      simp [go_sem, f8, f7, hlt, hlti]
      refine v_draw' [(0, none), (1, none), (2, none), (3, none), (4, none), (5, none)] (by kernel_rfl) (by kernel_rfl) ?_
      rw [hmv] at f0
      simp [go_sem, f0, f3, hlt, hlti, hgu, hgud, bu, hbud, hps, hpa, hex, hsz, Op.equal, Op.maxDepth, heq]
      by_cases hqx : q = x
      · simp [go_sem, hqx]
        refine hR _ _ ⟨⟨k, rfl, ?_⟩, ca.trans (cu.trans (Ch.refl Nw u).drew)⟩
        have : q ∈ s.moves := by rw [hqx]; exact List.mem_of_getElem? hx
        rw [show s.moves.contains q = true by simpa using this]
        simp
      · simp [go_sem, hqx, f8, f7, hwk]
        refine Rnd.intro (s.moves.length - (k + 1)) (by omega) (hJ _ _ _ ⟨k + 1, rfl, by omega, by simp, by simp [f7], by simp [f0, hmv], by simp [f3], fun j y hj hy => ?_, cu.trans (Ch.refl Nw u).drew⟩)
        by_cases hjk : j = k
        · subst hjk
          rw [hx] at hy
          cases hy
          exact fun e => hqx e.symm
        · exact hno j y (by omega) hy
    · have hlti : ¬ (k : Int) < s.moves.length := by omega
      simp [go_sem, f8, f7, hlt, hlti]
      refine hR _ _ ⟨⟨-1, rfl, ?_⟩, ca.trans cu⟩
      have : ¬ q ∈ s.moves := fun hq => by
        obtain ⟨j, hj⟩ := List.mem_iff_getElem?.1 hq
        exact hno j q (by have := (List.getElem?_eq_some_iff.1 hj).1; omega) hj rfl
      rw [show s.moves.contains q = false by simpa using this]
      decide
  refine v_enter Tryd.func85 Tryd.ntmps85 rfl (by simp) fun R' hR => ?_
  have ca := (Ch.refl Nw w).alloc (.cells (pt q) 28)
  simp [go_sem, hps, hpa]
  refine (hix _ ca).mono ?_
  rintro _ w1 ⟨⟨k, rfl, hk⟩, c1⟩
  simp [go_sem]
  exact hR _ _ ⟨by rw [← hk], ca.trans c1⟩
end
end Go.Proofs.YtppilgkgnofkpaaDoor
