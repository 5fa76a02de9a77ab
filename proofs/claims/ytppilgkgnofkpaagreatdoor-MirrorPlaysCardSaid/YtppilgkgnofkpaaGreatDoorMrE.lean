/- The mirror's copies, mended; healed. No condition but on sizes. -/
import Derived.Test.YtppilgkgnofkpaaGreatDoorMrC
import Derived.Test.YtppilgkgnofkpaaGreatDoorBsl
set_option linter.unusedSimpArgs false
set_option linter.unusedVariables false

/- The mirror's copies, mended. No condition but on sizes. -/
namespace Go.Proofs.YtppilgkgnofkpaaGreatDoor
open Go.RowKit Go.Kin

/-- numbers that are not too great -/
structure Mr.Fine (s : Mr) (c : Nat) : Prop where
  fuse : s.P.fuse ≤ 9223372036854775807
  cache : ∀ i, i < 2 → (s.dk i).cache.length ≤ c
  astray : ∀ i, i < 2 → ∀ x, (s.dk i).astray = some x → x < 65536
  found : ∀ i, s.found i ≤ c
  mended : ∀ i, s.mended i ≤ c
  moves : s.moves.length ≤ c
theorem gr2 {O : Nat → Prop} {w w1 w2 : World} (h1 : w.heap.size ≤ w1.heap.size) (h2 : w1.heap.size ≤ w2.heap.size) {k : Nat} (h : Gr (Gr O w w1) w1 w2 k) : Gr O w w2 k := by
  rcases h with (h | h) | h
  · exact .inl h
  · exact .inr ⟨h.1, by omega⟩
  · exact .inr ⟨by omega, h.2⟩
theorem Dk.write_cache (n : Nat) (D : Dk) (P : Pwr) (a : Nat) (b : Byts) : (D.write n P a b).cache.length ≤ D.cache.length + 1 ∧ ((D.write n P a b).astray = D.astray ∨ (D.write n P a b).astray = none) := by
  unfold Dk.write Dk.put
  split
  · split
    · exact ⟨Nat.le_succ _, .inl rfl⟩
    · cases hda : D.astray with
      | none =>
        simp only [hda]
        split
        · simp [hda]
        · simp [hda]
      | some x =>
        simp only [hda]
        split
        · simp
        · simp
  · exact ⟨Nat.le_succ _, .inl rfl⟩
theorem Dk.wpow_fuse (n : Nat) (D : Dk) (P : Pwr) (a : Nat) (b : Byts) (h : P.fuse ≤ 9223372036854775807) : (D.wpow n P a b).fuse ≤ 9223372036854775807 := by
  unfold Dk.wpow
  split
  · exact h
  · split
    · exact h
    · exact Pwr.step_fuse h (by decide)
section
variable {w w' : World} {m p n i : Nat} {z : Mz} {s : Mr} {mv : Value} {A : Nat → Nat → Prop} {O O' S : Nat → Prop} {c : Nat}
theorem Mr.Fine.writ (h : s.Fine c) (q : Pt) (b : Byts) (k : Nat) : (s.writ n q b k).Fine (c + 1) := by
  unfold Mr.writ
  have hw := Dk.write_cache n (s.dk (k / 2)) s.P (adr q k) b
  refine ⟨Dk.wpow_fuse _ _ _ _ _ h.fuse, fun i hi => ?_, fun i hi => ?_, fun i => Nat.le_succ_of_le (h.found i), fun i => Nat.le_succ_of_le (h.mended i), Nat.le_succ_of_le h.moves⟩
  · by_cases e : i = k / 2
    · subst e; simp only [upd1_same]; have := h.cache _ hi; omega
    · simp only [upd1_ne _ _ e]; have := h.cache _ hi; omega
  · by_cases e : i = k / 2
    · subst e
      simp only [upd1_same]
      rcases hw.2 with e | e
      · rw [e]; exact h.astray _ hi
      · rw [e]; simp
    · simp only [upd1_ne _ _ e]; exact h.astray _ hi
theorem Mr.Fine.mend (h : s.Fine c) (q : Pt) (b : Byts) (k : Nat) : (s.mend n q b k).Fine (c + 1) := by
  have h1 := h.writ (n := n) q b k
  unfold Mr.mend
  simp only
  split
  · refine ⟨h1.fuse, h1.cache, h1.astray, h1.found, fun i => ?_, h1.moves⟩
    simp only [upd1]
    have := h.mended i
    have e : (s.writ n q b k).mended = s.mended := rfl
    rw [e]
    have := h.mended (k / 2)
    split <;> omega
  · have h2 : ((s.writ n q b k).sicks n (k / 2) (adr q k)).Fine (c + 1) := by
      unfold Mr.sicks
      split
      · exact h1
      · exact ⟨h1.fuse, h1.cache, h1.astray, h1.found, h1.mended, h1.moves⟩
    have hm : ((s.writ n q b k).sicks n (k / 2) (adr q k)).moves = s.moves := by unfold Mr.sicks; split <;> rfl
    unfold Mr.moved
    split
    · exact h2
    · refine ⟨h2.fuse, h2.cache, h2.astray, h2.found, h2.mended, ?_⟩
      simp only [hm, List.length_append, List.length_singleton]
      have := h.moves
      omega
theorem MrAt.weak (h : MrAt w m p n z s O) (hO : ∀ k, O k → O' k) (hl : ∀ k, O' k → k < w.heap.size) : MrAt w m p n z s O' := by
  obtain ⟨mv, A, h1, h2, _⟩ := h
  exact ⟨mv, A, h1, fun k hk => hO k (h2 k hk), hl⟩
theorem MrAt.lt (h : MrAt w m p n z s O) : ∀ k, O k → k < w.heap.size := by
  obtain ⟨_, _, _, _, h3⟩ := h
  exact h3
theorem MrAt.own (h : MrAt w m p n z s O) : O m ∧ O z.sp ∧ O p := by
  obtain ⟨_, _, _, h2, _⟩ := h
  exact ⟨h2 _ (.inl (.inl rfl)), h2 _ (.inl (.inr (.inl rfl))), h2 _ (.inr (.inr (.inr rfl)))⟩
/-- a disk's step -/
theorem MrAt.disk {f : FuncId} {args : Array Value} {D' : Dk} {P' : Pwr} {R : Value → World → Prop} (h : MrAt w m p n z s O) (hi : i < 2)
    (hd : ∀ B, Sd w (z.d i) p n (s.dk i) s.P B → (∀ k, B k → O k) → Ret Tryz.prog f args w fun v' w' => R v' w' ∧ Sd w' (z.d i) p n D' P' (Gr B w w') ∧ Ch (fun k => B k ∨ k = p) w w') :
    Ret Tryz.prog f args w fun v' w' => R v' w' ∧ MrAt w' m p n z { s with dk := upd1 s.dk i D', P := P' } (Gr O w w') ∧ Ch O w w' := by
  obtain ⟨mv, A, h1, h2, h3⟩ := h
  have hA : ∀ k, A i k → O k := fun k hk => h2 k (by rcases lt2 hi with rfl | rfl; exact .inr (.inl hk); exact .inr (.inr (.inl hk)))
  refine (hd (A i) (h1.sd i hi) hA).mono ?_
  rintro v' w' ⟨hR, h4, h5⟩
  refine ⟨hR, ⟨mv, _, h1.disk hi h4 h5, fun k hk => (h1.diskO hi hk).imp (h2 k) id, Gr.lt h3 h5.size⟩, h5.mono fun k _ e => e.elim (hA k) fun e => by subst e; exact h2 _ (.inr (.inr (.inr rfl)))⟩
/-- the moves, held against a pointer -/
theorem mv_at (h : w.ownsRow 0 58 41 mv s.moves.length (rowsL pt s.moves)) (ok : ∀ q ∈ s.moves, PtOk q) {k : Nat} {x : Pt} (hk : s.moves[k]? = some x) : ∃ g cap cur, mv = .slice (some ⟨g, 0, none⟩) s.moves.length cap ∧ s.moves.length ≤ cap ∧ w.heap[g]? = some (.cells cur 58 (0, 0)) ∧ cur.extract (k * 41) (k * 41 + 41) = pt x ∧ k * 41 + 41 ≤ cur.size := by
  have hkl := (List.getElem?_eq_some_iff.1 hk).1
  rcases h.2 with ⟨_, h0⟩ | ⟨g, cap, cur, hv, _, hgb, hc, _, hsz, ht⟩
  · omega
  refine ⟨g, cap, cur, hv, hc, hgb, ?_, by omega⟩
  have hr := rows_get (f := pt) (n := 41) (fun x hx => pt_size (ok x hx)) hk
  rw [← hr]
  apply Array.ext'
  rw [Array.toList_extract, Array.toList_extract, List.extract_eq_take_drop, List.extract_eq_take_drop, show (rowsOf pt s.moves).toList = rowsL pt s.moves by simp [rowsOf], ← ht]
  rw [List.drop_take, List.take_take]
  congr 1
  omega
set_option maxRecDepth 100000 in
theorem contains_any (h : w.ownsRow 0 58 41 mv s.moves.length (rowsL pt s.moves)) (ok : ∀ q ∈ s.moves, PtOk q) (q : Pt) (okq : PtOk q) (hl : s.moves.length ≤ 1000000) : Ret Tryz.prog 106 #[mv, .agg (pt q)] w fun v' w' => v' = .bool (s.moves.contains q) ∧ Ch Nw w w' := by
  have hps := pt_size okq
  have hpa := pt_all okq
  have hix : ∀ w0, Ch Nw w w0 → Ret Tryz.prog 122 #[mv, .agg (pt q)] w0 fun v' w' => (∃ k : Int, v' = .int .i64 k ∧ decide (0 ≤ k) = s.moves.contains q) ∧ Ch Nw w0 w' := fun w0 c0 => by
    refine v_enter Tryz.func122 Tryz.ntmps122 rfl (by simp) fun R' hR => ?_
    have hlen : ∀ w', (Builtin.len_ #[43] 3 #[mv]).run Tryz.prog w' = .ok (.int .i64 s.moves.length) w' := fun w' => by
      rcases h.2 with ⟨hv, h0⟩ | ⟨g, cap, cur, hv, _⟩
      · subst hv; simp [Builtin.len_, run_underlying Tryz.underlying43, goInt, h0]
      · subst hv; simp [Builtin.len_, run_underlying Tryz.underlying43, goInt]
    have b0 := hp_alloc w0 (.cells (pt q) 58)
    have ca := (Ch.refl Nw w0).alloc (.cells (pt q) 58)
    simp [go_sem, hlen]
    obtain ⟨g0, hg0⟩ : ∃ g, w0.heap.size = g := ⟨_, rfl⟩
    rw [hg0] at b0 ⊢
    generalize w0.alloc (.cells (pt q) 58) = w1 at *
    refine v_loop (fun r f u => ∃ k, r = s.moves.length - k ∧ k ≤ s.moves.length ∧ f 8 = .int .i64 k ∧ f 7 = .int .i64 s.moves.length ∧ f 0 = mv ∧ f 3 = .pointer (some ⟨g0, 0, none⟩) ∧ (∀ j x, j < k → s.moves[j]? = some x → x ≠ q) ∧ Ch Nw w1 u) s.moves.length
      ⟨0, rfl, Nat.zero_le _, by simp, by simp, by simp, by simp, fun j x hj => by omega, Ch.refl _ _⟩ ?_
    rintro J hJ _ f u ⟨k, rfl, hk, f8, f7, f0, f3, hno, cu⟩
    have bu := cu.obj b0 id
    by_cases hlt : k < s.moves.length
    · have hlti : (k : Int) < s.moves.length := by omega
      obtain ⟨x, hx⟩ : ∃ x, s.moves[k]? = some x := ⟨_, List.getElem?_eq_getElem hlt⟩
      have okx := ok x (List.mem_of_getElem? hx)
      obtain ⟨g, cap, cur, hmv, hcap, hgb, hex, hsz⟩ := mv_at h ok hx
      have hgu := (c0.trans (ca.trans cu)).obj hgb id
      have hgud := ((Ch.refl Nw u).drew).obj hgu id
      have hbud := ((Ch.refl Nw u).drew).obj bu id
      have hwk : IntKind.i64.wrap ((k : Int) + 1) = (k : Int) + 1 := by rw [IntKind.wrap_i64]; omega
      have heq := fun w => eq_pt (w := w) okq okx
      have hxs := pt_size okx
      simp [go_sem, f8, f7, hlt, hlti]
      refine v_draw' [(0, none), (1, none), (2, none), (3, none), (4, none), (5, none)] (by kernel_rfl) (by kernel_rfl) ?_
      rw [hmv] at f0
      simp [go_sem, f0, f3, hlt, hlti, hgu, hgud, bu, hbud, hps, hpa, hex, hsz, Op.equal, Op.maxDepth, heq]
      by_cases hqx : q = x
      · simp [go_sem, hqx]
        refine hR _ _ ⟨⟨k, rfl, ?_⟩, ca.trans (cu.trans (Ch.refl Nw u).drew)⟩
        have : q ∈ s.moves := by rw [hqx]; exact List.mem_of_getElem? hx
        rw [show s.moves.contains q = true by simpa using this]
        simp
      · simp [go_sem, hqx, f8, f7, hwk]
        refine Rnd.intro (s.moves.length - (k + 1)) (by omega) (hJ _ _ _ ⟨k + 1, rfl, by omega, by simp, by simp [f7], by simp [f0, hmv], by simp [f3], fun j y hj hy => ?_, cu.trans (Ch.refl Nw u).drew⟩)
        by_cases hjk : j = k
        · subst hjk
          rw [hx] at hy
          cases hy
          exact fun e => hqx e.symm
        · exact hno j y (by omega) hy
    · have hlti : ¬ (k : Int) < s.moves.length := by omega
      simp [go_sem, f8, f7, hlt, hlti]
      refine hR _ _ ⟨⟨-1, rfl, ?_⟩, ca.trans cu⟩
      have : ¬ q ∈ s.moves := fun hq => by
        obtain ⟨j, hj⟩ := List.mem_iff_getElem?.1 hq
        exact hno j q (by have := (List.getElem?_eq_some_iff.1 hj).1; omega) hj rfl
      rw [show s.moves.contains q = false by simpa using this]
      decide
  refine v_enter Tryz.func106 Tryz.ntmps106 rfl (by simp) fun R' hR => ?_
  have ca := (Ch.refl Nw w).alloc (.cells (pt q) 58)
  simp [go_sem, hps, hpa]
  refine (hix _ ca).mono ?_
  rintro _ w1 ⟨⟨k, rfl, hk⟩, c1⟩
  simp [go_sem]
  exact hR _ _ ⟨by rw [← hk], ca.trans c1⟩
end
end Go.Proofs.YtppilgkgnofkpaaGreatDoor

namespace Go.Proofs.YtppilgkgnofkpaaGreatDoor
open Go.RowKit Go.Kin

theorem gr_mono {O : Nat → Prop} {w w1 w2 : World} (h2 : w1.heap.size ≤ w2.heap.size) {k : Nat} (h : Gr O w w1 k) : Gr O w w2 k := h.imp id fun e => ⟨e.1, by omega⟩
theorem tyPt : TyS Tryz.prog 43 58 (.agg (pt ptz)) 41 56 := ⟨Tryz.underlying43, by kernel_rfl, by rw [show (Value.agg (pt ptz)).cells = pt ptz from rfl]; exact pt_size ptz_ok, by decide⟩
theorem bsl_pt {x : Pt} (ok : PtOk x) (w : World) : (Instr.buildSlice 43 1 #[(0, .agg (pt x))]).run Tryz.prog w = .ok (.slice (some ⟨w.heap.size, 0, none⟩) 1 1) (w.alloc (.cells (pt x) 58)) :=
  run_buildSlice1 Tryz.underlying43 Tryz.sizeOf58 (by kernel_rfl : (Tryz.prog.info? 58).bind (·.zero) = some (.agg (pt ptz))) (pt_size ok) (by decide) (by decide) w
theorem mcs_mended (s : Mr) (z : Mz) (mv : Value) {i : Nat} (hi : i < 2) (x : Nat) : (mcs s z mv).setIfInBounds (3 + i * 2 + 1) (.int .i64 x) = mcs { s with mended := upd1 s.mended i x } z mv := by
  rcases lt2 hi with rfl | rfl <;> simp [mcs, upd1]
theorem mcs_at_mended (s : Mr) (z : Mz) (mv : Value) {i : Nat} (hi : i < 2) : (mcs s z mv)[3 + i * 2 + 1]? = some (.int .i64 (s.mended i)) := by
  rcases lt2 hi with rfl | rfl <;> rfl
section
variable {w w' : World} {m p n i : Nat} {z : Mz} {s : Mr} {mv : Value} {A : Nat → Nat → Prop} {O O' S : Nat → Prop} {c : Nat}
theorem MrP.move (h : MrP w m p n z s mv A) {w1 : World} {mv' : Value} {q : Pt} (cl : Ch (fun k => mv.ownBlock = some k) w w1) (own1 : w1.ownsRow 0 58 41 mv' (s.moves ++ [q]).length (rowsL pt (s.moves ++ [q]))) (ff : mv'.ownBlock = mv.ownBlock ∨ Fresh w.heap.size mv') (ok : PtOk q) :
    MrP (w1.setCell ⟨m, 7, none⟩ mv') m p n z { s with moves := s.moves ++ [q] } mv' A ∧ Ch (fun k => k = m ∨ mv.ownBlock = some k) w (w1.setCell ⟨m, 7, none⟩ mv') := by
  obtain ⟨n1, n2, n3, n4, n5, n6⟩ := h.ne
  have hnv := h.nv
  have hc : Ch (one m) w1 (w1.setCell ⟨m, 7, none⟩ mv') := (Ch.refl (one m) w1).setCell (p := ⟨m, 7, none⟩) (.inl rfl) _
  have hlt := h.olt
  have nm : ∀ k, k = m ∨ k = z.sp ∨ k = z.g 0 ∨ k = z.g 1 → ¬ mv.ownBlock = some k := fun k hk e => by
    obtain ⟨a, b, c, d⟩ := hnv k e
    rcases hk with hk | hk | hk | hk
    · exact a hk
    · exact b hk
    · exact c hk
    · exact d hk
  have hv' : ∀ k, mv'.ownBlock = some k → mv.ownBlock = some k ∨ w.heap.size ≤ k := fun k hk => ff.imp (fun e => by rw [← e]; exact hk) fun e => e k hk
  have hm1 : ∀ k, mv'.ownBlock = some k → k ≠ m ∧ k ≠ z.sp ∧ k ≠ z.g 0 ∧ k ≠ z.g 1 := fun k hk => by
    rcases hv' k hk with e | e
    · exact hnv k e
    · refine ⟨fun e2 => ?_, fun e2 => ?_, fun e2 => ?_, fun e2 => ?_⟩
      · have := hlt k (.inl (.inl e2)); omega
      · have := hlt k (.inl (.inr (.inl e2))); omega
      · have := hlt k (.inl (.inr (.inr (.inl e2)))); omega
      · have := hlt k (.inl (.inr (.inr (.inr (.inl e2))))); omega
  refine ⟨⟨?_, fun i hi => ((h.sd i hi).ch cl (fun k hk e => (h.xi hi (.inr (.inr (.inr (.inr e))))).1 hk) fun e => (h.xi hi (.inr (.inr (.inr (.inr e))))).2 rfl).ch hc (fun k hk e => (h.xi hi (.inl e)).1 hk) fun e => (h.xi hi (.inl e)).2 rfl, hc.obj (cl.obj h.sp (nm _ (.inr (.inl rfl)))) n1, fun i hi => ?_, own_ch own1 hc fun k hk e => (hm1 k hk).1 e, fun x hx => ?_, h.ab, h.ne, fun k hk => ?_, hm1⟩, ?_⟩
  · rw [hp_setCell, cl.obj h.blk (nm _ (.inl rfl)), setOf_cells]
    rfl
  · rcases lt2 hi with rfl | rfl
    · exact hc.obj (cl.obj (h.pl 0 hi) (nm _ (.inr (.inr (.inl rfl))))) n2
    · exact hc.obj (cl.obj (h.pl 1 hi) (nm _ (.inr (.inr (.inr rfl))))) n3
  · rcases List.mem_append.1 hx with hx | hx
    · exact h.okm x hx
    · rw [List.mem_singleton] at hx; subst hx; exact ok
  · rcases hk with hk | hk | hk | hk | hk
    · exact h.nx k (.inl hk)
    · exact h.nx k (.inr (.inl hk))
    · exact h.nx k (.inr (.inr (.inl hk)))
    · exact h.nx k (.inr (.inr (.inr (.inl hk))))
    · rcases hv' k hk with e | e
      · exact h.nx k (.inr (.inr (.inr (.inr e))))
      · refine ⟨fun e2 => ?_, fun e2 => ?_, fun e2 => ?_⟩
        · have := hlt k (.inr (.inl e2)); omega
        · have := hlt k (.inr (.inr (.inl e2))); omega
        · have := hlt k (.inr (.inr (.inr e2))); omega
  · exact (cl.mono fun k _ e => .inr e).setCell (p := ⟨m, 7, none⟩) (.inl (.inl rfl)) _
set_option maxRecDepth 100000 in
set_option maxHeartbeats 4000000 in
theorem mend_any (h : MrAt w m p n z s O) (q : Pt) (ok : PtOk q) (hk : Lk w) (k : Nat) (hk4 : k < 4) (b : Byts) (v : Value) (hv : Sl w v b.length (bvs b)) (hvO : ∀ j, v.ownBlock = some j → ¬ O j) (fine : s.Fine c) (hc : c ≤ 900000) (hgk : ¬ O 1) :
    Ret Tryz.prog 81 #[.pointer (some ⟨m, 0, none⟩), .agg (pt q), .agg #[.int .i64 (k / 2 : Nat), .int .u16 (adr q k)], v] w fun _ w' => MrAt w' m p n z (s.mend n q b k) (Gr O w w') ∧ Ch O w w' := by
  refine v_enter Tryz.func81 Tryz.ntmps81 rfl (by simp) fun R' hR => ?_
  have hps := pt_size ok
  have hpa := pt_all ok
  have hal := adr_lt ok k
  obtain ⟨i, hki⟩ : ∃ i, k / 2 = i := ⟨_, rfl⟩
  have hi : i < 2 := by omega
  have hi2 : (i : Int) < 2 := by omega
  rw [hki]
  have b0 := al2_0 w (.cells (pt q) 58) (.cells #[.int .i64 i, .int .u16 (adr q k)] 162)
  have b1 := al2_1 w (.cells (pt q) 58) (.cells #[.int .i64 i, .int .u16 (adr q k)] 162)
  have ca := ((Ch.refl Nw w).alloc (.cells (pt q) 58)).alloc (.cells #[.int .i64 i, .int .u16 (adr q k)] 162)
  have sa : ((w.alloc (.cells (pt q) 58)).alloc (.cells #[.int .i64 i, .int .u16 (adr q k)] 162)).heap.size = w.heap.size + 2 := by simp
  have hl := h.lt
  have hx : s.mend n q b k = if ((s.writ n q b k).good n q k).isSome then { s.writ n q b k with mended := upd1 s.mended i (s.mended i + 1) } else ((s.writ n q b k).sicks n i (adr q k)).moved q := by
    unfold Mr.mend
    simp only [hki]
    rfl
  have hwr : s.writ n q b k = { s with dk := upd1 s.dk i ((s.dk i).write n s.P (adr q k) b), P := (s.dk i).wpow n s.P (adr q k) b } := by unfold Mr.writ; rw [hki]
  simp [go_sem]
  obtain ⟨g, hg⟩ : ∃ g, w.heap.size = g := ⟨_, rfl⟩
  rw [hg] at b0 b1 sa ⊢
  generalize (w.alloc (.cells (pt q) 58)).alloc (.cells #[.int .i64 i, .int .u16 (adr q k)] 162) = w1 at *
  have h1 := (h.ch ca fun _ _ e => e).ch (Ch.refl Nw w1).drew fun _ _ e => e
  have c1 := fun j => cell_blk b1 j
  have cd : w1.cell? ⟨m, i, none⟩ = some (.pointer (some ⟨z.d i, 0, none⟩)) := by
    obtain ⟨mv, A, hP, _⟩ := h1
    have := cell_blk hP.blk i
    rw [show w1.drew.cell? ⟨m, i, none⟩ = w1.cell? ⟨m, i, none⟩ from rfl] at this
    rw [this]
    rcases lt2 hi with rfl | rfl <;> rfl
  refine v_draw' [(0, none), (1, none), (2, none), (3, none), (4, none), (5, none), (6, none), (7, none), (8, none), (9, none), (10, some [])] (by kernel_rfl) (by kernel_rfl) ?_
  simp [go_sem, c1, cd, hi, hi2]
  have hv1 : Sl w1.drew v b.length (bvs b) := (hv.ch ca fun _ _ e => e).drew
  refine (h1.disk hi (D' := (s.dk i).write n s.P (adr q k) b) (P' := (s.dk i).wpow n s.P (adr q k) b) (R := fun v' _ => v' = .int .i64 (wrE ((s.dk i).writes n s.P (adr q k) b))) fun B hB hBO => ?_).mono ?_
  · refine (hB.write (adr q k) hal b v fine.fuse (by have := fine.cache i hi; omega) (fine.astray i hi) hv1 fun j hj => ⟨fun e => hvO j hj (hBO j e), fun e => ?_⟩).mono fun v' w' hh => ⟨hh.1, hh.2⟩
    subst e
    exact hvO _ hj h.own.2.2
  rintro _ w2 ⟨rfl, h2, c2⟩
  rw [← hwr] at h2
  have c2 : Ch O w1 w2 := Ch.of_drew c2
  have nO : ∀ j, g ≤ j → ¬ O j := fun j hj e => by have := hl j e; omega
  have b02 := c2.obj b0 (nO _ (by omega))
  have b12 := c2.obj b1 (nO _ (by omega))
  have hk2 : Lk w2 := (hk.ch ca id).ch c2 hgk
  have cw2 : Ch O w w2 := (ca.mono fun _ _ e => e.elim).trans c2
  have hs2 := c2.size
  have c12 := fun j => cell_blk b12 j
  obtain ⟨mv, A, hP, hPO, hPl⟩ := h2
  have hPO' : ∀ j, MrO z m p mv A j → Gr O w w2 j := fun j hj => (hPO j hj).imp id fun e => ⟨by have := e.1; rw [show w1.drew.heap.size = w1.heap.size from rfl] at this; omega, e.2⟩
  have nP : ∀ j, g ≤ j → j < g + 2 → ¬ MrO z m p mv A j := fun j h1 h2 e => by
    rcases hPO j e with e | e
    · exact nO j h1 e
    · have := e.1; rw [show w1.drew.heap.size = w1.heap.size from rfl] at this; omega
  have hmr := mread_any hP q ok hk2 k hk4
  rw [hki] at hmr
  simp [go_sem, b02, b12, c12, hps, hpa]
  refine hmr.mono ?_
  rintro v3 w3 ⟨hr, c3⟩
  have h3 := hP.ch c3 fun _ _ e => e
  have b03 := c3.obj b02 id
  have b13 := c3.obj b12 id
  have c13 := fun j => cell_blk b13 j
  have hd3 := h3.ch (Ch.refl Nw w3).drew fun _ _ e => e
  have cw3 : Ch O w w3 := cw2.trans (c3.mono fun _ _ e => e.elim)
  have hOm : Gr O w w2 m := hPO' m (.inl (.inl rfl))
  cases hgd : (s.writ n q b k).good n q k with
  | some x =>
    rw [hgd] at hr hx
    obtain ⟨u, rfl, _⟩ := hr
    rw [Option.isSome_some, if_pos rfl] at hx
    simp [go_sem]
    refine v_draw' [(0, none), (1, none), (2, none), (3, none), (4, none), (5, none), (6, none), (7, none), (8, none), (9, none), (10, none), (11, none), (12, none), (13, some [])] (by kernel_rfl) (by kernel_rfl) ?_
    have hMi := fine.mended i
    have cM : w3.cell? ⟨m, 3 + i * 2 + 1, none⟩ = some (.int .i64 (s.mended i)) := by rw [cell_blk h3.blk]; exact mcs_at_mended _ z mv hi
    have fM := frz_blk h3.blk (3 + i * 2 + 1)
    have hwM : IntKind.i64.wrap ((s.mended i : Int) + 1) = ((s.mended i + 1 : Nat) : Int) := by rw [IntKind.wrap_i64]; omega
    obtain ⟨M1, hM1⟩ : ∃ M, s.mended i + 1 = M := ⟨_, rfl⟩
    rw [hM1] at hwM hx
    simp [go_sem, c13, hi, hi2, cM, fM, hwM]
    have m4 : Ch (one m) w3 (w3.setCell ⟨m, 3 + i * 2 + 1, none⟩ (.int .i64 M1)).drew := ((Ch.refl (one m) w3).setCell (p := ⟨m, 3 + i * 2 + 1, none⟩) (.inl rfl) _).drew
    have at4 : MrP (w3.setCell ⟨m, 3 + i * 2 + 1, none⟩ (.int .i64 M1)).drew m p n z { s.writ n q b k with mended := upd1 s.mended i M1 } mv A := by
      refine h3.own m4 ?_ rfl rfl rfl rfl rfl
      rw [hp_drew, hp_setCell, h3.blk, setOf_cells, mcs_mended _ z mv hi]
      rfl
    refine hR _ _ ⟨?_, cw3.trans (m4.mono fun j _ e => by simp only [one] at e; subst e; exact h.own.1)⟩
    rw [hx]
    exact ⟨mv, A, at4, fun j hj => gr_mono (Nat.le_trans c3.size m4.size) (hPO' j hj), Gr.lt hl (Nat.le_trans cw3.size m4.size)⟩
  | none =>
    rw [hgd] at hr hx
    rw [Option.isSome_none, if_neg (by decide)] at hx
    obtain ⟨u, rfl⟩ := hr
    simp [go_sem]
    refine v_draw' [(0, none), (1, none), (2, none), (3, none), (4, none), (5, none), (6, none), (7, none), (8, some [])] (by kernel_rfl) (by kernel_rfl) ?_
    have c2s : w3.cell? ⟨m, 2, none⟩ = some (.pointer (some ⟨z.sp, 0, none⟩)) := cell_blk h3.blk 2
    simp [go_sem, c13, c2s]
    refine (sick_any hd3 hi (adr q k) hal).mono ?_
    rintro v4 w4 ⟨h4, c4⟩
    have c4 : Ch (one (z.g i)) w3 w4 := Ch.of_drew c4
    have hgi : MrX z m mv (z.g i) := by
      rcases lt2 hi with rfl | rfl
      · exact .inr (.inr (.inl rfl))
      · exact .inr (.inr (.inr (.inl rfl)))
    have hOg : O (z.g i) := by
      obtain ⟨_, _, _, h2, _⟩ := h
      exact h2 _ (.inl (by rcases lt2 hi with rfl | rfl; exact .inr (.inr (.inl rfl)); exact .inr (.inr (.inr (.inl rfl)))))
    have cw4 : Ch O w w4 := cw3.trans (c4.mono fun j _ e => by simp only [one] at e; subst e; exact hOg)
    have ngi : ∀ j, g ≤ j → j < g + 2 → ¬ one (z.g i) j := fun j h1 h2 e => by simp only [one] at e; subst e; exact nO _ h1 hOg
    have b04 := c4.obj b03 (ngi _ (by omega) (by omega))
    have hd4 := h4.ch (Ch.refl Nw w4).drew fun _ _ e => e
    obtain ⟨t, ht⟩ : ∃ t, (s.writ n q b k).sicks n i (adr q k) = t := ⟨_, rfl⟩
    have htm : t.moves = s.moves := by rw [← ht]; unfold Mr.sicks; split <;> rfl
    rw [ht] at h4 hd4 hx
    obtain ⟨Am, cm, hmv⟩ : ∃ A c, mv = .slice A t.moves.length c := by
      rcases h4.mo.2 with ⟨hv, h0⟩ | ⟨g, cap, cur, hv, _⟩
      · exact ⟨none, 0, by rw [hv, h0]⟩
      · exact ⟨_, _, hv⟩
    obtain ⟨N, hN⟩ : ∃ N, t.moves.length = N := ⟨_, rfl⟩
    rw [hN] at hmv
    have hNl : N ≤ 900000 := by have := fine.moves; rw [← hN, htm]; omega
    have c7 : w4.cell? ⟨m, 7, none⟩ = some mv := cell_blk h4.blk 7
    have f7 := frz_blk h4.blk 7
    simp [go_sem]
    refine v_draw' [(0, none), (1, none), (2, none), (3, none), (4, none), (5, some []), (6, none)] (by kernel_rfl) (by kernel_rfl) ?_
    have b04d : w4.drew.heap[g]? = some (.cells (pt q) 58 (0, 0)) := b04
    simp [go_sem, c7, b04, b04d, hps, hpa]
    refine (contains_any hd4.mo hd4.okm q ok (by omega)).mono ?_
    rintro _ w5 ⟨rfl, c5⟩
    have c5 : Ch Nw w4 w5 := Ch.of_drew c5
    have h5 := h4.ch c5 fun _ _ e => e
    have cw5 : Ch O w w5 := cw4.trans (c5.mono fun _ _ e => e.elim)
    cases hct : t.moves.contains q with
    | true =>
      simp [go_sem]
      refine hR _ _ ⟨?_, cw5⟩
      rw [hx]
      unfold Mr.moved
      rw [hct, if_pos rfl]
      exact ⟨mv, A, h5, fun j hj => gr_mono (Nat.le_trans c3.size (Nat.le_trans c4.size c5.size)) (hPO' j hj), Gr.lt hl cw5.size⟩
    | false =>
      have b05 := c5.obj b04 id
      have c75 := c5.cell c7 id
      have d5 := (Ch.refl Nw w5).drew
      have b05d := d5.obj b05 id
      subst hmv
      simp [go_sem]
      refine v_draw' [(0, none), (1, none), (2, none), (3, none), (4, none), (5, none), (6, some [0, 1, 2, 3, 4]), (7, some [0]), (8, none), (9, none), (10, some [])] (by kernel_rfl) (by kernel_rfl) ?_
      have f75 := frz_blk h5.blk 7
      have hd5 := h5.ch d5 fun _ _ e => e
      simp [↓VX_bsl1, go_sem, c75, b05, b05d, hps, hpa]
      refine VBs_run (bsl_pt ok _) ?_
      have mo5 := hd5.mo
      rw [hN] at mo5
      have ka := (Ch.refl Nw w5.drew).alloc (.cells (pt q) 58)
      have c75a : (w5.alloc (.cells (pt q) 58)).cell? ⟨m, 7, none⟩ = some (.slice Am N cm) := ((Ch.refl Nw w5).alloc (.cells (pt q) 58)).cell c75 id
      simp [go_sem, c75, c75a]
      rw [show (w5.alloc (.cells (pt q) 58)).drew = w5.drew.alloc (.cells (pt q).toList.toArray 58) by simp; rfl]
      refine VB_app1S (w := w5.drew) (us := (pt q).toList) tyPt mo5 (by rw [Array.length_toList, hps]) (fun uu huu => by
        have := pt_ones q
        unfold ones at this
        exact Array.all_eq_true'.1 this uu (by simpa using huu)) (by unfold maxLen; omega) (by omega) fun v6 w6 own6 cl6 ff6 => ?_
      have own6' : w6.ownsRow 0 58 41 v6 (t.moves ++ [q]).length (rowsL pt (t.moves ++ [q])) := by
        rw [rowsL_append, rowsL_one, List.length_append, hN]
        exact own6
      obtain ⟨h7, k7⟩ := hd5.move cl6 own6' ff6 ok
      obtain ⟨gq, capq, curq, hv6, _⟩ := ownS_blk own6 (by omega)
      have hgqO : ∀ j, v6.ownBlock = some j → (Value.slice Am N cm).ownBlock = some j ∨ w5.heap.size ≤ j := fun j hj => ff6.imp (fun e => by rw [← e]; exact hj) fun e => e j hj
      have b6m := cl6.obj hd5.blk (fun e => (hd5.nv m e).1 rfl)
      have c67 := cell_blk b6m 7
      have f67 := frz_blk b6m 7
      rw [hv6] at h7 k7 hgqO
      rw [hv6]
      simp [go_sem, c67, f67, mcs]
      have k7 : Ch (fun j => j = m ∨ (Value.slice Am N cm).ownBlock = some j) w5 (w6.setCell ⟨m, 7, none⟩ (.slice (some ⟨gq, 0, none⟩) (N + 1) capq)) := Ch.of_drew k7
      have hsz5 := cw5.size
      have hgl : gq < w6.heap.size := own_blt own6 gq (by rw [hv6]; rfl)
      have hs7 : w6.heap.size ≤ (w6.setCell ⟨m, 7, none⟩ (.slice (some ⟨gq, 0, none⟩) (N + 1) capq)).heap.size := ((Ch.refl (one m) w6).setCell (p := ⟨m, 7, none⟩) (.inl rfl) _).size
      have hs25 : w2.heap.size ≤ w5.heap.size := Nat.le_trans c3.size (Nat.le_trans c4.size c5.size)
      have hold : ∀ j, MrO z m p (.slice Am N cm) A j → Gr O w (w6.setCell ⟨m, 7, none⟩ (.slice (some ⟨gq, 0, none⟩) (N + 1) capq)) j := fun j hj => gr_mono (Nat.le_trans hs25 k7.size) (hPO' j hj)
      refine hR _ _ ⟨?_, cw5.trans' k7 fun j hj e => ?_⟩
      · rw [hx]
        unfold Mr.moved
        rw [hct, if_neg (by decide)]
        refine ⟨_, A, h7, fun j hj => ?_, Gr.lt hl (Nat.le_trans hsz5 k7.size)⟩
        rcases hj with (hj | hj | hj | hj | hj) | hj
        · exact hold j (.inl (.inl hj))
        · exact hold j (.inl (.inr (.inl hj)))
        · exact hold j (.inl (.inr (.inr (.inl hj))))
        · exact hold j (.inl (.inr (.inr (.inr (.inl hj)))))
        · rcases hgqO j hj with e | e
          · exact hold j (.inl (.inr (.inr (.inr (.inr e)))))
          · simp [Value.ownBlock] at hj
            exact .inr ⟨by omega, by omega⟩
        · exact hold j (.inr hj)
      · have : Gr O w w2 j := e.elim (fun e => by subst e; exact hOm) fun e => hPO' j (.inl (.inr (.inr (.inr (.inr e)))))
        rcases this with e | e
        · exact e
        · omega
end
end Go.Proofs.YtppilgkgnofkpaaGreatDoor
