/- Overlays as they are told, and in memory; the law's ground. No condition. -/
import Derived.Test.YtnefdmbdkljifaaDoorOvA
set_option linter.unusedSimpArgs false
set_option linter.unusedVariables false

namespace Go.Proofs.YtnefdmbdkljifaaDoor
open Go.RowKit Go.Kin Go.Maps

abbrev Byts := List UInt8
/-- what an overlay has -/
structure Ov where
  ino : Num → Option In
  lf : Num × Off → Option Byts
  wiped : Num → Bool
/-- what is told: an inode, a leaf, each with an error -/
structure Tl where
  ino : Num → In × Int
  lf : Num → Off → Byts × Int
def okN (num : Num) (off : Off) : Bool := decide (1 ≤ num.val) && decide (num.val ≤ 255) && decide (off.val < 64)
def Ov.new : Ov := ⟨fun _ => none, fun _ => none, fun _ => false⟩
def ovT (o : Ov) (b : Tl) : Tl where
  ino num := if okN num 0 then (match o.ino num with | some n => (n, 0) | none => b.ino num) else (inz, 1)
  lf num off := if okN num off then (match o.lf (num, off) with | some x => (x, 0) | none => if o.wiped num then ([], 0) else b.lf num off) else ([], 1)
def GrAt (w : World) (g bad : Nat) : Prop := ∃ x, w.heap[g]? = some (.cells #[.int .u16 bad, .int .i64 x] 28 (0, 0))
theorem GrAt.ch {w w' : World} {S : Nat → Prop} {g bad : Nat} (h : GrAt w g bad) (hc : Ch S w w') (hn : ¬ S g) : GrAt w' g bad := by
  obtain ⟨x, h⟩ := h
  exact ⟨x, hc.obj h hn⟩
def gBad (bad : Nat) (num : Num) : Bool := Go.bits .and .u16 ((bad : Int) / 2 ^ (num.val % 16)) 1 == 1
theorem GrAt.ask {w : World} {g bad : Nat} {x : Int} (h : w.heap[g]? = some (.cells #[.int .u16 bad, .int .i64 x] 28 (0, 0))) (y : Int) : GrAt (w.setCell ⟨g, 1, none⟩ (.int .i64 y)) g bad := by
  refine ⟨y, ?_⟩
  rw [hp_setCell, h, setOf_cells]
  simp
theorem bad_any (g bad : Nat) (num : Num) (w : World) (h : GrAt w g bad) :
    Ret Tryd.prog 44 #[.pointer (some ⟨g, 0, none⟩), .int .u16 num.val] w fun v' w' => v' = .bool (gBad bad num) ∧ GrAt w' g bad ∧ Ch (Kin.one g) w w' := by
  obtain ⟨x, h⟩ := h
  refine v_enter Tryd.func44 Tryd.ntmps44 rfl (by simp) fun R' hR => ?_
  have c0 := fun i => cell_blk h i
  have f0 := fun i => frz_blk h i
  have hnum := num.isLt
  obtain ⟨m, hm⟩ : ∃ m : Nat, num.val % 16 = m := ⟨_, rfl⟩
  have hm16 : m < 16 := by omega
  have hmi : (m : Int) ≤ 16 := by omega
  have hrem : (num.val : Int).tmod 16 = (m : Int) := by rw [Int.tmod_eq_emod_of_nonneg (by omega)]; omega
  simp [go_sem, c0, f0, hrem, hmi]
  exact hR _ _ ⟨by unfold gBad; rw [hm], GrAt.ask h _, (Ch.refl (Kin.one g) w).setCell (p := ⟨g, 1, none⟩) (.inl rfl) _⟩
/-- the ground's block -/
def z512 : Byts := List.replicate 512 0
theorem z512_len : z512.length = 512 := List.length_replicate
def gLeaf (num : Num) : Byts := z512.set 0 (UInt8.ofNat (num.val % 256))
def gT (bad : Nat) : Tl where
  ino num := if gBad bad num then (inz, 21) else (⟨1, num.val, 0, ptz⟩, 0)
  lf num off := if gBad bad num then ([], 21) else if off.val ≤ num.val % 4 then (gLeaf num, 0) else ([], 0)
/-- bytes of a leaf, handed out: nobody else's, or nobody's to write -/
def LfR (w : World) (r : Byts × Int) (v' : Value) (w' : World) : Prop := ∃ u, v' = .tuple #[u, .int .i64 r.2] ∧ Sl w' u r.1.length (bvs r.1) ∧ Fresh w.heap.size u
theorem mkz (n : Nat) (w : World) (hn : n ≤ 1000000) : (Instr.makeSlice 44 (.int .i64 n) (.int .i64 n)).run Tryd.prog w = .ok (.slice (some ⟨w.heap.size, 0, none⟩) n n) (w.alloc (.cells (bvs (List.replicate n 0)).toArray 5)) := by
  have h1 : (Tryd.prog.info? 5).isSome = true := by kernel_rfl
  obtain ⟨i, hi⟩ := Option.isSome_iff_exists.1 h1
  have h2 : (Tryd.prog.info? 5).map (·.size) = some 1 := by kernel_rfl
  have h3 : (Tryd.prog.info? 5).map (·.bytes) = some 1 := by kernel_rfl
  have h4 : (Tryd.prog.info? 5).bind (·.zero) = some (.int .u8 0) := by kernel_rfl
  rw [hi] at h2 h3 h4
  simp at h2 h3 h4
  have := run_makeSlice (P := Tryd.prog) w 44 5 i _ Tryd.underlying44 hi h4 .i64 .i64 n n (by omega) (Int.le_refl _) (by rw [h2]; omega) (by rw [h3]; omega) (by omega)
  rw [this, h2]
  have e : madeCells (Value.int .u8 0).cells (n * 1) = (bvs (List.replicate n 0)).toArray := by
    apply Array.ext'
    apply List.ext_getElem?
    intro i
    simp [madeCells, bvs, bv, Value.cells]
    by_cases h : i < n
    · simp [h, Nat.mod_one]
    · simp [h]
  simp only [Int.toNat_natCast, e]
theorem mk512 (w : World) : (Instr.makeSlice 44 (.int .i64 512) (.int .i64 512)).run Tryd.prog w = .ok (.slice (some ⟨w.heap.size, 0, none⟩) 512 512) (w.alloc (.cells (bvs z512).toArray 5)) := mkz 512 w (by decide)
theorem z512_0 : (bvs z512)[0]? = some (.int .u8 0) := rfl
theorem bld_ino2 (k n : Nat) {w : World} {K : Value → World → Prop} : VBld Tryd.prog 49 [(0, .int .u8 k), (1, .int .u16 n)] w K = K (.agg (ino ⟨k, n, 0, ptz⟩)) w := by
  refine VBld_struct Tryd.underlying49 hz_ino (places := #[(0, 1), (1, 1), (2, 1), (3, 41)]) (by simp [go_sem]) ?_
  have hz := ino_size inz_ok
  simp [fillB, zc_ino, Value.cells, hz, blit_size, blit_ino2]
theorem gino_any (g bad : Nat) (num : Num) (w : World) (h : GrAt w g bad) :
    Ret Tryd.prog 31 #[.pointer (some ⟨g, 0, none⟩), .int .u16 num.val] w fun v' w' => v' = .tuple #[.agg (ino ((gT bad).ino num).1), .int .i64 ((gT bad).ino num).2] ∧ GrAt w' g bad ∧ Ch (Kin.one g) w w' := by
  refine v_enter Tryd.func31 Tryd.ntmps31 rfl (by simp) fun R' hR => ?_
  have hs := ino_size inz_ok
  have b0 := hp_alloc w (.cells (ino inz) 49)
  have c0 := (Ch.refl (Kin.one g) w).alloc (.cells (ino inz) 49)
  have h0 := h.ch ((Ch.refl Nw w).alloc (.cells (ino inz) 49)) id
  have hg : g ≠ w.heap.size := fun e => by
    obtain ⟨x, h⟩ := h
    have := lt_of_block h
    omega
  simp [go_sem, VAl_big, hz_ino, zc_ino, hs]
  obtain ⟨X, hX⟩ : ∃ X, w.heap.size = X := ⟨_, rfl⟩
  rw [hX] at b0 hg ⊢
  generalize w.alloc (.cells (ino inz) 49) = w1 at *
  refine (bad_any g bad num w1 h0).mono ?_
  rintro _ w2 ⟨rfl, h2, c2⟩
  have b2 := c2.hp b0 fun e => hg e.symm
  have c02 := c0.trans c2
  have hsz : ∀ x : In, InOk x → (ino x).size = 44 := fun x => ino_size
  have hS : ∀ cs : Array Value, Ch (Kin.one g) w (w2.setRow X cs) := fun cs => c02.setRow (.inr (by omega)) _
  have hG : ∀ cs : Array Value, GrAt (w2.setRow X cs) g bad := fun cs => by
    obtain ⟨x, h2⟩ := h2
    exact ⟨x, by rw [hp_setRow_ne _ _ _ _ hg]; exact h2⟩
  cases hb : gBad bad num with
  | true =>
    simp [go_sem, bld_ino0, b2, hs, blit_whole]
    rw [ino_all inz_ok]
    exact hR _ _ ⟨by unfold gT; simp only [hb, if_true], hG _, hS _⟩
  | false =>
    have ok : InOk ⟨1, num.val, 0, ptz⟩ := ⟨show 1 < 256 by decide, num.isLt, show 0 < 4294967296 by decide, ptz_ok⟩
    have hs2 := ino_size ok
    simp [go_sem]
    have e1 : ((1 : Int)) = ((1 : Nat) : Int) := rfl
    rw [e1, bld_ino2]
    simp [go_sem, b2, hs, hs2, blit_whole]
    rw [ino_all ok]
    exact hR _ _ ⟨by unfold gT; simp [hb], hG _, hS _⟩
theorem gleaf_any (g bad : Nat) (num : Num) (off : Off) (w : World) (h : GrAt w g bad) :
    Ret Tryd.prog 33 #[.pointer (some ⟨g, 0, none⟩), .int .u16 num.val, .int .u32 off.val] w fun v' w' => LfR w ((gT bad).lf num off) v' w' ∧ GrAt w' g bad ∧ Ch (Kin.one g) w w' := by
  refine v_enter Tryd.func33 Tryd.ntmps33 rfl (by simp) fun R' hR => ?_
  have hnum := num.isLt
  have hoff := off.isLt
  simp [go_sem]
  refine (bad_any g bad num w h).mono ?_
  rintro _ w2 ⟨rfl, h2, c2⟩
  cases hb : gBad bad num with
  | true =>
    have e : (gT bad).lf num off = ([], 21) := by unfold gT; simp only [hb, if_true]
    simp [go_sem]
    rw [e] at hR
    exact hR _ _ ⟨⟨_, rfl, Sl.nil _, fun k hk => by simp [Value.ownBlock] at hk⟩, h2, c2⟩
  | false =>
    obtain ⟨m, hm⟩ : ∃ m : Nat, num.val % 4 = m := ⟨_, rfl⟩
    have hrem : (num.val : Int).tmod 4 = (m : Int) := by rw [Int.tmod_eq_emod_of_nonneg (by omega)]; omega
    have hw32 : IntKind.u32.wrap (m : Int) = m := by simp [IntKind.wrap, IntKind.bits, IntKind.signed]; omega
    by_cases hle : off.val ≤ m
    · have e : (gT bad).lf num off = (gLeaf num, 0) := by unfold gT; simp only [hb, hm, if_pos hle, Bool.false_eq_true, if_false]
      rw [e] at hR
      have hle' : ¬ (m : Int) < off.val := by omega
      have hmk := mk512 w2
      have hu8 : IntKind.u8.wrap (num.val : Int) = ((num.val % 256 : Nat) : Int) := by simp [IntKind.wrap, IntKind.bits, IntKind.signed]
      have b2 := hp_alloc w2 (.cells (bvs z512).toArray 5)
      have ca := c2.alloc (.cells (bvs z512).toArray 5)
      have c2a := (Ch.refl Nw w2).alloc (.cells (bvs z512).toArray 5)
      have h3 := h2.ch c2a id
      have hg : g < w2.heap.size := by
        obtain ⟨x, h2⟩ := h2
        exact lt_of_block h2
      have hX : w.heap.size ≤ w2.heap.size := c2.size
      have cc := fun i => cell_blk b2 i
      have ff := fun i => frz_blk b2 i
      have e1 : bv (UInt8.ofNat (num.val % 256)) = .int .u8 ((num.val : Int) % 256) := by
        have h1 : (UInt8.ofNat (num.val % 256)).toNat = num.val % 256 := UInt8.toNat_ofNat_of_lt' (by simp [UInt8.size]; omega)
        unfold bv
        rw [h1]
        rfl
      have e2 : (bvs z512).set 0 (.int .u8 ((num.val : Int) % 256)) = bvs (gLeaf num) := by
        unfold gLeaf bvs
        rw [List.map_set, e1]
      have hgl : (gLeaf num).length = 512 := by
        unfold gLeaf
        rw [List.length_set, z512_len]
      have ho := Sl.of_own (Sl.lit w2 5 (gLeaf num) 512 hgl (by decide))
      simp [go_sem, hrem, hw32, hle', hmk, cc, ff, z512_0, hu8]
      rw [e2]
      have cl := (Ch.refl Nw w2).alloc (.cells (bvs (gLeaf num)).toArray 5)
      exact hR _ _ ⟨⟨_, rfl, by simp only [hgl]; exact ho, fun k hk => by simp [Value.ownBlock] at hk; omega⟩, h2.ch cl id, c2.alloc _⟩
    · have e : (gT bad).lf num off = ([], 0) := by unfold gT; simp only [hb, hm, if_neg hle, Bool.false_eq_true, if_false]
      rw [e] at hR
      have hle' : (m : Int) < off.val := by omega
      simp [go_sem, hrem, hw32, hle']
      exact hR _ _ ⟨⟨_, rfl, Sl.nil _, fun k hk => by simp [Value.ownBlock] at hk⟩, h2, c2⟩
theorem gmap_any (g bad : Nat) (num : Num) (off : Off) (w : World) (h : GrAt w g bad) :
    Ret Tryd.prog 34 #[.pointer (some ⟨g, 0, none⟩), .int .u16 num.val, .int .u32 off.val] w fun v' w' => v' = .tuple #[.bool (decide (((gT bad).lf num off).1 ≠ [])), .int .i64 ((gT bad).lf num off).2] ∧ GrAt w' g bad ∧ Ch (Kin.one g) w w' := by
  refine v_enter Tryd.func34 Tryd.ntmps34 rfl (by simp) fun R' hR => ?_
  have hnum := num.isLt
  have hoff := off.isLt
  simp [go_sem]
  refine (bad_any g bad num w h).mono ?_
  rintro _ w2 ⟨rfl, h2, c2⟩
  cases hb : gBad bad num with
  | true =>
    have e : (gT bad).lf num off = ([], 21) := by unfold gT; simp only [hb, if_true]
    simp [go_sem]
    rw [e] at hR
    exact hR _ _ ⟨rfl, h2, c2⟩
  | false =>
    obtain ⟨m, hm⟩ : ∃ m : Nat, num.val % 4 = m := ⟨_, rfl⟩
    have hrem : (num.val : Int).tmod 4 = (m : Int) := by rw [Int.tmod_eq_emod_of_nonneg (by omega)]; omega
    have hw32 : IntKind.u32.wrap (m : Int) = m := by simp [IntKind.wrap, IntKind.bits, IntKind.signed]; omega
    simp [go_sem, hrem, hw32]
    by_cases hle : off.val ≤ m
    · have e : (gT bad).lf num off = (gLeaf num, 0) := by unfold gT; simp only [hb, hm, if_pos hle, Bool.false_eq_true, if_false]
      have hne : gLeaf num ≠ [] := fun e => by
        have := congrArg List.length e
        unfold gLeaf at this
        rw [List.length_set, z512_len] at this
        cases this
      rw [e] at hR
      exact hR _ _ ⟨by simp [hle, hne], h2, c2⟩
    · have e : (gT bad).lf num off = ([], 0) := by unfold gT; simp only [hb, hm, if_neg hle, Bool.false_eq_true, if_false]
      rw [e] at hR
      exact hR _ _ ⟨by simp [hle], h2, c2⟩
end Go.Proofs.YtnefdmbdkljifaaDoor
