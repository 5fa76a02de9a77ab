/- The anchor's cell: New, Bytes, Load, Store, as contracts on calls. No condition but that the values are of their types. -/
import Derived.Test.YtmhnlgndgdmebaaAncD
import Derived.Test.YtmhnlgndgdmebaaPow
namespace Go.Proofs.Ytmhnlgndgdmebaa
open Go.RowKit Go.Kin

/-- a cell's cells: the power's block, the bytes -/
def cel (p : Nat) (l : List UInt8) : Array Value := (Value.pointer (some ⟨p, 0, none⟩) :: bvs l).toArray
def Cel (w : World) (g p : Nat) (l : List UInt8) : Prop := w.heap[g]? = some (.cells (cel p l) 105 (0, 0))
theorem cel_size {p : Nat} {l : List UInt8} (h : l.length = 64) : (cel p l).size = 65 := by simp [cel, bvs_length, h]
theorem cel_b {p : Nat} {l : List UInt8} (h : l.length = 64) : (cel p l).extract 1 65 = (bvs l).toArray := by
  apply Array.ext'
  simp [cel, List.extract_eq_take_drop, h]
theorem cel_0 (p : Nat) (l : List UInt8) : (cel p l)[0]? = some (.pointer (some ⟨p, 0, none⟩)) := by simp [cel]
theorem blit_cel {p : Nat} {l l' : List UInt8} (h : l.length = 64) (h' : l'.length = 64) : blit (cel p l) 1 (bvs l').toArray = cel p l' := by
  simp [blit, cel, bvs_length, h, h']
theorem Cel.ch {S : Nat → Prop} {w w' : World} {g p : Nat} {l : List UInt8} (h : Cel w g p l) (hc : Ch S w w') (hn : ¬ S g) : Cel w' g p l := hc.obj h hn
theorem zc_cel : zc Try.prog 105 = (Value.pointer none :: bvs (zb 64)).toArray := by kernel_rfl
theorem hz_cel : (Try.prog.info? 105).map (fun i => i.zero.isSome) = some true := by kernel_rfl
theorem bld_cel (p : Nat) {w : World} {K : Value → World → Prop} : VBld Try.prog 105 [(0, .pointer (some ⟨p, 0, none⟩))] w K = K (.agg (cel p (zb 64))) w :=
  VBld_struct Try.underlying105 hz_cel (places := #[(0, 1), (1, 64)]) (by simp [go_sem]) (by simp [fillB, zc_cel, Value.cells, bvs_length, zb_length, blit, cel])
theorem VBld_array_nil {P : Program} {t e n : TypeId} {w : World} {K : Value → World → Prop} (ht : P.underlying t = some (.array n e)) (hz : (P.info? t).map (fun i => i.zero.isSome) = some true) (he : (sizeOf e).run P w = .ok 1 w) : VBld P t [] w K = K (.agg (zc P t)) w := by
  unfold VBld VR
  cases hq : P.info? t with
  | none => simp [hq] at hz
  | some i =>
    cases hi : i.zero with
    | none => simp [hq, hi] at hz
    | some v =>
      have hzc : zc P t = v.cells := by unfold zc; simp [hq, hi]
      simp only [Instr.build, zeroValue, typeInfo, Sem.run_bind, run_program, Result.andThen_ok, hq, hi, Sem.run_pure, run_underlying ht, he, fill_eq, fillB, hzc]
theorem bld_b64 {w : World} {K : Value → World → Prop} : VBld Try.prog 28 [] w K = K (.agg (bvs (zb 64)).toArray) w := by
  rw [VBld_array_nil Try.underlying28 hz_b64 (Try.sizeOf5 w), zc_b64]
theorem put_zero : putB 0 (zb 32) (zn 4) = zb 64 := by decide
theorem ok_zero : AncOk 0 (zb 32) (zn 4) := ⟨by decide, rfl, rfl, fun i x hx => by
  rw [zn, List.getElem?_replicate] at hx
  split at hx
  · cases hx; decide
  · cases hx⟩

theorem anew_nil (w : World) : Ret Try.prog 16 #[.pointer none] w fun v' w' => v' = .tuple #[.pointer none, .int .i64 2] ∧ w' = w := by
  refine v_enter Try.func16 Try.ntmps16 rfl (by simp) fun R' hR => ?_
  simp [go_sem]
  exact hR _ _ ⟨rfl, rfl⟩
theorem anew_any (p : Nat) (w : World) : Ret Try.prog 16 #[.pointer (some ⟨p, 0, none⟩)] w fun v' w' => v' = .tuple #[.pointer (some ⟨w.heap.size, 0, none⟩), .int .i64 0] ∧ Cel w' w.heap.size p (zb 64) ∧ Ch Nw w w' ∧ w'.heap.size = w.heap.size + 1 := by
  refine v_enter Try.func16 Try.ntmps16 rfl (by simp) fun R' hR => ?_
  simp [go_sem, bld_cel]
  exact hR _ _ ⟨rfl, heap_alloc_new w _, (Ch.refl Nw w).alloc _, by simp⟩
theorem abytes_nil (w : World) : Ret Try.prog 18 #[.pointer none] w fun v' w' => v' = .agg (bvs (zb 64)).toArray ∧ Ch Nw w w' := by
  refine v_enter Try.func18 Try.ntmps18 rfl (by simp) fun R' hR => ?_
  simp [go_sem, hz_b64, zc_b64, bld_b64, bvs_length, zb_length, blit_whole]
  exact hR _ _ ⟨rfl, (Ch.refl Nw w).alloc _⟩
theorem abytes_any (g p : Nat) (l : List UInt8) (w : World) (hl : l.length = 64) (h : Cel w g p l) : Ret Try.prog 18 #[.pointer (some ⟨g, 0, none⟩)] w fun v' w' => v' = .agg (bvs l).toArray ∧ Ch Nw w w' := by
  have hg := lt_of_block h
  refine v_enter Try.func18 Try.ntmps18 rfl (by simp) fun R' hR => ?_
  have h1 : (w.alloc (.cells (bvs (zb 64)).toArray 28)).heap[g]? = some (.cells (cel p l) 105 (0, 0)) := by rw [hp_alloc_lt _ _ _ hg]; exact h
  simp [go_sem, hz_b64, zc_b64, h1, cel_size hl, cel_b hl, bvs_length, zb_length, hl, blit_whole]
  exact hR _ _ ⟨rfl, (Ch.refl Nw w).alloc _⟩
theorem load_any (g p : Nat) (n : Nat) (h : List UInt8) (a : List Nat) (w : World) (ok : AncOk n h a) (hb : Cel w g p (putB n h a)) : Ret Try.prog 17 #[.pointer (some ⟨g, 0, none⟩)] w fun v' w' => v' = .agg (anc n h a) ∧ Ch Nw w w' := by
  have hL := putB_length (n := n) ok.hh ok.ha
  refine v_enter Try.func17 Try.ntmps17 rfl (by simp) fun R' hR => ?_
  simp [go_sem, hz_anc, zc_anc]
  have hc1 := (Ch.refl Nw w).alloc (.cells (anc 0 (zb 32) (zn 4)) 29)
  have hb1 : (w.alloc (.cells (anc 0 (zb 32) (zn 4)) 29)).heap[w.heap.size]? = some (.cells (anc 0 (zb 32) (zn 4)) 29) := hp_alloc _ _
  refine (abytes_any g p _ _ hL (hb.ch hc1 id)).mono ?_
  rintro _ w2 ⟨rfl, hc2⟩
  simp [go_sem]
  refine (atake_any _ w2 hL).mono ?_
  rintro _ w3 ⟨rfl, hc3⟩
  have hsz := anc_size (n := n) ok.hh ok.ha
  have hall := anc_all (n := n) ok.hh ok.ha
  obtain ⟨t1, t2, t3⟩ := take_put ok
  have hb3 := (hc2.trans hc3).hp hb1 id
  have hc := hc1.trans (hc2.trans hc3)
  have hgz : w.heap.size < w3.heap.size := lt_of_block hb3
  have hb4 : (w3.alloc (.cells (anc n h a) 29)).heap[w.heap.size]? = some (.cells (anc 0 (zb 32) (zn 4)) 29) := by rw [hp_alloc_lt _ _ _ hgz]; exact hb3
  simp [go_sem, takeV, may_put ok, t1, t2, t3, hz_anc, zc_anc, hsz, hall, anc_size (zb_length 32) (zn_length 4), blit_whole, hb4]
  exact hR _ _ ⟨rfl, (hc.alloc _).setRow (.inr (by simp)) _⟩
theorem load_nil (w : World) : Ret Try.prog 17 #[.pointer none] w fun v' w' => v' = .agg (anc 0 (zb 32) (zn 4)) ∧ Ch Nw w w' := by
  refine v_enter Try.func17 Try.ntmps17 rfl (by simp) fun R' hR => ?_
  simp [go_sem, hz_anc, zc_anc]
  have hc1 := (Ch.refl Nw w).alloc (.cells (anc 0 (zb 32) (zn 4)) 29)
  have hb1 : (w.alloc (.cells (anc 0 (zb 32) (zn 4)) 29)).heap[w.heap.size]? = some (.cells (anc 0 (zb 32) (zn 4)) 29) := hp_alloc _ _
  refine (abytes_nil _).mono ?_
  rintro _ w2 ⟨rfl, hc2⟩
  simp [go_sem]
  refine (atake_any _ w2 (zb_length 64)).mono ?_
  rintro _ w3 ⟨rfl, hc3⟩
  have hsz := anc_size (n := 0) (zb_length 32) (zn_length 4)
  have hall := anc_all (n := 0) (zb_length 32) (zn_length 4)
  obtain ⟨t1, t2, t3⟩ := take_put ok_zero
  have hm := may_put ok_zero
  rw [put_zero] at t1 t2 t3 hm
  have hb3 := (hc2.trans hc3).hp hb1 id
  have hc := hc1.trans (hc2.trans hc3)
  have hgz : w.heap.size < w3.heap.size := lt_of_block hb3
  have hb4 : (w3.alloc (.cells (anc 0 (zb 32) (zn 4)) 29)).heap[w.heap.size]? = some (.cells (anc 0 (zb 32) (zn 4)) 29) := by rw [hp_alloc_lt _ _ _ hgz]; exact hb3
  simp [go_sem, takeV, hm, t1, t2, t3, hz_anc, zc_anc, hsz, hall, blit_whole, hb4]
  exact hR _ _ ⟨rfl, (hc.alloc _).setRow (.inr (by simp)) _⟩
theorem store_nil (n : Nat) (h : List UInt8) (a : List Nat) (w : World) : Ret Try.prog 19 #[.pointer none, .agg (anc n h a)] w fun v' w' => v' = .int .i64 2 ∧ Ch Nw w w' := by
  refine v_enter Try.func19 Try.ntmps19 rfl (by simp) fun R' hR => ?_
  simp [go_sem]
  exact hR _ _ ⟨rfl, (Ch.refl Nw w).alloc _⟩
/-- what Store answers -/
def storeS (n n' : Nat) (off : Bool) (fuse : Int) : Int := if n' ≤ n then 1 else if (stepS off fuse).1 then 0 else 3
def two (g p : Nat) : Nat → Prop := fun k => k = g ∨ k = p
theorem store_any (g p : Nat) (off : Bool) (fuse : Int) (n : Nat) (h : List UInt8) (a : List Nat) (n' : Nat) (h' : List UInt8) (a' : List Nat) (w : World) (ok : AncOk n h a) (ok' : AncOk n' h' a') (hb : Cel w g p (putB n h a)) (hp : Pw w p off fuse) (hne : g ≠ p) (hm : fuse ≤ 9223372036854775807) :
    Ret Try.prog 19 #[.pointer (some ⟨g, 0, none⟩), .agg (anc n' h' a')] w fun v' w' => v' = .int .i64 (storeS n n' off fuse) ∧ Ch (two g p) w w' ∧
      Cel w' g p (if storeS n n' off fuse = 0 then putB n' h' a' else putB n h a) ∧ Pw w' p (if n' ≤ n then off else (stepS off fuse).2.1) (if n' ≤ n then fuse else (stepS off fuse).2.2) := by
  have hL := putB_length (n := n) ok.hh ok.ha
  have hL' := putB_length (n := n') ok'.hh ok'.ha
  refine v_enter Try.func19 Try.ntmps19 rfl (by simp) fun R' hR => ?_
  simp [go_sem]
  refine v_draw' [(0, none), (1, none), (2, none), (3, some [0, 1]), (4, none), (5, none), (6, none)] (by kernel_rfl) (by kernel_rfl) ?_
  have hc1 := (Ch.refl Nw w).alloc (.cells (anc n' h' a') 29)
  have hb1 : (w.alloc (.cells (anc n' h' a') 29)).heap[w.heap.size]? = some (.cells (anc n' h' a') 29) := hp_alloc _ _
  have hce1 := hb.ch hc1 id
  have hpw1 := hp.ch hc1 id
  have hz1 : (w.alloc (.cells (anc n' h' a') 29)).heap.size = w.heap.size + 1 := by simp
  revert hc1 hb1 hce1 hpw1 hz1
  generalize w.alloc (.cells (anc n' h' a') 29) = w1
  generalize hgx : w.heap.size = gx
  intro hc1 hb1 hce1 hpw1 hz1
  have hgx1 : gx < w1.heap.size := lt_of_block hb1
  have hglt := lt_of_block hb
  have hplt := lt_of_block hp
  have hcell := fun i => cell_blk hb1 i
  simp [go_sem, hcell, anc_0]
  refine (load_any g p n h a w1.drew ok hce1).mono ?_
  rintro _ w2 ⟨rfl, hc2⟩
  have hc2 := hc2.of_drew
  have hcell2 := fun i => cell_blk (hc2.hp hb1 id) i
  have hfld := fun w => run_field_one (P := Try.prog) (i := 0) (cs := anc n h a) Try.underlying29 rfl Try.isAgg22 (anc_0 n h a) w
  simp [go_sem, hcell2, anc_0, hfld]
  by_cases hle : n' ≤ n
  · simp [hle, go_sem]
    refine hR _ _ ⟨by simp [storeS, hle], (hc1.trans hc2).mono fun _ _ e => e.elim, by simpa [storeS, hle] using hce1.ch hc2 id, by simpa [hle] using hpw1.ch hc2 id⟩
  · have hcell3 := fun i => cell_blk (hce1.ch hc2 id) i
    simp [hle, go_sem, hcell3, cel_0]
    refine (step_any p off fuse w2 (hpw1.ch hc2 id) hm).mono ?_
    rintro _ w3 ⟨rfl, hpw3, hc3, hz3⟩
    have hce3 : Cel w3 g p (putB n h a) := (hce1.ch hc2 id).ch hc3 (by simp only [one]; omega)
    have hcc : Ch (two g p) w w3 := ((hc1.trans hc2).mono (S' := two g p) fun _ _ e => e.elim).trans' hc3 fun j hj e => .inr e
    have hb3 := (hc2.hp hb1 id)
    have hb3' : w3.heap[gx]? = some (.cells (anc n' h' a') 29) := hc3.hp hb3 (by simp only [one]; omega)
    have hsz := anc_size (n := n') ok'.hh ok'.ha
    have hall := anc_all (n := n') ok'.hh ok'.ha
    cases hst : (stepS off fuse).1 with
    | false =>
      simp [go_sem]
      refine hR _ _ ⟨by simp [storeS, hle, hst], hcc, by simpa [storeS, hle, hst] using hce3, by simpa [hle] using hpw3⟩
    | true =>
      simp [go_sem, hb3', hsz, hall]
      refine (put_any n' h' a' w3 ok').mono ?_
      rintro _ w4 ⟨rfl, hc4⟩
      have hce4 := hce3.ch hc4 id
      have hce4' : w4.heap[g]? = some (.cells (cel p (putB n h a)) 105 (0, 0)) := hce4
      simp [go_sem, hce4', cel_size hL, bvs_length, hL', blit_cel hL hL']
      refine hR _ _ ⟨by simp [storeS, hle, hst], (hcc.trans' hc4 fun _ _ e => e.elim).setRow (.inl (.inl rfl)) _, ?_, ?_⟩
      · unfold Cel
        rw [hp_setRow, hce4']
        simp [storeS, hle, hst]
      · have := (hpw3.ch hc4 id).ch ((Ch.refl (one g) w4).setRow (.inl rfl) (cel p (putB n' h' a'))) (by simp only [one]; omega)
        simpa [hle] using this
end Go.Proofs.Ytmhnlgndgdmebaa
