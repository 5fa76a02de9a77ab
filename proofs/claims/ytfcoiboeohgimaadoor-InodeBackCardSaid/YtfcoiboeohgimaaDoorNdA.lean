/- A node's cells: eight pointers behind one another; whether a pointer is good; a node that is empty, how many are none, one place changed. No condition but that the values are of their types. -/
import Derived.Test.YtfcoiboeohgimaaDoorPtH
import Derived.Test.YtfcoiboeohgimaaDoorLots
namespace Go.Proofs.YtfcoiboeohgimaaDoor
open Go.RowKit Go.Kin

def nd (ps : List Pt) : Array Value := rowsOf pt ps
structure NdOk (ps : List Pt) : Prop where
  len : ps.length = 8
  all : ∀ p ∈ ps, PtOk p
def ndz : List Pt := List.replicate 8 ptz
theorem ndz_ok : NdOk ndz := ⟨rfl, fun p hp => by rw [(List.mem_replicate.1 hp).2]; exact ptz_ok⟩
section
variable {ps : List Pt}
theorem NdOk.sz (h : NdOk ps) : ∀ p ∈ ps, (pt p).size = 41 := fun p hp => pt_size (h.all p hp)
theorem nd_size (h : NdOk ps) : (nd ps).size = 328 := by unfold nd; rw [rows_size h.sz, h.len]
@[simp] theorem nd_ones (ps : List Pt) : ones (nd ps) = true := rows_ones fun p _ => pt_ones p
theorem nd_all (h : NdOk ps) : (nd ps).extract 0 328 = nd ps := by rw [← nd_size h]; simp
theorem nd_get (h : NdOk ps) {k : Nat} {p : Pt} (hk : ps[k]? = some p) : (nd ps).extract (k * 41) (k * 41 + 41) = pt p := rows_get h.sz hk
theorem nd_blit (h : NdOk ps) {k : Nat} {p : Pt} (hk : k < 8) (ok : PtOk p) : blit (nd ps) (k * 41) (pt p) = nd (ps.set k p) := rows_blit h.sz (by rw [h.len]; exact hk) (pt_size ok)
theorem NdOk.set (h : NdOk ps) (k : Nat) {p : Pt} (ok : PtOk p) : NdOk (ps.set k p) := ⟨by simp [h.len], fun q hq => by
  rcases List.mem_or_eq_of_mem_set hq with h1 | rfl
  · exact h.all q h1
  · exact ok⟩
theorem NdOk.at' (h : NdOk ps) {k : Nat} (hk : k < 8) : ∃ p, ps[k]? = some p ∧ PtOk p := ⟨_, List.getElem?_eq_getElem (by rw [h.len]; exact hk), h.all _ (List.getElem_mem _)⟩
end
theorem hz_nd : (Tryd.prog.info? 35).map (fun i => i.zero.isSome) = some true := by kernel_rfl
theorem zc_nd : zc Tryd.prog 35 = nd ndz := by kernel_rfl
theorem bld_nd0 {w : World} {K : Value → World → Prop} : VBld Tryd.prog 35 [] w K = K (.agg (nd ndz)) w :=
  VBld_array Tryd.underlying35 hz_nd Tryd.sizeOf28 (by simp [fillB, zc_nd])
theorem eq_nd (w : World) {ps qs : List Pt} (hp : NdOk ps) (hq : NdOk qs) : (Op.equalIn 10000 35 (.agg (nd ps)) (.agg (nd qs))).run Tryd.prog w = .ok (decide (ps = qs)) w :=
  run_equalIn_rows w 9999 _ _ 8 Tryd.underlying35 Tryd.sizeOf28 Tryd.isAgg28 ps qs hp.len hq.len hp.sz hq.sz fun x hx y hy => eq_pt_any w 9996 (hp.all x hx) (hq.all y hy)
theorem nd_index {ps : List Pt} (h : NdOk ps) {k : Nat} {p : Pt} (hk : k < 8) (hx : ps[k]? = some p) (w : World) : (Instr.index 35 (.agg (nd ps)) (.int .i64 k)).run Tryd.prog w = .ok (.agg (pt p)) w :=
  run_index_rows Tryd.underlying35 Tryd.sizeOf28 Tryd.isAgg28 h.sz hk hx w

/-- is a pointer a hole, or one that may be? -/
def okP (p : Pt) : Bool := decide (p = ptz) || mayP p
theorem good_any (p : Pt) (w : World) (ok : PtOk p) : Ret Tryd.prog 13 #[.agg (pt p)] w fun v' w' => v' = .bool (okP p) ∧ Ch Nw w w' := by
  refine v_enter Tryd.func13 Tryd.ntmps13 rfl (by simp) fun R' hR => ?_
  have hsz := pt_size ok
  have hall := pt_all ok
  have heq := fun w => eq_pt w ok ptz_ok
  have hc := (Ch.refl Nw w).alloc (.cells (pt p) 28)
  by_cases hz : p = ptz
  · subst hz
    simp [go_sem, hsz, hall, bld_pt0, heq]
    exact hR _ _ ⟨by simp [okP], hc⟩
  · simp [go_sem, hsz, hall, bld_pt0, heq, hz]
    refine (rmay_any p _ ok).mono ?_
    rintro _ w2 ⟨rfl, c2⟩
    simp [go_sem]
    exact hR _ _ ⟨by simp [okP, hz, mayR_eq _ ok], hc.trans c2⟩
theorem empty_any (ps : List Pt) (w : World) (ok : NdOk ps) : Ret Tryd.prog 17 #[.agg (nd ps)] w fun v' w' => v' = .bool (decide (ps = ndz)) ∧ Ch Nw w w' := by
  refine v_enter Tryd.func17 Tryd.ntmps17 rfl (by simp) fun R' hR => ?_
  have hsz := nd_size ok
  have hall := nd_all ok
  have heq := fun w => eq_nd w ok ndz_ok
  have hc := (Ch.refl Nw w).alloc (.cells (nd ps) 35)
  simp [go_sem, hsz, hall, bld_nd0, heq]
  exact hR _ _ ⟨rfl, hc⟩
def cnt (ps : List Pt) : Nat := (ps.filter fun p => decide (p ≠ ptz)).length
theorem cnt_snoc (ps : List Pt) (p : Pt) : cnt (ps ++ [p]) = cnt ps + if p = ptz then 0 else 1 := by
  unfold cnt
  rw [List.filter_append, List.length_append]
  by_cases h : p = ptz <;> simp [h]
theorem cnt_le (ps : List Pt) : cnt ps ≤ ps.length := List.length_filter_le _ _
theorem len_any (ps : List Pt) (w : World) (ok : NdOk ps) : Ret Tryd.prog 18 #[.agg (nd ps)] w fun v' w' => v' = .int .i64 (cnt ps) ∧ Ch Nw w w' := by
  refine v_enter Tryd.func18 Tryd.ntmps18 rfl (by simp) fun R' hR => ?_
  have hsz := nd_size ok
  have hall := nd_all ok
  have hc := (Ch.refl Nw w).alloc (.cells (nd ps) 35)
  simp [go_sem, hsz, hall]
  revert hc
  generalize w.alloc (.cells (nd ps) 35) = w1
  intro hc
  refine v_loop (fun r f wr => ∃ k, k ≤ 8 ∧ r = 8 - k ∧ f 3 = .int .i64 (cnt (ps.take k)) ∧ f 6 = .agg (nd ps) ∧ f 7 = .int .i64 k ∧ Ch Nw w wr) 8
    ⟨0, by omega, rfl, by simp [cnt], by simp, by simp, hc⟩ ?_
  rintro J hJ _ f wr ⟨k, hk, rfl, h3, h6, h7, hc⟩
  by_cases hk8 : k < 8
  · have hki : (k : Int) < 8 := by omega
    obtain ⟨p, hp, okp⟩ := ok.at' hk8
    have hix := nd_index ok hk8 hp
    have hs1 := pt_size okp
    have ha1 := pt_all okp
    have heq := fun w => eq_pt w okp ptz_ok
    have hwk : IntKind.i64.wrap ((k : Int) + 1) = ((k + 1 : Nat) : Int) := by simp [IntKind.wrap_i64]; omega
    have htk : ps.take (k + 1) = ps.take k ++ [p] := by rw [List.take_add_one, hp]; rfl
    have hcl := cnt_le (ps.take k)
    rw [List.length_take, ok.len] at hcl
    have hwc : IntKind.i64.wrap ((cnt (ps.take k) : Int) + 1) = ((cnt (ps.take k) + 1 : Nat) : Int) := by simp [IntKind.wrap_i64]; omega
    have hc' := hc.alloc (.cells (pt p) 28)
    by_cases hz : p = ptz
    · subst hz
      simp [go_sem, h6, h7, hki, hix, hz_pt, zc_pt, pt_size ptz_ok, hs1, ha1, blit_whole, bld_pt0, heq, hwk]
      refine Rnd.intro (8 - (k + 1)) (by omega) (hJ _ _ _ ⟨k + 1, by omega, rfl, ?_, by simp [h6], by simp, hc'⟩)
      rw [htk, cnt_snoc, if_pos rfl]
      simpa using h3
    · simp [go_sem, h3, h6, h7, hki, hix, hz_pt, zc_pt, pt_size ptz_ok, hs1, ha1, blit_whole, bld_pt0, heq, hz, hwk, hwc]
      refine Rnd.intro (8 - (k + 1)) (by omega) (hJ _ _ _ ⟨k + 1, by omega, rfl, ?_, by simp [h6], by simp, hc'⟩)
      rw [htk, cnt_snoc, if_neg hz]
      simp
  · obtain rfl : k = 8 := by omega
    rw [List.take_of_length_le (by rw [ok.len]; omega)] at h3
    simp [go_sem, h3, h7]
    exact hR _ _ ⟨rfl, hc⟩
theorem with_any (ps : List Pt) (i : Int) (p : Pt) (w : World) (ok : NdOk ps) (okp : PtOk p) : Ret Tryd.prog 22 #[.agg (nd ps), .int .i64 i, .agg (pt p)] w fun v' w' => v' = .agg (nd (if 0 ≤ i ∧ i < 8 then ps.set i.toNat p else ps)) ∧ Ch Nw w w' := by
  refine v_enter Tryd.func22 Tryd.ntmps22 rfl (by simp) fun R' hR => ?_
  have hsz := nd_size ok
  have hall := nd_all ok
  have hs1 := pt_size okp
  have ha1 := pt_all okp
  have hc := ((((Ch.refl Nw w).alloc (.cells (nd ps) 35)).alloc (.cells (pt p) 28)).alloc (.cells (nd ndz) 35))
  have b0 := al3_0 w (.cells (nd ps) 35) (.cells (pt p) 28) (.cells (nd ndz) 35)
  have b1 := al3_1 w (.cells (nd ps) 35) (.cells (pt p) 28) (.cells (nd ndz) 35)
  have b2 := al3_2 w (.cells (nd ps) 35) (.cells (pt p) 28) (.cells (nd ndz) 35)
  have hz := nd_size ndz_ok
  have hza := nd_all ndz_ok
  have e : (w.heap.size + 1) + 1 = w.heap.size + 2 := rfl
  by_cases h0 : 0 ≤ i
  · by_cases h8 : i < 8
    · rw [if_pos ⟨h0, h8⟩] at hR
      obtain ⟨k, rfl⟩ := Int.eq_ofNat_of_zero_le h0
      have hk : k < 8 := by omega
      have ok' := ok.set k okp
      simp [go_sem, hz_nd, zc_nd, h8]
      revert hc b0 b1 b2
      generalize ((w.alloc (.cells (nd ps) 35)).alloc (.cells (pt p) 28)).alloc (.cells (nd ndz) 35) = w1
      generalize hg : w.heap.size = g
      intro hc b0 b1 b2
      have b0' : (w1.setRow g (nd (ps.set k p))).heap[g]? = some (.cells (nd (ps.set k p)) 35 (0, 0)) := by rw [hp_setRow, b0]; rfl
      have b2' : (w1.setRow g (nd (ps.set k p))).heap[g + 1 + 1]? = some (.cells (nd ndz) 35 (0, 0)) := by rw [hp_setRow_ne _ _ _ _ (by omega)]; exact b2
      have b3 : ((w1.setRow g (nd (ps.set k p))).setRow (g + 1 + 1) (nd (ps.set k p))).heap[g + 1 + 1]? = some (.cells (nd (ps.set k p)) 35 (0, 0)) := by rw [hp_setRow, b2']; rfl
      simp [go_sem, b0, b1, b2, hsz, hs1, ha1, h8, hk, nd_blit ok hk okp, b0', b2', nd_size ok', nd_all ok', hz, blit_whole, b3, show k * 41 + 41 ≤ 328 by omega]
      exact hR _ _ ⟨by simp, (hc.setRow (.inr (by omega)) _).setRow (.inr (by omega)) _⟩
    · rw [if_neg (by omega)] at hR
      simp [go_sem, hz_nd, zc_nd, h0, h8]
      revert hc b0 b1 b2
      generalize ((w.alloc (.cells (nd ps) 35)).alloc (.cells (pt p) 28)).alloc (.cells (nd ndz) 35) = w1
      generalize hg : w.heap.size = g
      intro hc b0 b1 b2
      have b2' : w1.heap[g + 1 + 1]? = some (.cells (nd ndz) 35 (0, 0)) := b2
      have b3 : (w1.setRow (g + 1 + 1) (nd ps)).heap[g + 1 + 1]? = some (.cells (nd ps) 35 (0, 0)) := by rw [hp_setRow, b2']; rfl
      simp [go_sem, b0, b2', hsz, hall, hz, blit_whole, b3]
      exact hR _ _ ⟨rfl, hc.setRow (.inr (by omega)) _⟩
  · rw [if_neg (by omega)] at hR
    simp [go_sem, hz_nd, zc_nd, h0]
    revert hc b0 b1 b2
    generalize ((w.alloc (.cells (nd ps) 35)).alloc (.cells (pt p) 28)).alloc (.cells (nd ndz) 35) = w1
    generalize hg : w.heap.size = g
    intro hc b0 b1 b2
    have b2' : w1.heap[g + 1 + 1]? = some (.cells (nd ndz) 35 (0, 0)) := b2
    have b3 : (w1.setRow (g + 1 + 1) (nd ps)).heap[g + 1 + 1]? = some (.cells (nd ps) 35 (0, 0)) := by rw [hp_setRow, b2']; rfl
    simp [go_sem, b0, b2', hsz, hall, hz, blit_whole, b3]
    exact hR _ _ ⟨rfl, hc.setRow (.inr (by omega)) _⟩
end Go.Proofs.YtfcoiboeohgimaaDoor
