/- A node's cells: eight pointers behind one another; whether a pointer is good; a node that is empty, how many are none, one place changed. No condition but that the values are of their types. -/
import Derived.Test.YtppilgkgnofkpaaDoorPtC
import Derived.Test.YtppilgkgnofkpaaDoorPtG
import Derived.Test.YtppilgkgnofkpaaDoorBsl
set_option linter.unusedSimpArgs false
set_option linter.unusedVariables false

/- The document's Reader of wire, by value (Raw, Num, Noughts, End), as contracts on calls. No condition but on sizes. -/
namespace Go.Proofs.YtppilgkgnofkpaaDoor
open Go.RowKit Go.Kin

/-- value v is a reader of the document's: l is left, e its error; its bytes lie where b's lie, or nowhere -/
def RefR (w : World) (v : Value) (l : List UInt8) (e : Int) (own : Option Nat) : Prop :=
  ∃ s, v = .agg #[s, .int .i64 e] ∧ Sl w s l.length (bvs l) ∧ (s.ownBlock = own ∨ s.ownBlock = none)

theorem chBlk {S : Nat → Prop} {w w1 : World} {o : Obj} (hc : Ch S (w.alloc o) w1) (hn : ¬ S w.heap.size) : w1.heap[w.heap.size]? = some o := hc.obj (heap_alloc_new w o) hn

theorem chTwo (w : World) (g : Nat) (u v : Value) : Ch (only g) w ((w.setCell ⟨g, 0, none⟩ u).setCell ⟨g, 1, none⟩ v) :=
  ((Ch.refl (only g) w).setCell (p := ⟨g, 0, none⟩) (.inl rfl) u).setCell (p := ⟨g, 1, none⟩) (.inl rfl) v
theorem lt_own {own o : Option Nat} {B : Nat} (hown : ∀ k, own = some k → k < B) (h : o = own ∨ o = none) (g : Nat) (hg : B ≤ g) : ∀ k, o = some k → ¬ only g k := by
  rintro k hk rfl
  rcases h with h | h
  · have := hown k (by rw [← h, hk]); omega
  · rw [h] at hk; cases hk

/-- what the document's Noughts answers -/
def noughtR (l : List UInt8) (e : Int) (n : Nat) : List UInt8 × Int :=
  if (rawS l e n).1.all (· == 0) then (rawS l e n).2 else ([], 5)

end Go.Proofs.YtppilgkgnofkpaaDoor

/- What the document's Take of a pointer answers, as a contract on the call. No condition but on sizes. -/
namespace Go.Proofs.YtppilgkgnofkpaaDoor
open Go.RowKit Go.Kin

theorem own_or {S : Nat → Prop} {own o : Option Nat} (hn : ∀ k, own = some k → ¬ S k) (ho : o = own ∨ o = none) : ∀ k, o = some k → ¬ S k := by
  rintro k hk
  rcases ho with h | h
  · exact hn k (by rw [← h, hk])
  · rw [h] at hk; cases hk
theorem RefR.ch {S : Nat → Prop} {w w' : World} {v : Value} {l : List UInt8} {e : Int} {own : Option Nat} (h : RefR w v l e own) (hc : Ch S w w') (hn : ∀ k, own = some k → ¬ S k) : RefR w' v l e own := by
  obtain ⟨s, h1, h2, h3⟩ := h
  exact ⟨s, h1, h2.ch hc (own_or hn h3), h3⟩
/-- a reader is stored -/
def put2 (w : World) (q : Nat) (s : Value) (e : Int) : World := (w.setCell ⟨q, 0, none⟩ s).setCell ⟨q, 1, none⟩ (.int .i64 e)
theorem put2_ch {S : Nat → Prop} {w0 w : World} {q : Nat} {s : Value} {e : Int} (hc : Ch S w0 w) (hq : S q ∨ w0.heap.size ≤ q) : Ch S w0 (put2 w q s e) := (hc.setCell (p := ⟨q, 0, none⟩) hq _).setCell (p := ⟨q, 1, none⟩) hq _
end Go.Proofs.YtppilgkgnofkpaaDoor

namespace Go.Proofs.YtppilgkgnofkpaaDoor
open Go.RowKit Go.Kin

def nd (ps : List Pt) : Array Value := rowsOf pt ps
structure NdOk (ps : List Pt) : Prop where
  len : ps.length = 8
  all : ∀ p ∈ ps, PtOk p
def ndz : List Pt := List.replicate 8 ptz
theorem ndz_ok : NdOk ndz := ⟨rfl, fun p hp => by rw [(List.mem_replicate.1 hp).2]; exact ptz_ok⟩
section
variable {ps : List Pt}
theorem NdOk.sz (h : NdOk ps) : ∀ p ∈ ps, (pt p).size = 41 := fun p hp => pt_size (h.all p hp)
theorem nd_size (h : NdOk ps) : (nd ps).size = 328 := by unfold nd; rw [rows_size h.sz, h.len]
@[simp] theorem nd_ones (ps : List Pt) : ones (nd ps) = true := rows_ones fun p _ => pt_ones p
theorem nd_all (h : NdOk ps) : (nd ps).extract 0 328 = nd ps := by rw [← nd_size h]; simp
theorem nd_get (h : NdOk ps) {k : Nat} {p : Pt} (hk : ps[k]? = some p) : (nd ps).extract (k * 41) (k * 41 + 41) = pt p := rows_get h.sz hk
theorem nd_blit (h : NdOk ps) {k : Nat} {p : Pt} (hk : k < 8) (ok : PtOk p) : blit (nd ps) (k * 41) (pt p) = nd (ps.set k p) := rows_blit h.sz (by rw [h.len]; exact hk) (pt_size ok)
theorem NdOk.set (h : NdOk ps) (k : Nat) {p : Pt} (ok : PtOk p) : NdOk (ps.set k p) := ⟨by simp [h.len], fun q hq => by
  rcases List.mem_or_eq_of_mem_set hq with h1 | rfl
  · exact h.all q h1
  · exact ok⟩
theorem NdOk.at' (h : NdOk ps) {k : Nat} (hk : k < 8) : ∃ p, ps[k]? = some p ∧ PtOk p := ⟨_, List.getElem?_eq_getElem (by rw [h.len]; exact hk), h.all _ (List.getElem_mem _)⟩
end
theorem hz_nd : (Tryd.prog.info? 116).map (fun i => i.zero.isSome) = some true := by kernel_rfl
theorem zc_nd : zc Tryd.prog 116 = nd ndz := by kernel_rfl
theorem bld_nd0 {w : World} {K : Value → World → Prop} : VBld Tryd.prog 116 [] w K = K (.agg (nd ndz)) w :=
  VBld_array Tryd.underlying116 hz_nd Tryd.sizeOf28 (by simp [fillB, zc_nd])
theorem eq_nd (w : World) {ps qs : List Pt} (hp : NdOk ps) (hq : NdOk qs) : (Op.equalIn 10000 116 (.agg (nd ps)) (.agg (nd qs))).run Tryd.prog w = .ok (decide (ps = qs)) w :=
  run_equalIn_rows w 9999 _ _ 8 Tryd.underlying116 Tryd.sizeOf28 Tryd.isAgg28 ps qs hp.len hq.len hp.sz hq.sz fun x hx y hy => eq_pt_any w 9996 (hp.all x hx) (hq.all y hy)
theorem nd_index {ps : List Pt} (h : NdOk ps) {k : Nat} {p : Pt} (hk : k < 8) (hx : ps[k]? = some p) (w : World) : (Instr.index 116 (.agg (nd ps)) (.int .i64 k)).run Tryd.prog w = .ok (.agg (pt p)) w :=
  run_index_rows Tryd.underlying116 Tryd.sizeOf28 Tryd.isAgg28 h.sz hk hx w

/-- is a pointer a hole, or one that may be? -/
def okP (p : Pt) : Bool := decide (p = ptz) || mayP p
theorem empty_any (ps : List Pt) (w : World) (ok : NdOk ps) : Ret Tryd.prog 76 #[.agg (nd ps)] w fun v' w' => v' = .bool (decide (ps = ndz)) ∧ Ch Nw w w' := by
  refine v_enter Tryd.func76 Tryd.ntmps76 rfl (by simp) fun R' hR => ?_
  have hsz := nd_size ok
  have hall := nd_all ok
  have heq := fun w => eq_nd w ok ndz_ok
  have hc := (Ch.refl Nw w).alloc (.cells (nd ps) 116)
  simp [go_sem, hsz, hall, bld_nd0, heq]
  exact hR _ _ ⟨rfl, hc⟩
def cnt (ps : List Pt) : Nat := (ps.filter fun p => decide (p ≠ ptz)).length
theorem cnt_snoc (ps : List Pt) (p : Pt) : cnt (ps ++ [p]) = cnt ps + if p = ptz then 0 else 1 := by
  unfold cnt
  rw [List.filter_append, List.length_append]
  by_cases h : p = ptz <;> simp [h]
theorem cnt_le (ps : List Pt) : cnt ps ≤ ps.length := List.length_filter_le _ _
theorem with_any (ps : List Pt) (i : Int) (p : Pt) (w : World) (ok : NdOk ps) (okp : PtOk p) : Ret Tryd.prog 53 #[.agg (nd ps), .int .i64 i, .agg (pt p)] w fun v' w' => v' = .agg (nd (if 0 ≤ i ∧ i < 8 then ps.set i.toNat p else ps)) ∧ Ch Nw w w' := by
  refine v_enter Tryd.func53 Tryd.ntmps53 rfl (by simp) fun R' hR => ?_
  have hsz := nd_size ok
  have hall := nd_all ok
  have hs1 := pt_size okp
  have ha1 := pt_all okp
  have hc := ((((Ch.refl Nw w).alloc (.cells (nd ps) 116)).alloc (.cells (pt p) 28)).alloc (.cells (nd ndz) 116))
  have b0 := al3_0 w (.cells (nd ps) 116) (.cells (pt p) 28) (.cells (nd ndz) 116)
  have b1 := al3_1 w (.cells (nd ps) 116) (.cells (pt p) 28) (.cells (nd ndz) 116)
  have b2 := al3_2 w (.cells (nd ps) 116) (.cells (pt p) 28) (.cells (nd ndz) 116)
  have hz := nd_size ndz_ok
  have hza := nd_all ndz_ok
  have e : (w.heap.size + 1) + 1 = w.heap.size + 2 := rfl
  by_cases h0 : 0 ≤ i
  · by_cases h8 : i < 8
    · rw [if_pos ⟨h0, h8⟩] at hR
      obtain ⟨k, rfl⟩ := Int.eq_ofNat_of_zero_le h0
      have hk : k < 8 := by omega
      have ok' := ok.set k okp
      simp [go_sem, hz_nd, zc_nd, h8]
      revert hc b0 b1 b2
      generalize ((w.alloc (.cells (nd ps) 116)).alloc (.cells (pt p) 28)).alloc (.cells (nd ndz) 116) = w1
      generalize hg : w.heap.size = g
      intro hc b0 b1 b2
      have b0' : (w1.setRow g (nd (ps.set k p))).heap[g]? = some (.cells (nd (ps.set k p)) 116 (0, 0)) := by rw [hp_setRow, b0]; rfl
      have b2' : (w1.setRow g (nd (ps.set k p))).heap[g + 1 + 1]? = some (.cells (nd ndz) 116 (0, 0)) := by rw [hp_setRow_ne _ _ _ _ (by omega)]; exact b2
      have b3 : ((w1.setRow g (nd (ps.set k p))).setRow (g + 1 + 1) (nd (ps.set k p))).heap[g + 1 + 1]? = some (.cells (nd (ps.set k p)) 116 (0, 0)) := by rw [hp_setRow, b2']; rfl
      simp [go_sem, b0, b1, b2, hsz, hs1, ha1, h8, hk, nd_blit ok hk okp, b0', b2', nd_size ok', nd_all ok', hz, blit_whole, b3, show k * 41 + 41 ≤ 328 by omega]
      exact hR _ _ ⟨by simp, (hc.setRow (.inr (by omega)) _).setRow (.inr (by omega)) _⟩
    · rw [if_neg (by omega)] at hR
      simp [go_sem, hz_nd, zc_nd, h0, h8]
      revert hc b0 b1 b2
      generalize ((w.alloc (.cells (nd ps) 116)).alloc (.cells (pt p) 28)).alloc (.cells (nd ndz) 116) = w1
      generalize hg : w.heap.size = g
      intro hc b0 b1 b2
      have b2' : w1.heap[g + 1 + 1]? = some (.cells (nd ndz) 116 (0, 0)) := b2
      have b3 : (w1.setRow (g + 1 + 1) (nd ps)).heap[g + 1 + 1]? = some (.cells (nd ps) 116 (0, 0)) := by rw [hp_setRow, b2']; rfl
      simp [go_sem, b0, b2', hsz, hall, hz, blit_whole, b3]
      exact hR _ _ ⟨rfl, hc.setRow (.inr (by omega)) _⟩
  · rw [if_neg (by omega)] at hR
    simp [go_sem, hz_nd, zc_nd, h0]
    revert hc b0 b1 b2
    generalize ((w.alloc (.cells (nd ps) 116)).alloc (.cells (pt p) 28)).alloc (.cells (nd ndz) 116) = w1
    generalize hg : w.heap.size = g
    intro hc b0 b1 b2
    have b2' : w1.heap[g + 1 + 1]? = some (.cells (nd ndz) 116 (0, 0)) := b2
    have b3 : (w1.setRow (g + 1 + 1) (nd ps)).heap[g + 1 + 1]? = some (.cells (nd ps) 116 (0, 0)) := by rw [hp_setRow, b2']; rfl
    simp [go_sem, b0, b2', hsz, hall, hz, blit_whole, b3]
    exact hR _ _ ⟨rfl, hc.setRow (.inr (by omega)) _⟩
end Go.Proofs.YtppilgkgnofkpaaDoor
