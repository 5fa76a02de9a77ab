/- An anchor's cells and bytes; what package anchor's Put and the document's Put answer, as contracts on calls. No condition but that the values are of their types. -/
import Derived.Test.YtmhnlgndgdmebaaWireE
import Derived.Test.YtmhnlgndgdmebaaAgg
namespace Go.Proofs.Ytmhnlgndgdmebaa
open Go.RowKit Go.Kin

/-- an anchor's cells -/
def anc (n : Nat) (h : List UInt8) (a : List Nat) : Array Value := (Value.int .u64 n :: (bvs h ++ u16s a)).toArray
structure AncOk (n : Nat) (h : List UInt8) (a : List Nat) : Prop where
  hn : n < 18446744073709551616
  hh : h.length = 32
  ha : a.length = 4
  lt : ∀ (i : Nat) (x : Nat), a[i]? = some x → x < 65536
section
variable {n : Nat} {h : List UInt8} {a : List Nat}
theorem anc_size (hh : h.length = 32) (ha : a.length = 4) : (anc n h a).size = 37 := by simp [anc, bvs_length, u16s_length, hh, ha]
@[simp] theorem anc_one (n : Nat) (h : List UInt8) (a : List Nat) : ones (anc n h a) = true := by
  refine ones_of fun u hu => ?_
  simp only [List.mem_cons, List.mem_append] at hu
  rcases hu with rfl | hu | hu
  · rfl
  · exact bvs_one _ u hu
  · exact u16s_one _ u hu
theorem anc_all (hh : h.length = 32) (ha : a.length = 4) : (anc n h a).extract 0 37 = anc n h a := by rw [← anc_size (n := n) hh ha]; simp
theorem anc_0 (n : Nat) (h : List UInt8) (a : List Nat) : (anc n h a)[0]? = some (.int .u64 n) := by simp [anc]
theorem anc_h (hh : h.length = 32) : (anc n h a).extract 1 33 = (bvs h).toArray := by
  apply Array.ext'
  simp [anc, List.extract_eq_take_drop, hh, bvs_length]
theorem anc_a (hh : h.length = 32) (ha : a.length = 4) : (anc n h a).extract 33 37 = (u16s a).toArray := by
  apply Array.ext'
  simp [anc, List.extract_eq_take_drop, hh, bvs_length]
  exact List.take_of_length_le (by rw [u16s_length]; omega)
theorem anc_h_at (hh : h.length = 32) (i : Nat) (hi : i < 32) (c : UInt8) (hc : h[i]? = some c) : (anc n h a)[1 + i]? = some (.int .u8 c.toNat) := by
  have e : (anc n h a)[1 + i]? = some (bv c) := by
    rw [anc, Nat.add_comm 1 i, List.getElem?_toArray, List.getElem?_cons_succ, List.getElem?_append_left (by rw [bvs_length]; omega), bvs, List.getElem?_map, hc]
    rfl
  exact e
theorem anc_a_at (hh : h.length = 32) (i : Nat) (x : Nat) (hx : a[i]? = some x) : (anc n h a)[33 + i]? = some (u16v x) := by
  simp [anc, show 33 + i = (32 + i) + 1 by omega, List.getElem?_append, bvs_length, hh, u16s, hx]
end
def zb (n : Nat) : List UInt8 := List.replicate n 0
theorem zb_length (n : Nat) : (zb n).length = n := List.length_replicate
def zn (n : Nat) : List Nat := List.replicate n 0
theorem zn_length (n : Nat) : (zn n).length = n := List.length_replicate
theorem zc_anc : zc Try.prog 29 = anc 0 (zb 32) (zn 4) := by kernel_rfl
theorem zc_b64 : zc Try.prog 28 = (bvs (zb 64)).toArray := by kernel_rfl
theorem hz_anc : (Try.prog.info? 29).map (fun i => i.zero.isSome) = some true := by kernel_rfl
theorem hz_b64 : (Try.prog.info? 28).map (fun i => i.zero.isSome) = some true := by kernel_rfl
theorem bvs_whole {l : List UInt8} {n : Nat} (h : l.length = n) : ((bvs l).toArray).extract 0 n = (bvs l).toArray := by subst h; apply Array.ext'; simp [List.extract_eq_take_drop, ← bvs_length l]
theorem blit_whole {cs us : Array Value} (h : us.size = cs.size) : blit cs 0 us = us := by
  unfold blit
  apply Array.ext'
  simp [h]

def putB (n : Nat) (h : List UInt8) (a : List Nat) : List UInt8 := le n 8 ++ (h ++ (a.flatMap (fun x => le x 2) ++ List.replicate 16 0))
theorem flat2_length (a : List Nat) : (a.flatMap (fun x => le x 2)).length = 2 * a.length := by
  induction a with
  | nil => rfl
  | cons x a ih => simp [le_length, ih] at *; omega
theorem putB_length {n : Nat} {h : List UInt8} {a : List Nat} (hh : h.length = 32) (ha : a.length = 4) : (putB n h a).length = 64 := by
  have := flat2_length a
  simp only [putB, List.length_append, le_length, hh, this, ha, List.length_replicate]

theorem put_any (n : Nat) (h : List UInt8) (a : List Nat) (w : World) (ok : AncOk n h a) :
    Ret Try.prog 13 #[.agg (anc n h a)] w fun v' w' => v' = .agg (bvs (putB n h a)).toArray ∧ Ch Nw w w' := by
  obtain ⟨hn, hh, ha, hlt⟩ := ok
  have hall := anc_all (n := n) hh ha
  have hsz := anc_size (n := n) hh ha
  refine v_enter Try.func13 Try.ntmps13 rfl (by simp) fun R' hR => ?_
  simp [go_sem, hz_b64, zc_b64]
  have hb1 : ((w.alloc (.cells (anc n h a) 29)).alloc (.cells (bvs (zb 64)).toArray 28)).heap[w.heap.size]? = some (.cells (anc n h a) 29) := by simp
  have hb2 : ((w.alloc (.cells (anc n h a) 29)).alloc (.cells (bvs (zb 64)).toArray 28)).heap[w.heap.size + 1]? = some (.cells (bvs (zb 64)).toArray 28) := by simp
  have hc1 : Ch Nw w ((w.alloc (.cells (anc n h a) 29)).alloc (.cells (bvs (zb 64)).toArray 28)) := ((Ch.refl Nw w).alloc _).alloc _
  have hz1 : w.heap.size + 2 = ((w.alloc (.cells (anc n h a) 29)).alloc (.cells (bvs (zb 64)).toArray 28)).heap.size := by simp
  revert hb1 hb2 hc1 hz1
  generalize (w.alloc (.cells (anc n h a) 29)).alloc (.cells (bvs (zb 64)).toArray 28) = w1
  generalize hg : w.heap.size = g
  intro hb1 hb2 hc1 hz1
  have hcell := fun i => cell_blk hb1 i
  refine v_draw' [(0, none), (1, none), (3, none), (4, none), (2, some [3, 4]), (5, some []), (6, none)] (by kernel_rfl) (by kernel_rfl) ?_
  simp [go_sem, hcell, anc_0]
  refine (wu64 (.slice none 0 0) 0 [] n _ hn (by decide) (World.ownsRow_nil _ _ _ _)).mono ?_
  rintro v2 w2 ⟨k1, k2, k3⟩
  have k2 : Ch Nw w1 w2 := k2.of_drew.mono fun _ _ e => by simp [Value.ownBlock] at e
  have hb1' := k2.hp hb1 id
  have hb2' := k2.hp hb2 id
  have hs : Sl w2 (.slice (some ⟨g, 1, none⟩) 32 32) h.length (bvs h) := by
    rw [hh]
    refine Sl.of_blk hb1' (Nat.le_refl _) (by decide) ?_
    simp [anc, hh, bvs_length]
  simp [go_sem]
  refine VB_appn tyB k1 hs (bvs_length h) (bvs_one _) (by unfold maxLen; omega) (by omega) fun v3 w3 k4 k5 k6 => ?_
  have k7 : Ch Nw w1 w3 := k2.trans' k5 fun j hj e => by
    rcases k3 with k3 | k3
    · rw [k3] at e; simp [Value.ownBlock] at e
    · have := k3 j e; simp at this; omega
  have hf3 : Fresh w1.heap.size v3 := by
    rcases k6 with k6 | k6
    · intro j hj
      rw [k6] at hj
      rcases k3 with k3 | k3
      · rw [k3] at hj; simp [Value.ownBlock] at hj
      · have := k3 j hj; simpa using this
    · exact k6.mono k2.size
  rw [← bvs_append, List.nil_append, Nat.zero_add, hh] at k4
  have hcell3 := fun i => cell_blk (k7.hp hb1 id) i
  obtain ⟨a0, a1, a2, a3, rfl⟩ : ∃ a0 a1 a2 a3, a = [a0, a1, a2, a3] := by
    match a, ha with
    | [a0, a1, a2, a3], _ => exact ⟨a0, a1, a2, a3, rfl⟩
  have c0 := anc_a_at (n := n) hh 0 a0 (a := [a0, a1, a2, a3]) rfl
  have c1 := anc_a_at (n := n) hh 1 a1 (a := [a0, a1, a2, a3]) rfl
  have c2 := anc_a_at (n := n) hh 2 a2 (a := [a0, a1, a2, a3]) rfl
  have c3 := anc_a_at (n := n) hh 3 a3 (a := [a0, a1, a2, a3]) rfl
  simp only [Nat.reduceAdd] at c0 c1 c2 c3
  simp [go_sem, hcell3, c0, c1, c2, c3]
  refine v_loop (fun r f wr => ∃ k, k ≤ 4 ∧ r = 4 - k ∧ f 2 = .pointer (some ⟨g + 1, 0, none⟩) ∧ f 13 = .agg (u16s [a0, a1, a2, a3]).toArray ∧ f 14 = .int .i64 k ∧ Onto w3 v3 40 (le n 8 ++ h) (2 * k) (([a0, a1, a2, a3].take k).flatMap (fun x => le x 2)) (f 3) wr) 4
    ⟨0, by omega, rfl, by simp, by simp [u16s], by simp, by simpa using Onto.refl k4⟩ ?_
  rintro J hJ _ f wr ⟨k, hk, rfl, h2, h13, h14, ho⟩
  by_cases hlt4 : k < 4
  · obtain ⟨x, hx⟩ : ∃ x, [a0, a1, a2, a3][k]? = some x := ⟨_, List.getElem?_eq_getElem (by simpa using hlt4)⟩
    have hx' : (u16s [a0, a1, a2, a3])[k]? = some (.int .u16 x) := by rw [u16s, List.getElem?_map, hx]; rfl
    have hxl := hlt k x hx
    have hk4 : (k : Int) < 4 := by omega
    have hidx := fun w => run_index_agg (P := Try.prog) (kd := .i64) Try.underlying25 Try.sizeOf24 Try.isAgg24 hlt4 (cs := (u16s [a0, a1, a2, a3]).toArray) (by simpa using hx') w
    simp [go_sem, h13, h14, hk4, hidx]
    refine (wu16 _ _ _ x wr hxl (by omega) ho.1).mono ?_
    rintro v4 w4 ⟨d1, d2, d3⟩
    simp [go_sem, h14]
    refine Rnd.intro (4 - (k + 1)) (by omega) (hJ _ _ _ ⟨k + 1, by omega, rfl, by simpa using h2, by simpa using h13, by simp [IntKind.wrap_i64]; omega, ?_⟩)
    have e1 : ([a0, a1, a2, a3].take (k + 1)).flatMap (fun x => le x 2) = ([a0, a1, a2, a3].take k).flatMap (fun x => le x 2) ++ le x 2 := by
      rw [List.take_add_one, hx]; simp
    rw [e1]
    refine ⟨?_, ho.2.1.trans' d2 fun j hj e => ?_, ?_⟩
    · rw [List.append_assoc] at d1
      simpa [Nat.mul_add, Nat.add_assoc] using d1
    · rcases ho.2.2 with h | h
      · rw [← h]; exact e
      · have := h j e; omega
    · simp
      rcases d3 with d3 | d3
      · rcases ho.2.2 with h | h
        · exact .inl (d3.trans h)
        · exact .inr fun j hj => h j (by rw [← d3]; exact hj)
      · exact .inr (d3.mono ho.2.1.size)
  · obtain rfl : k = 4 := by omega
    simp [go_sem, h14]
    have hl48 : (le n 8 ++ h ++ ([a0, a1, a2, a3].take 4).flatMap (fun x => le x 2)).length = 48 := by
      simp [le_length, hh]
    refine (fill_any (f 3) 48 _ 64 wr (by omega) (by omega) hl48 (by simpa using ho.1)).mono ?_
    rintro v5 w5 ⟨d1, d2, d3⟩
    have hput : bvs (le n 8 ++ h ++ ([a0, a1, a2, a3].take 4).flatMap (fun x => le x 2) ++ List.replicate ((64 : Int).toNat - 48) 0) = bvs (putB n h [a0, a1, a2, a3]) := by
      simp [putB]
    rw [hput] at d1
    obtain ⟨g5, cap5, cur5, rfl, hb5, e1, e2, e3, e4⟩ := own_blk d1 (by omega)
    have hc5 : Ch Nw w1 w5 := (k7.trans' ho.2.1 (fun j hj e => by have := hf3 j e; omega)).trans' d2 fun j hj e => by
      rcases ho.2.2 with h | h
      · rw [h] at e; have := hf3 j e; omega
      · have := h j e; have := k7.size; omega
    have hb2' := hc5.hp hb2 id
    have hne : g + 1 ≠ g5 := by
      have hf5 : Fresh w1.heap.size (.slice (some ⟨g5, 0, none⟩) (48 + ((64 : Int).toNat - 48)) cap5) := by
        rcases d3 with d3 | d3
        · intro j hj
          rw [d3] at hj
          rcases ho.2.2 with h | h
          · rw [h] at hj; exact hf3 j hj
          · exact Nat.le_trans k7.size (h j hj)
        · exact d3.mono (Nat.le_trans k7.size ho.2.1.size)
      have := hf5 g5 rfl
      omega
    have harr : ∀ w, (Instr.arrayAt 28 (.slice (some ⟨g5, 0, none⟩) 64 cap5)).run Try.prog w = .ok (.pointer (some ⟨g5, 0, none⟩)) w := fun w => run_arrayAt w _ _ _ _ _ _ Try.underlying28 (by omega)
    have hL := putB_length (n := n) hh (a := [a0, a1, a2, a3]) rfl
    have e3' : 64 ≤ cur5.size := by simpa using e3
    have e4' : cur5.extract 0 64 = (bvs (putB n h [a0, a1, a2, a3])).toArray := by simpa using e4
    simp [go_sem, harr, hb5, e3', e4', h2, hb2', bvs_length, hL, zb_length, blit_whole]
    exact hR _ _ ⟨rfl, (hc1.trans hc5).setRow (.inr (by omega)) _⟩
end Go.Proofs.Ytmhnlgndgdmebaa
