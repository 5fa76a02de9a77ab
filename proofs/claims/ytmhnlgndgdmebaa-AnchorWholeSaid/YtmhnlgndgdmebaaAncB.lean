/- What the document's Put of an anchor answers, as a contract on the call. No condition but that the values are of their types. -/
import Derived.Test.YtmhnlgndgdmebaaAncA
namespace Go.Proofs.Ytmhnlgndgdmebaa
open Go.RowKit Go.Kin

theorem hz_ranc : (Try.prog.info? 27).map (fun i => i.zero.isSome) = some true := by kernel_rfl
theorem zc_ranc : zc Try.prog 27 = anc 0 (zb 32) (zn 4) := by kernel_rfl

theorem rput_any (n : Nat) (h : List UInt8) (a : List Nat) (w : World) (ok : AncOk n h a) :
    Ret Try.prog 14 #[.agg (anc n h a)] w fun v' w' => v' = .agg (bvs (putB n h a)).toArray ∧ Ch Nw w w' := by
  obtain ⟨hn, hh, ha, hlt⟩ := ok
  refine v_enter Try.func14 Try.ntmps14 rfl (by simp) fun R' hR => ?_
  simp [go_sem, hz_b64, zc_b64, anc_0]
  have hb1 : ((w.alloc (.cells (anc n h a) 27)).alloc (.cells (bvs (zb 64)).toArray 28)).heap[w.heap.size]? = some (.cells (anc n h a) 27) := by simp
  have hb2 : ((w.alloc (.cells (anc n h a) 27)).alloc (.cells (bvs (zb 64)).toArray 28)).heap[w.heap.size + 1]? = some (.cells (bvs (zb 64)).toArray 28) := by simp
  have hc1 : Ch Nw w ((w.alloc (.cells (anc n h a) 27)).alloc (.cells (bvs (zb 64)).toArray 28)) := ((Ch.refl Nw w).alloc _).alloc _
  have hz1 : w.heap.size + 2 = ((w.alloc (.cells (anc n h a) 27)).alloc (.cells (bvs (zb 64)).toArray 28)).heap.size := by simp
  revert hb1 hb2 hc1 hz1
  generalize (w.alloc (.cells (anc n h a) 27)).alloc (.cells (bvs (zb 64)).toArray 28) = w1
  generalize hg : w.heap.size = g
  intro hb1 hb2 hc1 hz1
  refine (refNum n 8 w1 hn (by omega)).mono ?_
  rintro v2 w2 ⟨k1, k2, k3⟩
  have hm := Mine.of k1 (Ch.refl Nw w1) k2 k3
  simp [go_sem]
  refine v_loop (fun r f wr => ∃ k, k ≤ 32 ∧ r = 32 - k ∧ f 1 = .pointer (some ⟨g, 0, none⟩) ∧ f 2 = .pointer (some ⟨g + 1, 0, none⟩) ∧ f 4 = .int .i64 k ∧ Mine 5 w1 (f 3) (8 + k) (bvs (le n 8 ++ h.take k)) wr) 32
    ⟨0, by omega, rfl, by simp, by simp, by simp, by simpa using hm⟩ ?_
  rintro J hJ _ f wr ⟨k, hk, rfl, h1, h2, h4, ho⟩
  by_cases hk32 : k < 32
  · obtain ⟨c, hc⟩ : ∃ c, h[k]? = some c := ⟨_, List.getElem?_eq_getElem (by omega)⟩
    have hx := anc_h_at (n := n) (a := a) hh k hk32 c hc
    have hcell := fun i => cell_blk (ho.ch.hp hb1 id) i
    have hki : (k : Int) < 32 := by omega
    simp [go_sem, h1, h4, hki, hcell, hx]
    refine VB_app1 tyB ho.own (u := bv c) rfl (by unfold maxLen; omega) (by omega) fun v' w' d1 d2 d3 => ?_
    simp [go_sem, h4]
    refine Rnd.intro (32 - (k + 1)) (by omega) (hJ _ _ _ ⟨k + 1, by omega, rfl, by simpa using h1, by simpa using h2, by simp [IntKind.wrap_i64]; omega, ?_⟩)
    simp
    refine ho.grow ?_ d2 d3
    have e1 : bvs (le n 8 ++ h.take (k + 1)) = bvs (le n 8 ++ h.take k) ++ [bv c] := by
      rw [List.take_add_one, hc, ← List.append_assoc, bvs_append]
      rfl
    rw [e1]
    exact d1
  · obtain rfl : k = 32 := by omega
    rw [List.take_of_length_le (by omega)] at ho
    simp [go_sem, h4]
    clear hJ J hm k1 k2 k3
    refine v_loop (fun r f' wr => ∃ k, k ≤ 4 ∧ r = 4 - k ∧ f' 1 = .pointer (some ⟨g, 0, none⟩) ∧ f' 2 = .pointer (some ⟨g + 1, 0, none⟩) ∧ f' 5 = .int .i64 k ∧ Mine 5 w1 (f' 3) (40 + 2 * k) (bvs (le n 8 ++ (h ++ (a.take k).flatMap (fun x => le x 2)))) wr) 4
      ⟨0, by omega, rfl, by simpa using h1, by simpa using h2, by simp, by simpa using ho⟩ ?_
    clear ho h1 h2 h4
    rintro J hJ _ f wr ⟨k, hk, rfl, h1, h2, h5, ho⟩
    by_cases hk4 : k < 4
    · obtain ⟨x, hx⟩ : ∃ x, a[k]? = some x := ⟨_, List.getElem?_eq_getElem (by omega)⟩
      have hxl := hlt k x hx
      have hxa := anc_a_at (n := n) hh k x hx
      unfold u16v at hxa
      have hcell := fun i => cell_blk (ho.ch.hp hb1 id) i
      have hki : (k : Int) < 4 := by omega
      have hwr : IntKind.u64.wrap (x : Int) = x := by simp [IntKind.wrap_u64]; omega
      simp [go_sem, h1, h5, hki, hcell, hxa, hwr]
      refine (refNum x 2 wr (by omega) (by omega)).mono ?_
      rintro v4 w4 ⟨d1, d2, d3⟩
      have ho4 := ho.step d2
      simp [go_sem]
      refine VB_appn tyB ho4.own (Sl.of_own d1) (by rw [bvs_length, le_length]) (bvs_one _) (by unfold maxLen; omega) (by omega) fun v5 w5 e1 e2 e3 => ?_
      simp [go_sem, h5]
      refine Rnd.intro (4 - (k + 1)) (by omega) (hJ _ _ _ ⟨k + 1, by omega, rfl, by simpa using h1, by simpa using h2, by simp [IntKind.wrap_i64]; omega, ?_⟩)
      simp
      refine ho4.grow ?_ e2 e3
      have e1' : bvs (le n 8 ++ (h ++ (a.take (k + 1)).flatMap (fun x => le x 2))) = bvs (le n 8 ++ (h ++ (a.take k).flatMap (fun x => le x 2))) ++ bvs (le x 2) := by
        rw [List.take_add_one, hx]; simp [bvs_append]
      rw [e1']
      simpa [Nat.mul_add, Nat.add_assoc] using e1
    · obtain rfl : k = 4 := by omega
      rw [List.take_of_length_le (by omega)] at ho
      simp [go_sem, h5, hz_b64, zc_b64]
      clear hJ J
      have hm := ho.step ((Ch.refl Nw wr).alloc (.cells (bvs (zb 64)).toArray 28))
      have hb3 : (wr.alloc (.cells (bvs (zb 64)).toArray 28)).heap[wr.heap.size]? = some (.cells (bvs (zb 64)).toArray 28) := by simp
      have hz3 := ho.ch.size
      have hn3 : ∀ j, (f 3).ownBlock = some j → j < wr.heap.size := fun j hj => (ho.own.lt j hj).2
      revert hm hb3
      generalize (wr.alloc (.cells (bvs (zb 64)).toArray 28)) = w3
      generalize hg3 : wr.heap.size = g3 at *
      intro hm hb3
      generalize hL : le n 8 ++ (h ++ a.flatMap (fun x => le x 2)) = L at *
      have hL48 : L.length = 48 := by rw [← hL]; simp only [List.length_append, le_length, hh, flat2_length, ha]
      have hput : L ++ zb 16 = putB n h a := by rw [← hL]; simp [putB, zb]
      refine v_loop (fun r f' wr => ∃ k, k ≤ 48 ∧ r = 48 - k ∧ f' 2 = .pointer (some ⟨g + 1, 0, none⟩) ∧ f' 3 = f 3 ∧ f' 6 = .pointer (some ⟨g3, 0, none⟩) ∧ f' 7 = .int .i64 k ∧ Mine 5 w1 (f 3) 48 (bvs L) wr ∧ wr.heap[g3]? = some (.cells (bvs (L.take k ++ zb (64 - k))).toArray 28)) 48
        ⟨0, by omega, rfl, by simpa using h2, by simp, by simp, by simp, by simpa using hm, by simpa using hb3⟩ ?_
      generalize hv : f 3 = v at *
      clear hm hb3 ho h1 h2 h5 hv f w3
      rintro J hJ _ f wr ⟨k, hk, rfl, h2, h3, h6, h7, ho, hb3⟩
      have hlen := ho.sl.len Try.underlying60 3
      by_cases hk48 : k < 48
      · obtain ⟨c, hc⟩ : ∃ c, L[k]? = some c := ⟨_, List.getElem?_eq_getElem (by omega)⟩
        obtain ⟨ad, hat, hcl, hob⟩ := ho.sl.at tyB (by rw [bvs_length, hL48]) (bvs_get hc)
        have hki : (k : Int) < 48 := by omega
        have hki2 : (k : Int) < 64 := by omega
        have hcell := fun i => cell_blk hb3 i
        have hfz := fun i => frz_blk hb3 i
        have hin : (bvs (L.take k ++ zb (64 - k))).toArray[k]? = some (bv 0) := by
          rw [List.getElem?_toArray]
          refine bvs_get ?_
          rw [List.getElem?_append_right (by rw [List.length_take]; omega), List.length_take, zb, List.getElem?_replicate, if_pos (by omega)]
        unfold bv at hcl
        simp [go_sem, h3, h6, h7, hlen, hki, hki2, hat, hcl, hcell, hfz, hin]
        refine Rnd.intro (48 - (k + 1)) (by omega) (hJ _ _ _ ⟨k + 1, by omega, rfl, by simpa using h2, by simpa using h3, by simpa using h6, by simp [IntKind.wrap_i64]; omega, ho.setCell (p := ⟨g3, k, none⟩) hz3 (fun e => by have := hn3 _ e; simp at this) _, ?_⟩)
        have e1 : (L.take k ++ zb (64 - k)).set k c = L.take (k + 1) ++ zb (64 - (k + 1)) := by
          rw [List.set_append_right _ _ (by rw [List.length_take]; omega), List.length_take, hL48, show k - min k 48 = 0 by omega, List.take_add_one, hc, zb, show 64 - k = (64 - (k + 1)) + 1 by omega, List.replicate_succ, List.set_cons_zero]
          simp [zb]
        have e2 := bvs_set (L.take k ++ zb (64 - k)) k c
        rw [e1] at e2
        rw [hp_setCell, hb3, setOf_cells, ← e2]
        rfl
      · obtain rfl : k = 48 := by omega
        rw [List.take_of_length_le (by omega), show 64 - 48 = 16 by rfl, hput] at hb3
        have hL := putB_length (n := n) hh ha
        have hb2' := ho.ch.hp hb2 id
        simp [go_sem, h2, h3, h6, h7, hlen, hb3, hb2', bvs_length, hL, zb_length, blit_whole]
        exact hR _ _ ⟨rfl, (hc1.trans ho.ch).setRow (.inr (by omega)) _⟩
end Go.Proofs.Ytmhnlgndgdmebaa
