/- What node's Put and Take answer, as contracts on calls. Conditions: the variable ptr.wide holds what the text lays; sizes. -/
import Derived.Test.YtppilgkgnofkpaaDoorNdA
set_option linter.unusedSimpArgs false
set_option linter.unusedVariables false

namespace Go.Proofs.YtppilgkgnofkpaaDoor
open Go.RowKit Go.Kin

def bytesN (ps : List Pt) : List UInt8 := ps.flatMap putP
theorem bytesN_length : ∀ (ps : List Pt), (∀ p ∈ ps, PtOk p) → (bytesN ps).length = 64 * ps.length
  | [], _ => rfl
  | p :: ps, h => by
    have := bytesN_length ps fun q hq => h q (by simp [hq])
    have hp := putP_length (h p (by simp))
    simp only [bytesN, List.flatMap_cons, List.length_append, List.length_cons] at *
    rw [this, hp]; omega
theorem okP_iff {p : Pt} : okP p = true ↔ p = ptz ∨ mayP p = true := by simp [okP]
/-- what Put answers -/
def NPut (ps : List Pt) (w : World) (v' : Value) (w' : World) : Prop :=
  (ps.all okP = true ∧ ∃ s, v' = .tuple #[s, .int .i64 0] ∧ Mine 5 w s 512 (bvs (bytesN ps)) w') ∨ (ps.all okP = false ∧ v' = .tuple #[.slice none 0 0, .int .i64 5] ∧ Ch Nw w w')
theorem nput_any (ps : List Pt) (w : World) (ok : NdOk ps) (hw : Lw w) : Ret Tryd.prog 77 #[.agg (nd ps)] w (NPut ps w) := by
  refine v_enter Tryd.func77 Tryd.ntmps77 rfl (by simp) fun R' hR => ?_
  have hsz := nd_size ok
  have hall := nd_all ok
  have hc := (Ch.refl Nw w).alloc (.cells (nd ps) 116)
  simp [go_sem, hsz, hall]
  revert hc
  generalize w.alloc (.cells (nd ps) 116) = w1
  intro hc
  refine v_loop (fun r f wr => ∃ k, k ≤ 8 ∧ r = 8 - k ∧ f 7 = .agg (nd ps) ∧ f 8 = .int .i64 k ∧ (ps.take k).all okP = true ∧ Mine 5 w (f 4) (64 * k) (bvs (bytesN (ps.take k))) wr) 8
    ⟨0, by omega, rfl, by simp, by simp, by simp, by simpa [bytesN, bvs] using Mine.nil _ hc⟩ ?_
  rintro J hJ _ f wr ⟨k, hk, rfl, h7, h8, ha, hm⟩
  by_cases hk8 : k < 8
  · have hki : (k : Int) < 8 := by omega
    obtain ⟨p, hp, okp⟩ := ok.at' hk8
    have hix := nd_index ok hk8 hp
    have hs1 := pt_size okp
    have ha1 := pt_all okp
    have heq := fun w => eq_pt w okp ptz_ok
    have hwk : IntKind.i64.wrap ((k : Int) + 1) = ((k + 1 : Nat) : Int) := by simp [IntKind.wrap_i64]; omega
    have htk : ps.take (k + 1) = ps.take k ++ [p] := by rw [List.take_add_one, hp]; rfl
    have hm1 := hm.step ((Ch.refl Nw wr).alloc (.cells (pt p) 28))
    have hb1 := hp_alloc wr (.cells (pt p) 28)
    have htl : (bytesN (ps.take k)).length = 64 * k := by
      rw [bytesN_length _ fun q hq => ok.all q (List.mem_of_mem_take hq), List.length_take, ok.len, Nat.min_eq_left hk]
    have fin : ∀ w2, Mine 5 w (f 4) (64 * k) (bvs (bytesN (ps.take k))) w2 → okP p = true → Ret Tryd.prog 88 #[f 4, .agg (pt p)] w2 fun v3 w3 => Mine 5 w v3 (64 * (k + 1)) (bvs (bytesN (ps.take (k + 1)))) w3 := fun w2 h2 _ => by
      refine (pput_any (f 4) (64 * k) (bytesN (ps.take k)) p w2 okp (by omega) htl h2.own).mono ?_
      intro v3 w3 q
      have := h2.grow q.1 q.2.1 q.2.2
      rw [htk]
      simpa [bytesN, Nat.mul_add] using this
    by_cases hz : p = ptz
    · subst hz
      simp [go_sem, h7, h8, hki, hix, hz_pt, zc_pt, pt_size ptz_ok, hs1, ha1, blit_whole, bld_pt0, heq]
      revert hm1 hb1
      generalize wr.alloc (.cells (pt ptz) 28) = w2
      intro hm1 hb1
      refine (fin w2 hm1 (by simp [okP])).mono ?_
      intro v3 w3 hm3
      simp [go_sem, h7, h8, hwk]
      refine Rnd.intro (8 - (k + 1)) (by omega) (hJ _ _ _ ⟨k + 1, by omega, rfl, by simp [h7], by simp, ?_, by simpa using hm3⟩)
      rw [htk, List.all_append, ha]
      simp [okP]
    · simp [go_sem, h7, h8, hki, hix, hz_pt, zc_pt, pt_size ptz_ok, hs1, ha1, blit_whole, bld_pt0, heq, hz]
      revert hm1 hb1
      generalize wr.alloc (.cells (pt p) 28) = w2
      generalize wr.heap.size = g
      intro hm1 hb1
      refine (may_any p w2 okp (hw.ch hm1.ch id)).mono ?_
      rintro _ w3 ⟨rfl, c3⟩
      have hm2 := hm1.step c3
      have hb2 := c3.hp hb1 id
      cases hmay : mayP p
      · simp [go_sem]
        refine hR _ _ (.inr ⟨?_, rfl, hm2.ch⟩)
        rw [List.all_eq_false]
        exact ⟨p, List.mem_of_getElem? hp, by simp [okP, hz, hmay]⟩
      · simp [go_sem, hb2, hs1, ha1]
        refine (fin w3 hm2 (by simp [okP, hmay])).mono ?_
        intro v3 w4 hm3
        simp [go_sem, h7, h8, hwk]
        refine Rnd.intro (8 - (k + 1)) (by omega) (hJ _ _ _ ⟨k + 1, by omega, rfl, by simp [h7], by simp, ?_, by simpa using hm3⟩)
        rw [htk, List.all_append, ha]
        simp [okP, hmay]
  · obtain rfl : k = 8 := by omega
    rw [List.take_of_length_le (by rw [ok.len]; omega)] at ha hm
    simp [go_sem, h8]
    exact hR _ _ (.inl ⟨ha, _, rfl, hm⟩)

/-- eight pointers, one behind another, and what is left -/
def ndS : Nat → List UInt8 → Int → List Pt × List UInt8 × Int
  | 0, l, e => ([], l, e)
  | n + 1, l, e => ((ndS n l e).1 ++ [(ptS (ndS n l e).2.1 (ndS n l e).2.2).1], (ptS (ndS n l e).2.1 (ndS n l e).2.2).2)
theorem rawS_left (l : List UInt8) (e : Int) (n : Nat) : (rawS l e n).2.1.length ≤ l.length := by
  unfold rawS
  split
  · simp
  · split <;> simp
theorem ptS_left (l : List UInt8) (e : Int) : (ptS l e).2.1.length ≤ l.length := by
  have := rawS_left l e 64
  unfold ptS
  split
  · exact this
  · split
    · exact this
    · simp
theorem ptS_ok (l : List UInt8) (e : Int) : PtOk (ptS l e).1 := by
  unfold ptS
  split
  · exact ptz_ok
  · split
    · refine ptOf_ok ?_
      have := rawS_le l e 64
      omega
    · exact ptz_ok
theorem ndS_left (n : Nat) (l : List UInt8) (e : Int) : (ndS n l e).2.1.length ≤ l.length := by
  induction n with
  | zero => exact Nat.le_refl _
  | succ n ih => exact Nat.le_trans (ptS_left _ _) ih
theorem ndS_length (n : Nat) (l : List UInt8) (e : Int) : (ndS n l e).1.length = n := by
  induction n with
  | zero => rfl
  | succ n ih => simp [ndS, ih]
theorem ndS_ok (n : Nat) (l : List UInt8) (e : Int) : ∀ p ∈ (ndS n l e).1, PtOk p := by
  induction n with
  | zero => simp [ndS]
  | succ n ih =>
    intro p hp
    simp only [ndS, List.mem_append, List.mem_singleton] at hp
    rcases hp with hp | rfl
    · exact ih p hp
    · exact ptS_ok _ _
/-- what node's Take answers -/
def nd8 (l : List UInt8) : List Pt × Int := if (endS (ndS 8 l 0).2.1 (ndS 8 l 0).2.2).2 = 0 then ((ndS 8 l 0).1, 0) else (ndz, 5)
/-- in the midst of Take: k pointers are read -/
structure Mid (w0 w : World) (q4 q5 gr o : Nat) (l : List UInt8) (k : Nat) : Prop where
  cell : w.heap[q4]? = some (.cells #[.pointer (some ⟨gr, 0, none⟩)] 177 (0, 0))
  rdr : Rdr w gr o (ndS k l 0).2.1 (ndS k l 0).2.2
  node : w.heap[q5]? = some (.cells (nd ((ndS k l 0).1 ++ List.replicate (8 - k) ptz)) 116 (0, 0))
  ch : Ch (fun j => j = gr ∨ j = q5) w0 w
theorem mid_ok (k : Nat) (hk : k ≤ 8) (l : List UInt8) : NdOk ((ndS k l 0).1 ++ List.replicate (8 - k) ptz) := ⟨by simp [ndS_length]; omega, fun p hp => by
  rcases List.mem_append.1 hp with h | h
  · exact ndS_ok _ _ _ p h
  · rw [(List.mem_replicate.1 h).2]; exact ptz_ok⟩
theorem ncl2 (w0 w : World) (q4 q5 gr o : Nat) (l : List UInt8) (k : Nat) (hk : k < 8) (hl : l.length ≤ 1000000) (hw : Lw w) (h1 : q4 ≠ q5) (h2 : q4 ≠ gr) (h3 : gr ≠ q5) (h4 : o ≠ q5) (h5 : gr ≠ 0) (ho : o < w.heap.size) (h : Mid w0 w q4 q5 gr o l k) :
    Ret Tryd.prog 93 #[.pointer (some ⟨q5, k * 41, none⟩), .pointer (some ⟨q4, 0, none⟩)] w fun v' w' => v' = .tuple #[] ∧ Mid w0 w' q4 q5 gr o l (k + 1) := by
  obtain ⟨hc, hr, hn, hch⟩ := h
  have e4 := fun i => cell_blk hc i
  refine v_enter Tryd.func93 Tryd.ntmps93 rfl (by simp) fun R' hR => ?_
  simp [go_sem, e4]
  have hll := ndS_left k l 0
  refine (ptake_any gr o _ _ w (by omega) hw h5 hr ho).mono ?_
  rintro _ w2 ⟨rfl, r2, c2⟩
  have hc2 := c2.hp hc (by simp only [only]; omega)
  have hn2 := c2.hp hn (by simp only [only]; omega)
  have okm := mid_ok k (by omega) l
  have okp := ptS_ok (ndS k l 0).2.1 (ndS k l 0).2.2
  have hbl := nd_blit okm hk okp
  simp [go_sem, hn2, nd_size okm, pt_size okp, hbl, show k * 41 + 41 ≤ 328 by omega]
  have c3 := (Ch.refl (only q5) w2).setRow (g := q5) (.inl rfl) (nd (((ndS k l 0).1 ++ List.replicate (8 - k) ptz).set k (ptS (ndS k l 0).2.1 (ndS k l 0).2.2).1))
  refine hR _ _ ⟨rfl, ?_, ?_, ?_, ?_⟩
  · exact c3.hp hc2 (by simp only [only]; omega)
  · exact r2.ch c3 (by simp only [only]; omega) (by simp only [only]; omega)
  · rw [hp_setRow, hn2]
    simp only [rowOf_cells]
    congr 3
    rw [List.set_append_right _ _ (by rw [ndS_length]; omega), ndS_length, Nat.sub_self, show 8 - k = (8 - (k + 1)) + 1 by omega, List.replicate_succ, List.set_cons_zero]
    simp [ndS]
  · exact (hch.trans (c2.mono fun j _ e => .inl e)).setRow (.inl (.inr rfl)) _
theorem ncl1 (w : World) (q4 q5 gr o : Nat) (l : List UInt8) (hl : l.length ≤ 1000000) (hw : Lw w) (h1 : q4 ≠ q5) (h2 : q4 ≠ gr) (h3 : gr ≠ q5) (h4 : o ≠ q5) (h5 : gr ≠ 0) (h6 : q5 ≠ 0) (ho : o < w.heap.size) (h : Mid w w q4 q5 gr o l 0) :
    Ret Tryd.prog 92 #[.func (.func 93) #[] #[.pointer (some ⟨q4, 0, none⟩)], .pointer (some ⟨q5, 0, none⟩)] w fun v' w' => v' = .tuple #[] ∧ Mid w w' q4 q5 gr o l 8 := by
  refine v_enter Tryd.func92 Tryd.ntmps92 rfl (by simp) fun R' hR => ?_
  simp [go_sem]
  refine v_loop (fun r f wr => ∃ k, k ≤ 8 ∧ r = 8 - k ∧ f 0 = .func (.func 93) #[] #[.pointer (some ⟨q4, 0, none⟩)] ∧ f 1 = .pointer (some ⟨q5, 0, none⟩) ∧ f 4 = .int .i64 k ∧ Mid w wr q4 q5 gr o l k) 8
    ⟨0, by omega, rfl, by simp, by simp, by simp, h⟩ ?_
  rintro J hJ _ f wr ⟨k, hk, rfl, e0, e1, e4, hm⟩
  by_cases hk8 : k < 8
  · have hki : (k : Int) < 8 := by omega
    have hwk : IntKind.i64.wrap ((k : Int) + 1) = ((k + 1 : Nat) : Int) := by simp [IntKind.wrap_i64]; omega
    simp [go_sem, e0, e1, e4, hki]
    have hfn : ∀ (a : List Value) (w : World), (callFunc 93 a.toArray).run Tryd.prog w = .ok (.enter 93 a.toArray) w := fun a w => by simp [go_sem]
    rw [VCall_closure _ _ _ _ [.pointer (some ⟨q4, 0, none⟩)] _ (hfn _ _)]
    refine (ncl2 w wr q4 q5 gr o l k hk8 hl (hw.ch hm.ch (by omega)) h1 h2 h3 h4 h5 (Nat.lt_of_lt_of_le ho hm.ch.size) hm).mono ?_
    rintro _ w2 ⟨rfl, hm2⟩
    simp [go_sem, e4, hwk]
    exact Rnd.intro (8 - (k + 1)) (by omega) (hJ _ _ _ ⟨k + 1, by omega, rfl, by simp [e0], by simp [e1], by simp, hm2⟩)
  · obtain rfl : k = 8 := by omega
    simp [go_sem, e4]
    exact hR _ _ ⟨rfl, hm⟩
theorem ntake_any (v : Value) (l : List UInt8) (w : World) (hl : l.length ≤ 1000000) (hs : Sl w v l.length (bvs l)) (hw : Lw w) :
    Ret Tryd.prog 75 #[v] w fun v' w' => v' = .tuple #[.agg (nd (nd8 l).1), .int .i64 (nd8 l).2] ∧ Ch Nw w w' := by
  refine v_enter Tryd.func75 Tryd.ntmps75 rfl (by simp) fun R' hR => ?_
  simp [go_sem, hz_nd, zc_nd]
  have c1 := (Ch.refl Nw w).alloc (.cells (nd ndz) 116)
  have b1 := hp_alloc w (.cells (nd ndz) 116)
  have hl1 := hw.lt
  revert c1 b1
  generalize w.alloc (.cells (nd ndz) 116) = w1
  generalize hq : w.heap.size = q
  intro c1 b1
  refine (new_any v l w1 (by omega) (hs.ch c1 fun _ _ e => e)).mono ?_
  rintro _ w2 ⟨gr, o, rfl, k1, k1o, k1z, k2, k3⟩
  have hq1 := lt_of_block b1
  have b1 := k3.hp b1 id
  simp [go_sem, hz_nd, zc_nd]
  have c3 := ((Ch.refl Nw w2).alloc (.cells #[.pointer (some ⟨gr, 0, none⟩)] 177)).alloc (.cells (nd ndz) 116)
  have b4 := al2_0 w2 (.cells #[.pointer (some ⟨gr, 0, none⟩)] 177) (.cells (nd ndz) 116)
  have b5 := al2_1 w2 (.cells #[.pointer (some ⟨gr, 0, none⟩)] 177) (.cells (nd ndz) 116)
  have hgr := k2.lt
  revert c3 b4 b5
  generalize (w2.alloc (.cells #[.pointer (some ⟨gr, 0, none⟩)] 177)).alloc (.cells (nd ndz) 116) = w3
  generalize hq4 : w2.heap.size = q4 at *
  intro c3 b4 b5
  have hzz := c1.size
  have hz3 := k3.size
  have b1 := c3.hp b1 id
  have hfn : ∀ (a : List Value) (w : World), (callFunc 92 a.toArray).run Tryd.prog w = .ok (.enter 92 a.toArray) w := fun a w => by simp [go_sem]
  rw [VCall_closure _ _ _ _ [.pointer (some ⟨q4 + 1, 0, none⟩)] _ (hfn _ _)]
  have hw3 : Lw w3 := ((hw.ch c1 id).ch k3 id).ch c3 id
  have hz4 : q4 + 1 < w3.heap.size := lt_of_block b5
  have hm0 : Mid w3 w3 q4 (q4 + 1) gr o l 0 := ⟨b4, k2.ch c3 id id, by simpa [ndS, ndz] using b5, Ch.refl _ _⟩
  refine (ncl1 w3 q4 (q4 + 1) gr o l hl hw3 (by omega) (by omega) (by omega) (by omega) (by omega) (by omega) (by omega) hm0).mono ?_
  rintro _ w4 ⟨rfl, m1, m2, m3, m4⟩
  have e4 := fun i => cell_blk m1 i
  simp [go_sem, e4]
  refine (end_any gr _ _ w4 m2).mono ?_
  rintro _ w5 ⟨rfl, r5, c5⟩
  have b1 := c5.hp (m4.hp b1 (by omega)) (by simp only [only]; omega)
  have b5 := c5.hp m3 (by simp only [only]; omega)
  have ok8 := mid_ok 8 (Nat.le_refl _) l
  have hnd : nd ((ndS 8 l 0).1 ++ List.replicate (8 - 8) ptz) = nd (ndS 8 l 0).1 := by simp
  rw [hnd] at b5
  have ok8 : NdOk (ndS 8 l 0).1 := by simpa using ok8
  have cA : Ch Nw w w5 := ((c1.trans k3).trans c3).trans' m4 (fun j hj e => by omega) |>.trans' c5 fun j hj e => by simp only [only] at e; omega
  by_cases he : (endS (ndS 8 l 0).2.1 (ndS 8 l 0).2.2).2 = 0
  · have e8 : nd8 l = ((ndS 8 l 0).1, 0) := by unfold nd8; rw [if_pos he]
    have b6 : (w5.setRow q (nd (ndS 8 l 0).1)).heap[q]? = some (.cells (nd (ndS 8 l 0).1) 116 (0, 0)) := by rw [hp_setRow, b1]; rfl
    simp [go_sem, he, b1, b5, nd_size ok8, nd_size ndz_ok, nd_all ok8, blit_whole, b6]
    exact hR _ _ ⟨by rw [e8], cA.setRow (.inr (by omega)) _⟩
  · have e8 : nd8 l = (ndz, 5) := by unfold nd8; rw [if_neg he]
    have he' : ((endS (ndS 8 l 0).2.1 (ndS 8 l 0).2.2).2 != 0) = true := by simpa using he
    have b6 : (w5.setRow q (nd ndz)).heap[q]? = some (.cells (nd ndz) 116 (0, 0)) := by rw [hp_setRow, b1]; rfl
    simp [go_sem, he', b1, bld_nd0, nd_size ndz_ok, nd_all ndz_ok, blit_whole, b6]
    exact hR _ _ ⟨by rw [e8], cA.setRow (.inr (by omega)) _⟩
end Go.Proofs.YtppilgkgnofkpaaDoor
