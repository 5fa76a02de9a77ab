/- What inode's Take answers, as a contract on the call. Conditions: the variable ptr.wide holds what the text lays; sizes. -/
import Derived.Test.YtnefdmbdkljifaaGreatDoorBsl
import Derived.Test.YtnefdmbdkljifaaGreatDoorInD
set_option linter.unusedSimpArgs false
set_option linter.unusedVariables false

/- What node's Put and Take answer, as contracts on calls. Conditions: the variable ptr.wide holds what the text lays; sizes. -/
namespace Go.Proofs.YtnefdmbdkljifaaGreatDoor
open Go.RowKit Go.Kin

def bytesN (ps : List Pt) : List UInt8 := ps.flatMap putP
theorem bytesN_length : ∀ (ps : List Pt), (∀ p ∈ ps, PtOk p) → (bytesN ps).length = 64 * ps.length
  | [], _ => rfl
  | p :: ps, h => by
    have := bytesN_length ps fun q hq => h q (by simp [hq])
    have hp := putP_length (h p (by simp))
    simp only [bytesN, List.flatMap_cons, List.length_append, List.length_cons] at *
    rw [this, hp]; omega
theorem okP_iff {p : Pt} : okP p = true ↔ p = ptz ∨ mayP p = true := by simp [okP]
/-- what Put answers -/
def NPut (ps : List Pt) (w : World) (v' : Value) (w' : World) : Prop :=
  (ps.all okP = true ∧ ∃ s, v' = .tuple #[s, .int .i64 0] ∧ Mine 5 w s 512 (bvs (bytesN ps)) w') ∨ (ps.all okP = false ∧ v' = .tuple #[.slice none 0 0, .int .i64 5] ∧ Ch Nw w w')
theorem nput_any (ps : List Pt) (w : World) (ok : NdOk ps) (hw : Lw w) : Ret Tryz.prog 82 #[.agg (nd ps)] w (NPut ps w) := by
  refine v_enter Tryz.func82 Tryz.ntmps82 rfl (by simp) fun R' hR => ?_
  have hsz := nd_size ok
  have hall := nd_all ok
  have hc := (Ch.refl Nw w).alloc (.cells (nd ps) 128)
  simp [go_sem, hsz, hall]
  revert hc
  generalize w.alloc (.cells (nd ps) 128) = w1
  intro hc
  refine v_loop (fun r f wr => ∃ k, k ≤ 8 ∧ r = 8 - k ∧ f 7 = .agg (nd ps) ∧ f 8 = .int .i64 k ∧ (ps.take k).all okP = true ∧ Mine 5 w (f 4) (64 * k) (bvs (bytesN (ps.take k))) wr) 8
    ⟨0, by omega, rfl, by simp, by simp, by simp, by simpa [bytesN, bvs] using Mine.nil _ hc⟩ ?_
  rintro J hJ _ f wr ⟨k, hk, rfl, h7, h8, ha, hm⟩
  by_cases hk8 : k < 8
  · have hki : (k : Int) < 8 := by omega
    obtain ⟨p, hp, okp⟩ := ok.at' hk8
    have hix := nd_index ok hk8 hp
    have hs1 := pt_size okp
    have ha1 := pt_all okp
    have heq := fun w => eq_pt w okp ptz_ok
    have hwk : IntKind.i64.wrap ((k : Int) + 1) = ((k + 1 : Nat) : Int) := by simp [IntKind.wrap_i64]; omega
    have htk : ps.take (k + 1) = ps.take k ++ [p] := by rw [List.take_add_one, hp]; rfl
    have hm1 := hm.step ((Ch.refl Nw wr).alloc (.cells (pt p) 37))
    have hb1 := hp_alloc wr (.cells (pt p) 37)
    have htl : (bytesN (ps.take k)).length = 64 * k := by
      rw [bytesN_length _ fun q hq => ok.all q (List.mem_of_mem_take hq), List.length_take, ok.len, Nat.min_eq_left hk]
    have fin : ∀ w2, Mine 5 w (f 4) (64 * k) (bvs (bytesN (ps.take k))) w2 → okP p = true → Ret Tryz.prog 36 #[f 4, .agg (pt p)] w2 fun v3 w3 => Mine 5 w v3 (64 * (k + 1)) (bvs (bytesN (ps.take (k + 1)))) w3 := fun w2 h2 _ => by
      refine (pput_any (f 4) (64 * k) (bytesN (ps.take k)) p w2 okp (by omega) htl h2.own).mono ?_
      intro v3 w3 q
      have := h2.grow q.1 q.2.1 q.2.2
      rw [htk]
      simpa [bytesN, Nat.mul_add] using this
    by_cases hz : p = ptz
    · subst hz
      simp [go_sem, h7, h8, hki, hix, hz_pt, zc_pt, pt_size ptz_ok, hs1, ha1, blit_whole, bld_pt0, heq]
      revert hm1 hb1
      generalize wr.alloc (.cells (pt ptz) 37) = w2
      intro hm1 hb1
      refine (fin w2 hm1 (by simp [okP])).mono ?_
      intro v3 w3 hm3
      simp [go_sem, h7, h8, hwk]
      refine Rnd.intro (8 - (k + 1)) (by omega) (hJ _ _ _ ⟨k + 1, by omega, rfl, by simp [h7], by simp, ?_, by simpa using hm3⟩)
      rw [htk, List.all_append, ha]
      simp [okP]
    · simp [go_sem, h7, h8, hki, hix, hz_pt, zc_pt, pt_size ptz_ok, hs1, ha1, blit_whole, bld_pt0, heq, hz]
      revert hm1 hb1
      generalize wr.alloc (.cells (pt p) 37) = w2
      generalize wr.heap.size = g
      intro hm1 hb1
      refine (may_any p w2 okp (hw.ch hm1.ch id)).mono ?_
      rintro _ w3 ⟨rfl, c3⟩
      have hm2 := hm1.step c3
      have hb2 := c3.hp hb1 id
      cases hmay : mayP p
      · simp [go_sem]
        refine hR _ _ (.inr ⟨?_, rfl, hm2.ch⟩)
        rw [List.all_eq_false]
        exact ⟨p, List.mem_of_getElem? hp, by simp [okP, hz, hmay]⟩
      · simp [go_sem, hb2, hs1, ha1]
        refine (fin w3 hm2 (by simp [okP, hmay])).mono ?_
        intro v3 w4 hm3
        simp [go_sem, h7, h8, hwk]
        refine Rnd.intro (8 - (k + 1)) (by omega) (hJ _ _ _ ⟨k + 1, by omega, rfl, by simp [h7], by simp, ?_, by simpa using hm3⟩)
        rw [htk, List.all_append, ha]
        simp [okP, hmay]
  · obtain rfl : k = 8 := by omega
    rw [List.take_of_length_le (by rw [ok.len]; omega)] at ha hm
    simp [go_sem, h8]
    exact hR _ _ (.inl ⟨ha, _, rfl, hm⟩)

/-- eight pointers, one behind another, and what is left -/
def ndS : Nat → List UInt8 → Int → List Pt × List UInt8 × Int
  | 0, l, e => ([], l, e)
  | n + 1, l, e => ((ndS n l e).1 ++ [(ptS (ndS n l e).2.1 (ndS n l e).2.2).1], (ptS (ndS n l e).2.1 (ndS n l e).2.2).2)
theorem rawS_left (l : List UInt8) (e : Int) (n : Nat) : (rawS l e n).2.1.length ≤ l.length := by
  unfold rawS
  split
  · simp
  · split <;> simp
theorem ptS_left (l : List UInt8) (e : Int) : (ptS l e).2.1.length ≤ l.length := by
  have := rawS_left l e 64
  unfold ptS
  split
  · exact this
  · split
    · exact this
    · simp
theorem ptS_ok (l : List UInt8) (e : Int) : PtOk (ptS l e).1 := by
  unfold ptS
  split
  · exact ptz_ok
  · split
    · refine ptOf_ok ?_
      have := rawS_le l e 64
      omega
    · exact ptz_ok
theorem ndS_left (n : Nat) (l : List UInt8) (e : Int) : (ndS n l e).2.1.length ≤ l.length := by
  induction n with
  | zero => exact Nat.le_refl _
  | succ n ih => exact Nat.le_trans (ptS_left _ _) ih
theorem ndS_length (n : Nat) (l : List UInt8) (e : Int) : (ndS n l e).1.length = n := by
  induction n with
  | zero => rfl
  | succ n ih => simp [ndS, ih]
theorem ndS_ok (n : Nat) (l : List UInt8) (e : Int) : ∀ p ∈ (ndS n l e).1, PtOk p := by
  induction n with
  | zero => simp [ndS]
  | succ n ih =>
    intro p hp
    simp only [ndS, List.mem_append, List.mem_singleton] at hp
    rcases hp with hp | rfl
    · exact ih p hp
    · exact ptS_ok _ _
/-- what node's Take answers -/
def nd8 (l : List UInt8) : List Pt × Int := if (endS (ndS 8 l 0).2.1 (ndS 8 l 0).2.2).2 = 0 then ((ndS 8 l 0).1, 0) else (ndz, 5)
/-- in the midst of Take: k pointers are read -/
structure Mid (w0 w : World) (q4 q5 gr o : Nat) (l : List UInt8) (k : Nat) : Prop where
  cell : w.heap[q4]? = some (.cells #[.pointer (some ⟨gr, 0, none⟩)] 107 (0, 0))
  rdr : Rdr w gr o (ndS k l 0).2.1 (ndS k l 0).2.2
  node : w.heap[q5]? = some (.cells (nd ((ndS k l 0).1 ++ List.replicate (8 - k) ptz)) 128 (0, 0))
  ch : Ch (fun j => j = gr ∨ j = q5) w0 w
theorem mid_ok (k : Nat) (hk : k ≤ 8) (l : List UInt8) : NdOk ((ndS k l 0).1 ++ List.replicate (8 - k) ptz) := ⟨by simp [ndS_length]; omega, fun p hp => by
  rcases List.mem_append.1 hp with h | h
  · exact ndS_ok _ _ _ p h
  · rw [(List.mem_replicate.1 h).2]; exact ptz_ok⟩
theorem ncl2 (w0 w : World) (q4 q5 gr o : Nat) (l : List UInt8) (k : Nat) (hk : k < 8) (hl : l.length ≤ 1000000) (hw : Lw w) (h1 : q4 ≠ q5) (h2 : q4 ≠ gr) (h3 : gr ≠ q5) (h4 : o ≠ q5) (h5 : gr ≠ 1) (ho : o < w.heap.size) (h : Mid w0 w q4 q5 gr o l k) :
    Ret Tryz.prog 102 #[.pointer (some ⟨q5, k * 41, none⟩), .pointer (some ⟨q4, 0, none⟩)] w fun v' w' => v' = .tuple #[] ∧ Mid w0 w' q4 q5 gr o l (k + 1) := by
  obtain ⟨hc, hr, hn, hch⟩ := h
  have e4 := fun i => cell_blk hc i
  refine v_enter Tryz.func102 Tryz.ntmps102 rfl (by simp) fun R' hR => ?_
  simp [go_sem, e4]
  have hll := ndS_left k l 0
  refine (ptake_any gr o _ _ w (by omega) hw h5 hr ho).mono ?_
  rintro _ w2 ⟨rfl, r2, c2⟩
  have hc2 := c2.hp hc (by simp only [only]; omega)
  have hn2 := c2.hp hn (by simp only [only]; omega)
  have okm := mid_ok k (by omega) l
  have okp := ptS_ok (ndS k l 0).2.1 (ndS k l 0).2.2
  have hbl := nd_blit okm hk okp
  simp [go_sem, hn2, nd_size okm, pt_size okp, hbl, show k * 41 + 41 ≤ 328 by omega]
  have c3 := (Ch.refl (only q5) w2).setRow (g := q5) (.inl rfl) (nd (((ndS k l 0).1 ++ List.replicate (8 - k) ptz).set k (ptS (ndS k l 0).2.1 (ndS k l 0).2.2).1))
  refine hR _ _ ⟨rfl, ?_, ?_, ?_, ?_⟩
  · exact c3.hp hc2 (by simp only [only]; omega)
  · exact r2.ch c3 (by simp only [only]; omega) (by simp only [only]; omega)
  · rw [hp_setRow, hn2]
    simp only [rowOf_cells]
    congr 3
    rw [List.set_append_right _ _ (by rw [ndS_length]; omega), ndS_length, Nat.sub_self, show 8 - k = (8 - (k + 1)) + 1 by omega, List.replicate_succ, List.set_cons_zero]
    simp [ndS]
  · exact (hch.trans (c2.mono fun j _ e => .inl e)).setRow (.inl (.inr rfl)) _
theorem ncl1 (w : World) (q4 q5 gr o : Nat) (l : List UInt8) (hl : l.length ≤ 1000000) (hw : Lw w) (h1 : q4 ≠ q5) (h2 : q4 ≠ gr) (h3 : gr ≠ q5) (h4 : o ≠ q5) (h5 : gr ≠ 1) (h6 : q5 ≠ 1) (ho : o < w.heap.size) (h : Mid w w q4 q5 gr o l 0) :
    Ret Tryz.prog 101 #[.func (.func 102) #[] #[.pointer (some ⟨q4, 0, none⟩)], .pointer (some ⟨q5, 0, none⟩)] w fun v' w' => v' = .tuple #[] ∧ Mid w w' q4 q5 gr o l 8 := by
  refine v_enter Tryz.func101 Tryz.ntmps101 rfl (by simp) fun R' hR => ?_
  simp [go_sem]
  refine v_loop (fun r f wr => ∃ k, k ≤ 8 ∧ r = 8 - k ∧ f 0 = .func (.func 102) #[] #[.pointer (some ⟨q4, 0, none⟩)] ∧ f 1 = .pointer (some ⟨q5, 0, none⟩) ∧ f 4 = .int .i64 k ∧ Mid w wr q4 q5 gr o l k) 8
    ⟨0, by omega, rfl, by simp, by simp, by simp, h⟩ ?_
  rintro J hJ _ f wr ⟨k, hk, rfl, e0, e1, e4, hm⟩
  by_cases hk8 : k < 8
  · have hki : (k : Int) < 8 := by omega
    have hwk : IntKind.i64.wrap ((k : Int) + 1) = ((k + 1 : Nat) : Int) := by simp [IntKind.wrap_i64]; omega
    simp [go_sem, e0, e1, e4, hki]
    have hfn : ∀ (a : List Value) (w : World), (callFunc 102 a.toArray).run Tryz.prog w = .ok (.enter 102 a.toArray) w := fun a w => by simp [go_sem]
    rw [VCall_closure _ _ _ _ [.pointer (some ⟨q4, 0, none⟩)] _ (hfn _ _)]
    refine (ncl2 w wr q4 q5 gr o l k hk8 hl (hw.ch hm.ch (by omega)) h1 h2 h3 h4 h5 (Nat.lt_of_lt_of_le ho hm.ch.size) hm).mono ?_
    rintro _ w2 ⟨rfl, hm2⟩
    simp [go_sem, e4, hwk]
    exact Rnd.intro (8 - (k + 1)) (by omega) (hJ _ _ _ ⟨k + 1, by omega, rfl, by simp [e0], by simp [e1], by simp, hm2⟩)
  · obtain rfl : k = 8 := by omega
    simp [go_sem, e4]
    exact hR _ _ ⟨rfl, hm⟩
theorem ntake_any (v : Value) (l : List UInt8) (w : World) (hl : l.length ≤ 1000000) (hs : Sl w v l.length (bvs l)) (hw : Lw w) :
    Ret Tryz.prog 80 #[v] w fun v' w' => v' = .tuple #[.agg (nd (nd8 l).1), .int .i64 (nd8 l).2] ∧ Ch Nw w w' := by
  refine v_enter Tryz.func80 Tryz.ntmps80 rfl (by simp) fun R' hR => ?_
  simp [go_sem, hz_nd, zc_nd]
  have c1 := (Ch.refl Nw w).alloc (.cells (nd ndz) 128)
  have b1 := hp_alloc w (.cells (nd ndz) 128)
  have hl1 := hw.lt
  revert c1 b1
  generalize w.alloc (.cells (nd ndz) 128) = w1
  generalize hq : w.heap.size = q
  intro c1 b1
  refine (new_any v l w1 (by omega) (hs.ch c1 fun _ _ e => e)).mono ?_
  rintro _ w2 ⟨gr, o, rfl, k1, k1o, k1z, k2, k3⟩
  have hq1 := lt_of_block b1
  have b1 := k3.hp b1 id
  simp [go_sem, hz_nd, zc_nd]
  have c3 := ((Ch.refl Nw w2).alloc (.cells #[.pointer (some ⟨gr, 0, none⟩)] 107)).alloc (.cells (nd ndz) 128)
  have b4 := al2_0 w2 (.cells #[.pointer (some ⟨gr, 0, none⟩)] 107) (.cells (nd ndz) 128)
  have b5 := al2_1 w2 (.cells #[.pointer (some ⟨gr, 0, none⟩)] 107) (.cells (nd ndz) 128)
  have hgr := k2.lt
  revert c3 b4 b5
  generalize (w2.alloc (.cells #[.pointer (some ⟨gr, 0, none⟩)] 107)).alloc (.cells (nd ndz) 128) = w3
  generalize hq4 : w2.heap.size = q4 at *
  intro c3 b4 b5
  have hzz := c1.size
  have hz3 := k3.size
  have b1 := c3.hp b1 id
  have hfn : ∀ (a : List Value) (w : World), (callFunc 101 a.toArray).run Tryz.prog w = .ok (.enter 101 a.toArray) w := fun a w => by simp [go_sem]
  rw [VCall_closure _ _ _ _ [.pointer (some ⟨q4 + 1, 0, none⟩)] _ (hfn _ _)]
  have hw3 : Lw w3 := ((hw.ch c1 id).ch k3 id).ch c3 id
  have hz4 : q4 + 1 < w3.heap.size := lt_of_block b5
  have hm0 : Mid w3 w3 q4 (q4 + 1) gr o l 0 := ⟨b4, k2.ch c3 id id, by simpa [ndS, ndz] using b5, Ch.refl _ _⟩
  refine (ncl1 w3 q4 (q4 + 1) gr o l hl hw3 (by omega) (by omega) (by omega) (by omega) (by omega) (by omega) (by omega) hm0).mono ?_
  rintro _ w4 ⟨rfl, m1, m2, m3, m4⟩
  have e4 := fun i => cell_blk m1 i
  simp [go_sem, e4]
  refine (end_any gr _ _ w4 m2).mono ?_
  rintro _ w5 ⟨rfl, r5, c5⟩
  have b1 := c5.hp (m4.hp b1 (by omega)) (by simp only [only]; omega)
  have b5 := c5.hp m3 (by simp only [only]; omega)
  have ok8 := mid_ok 8 (Nat.le_refl _) l
  have hnd : nd ((ndS 8 l 0).1 ++ List.replicate (8 - 8) ptz) = nd (ndS 8 l 0).1 := by simp
  rw [hnd] at b5
  have ok8 : NdOk (ndS 8 l 0).1 := by simpa using ok8
  have cA : Ch Nw w w5 := ((c1.trans k3).trans c3).trans' m4 (fun j hj e => by omega) |>.trans' c5 fun j hj e => by simp only [only] at e; omega
  by_cases he : (endS (ndS 8 l 0).2.1 (ndS 8 l 0).2.2).2 = 0
  · have e8 : nd8 l = ((ndS 8 l 0).1, 0) := by unfold nd8; rw [if_pos he]
    have b6 : (w5.setRow q (nd (ndS 8 l 0).1)).heap[q]? = some (.cells (nd (ndS 8 l 0).1) 128 (0, 0)) := by rw [hp_setRow, b1]; rfl
    simp [go_sem, he, b1, b5, nd_size ok8, nd_size ndz_ok, nd_all ok8, blit_whole, b6]
    exact hR _ _ ⟨by rw [e8], cA.setRow (.inr (by omega)) _⟩
  · have e8 : nd8 l = (ndz, 5) := by unfold nd8; rw [if_neg he]
    have he' : ((endS (ndS 8 l 0).2.1 (ndS 8 l 0).2.2).2 != 0) = true := by simpa using he
    have b6 : (w5.setRow q (nd ndz)).heap[q]? = some (.cells (nd ndz) 128 (0, 0)) := by rw [hp_setRow, b1]; rfl
    simp [go_sem, he', b1, bld_nd0, nd_size ndz_ok, nd_all ndz_ok, blit_whole, b6]
    exact hR _ _ ⟨by rw [e8], cA.setRow (.inr (by omega)) _⟩
end Go.Proofs.YtnefdmbdkljifaaGreatDoor

namespace Go.Proofs.YtnefdmbdkljifaaGreatDoor
open Go.RowKit Go.Kin

def i1 (l : List UInt8) (e : Int) := rawS l e 1
def i2 (l : List UInt8) (e : Int) := noughtS (i1 l e).2.1 (i1 l e).2.2 1
def i3 (l : List UInt8) (e : Int) := rawS (i2 l e).1 (i2 l e).2 2
def i4 (l : List UInt8) (e : Int) := rawS (i3 l e).2.1 (i3 l e).2.2 4
def i5 (l : List UInt8) (e : Int) := ptS (i4 l e).2.1 (i4 l e).2.2
def i6 (l : List UInt8) (e : Int) := noughtS (i5 l e).2.1 (i5 l e).2.2 (128 - (l.length : Int) + (i5 l e).2.1.length).toNat
/-- one inode, read, and what is left -/
def inoS (l : List UInt8) (e : Int) : In × List UInt8 × Int := (⟨fromLe (i1 l e).1, fromLe (i3 l e).1, fromLe (i4 l e).1, (i5 l e).1⟩, i6 l e)
theorem failS_left (l : List UInt8) (e0 e : Int) : (failS l e0 e).1.length ≤ l.length := by unfold failS; split <;> simp
theorem noughtS_left (l : List UInt8) (e : Int) (n : Nat) : (noughtS l e n).1.length ≤ l.length := by
  have h1 := rawS_left l e n
  have h2 := failS_left (rawS l e n).2.1 (rawS l e n).2.2 5
  unfold noughtS
  split
  · omega
  · exact h1
theorem i1_left (l : List UInt8) (e : Int) : (i1 l e).2.1.length ≤ l.length := rawS_left _ _ _
theorem i2_left (l : List UInt8) (e : Int) : (i2 l e).1.length ≤ l.length := Nat.le_trans (noughtS_left _ _ _) (i1_left l e)
theorem i3_left (l : List UInt8) (e : Int) : (i3 l e).2.1.length ≤ l.length := Nat.le_trans (rawS_left _ _ _) (i2_left l e)
theorem i4_left (l : List UInt8) (e : Int) : (i4 l e).2.1.length ≤ l.length := Nat.le_trans (rawS_left _ _ _) (i3_left l e)
theorem i5_left (l : List UInt8) (e : Int) : (i5 l e).2.1.length ≤ l.length := Nat.le_trans (ptS_left _ _) (i4_left l e)
theorem i6_left (l : List UInt8) (e : Int) : (i6 l e).1.length ≤ l.length := Nat.le_trans (noughtS_left _ _ _) (i5_left l e)
theorem raw_lt (l : List UInt8) (e : Int) (n : Nat) : fromLe (rawS l e n).1 < 256 ^ n :=
  Nat.lt_of_lt_of_le (fromLe_lt _) (Nat.pow_le_pow_right (by decide) (rawS_le l e n))
theorem inoS_ok (l : List UInt8) (e : Int) : InOk (inoS l e).1 := ⟨by have := raw_lt l e 1; simpa [inoS, i1] using this, raw_lt _ _ 2, raw_lt _ _ 4, ptS_ok _ _⟩
def ibS : Nat → List UInt8 → Int → List In × List UInt8 × Int
  | 0, l, e => ([], l, e)
  | n + 1, l, e => ((ibS n l e).1 ++ [(inoS (ibS n l e).2.1 (ibS n l e).2.2).1], (inoS (ibS n l e).2.1 (ibS n l e).2.2).2)
theorem ibS_left (n : Nat) (l : List UInt8) (e : Int) : (ibS n l e).2.1.length ≤ l.length := by
  induction n with
  | zero => exact Nat.le_refl _
  | succ n ih => exact Nat.le_trans (i6_left _ _) ih
theorem ibS_length (n : Nat) (l : List UInt8) (e : Int) : (ibS n l e).1.length = n := by
  induction n with
  | zero => rfl
  | succ n ih => simp [ibS, ih]
theorem ibS_ok (n : Nat) (l : List UInt8) (e : Int) : ∀ p ∈ (ibS n l e).1, InOk p := by
  induction n with
  | zero => simp [ibS]
  | succ n ih =>
    intro p hp
    simp only [ibS, List.mem_append, List.mem_singleton] at hp
    rcases hp with hp | rfl
    · exact ih p hp
    · exact inoS_ok _ _
/-- what Take answers -/
def ib4 (l : List UInt8) : List In × Int := if (endS (ibS 4 l 0).2.1 (ibS 4 l 0).2.2).2 = 0 ∧ (ibS 4 l 0).1.all mayI = true then ((ibS 4 l 0).1, 0) else (ibz, 5)
def midI (k : Nat) (l : List UInt8) : List In := (ibS k l 0).1 ++ List.replicate (4 - k) inz
theorem midI_ok (k : Nat) (hk : k ≤ 4) (l : List UInt8) : IbOk (midI k l) := ⟨by simp [midI, ibS_length]; omega, fun p hp => by
  rcases List.mem_append.1 hp with h | h
  · exact ibS_ok _ _ _ p h
  · rw [(List.mem_replicate.1 h).2]; exact inz_ok⟩
theorem midI_at {k : Nat} (hk : k < 4) (l : List UInt8) : (midI k l)[k]? = some inz := by
  unfold midI
  rw [List.getElem?_append_right (by rw [ibS_length]; omega), ibS_length, List.getElem?_replicate, if_pos (by omega)]
theorem midI_set {k : Nat} (hk : k < 4) (l : List UInt8) : (midI k l).set k (inoS (ibS k l 0).2.1 (ibS k l 0).2.2).1 = midI (k + 1) l := by
  unfold midI
  rw [List.set_append_right _ _ (by rw [ibS_length]; omega), ibS_length, Nat.sub_self, show 4 - k = (4 - (k + 1)) + 1 by omega, List.replicate_succ, List.set_cons_zero]
  simp [ibS]
section
variable {xs : List In} {k : Nat} {x : In}
theorem ib_set_k (h : IbOk xs) (hk : xs[k]? = some x) (v : Nat) : (ib xs).setIfInBounds (k * 44) (.int .u8 v) = ib (xs.set k { x with k := v }) := by
  have := rows_set_at (i := 0) h.sz hk (by decide) (set_ino_k v)
  rwa [Nat.add_zero] at this
theorem ib_set_n (h : IbOk xs) (hk : xs[k]? = some x) (v : Nat) : (ib xs).setIfInBounds (k * 44 + 1) (.int .u16 v) = ib (xs.set k { x with n := v }) := rows_set_at h.sz hk (by decide) (set_ino_n v)
theorem ib_set_s (h : IbOk xs) (hk : xs[k]? = some x) (v : Nat) : (ib xs).setIfInBounds (k * 44 + 2) (.int .u32 v) = ib (xs.set k { x with s := v }) := rows_set_at h.sz hk (by decide) (set_ino_s v)
theorem ib_blit_r (h : IbOk xs) (hk : xs[k]? = some x) {q : Pt} (okq : PtOk q) : blit (ib xs) (k * 44 + 3) (pt q) = ib (xs.set k { x with r := q }) := by
  have okx := h.all x (List.mem_of_getElem? hk)
  exact rows_blit_at h.sz hk (by rw [pt_size okq]; decide) (blit_ino_r okx okq) (ino_size ⟨okx.k, okx.n, okx.s, okq⟩)
theorem ib_at (h : IbOk xs) (hk : xs[k]? = some x) {i : Nat} {u : Value} (hu : (ino x)[i]? = some u) : (ib xs)[k * 44 + i]? = some u := rows_at h.sz hk hu
end
theorem ibtake_any (v : Value) (l : List UInt8) (w : World) (hl : l.length ≤ 1000000) (hs : Sl w v l.length (bvs l)) (hw : Lw w) :
    Ret Tryz.prog 57 #[v] w fun v' w' => v' = .tuple #[.agg (ib (ib4 l).1), .int .i64 (ib4 l).2] ∧ Ch Nw w w' := by
  refine v_enter Tryz.func57 Tryz.ntmps57 rfl (by simp) fun R' hR => ?_
  simp [go_sem, hz_ib, zc_ib]
  have c1 := ((Ch.refl Nw w).alloc (.cells (ib ibz) 100)).alloc (.cells (ib ibz) 100)
  have b2 := al2_0 w (.cells (ib ibz) 100) (.cells (ib ibz) 100)
  have b4 := al2_1 w (.cells (ib ibz) 100) (.cells (ib ibz) 100)
  have hl1 := hw.lt
  revert c1 b2 b4
  generalize (w.alloc (.cells (ib ibz) 100)).alloc (.cells (ib ibz) 100) = w1
  generalize hq : w.heap.size = q
  intro c1 b2 b4
  have hq4 := lt_of_block b4
  refine (new_any v l w1 (by omega) (hs.ch c1 fun _ _ e => e)).mono ?_
  rintro _ w2 ⟨gr, o, rfl, k1, k1o, k1z, k2, k3⟩
  have b2 := k3.hp b2 id
  have b4 := k3.hp b4 id
  have hw2 : Lw w2 := (hw.ch c1 id).ch k3 id
  have hz3 := k3.size
  have hgr := k2.lt
  simp [go_sem]
  refine v_loop (fun r f wr => ∃ k, k ≤ 4 ∧ r = 4 - k ∧ f 2 = .pointer (some ⟨q, 0, none⟩) ∧ f 4 = .pointer (some ⟨q + 1, 0, none⟩) ∧ f 5 = .pointer (some ⟨gr, 0, none⟩) ∧ f 12 = .int .i64 k ∧
    Rdr wr gr o (ibS k l 0).2.1 (ibS k l 0).2.2 ∧ wr.heap[q + 1]? = some (.cells (ib (midI k l)) 100 (0, 0)) ∧ Ch (fun j => j = gr ∨ j = q + 1) w2 wr) 4
    ⟨0, by omega, rfl, by simp, by simp, by simp, by simp, by simpa [ibS] using k2, by simpa [midI, ibS, ibz] using b4, Ch.refl _ _⟩ ?_
  rintro J hJ _ f wr ⟨k, hk, rfl, f2, f4, f5, f12, hr, hb, hc⟩
  have hlk := ibS_left k l 0
  generalize hL : (ibS k l 0).2.1 = L at *
  generalize hE : (ibS k l 0).2.2 = E at *
  by_cases hk4 : k < 4
  · have hki : (k : Int) < 4 := by omega
    have hwk : IntKind.i64.wrap ((k : Int) + 1) = ((k + 1 : Nat) : Int) := by simp [IntKind.wrap_i64]; omega
    simp [go_sem, f5, f12, hki]
    refine (left_any gr L E wr hr).mono ?_
    rintro _ u0 ⟨rfl, h0⟩
    rw [h0]
    simp [go_sem, f5]
    refine (ru8 gr L E wr (by omega) hr).mono ?_
    rintro _ u1 ⟨rfl, r1, d1⟩
    have okX := midI_ok k hk l
    have hX := midI_at hk4 l
    have hsX := ib_size okX
    have m1 := d1.hp hb (by simp only [only]; omega)
    have hfit : k * 44 + 44 ≤ 176 := by omega
    have hin0 : (ib (midI k l))[k * 44]? = some (.int .u8 (0 : Nat)) := by
      have := ib_at okX hX (i := 0) ino_k
      rwa [Nat.add_zero] at this
    have e1 := (cell_blk m1 (k * 44)).trans hin0
    have z1 := fun i => frz_blk m1 i
    generalize hK : fromLe (i1 L E).1 = vK
    rw [show fromLe (rawS L E 1).1 = vK from hK]
    have hvK : vK < 256 := by rw [← hK]; have := raw_lt L E 1; simpa [i1] using this
    have okY1 : InOk { inz with k := vK } := ⟨hvK, by show (0 : Nat) < 65536; decide, by show (0 : Nat) < 4294967296; decide, ptz_ok⟩
    simp [go_sem, f4, f5, hki, e1, z1]
    have cS1 := (Ch.refl (only (q + 1)) u1).setCell (p := ⟨q + 1, k * 44, none⟩) (.inl rfl) (.int .u8 vK)
    have r1 := r1.ch cS1 (by simp only [only]; omega) (by simp only [only]; omega)
    have m2 : (u1.setCell ⟨q + 1, k * 44, none⟩ (.int .u8 vK)).heap[q + 1]? = some (.cells (ib ((midI k l).set k { inz with k := vK })) 100 (0, 0)) := by
      rw [hp_setCell, m1, setOf_cells, ib_set_k okX hX]
    have hc := (hc.trans (d1.mono fun j _ e => .inl e)).setCell (p := ⟨q + 1, k * 44, none⟩) (.inl (.inr rfl)) (.int .u8 vK)
    clear cS1 e1 z1
    revert r1 m2 hc
    generalize u1.setCell ⟨q + 1, k * 44, none⟩ (.int .u8 vK) = u2
    intro r1 m2 hc
    have okX1 := okX.set k okY1
    have hX1 : ((midI k l).set k { inz with k := vK })[k]? = some { inz with k := vK } := List.getElem?_set_self (by rw [okX.len]; exact hk4)
    have hl1' := i1_left L E
    refine (noughts_any gr _ _ 1 u2 (by decide) (by show (i1 L E).2.1.length ≤ _; omega) r1).mono ?_
    rintro _ u3 ⟨rfl, r2, d2⟩
    have m3 := d2.hp m2 (by simp only [only]; omega)
    have hc := hc.trans (d2.mono fun j _ e => .inl e)
    simp [go_sem]
    refine v_draw' [(0, none), (1, none), (2, none), (4, none), (3, some [0, 1, 4]), (6, none), (7, none), (5, some [0, 1, 6, 7]), (8, some [1]), (9, none), (10, none), (11, some [])] (by kernel_rfl) (by kernel_rfl) ?_
    simp [go_sem, f4, f5]
    have hl2' := i2_left L E
    refine (ru16 gr (i2 L E).1 (i2 L E).2 u3.drew (by omega) (r2.ch ((Ch.refl Nw u3).drew) id id)).mono ?_
    rintro _ u4 ⟨rfl, r3, d3⟩
    generalize hN : fromLe (i3 L E).1 = vN
    rw [show fromLe (rawS (i2 L E).1 (i2 L E).2 2).1 = vN from hN]
    have hvN : vN < 65536 := by rw [← hN]; exact raw_lt _ _ 2
    simp [go_sem, f4, f5, hki]
    have hl3' := i3_left L E
    refine (ru32 gr (i3 L E).2.1 (i3 L E).2.2 u4 (by omega) r3).mono ?_
    rintro _ u5 ⟨rfl, r4, d4⟩
    generalize hS : fromLe (i4 L E).1 = vS
    rw [show fromLe (rawS (i3 L E).2.1 (i3 L E).2.2 4).1 = vS from hS]
    have hvS : vS < 4294967296 := by rw [← hS]; exact raw_lt _ _ 4
    have m5 := d4.hp (d3.hp (show u3.drew.heap[q + 1]? = _ from m3) (by simp only [only]; omega)) (by simp only [only]; omega)
    have hc := (hc.drew.trans (d3.mono fun j _ e => .inl e)).trans (d4.mono fun j _ e => .inl e)
    have okY2 : InOk { { inz with k := vK } with n := vN } := ⟨hvK, hvN, by show (0 : Nat) < 4294967296; decide, ptz_ok⟩
    have okX2 := okX1.set k okY2
    have hX2 : ((((midI k l).set k { inz with k := vK })).set k { { inz with k := vK } with n := vN })[k]? = some { { inz with k := vK } with n := vN } := List.getElem?_set_self (by rw [okX1.len]; exact hk4)
    have e5 := (cell_blk m5 (k * 44 + 1)).trans (ib_at okX1 hX1 ino_n)
    have z5 := fun i => frz_blk m5 i
    have m6 : (u5.setCell ⟨q + 1, k * 44 + 1, none⟩ (.int .u16 vN)).heap[q + 1]? = some (.cells (ib (((midI k l).set k { inz with k := vK }).set k { { inz with k := vK } with n := vN })) 100 (0, 0)) := by
      rw [hp_setCell, m5, setOf_cells, ib_set_n okX1 hX1]
    have e6 := (cell_blk m6 (k * 44 + 2)).trans (ib_at okX2 hX2 ino_s)
    have z6 := fun i => frz_blk m6 i
    simp [go_sem, f4, f5, hki, e5, z5, e6, z6]
    have okY3 : InOk { { { inz with k := vK } with n := vN } with s := vS } := ⟨hvK, hvN, hvS, ptz_ok⟩
    have okX3 := okX2.set k okY3
    have hX3 : (((((midI k l).set k { inz with k := vK })).set k { { inz with k := vK } with n := vN }).set k { { { inz with k := vK } with n := vN } with s := vS })[k]? = some { { { inz with k := vK } with n := vN } with s := vS } := List.getElem?_set_self (by rw [okX2.len]; exact hk4)
    have m7 : ((u5.setCell ⟨q + 1, k * 44 + 1, none⟩ (.int .u16 vN)).setCell ⟨q + 1, k * 44 + 2, none⟩ (.int .u32 vS)).heap[q + 1]? = some (.cells (ib ((((midI k l).set k { inz with k := vK }).set k { { inz with k := vK } with n := vN }).set k { { { inz with k := vK } with n := vN } with s := vS })) 100 (0, 0)) := by
      rw [hp_setCell, m6, setOf_cells, ib_set_s okX2 hX2]
    have cS := ((Ch.refl (only (q + 1)) u5).setCell (p := ⟨q + 1, k * 44 + 1, none⟩) (.inl rfl) (.int .u16 vN)).setCell (p := ⟨q + 1, k * 44 + 2, none⟩) (.inl rfl) (.int .u32 vS)
    have r5 := r4.ch cS (by simp only [only]; omega) (by simp only [only]; omega)
    have hc := (hc.setCell (p := ⟨q + 1, k * 44 + 1, none⟩) (.inl (.inr rfl)) (.int .u16 vN)).setCell (p := ⟨q + 1, k * 44 + 2, none⟩) (.inl (.inr rfl)) (.int .u32 vS)
    clear cS e5 z5 e6 z6 m6 m5
    revert r5 m7 hc
    generalize (u5.setCell ⟨q + 1, k * 44 + 1, none⟩ (.int .u16 vN)).setCell ⟨q + 1, k * 44 + 2, none⟩ (.int .u32 vS) = u6
    intro m7 r5 hc
    simp only [List.set_set] at m7 okX3 hX3
    have hl4' := i4_left L E
    refine (ptake_any gr o (i4 L E).2.1 (i4 L E).2.2 u6 (by omega) (hw2.ch hc (by omega)) (by omega) r5 (by have := hc.size; omega)).mono ?_
    rw [show ptS (i4 L E).2.1 (i4 L E).2.2 = i5 L E from rfl]
    rintro _ u7 ⟨rfl, r6, d6⟩
    have okP : PtOk (i5 L E).1 := ptS_ok _ _
    have m8 := d6.hp m7 (by simp only [only]; omega)
    have hc := hc.trans (d6.mono fun j _ e => .inl e)
    have hbl := ib_blit_r okX3 hX3 okP
    rw [List.set_set] at hbl
    have hsX3 := ib_size okX3
    have hsP := pt_size okP
    have hset := midI_set hk4 l
    rw [hL, hE, show (inoS L E).1 = ({ { { { inz with k := vK } with n := vN } with s := vS } with r := (i5 L E).1 } : In) by rw [← hK, ← hN, ← hS]; rfl] at hset
    rw [hset] at hbl
    simp [go_sem, f4, f5, hki, m8, hsX3, hsP, hbl, show k * 44 + 3 + 41 ≤ 176 by omega]
    have cR := (Ch.refl (only (q + 1)) u7).setRow (g := q + 1) (.inl rfl) (ib (midI (k + 1) l))
    have r7 := r6.ch cR (by simp only [only]; omega) (by simp only [only]; omega)
    have m9 : (u7.setRow (q + 1) (ib (midI (k + 1) l))).heap[q + 1]? = some (.cells (ib (midI (k + 1) l)) 100 (0, 0)) := by rw [hp_setRow, m8]; rfl
    have hc := hc.setRow (g := q + 1) (.inl (.inr rfl)) (ib (midI (k + 1) l))
    clear cR m8 d6 m7 d4 d3 m3 d2 m2 m1 d1
    revert r7 m9 hc
    generalize u7.setRow (q + 1) (ib (midI (k + 1) l)) = u8
    intro r7 m9 hc
    have hl5' := i5_left L E
    refine (left_any gr _ _ u8 r7).mono ?_
    rintro _ u9 ⟨rfl, h9⟩
    rw [h9]
    have hwn : IntKind.i64.wrap (128 - (L.length : Int)) = 128 - L.length := by rw [IntKind.wrap_i64]; omega
    have hwm : IntKind.i64.wrap (128 - (L.length : Int) + (i5 L E).2.1.length) = 128 - L.length + (i5 L E).2.1.length := by rw [IntKind.wrap_i64]; omega
    simp [go_sem, hwn, hwm]
    refine (noughts_any gr _ _ _ u8 (by omega) (by omega) r7).mono ?_
    rintro _ u10 ⟨rfl, r8, d8⟩
    have m10 := d8.hp m9 (by simp only [only]; omega)
    have hc := hc.trans (d8.mono fun j _ e => .inl e)
    simp [go_sem, f12, hwk]
    refine Rnd.intro (4 - (k + 1)) (by omega) (hJ _ _ _ ⟨k + 1, by omega, rfl, by simpa using f2, by simpa using f4, by simpa using f5, by simp, ?_, m10, hc⟩)
    simp only [ibS, hL, hE]
    exact r8
  · obtain rfl : k = 4 := by omega
    simp [go_sem, f5, f12]
    clear hJ J
    refine (end_any gr L E wr hr).mono ?_
    rintro _ w5 ⟨rfl, r5, c5⟩
    have hb := c5.hp hb (by simp only [only]; omega)
    have hc := hc.trans (c5.mono fun j _ e => .inl e)
    have b2 := hc.hp b2 (by omega)
    have okX : IbOk (ibS 4 l 0).1 := ⟨ibS_length _ _ _, ibS_ok _ _ _⟩
    have hmid : midI 4 l = (ibS 4 l 0).1 := by simp [midI]
    rw [hmid] at hb
    generalize hXs : (ibS 4 l 0).1 = X at *
    have hsX := ib_size okX
    have haX := ib_all okX
    have hsz := ib_size ibz_ok
    have haz := ib_all ibz_ok
    have cA : Ch Nw w w5 := (c1.trans k3).trans' hc (fun j hj e => by omega)
    have hw5 := hw.ch cA id
    by_cases he : (endS L E).2 = 0
    · simp [go_sem, he, f4, hb, hsX, haX]
      refine v_loop (fun r f wr => ∃ k, k ≤ 4 ∧ r = 4 - k ∧ f 2 = .pointer (some ⟨q, 0, none⟩) ∧ f 4 = .pointer (some ⟨q + 1, 0, none⟩) ∧ f 51 = .agg (ib X) ∧ f 52 = .int .i64 k ∧ (X.take k).all mayI = true ∧ Ch Nw w5 wr) 4
        ⟨0, by omega, rfl, by simp [f2], by simp [f4], by simp, by simp, by simp, Ch.refl _ _⟩ ?_
      clear f2 f4 f5 f12 f
      rintro J hJ _ f wr ⟨k, hk, rfl, f2, f4, f51, f52, ha, hc9⟩
      have b2 := hc9.hp b2 id
      have hb := hc9.hp hb id
      by_cases hk4 : k < 4
      · have hki : (k : Int) < 4 := by omega
        have hwk : IntKind.i64.wrap ((k : Int) + 1) = ((k + 1 : Nat) : Int) := by simp [IntKind.wrap_i64]; omega
        obtain ⟨x, hx, okx⟩ := okX.at' hk4
        have hix := ib_index okX hk4 hx
        have hs1 := ino_size okx
        have ha1 := ino_all okx
        have htk : X.take (k + 1) = X.take k ++ [x] := by rw [List.take_add_one, hx]; rfl
        have cx := (Ch.refl Nw wr).alloc (.cells (ino x) 56)
        simp [go_sem, f51, f52, hki, hix, hz_ino, zc_ino, ino_size inz_ok, hs1, ha1, blit_whole]
        refine (imay_any x _ okx (hw5.ch (hc9.trans cx) id)).mono ?_
        rintro _ w6 ⟨rfl, c6⟩
        cases hmy : mayI x
        · have b2 := c6.hp (cx.hp b2 id) id
          have e4 : ib4 l = (ibz, 5) := by
            unfold ib4
            rw [hXs, if_neg]
            rintro ⟨_, h⟩
            have := List.all_eq_true.1 h x (List.mem_of_getElem? hx)
            rw [hmy] at this; cases this
          have b7 : (w6.setRow q (ib ibz)).heap[q]? = some (.cells (ib ibz) 100 (0, 0)) := by rw [hp_setRow, b2]; rfl
          simp [go_sem, f2, b2, bld_ib0, hsz, haz, blit_whole, b7]
          exact hR _ _ ⟨by rw [e4], (((cA.trans hc9).trans cx).trans c6).setRow (g := q) (.inr (by omega)) _⟩
        · simp [go_sem, f52, hwk]
          refine Rnd.intro (4 - (k + 1)) (by omega) (hJ _ _ _ ⟨k + 1, by omega, rfl, by simpa using f2, by simpa using f4, by simpa using f51, by simp, ?_, (hc9.trans cx).trans c6⟩)
          rw [htk, List.all_append, ha]
          simp [hmy]
      · obtain rfl : k = 4 := by omega
        rw [List.take_of_length_le (by rw [okX.len]; omega)] at ha
        have e4 : ib4 l = (X, 0) := by
          unfold ib4
          rw [hXs, if_pos ⟨by rw [hL, hE]; exact he, ha⟩]
        have b7 : (wr.setRow q (ib X)).heap[q]? = some (.cells (ib X) 100 (0, 0)) := by rw [hp_setRow, b2]; rfl
        simp [go_sem, f2, f4, f52, b2, hb, hsX, haX, hsz, blit_whole, b7]
        exact hR _ _ ⟨by rw [e4], (cA.trans hc9).setRow (g := q) (.inr (by omega)) _⟩
    · have he' : ((endS L E).2 != 0) = true := by simpa using he
      have e4 : ib4 l = (ibz, 5) := by
        unfold ib4
        rw [if_neg]
        rintro ⟨h, _⟩
        rw [hL, hE] at h
        exact he h
      have b7 : (w5.setRow q (ib ibz)).heap[q]? = some (.cells (ib ibz) 100 (0, 0)) := by rw [hp_setRow, b2]; rfl
      simp [go_sem, he', f2, b2, bld_ib0, hsz, haz, blit_whole, b7]
      exact hR _ _ ⟨by rw [e4], cA.setRow (g := q) (.inr (by omega)) _⟩
end Go.Proofs.YtnefdmbdkljifaaGreatDoor
