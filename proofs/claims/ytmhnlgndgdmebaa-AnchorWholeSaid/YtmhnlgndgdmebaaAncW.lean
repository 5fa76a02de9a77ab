/- AnchorWhole, walked: wherever the power ends, a cell tells what was stored last. No condition but that the values are of their types. -/
import Derived.Test.YtmhnlgndgdmebaaAncG
namespace Go.Proofs.Ytmhnlgndgdmebaa
open Go.RowKit Go.Kin

/-- what element j of a slice of acts is -/
structure ActAt (cells : Array Value) (o : Nat) (d : Nat) (m : Int) (g : Nat) (h : List UInt8) (t : List Nat) : Prop where
  hd : cells[o]? = some (.int .u8 d)
  hm : cells[o + 1]? = some (.int .i64 m)
  hg : cells[o + 2]? = some (.int .u64 g)
  hh : cells.extract (o + 3) (o + 35) = (bvs h).toArray
  ht : ∀ i, i < 4 → cells[o + 35 + i]? = some (.int .u16 (t.getD i 0))
  fit : o + 39 ≤ cells.size
  ok : AncOk g h t
  max : m ≤ 9223372036854775807
def Acts (w : World) (v : Value) (n : Nat) (D : Nat → Nat) (N : Nat → Int) (G : Nat → Nat) (H : Nat → List UInt8) (T : Nat → List Nat) : Prop :=
  ∃ A c, v = .slice A n c ∧ (0 < n → ∃ b off cells E fr, A = some ⟨b, off, none⟩ ∧ b < w.heap.size ∧ w.heap[b]? = some (.cells cells E fr) ∧ ∀ j, j < n → ActAt cells (off + j * 39) (D j) (N j) (G j) (H j) (T j))

/-- what holds at the head of round k -/
def WInv (w : World) (v : Value) (gp gc gl k : Nat) (f : Nat → Value) (wr : World) : Prop :=
  ∃ (off : Bool) (fuse left : Int) (ln : Nat) (lh : List UInt8) (la : List Nat), f 0 = v ∧ f 3 = .pointer (some ⟨gp, 0, none⟩) ∧ f 4 = .pointer (some ⟨gc, 0, none⟩) ∧ f 6 = .pointer (some ⟨gl, 0, none⟩) ∧
      f 7 = .int .i64 left ∧ f 8 = .bool (!off) ∧ f 9 = .int .i64 k ∧ (off = false → left = fuse) ∧ -1 ≤ left ∧ left ≤ 9223372036854775807 ∧ fuse ≤ 9223372036854775807 ∧ AncOk ln lh la ∧ Cel wr gc gp (putB ln lh la) ∧ Pw wr gp off fuse ∧
      wr.heap[gl]? = some (.cells (anc ln lh la) 29) ∧ Ch Nw w wr

theorem whole_any (v : Value) (n : Nat) (D : Nat → Nat) (N : Nat → Int) (G : Nat → Nat) (H : Nat → List UInt8) (T : Nat → List Nat) (w : World) (hn : n ≤ 100) (ha : Acts w v n D N G H T) :
    Ret Try.prog 5 #[v] w fun v' w' => v' = .bool true ∧ Ch Nw w w' := by
  obtain ⟨A, c, rfl, ha⟩ := ha
  refine v_enter Try.func5 Try.ntmps5 rfl (by simp) fun R' hR => ?_
  have hn' : ¬ (100 : Int) < n := by omega
  simp [go_sem, hn']
  refine (on_any w).mono ?_
  rintro _ w1 ⟨rfl, p1, c1, z1⟩
  simp [go_sem]
  refine (anew_any w.heap.size w1).mono ?_
  rintro _ w2 ⟨rfl, d1, c2, z2⟩
  have d1 : Cel w2 w1.heap.size w.heap.size (putB 0 (zb 32) (zn 4)) := by rw [put_zero]; exact d1
  have p2 := p1.ch c2 id
  simp [go_sem, hz_anc, zc_anc]
  have hq3 := (Ch.refl Nw w2).alloc (.cells (anc 0 (zb 32) (zn 4)) 29)
  have hb3 := hp_alloc w2 (.cells (anc 0 (zb 32) (zn 4)) 29)
  have d3 := d1.ch hq3 id
  have p3 := p2.ch hq3 id
  have c3 := c1.trans (c2.trans hq3)
  revert hb3 d3 p3 c3
  generalize w2.alloc (.cells (anc 0 (zb 32) (zn 4)) 29) = w3
  generalize hgp : w.heap.size = gp at *
  generalize hgc : w1.heap.size = gc at *
  generalize hgl : w2.heap.size = gl at *
  intro hb3 d3 p3 c3
  clear hq3 d1 p2 p1 c1 c2
  refine v_loop (fun r f wr => ∃ k, k ≤ n ∧ r = n - k ∧ WInv w (.slice A n c) gp gc gl k f wr) n
    ⟨0, by omega, rfl, false, -1, -1, 0, zb 32, zn 4, by simp, by simp, by simp, by simp, by simp, by simp, by simp, fun _ => rfl, by omega, by omega, by omega, ok_zero, d3, p3, hb3, c3⟩ ?_
  clear hb3 d3 p3 c3
  rintro J hJ _ f wr ⟨k, hk, rfl, hI⟩
  by_cases hkn : k < n
  · obtain ⟨b, boff, cells, E, fr, rfl, hbw, hbb, hj⟩ := ha (by omega)
    have haj := hj k hkn
    have hki : (k : Int) < n := by omega
    have hI0 := hI
    obtain ⟨off, fuse, left, ln, lh, la, h0, h3, h4, h6, h7, h8, h9, hl, hl1, hl2, hfm, ok, hce, hpw, hbl, hc⟩ := hI
    have hbb' := hc.hp hbb id
    have q0 := (cell_blk hbb' _).trans haj.hd
    have q1 := (cell_blk hbb' _).trans haj.hm
    have q2 := (cell_blk hbb' _).trans haj.hg
    simp [go_sem, h0, h9, hki, q0]
    refine v_meetB (WInv w (.slice (some ⟨b, boff, none⟩) n c) gp gc gl k) ?_ ?_
    · clear hI0
      have hgl : gl = gp + 2 := by omega
      refine VIf_intro (fun hD => ?_) (fun hD => ?_)
      · -- Fuse
        simp [go_sem, h0, h3, h9, hki, q1]
        refine (fuse_any gp off fuse (N k) wr hpw).mono ?_
        rintro _ w5 ⟨rfl, hpw5, c5, z5⟩
        have hce5 := hce.ch c5 (by simp only [one]; omega)
        have hbl5 := c5.hp hbl (by simp only [one]; omega)
        have hc5 : Ch Nw w w5 := hc.trans' c5 fun j hj e => by simp only [one] at e; omega
        have q1' := (cell_blk (hc5.hp hbb id) _).trans haj.hm
        cases off
        · simp [go_sem, h0, h8, h9, hki, q1']
          refine ⟨false, _, if N k < -1 then -1 else N k, ln, lh, la, by simp [h0], by simp [h3], by simp [h4], by simp [h6], by simp, by simp [h8], by simp [h9], fun _ => rfl, ?_, ?_, ?_, ok, hce5, hpw5, hbl5, hc5⟩
          · split <;> omega
          · have := haj.max; split <;> omega
          · have := haj.max; simp; split <;> omega
        · simp [go_sem, h8]
          exact ⟨true, _, left, ln, lh, la, by simp [h0], by simp [h3], by simp [h4], by simp [h6], by simp [h7], by simp [h8], by simp [h9], (fun h => (by cases h)), hl1, hl2, hfm, ok, hce5, hpw5, hbl5, hc5⟩
      · simp [go_sem]
        refine VIf_intro (fun hD1 => ?_) (fun hD1 => ?_)
        · -- Back
          simp [go_sem, h3]
          refine (back_any gp off fuse wr hpw).mono ?_
          rintro _ w5 ⟨rfl, hpw5, c5, z5⟩
          simp [go_sem]
          exact ⟨false, -1, -1, ln, lh, la, by simp [h0], by simp [h3], by simp [h4], by simp [h6], by simp, by simp, by simp [h9], fun _ => rfl, by omega, by omega, by omega, ok, hce.ch c5 (by simp only [one]; omega), hpw5, c5.hp hbl (by simp only [one]; omega), hc.trans' c5 fun j hj e => by simp only [one] at e; omega⟩
        · -- Store
          obtain ⟨a0, a1, a2, a3, hT⟩ : ∃ a0 a1 a2 a3, T k = [a0, a1, a2, a3] := by
            match T k, haj.ok.ha with
            | [a0, a1, a2, a3], _ => exact ⟨a0, a1, a2, a3, rfl⟩
          have okT := haj.ok
          have t0 := (cell_blk hbb' _).trans (haj.ht 0 (by omega))
          have t1 := (cell_blk hbb' _).trans (haj.ht 1 (by omega))
          have t2 := (cell_blk hbb' _).trans (haj.ht 2 (by omega))
          have t3 := (cell_blk hbb' _).trans (haj.ht 3 (by omega))
          simp only [hT, List.getD_cons_zero, List.getD_cons_succ, Nat.add_zero] at t0 t1 t2 t3
          have hfit := haj.fit
          have hhx := haj.hh
          rw [hT] at okT
          simp [go_sem]
          refine v_draw' [(0, none), (1, none), (2, none), (3, none), (4, none), (5, none), (6, none), (7, none), (8, none), (9, none), (10, none), (11, none), (12, none), (13, none), (14, none), (15, none), (16, none), (17, none), (18, none), (19, some [0, 1, 2, 3, 4, 5, 6, 7, 8, 9, 10, 11, 12, 13, 14, 15, 16, 17, 18]), (20, some [])] (by kernel_rfl) (by kernel_rfl) ?_
          have e35 : boff + k * 39 + 35 ≤ cells.size := by omega
          simp only [Nat.add_assoc, Nat.reduceAdd] at q2 t0 t1 t2 t3 e35 hhx
          simp [go_sem, h0, h9, hki, q2, hbb', e35, hhx, t0, t1, t2, t3, Nat.add_assoc]
          have hbz : b < wr.heap.size := lt_of_block hbb'
          have hbld := bld_anc4 (G k) (H k) a0 a1 a2 a3 okT.hh
          have hszT := anc_size (n := G k) okT.hh okT.ha
          have hallT := anc_all (n := G k) okT.hh okT.ha
          simp [go_sem, h0, h4, h9, hki, q2, ↓hbb', e35, hhx, t0, t1, t2, t3, Nat.add_assoc, hbld, hbz, hz_anc, zc_anc, hszT, hallT, anc_size (zb_length 32) (zn_length 4), blit_whole]
          have hq5 := ((Ch.refl Nw wr).alloc (.cells (anc (G k) (H k) [a0, a1, a2, a3]) 29)).drew
          have hb5 := hp_alloc wr (.cells (anc (G k) (H k) [a0, a1, a2, a3]) 29)
          have hce5 := hce.ch hq5 id
          have hpw5 := hpw.ch hq5 id
          have hbl5 := hq5.hp hbl id
          have hc5 := hc.trans hq5
          have hz5 : ((wr.alloc (.cells (anc (G k) (H k) [a0, a1, a2, a3]) 29)).drew).heap[wr.heap.size]? = some (.cells (anc (G k) (H k) [a0, a1, a2, a3]) 29) := hb5
          have hglt : gl < wr.heap.size := lt_of_block hbl
          revert hce5 hpw5 hbl5 hc5 hz5
          generalize (wr.alloc (.cells (anc (G k) (H k) [a0, a1, a2, a3]) 29)).drew = w5
          generalize wr.heap.size = ga at *
          intro hce5 hpw5 hbl5 hc5 hz5
          refine (store_any gc gp off fuse ln lh la (G k) (H k) [a0, a1, a2, a3] w5 ok okT hce5 hpw5 (by omega) hfm).mono ?_
          rintro _ w6 ⟨rfl, c6, hce6, hpw6⟩
          have hz6 := c6.hp hz5 (by simp only [two]; omega)
          have hbl6 := c6.hp hbl5 (by simp only [two]; omega)
          have hc6 : Ch Nw w w6 := hc5.trans' c6 fun j hj e => by simp only [two] at e; omega
          have k0 := (cell_blk hz6 0).trans (anc_0 _ _ _)
          have k1 := (cell_blk hbl6 0).trans (anc_0 _ _ _)
          simp [go_sem, h6, k0, k1]
          by_cases hle : G k ≤ ln
          · have hs : storeS ln (G k) off fuse = 1 := by simp [storeS, hle]
            rw [hs, if_neg (by decide)] at hce6
            rw [if_pos hle, if_pos hle] at hpw6
            simp [hle, go_sem, hs]
            exact ⟨off, fuse, left, ln, lh, la, by simp [h0], by simp [h3], by simp [h4], by simp [h6], by simp [h7], by simp [h8], by simp [h9], hl, hl1, hl2, hfm, ok, hce6, hpw6, hbl6, hc6⟩
          · rw [if_neg hle, if_neg hle] at hpw6
            cases off
            · have hlf := hl rfl
              subst hlf
              by_cases hz : left = 0
              · subst hz
                have hs : storeS ln (G k) false 0 = 3 := by simp [storeS, hle, stepS]
                rw [hs, if_neg (by decide)] at hce6
                simp [hle, go_sem, hs, h7, h8]
                exact ⟨true, -1, 0, ln, lh, la, by simp [h0], by simp [h3], by simp [h4], by simp [h6], by simp [h7], by simp, by simp [h9], (fun h => (by cases h)), by omega, by omega, by omega, ok, hce6, hpw6, hbl6, hc6⟩
              · have hst : (stepS false left).1 = true ∧ (stepS false left).2.1 = false ∧ (stepS false left).2.2 = (if left - 1 < -1 then -1 else left - 1) := by
                  by_cases hp : 0 < left
                  · simp [stepS, hz, hp]; omega
                  · have : left = -1 := by omega
                    subst this
                    decide
                have hs : storeS ln (G k) false left = 0 := by simp [storeS, hle, hst.1]
                rw [hs, if_pos rfl] at hce6
                rw [hst.2.1, hst.2.2] at hpw6
                have hzb : (left == 0) = false := by simpa using hz
                have hsz1 := anc_size (n := ln) ok.hh ok.ha
                have hwr : IntKind.i64.wrap (left - 1) = left - 1 := by simp [IntKind.wrap_i64]; omega
                simp [hle, go_sem, hs, h6, h7, h8, hzb, hz6, hbl6, hszT, hallT, hsz1, blit_whole, hwr]
                have hq7 := (Ch.refl (one gl) w6).setRow (.inl rfl) (anc (G k) (H k) [a0, a1, a2, a3])
                refine ⟨false, _, _, G k, H k, [a0, a1, a2, a3], by simp [h0], by simp [h3], by simp [h4], by simp [h6], by simp, by simp [h8], by simp [h9], fun _ => rfl, ?_, ?_, ?_, okT, hce6.ch hq7 (by simp only [one]; omega), hpw6.ch hq7 (by simp only [one]; omega), ?_, hc6.setRow (.inr (by omega)) _⟩
                · split <;> omega
                · split <;> omega
                · split <;> omega
                · rw [hp_setRow, hbl6, rowOf_cells]
            · have hs : storeS ln (G k) true fuse = 3 := by simp [storeS, hle, stepS]
              rw [hs, if_neg (by decide)] at hce6
              simp [hle, go_sem, hs, h8]
              exact ⟨true, fuse, left, ln, lh, la, by simp [h0], by simp [h3], by simp [h4], by simp [h6], by simp [h7], by simp, by simp [h9], (fun h => (by cases h)), by omega, by omega, by omega, ok, hce6, by simpa [stepS] using hpw6, hbl6, hc6⟩
    · clear hI0 h0 h3 h4 h6 h7 h8 h9 hl hl1 hl2 hfm ok hce hpw hbl hc hbb' q0 q1 q2
      rintro f wr ⟨off, fuse, left, ln, lh, la, h0, h3, h4, h6, h7, h8, h9, hl, hl1, hl2, hfm, ok, hce, hpw, hbl, hc⟩
      simp [go_sem]
      refine v_draw' [(0, none), (2, none), (1, some [2]), (3, none), (4, none), (5, none), (7, none), (6, some [7]), (8, some []), (9, none), (10, none), (11, none), (12, none), (14, none), (13, some [14]), (15, none), (16, none)] (by kernel_rfl) (by kernel_rfl) ?_
      have hsz := anc_size (n := ln) ok.hh ok.ha
      have hall := anc_all (n := ln) ok.hh ok.ha
      have hL := putB_length (n := ln) ok.hh ok.ha
      simp [go_sem, h4, h6, hbl, hsz, hall]
      refine (load_any gc gp ln lh la wr.drew ok hce).mono ?_
      rintro _ w5 ⟨rfl, c5⟩
      have c5 := c5.of_drew
      have hbl5 := c5.hp hbl id
      have heq1 := fun w => eq_anc w ln lh la ln lh la ok.hh ok.ha ok.hh ok.ha
      simp only [and_self, decide_true] at heq1
      simp [go_sem, h4, h6, hbl5, hsz, hall, heq1]
      refine (abytes_any gc gp _ w5 hL (hce.ch c5 id)).mono ?_
      rintro _ w6 ⟨rfl, c6⟩
      have hbl6 := c6.hp hbl5 id
      simp [go_sem, h6, hbl6, hsz, hall]
      refine (put_any _ _ _ w6 ok).mono ?_
      rintro _ w7 ⟨rfl, c7⟩
      have heq2 := fun w => eq_b64 w _ _ hL hL
      simp only [decide_true] at heq2
      have c567 := c5.trans (c6.trans c7)
      simp [go_sem, h3, h8, heq2]
      refine (is_any gp off fuse w7 (hpw.ch c567 id)).mono ?_
      rintro _ w7 ⟨rfl, rfl⟩
      simp [go_sem, h8, h9]
      exact Rnd.intro (n - (k + 1)) (by omega) (hJ _ _ _ ⟨k + 1, by omega, rfl, off, fuse, left, ln, lh, la, by simp [h0], by simp [h3], by simp [h4], by simp [h6], by simp [h7], by simp [h8], by simp [IntKind.wrap_i64]; omega, hl, hl1, hl2, hfm, ok, hce.ch c567 id, hpw.ch c567 id, c567.hp hbl id, hc.trans c567⟩)
  · obtain rfl : k = n := by omega
    obtain ⟨off, fuse, left, ln, lh, la, h0, h3, h4, h6, h7, h8, h9, hl, hl1, hl2, hfm, ok, hce, hpw, hbl, hc⟩ := hI
    simp [go_sem, h0, h9]
    refine (awakes_any wr).mono ?_
    rintro _ wf ⟨rfl, cf⟩
    simp [go_sem]
    exact hR _ _ ⟨rfl, hc.trans cf⟩
end Go.Proofs.Ytmhnlgndgdmebaa
