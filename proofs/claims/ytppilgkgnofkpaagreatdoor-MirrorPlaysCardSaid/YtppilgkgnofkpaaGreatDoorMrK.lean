/- The mirror law's acts: sealed, great. No condition but on sizes. -/
import Derived.Test.YtppilgkgnofkpaaGreatDoorMrJ
import Derived.Test.YtppilgkgnofkpaaGreatDoorAcA
import Derived.Test.YtppilgkgnofkpaaGreatDoorRsF
set_option linter.unusedSimpArgs false
set_option linter.unusedVariables false

namespace Go.Proofs.YtppilgkgnofkpaaGreatDoor
open Go.RowKit Go.Kin

/-- an act of the mirror's law -/
structure Am where
  d : Nat
  q : Pt
  v : Value
  b : Byts
  wrong : Bool
  ac : Ac
def amL (a : Am) : List Value := .int .u8 a.d :: ((pt a.q).toList ++ (a.v :: .bool a.wrong :: acv a.ac))
def amv (a : Am) : Array Value := (amL a).toArray
theorem amL_len {a : Am} (ok : PtOk a.q) : (amL a).length = 51 := by simp [amL, acv, pt_size ok]
theorem amv_size {a : Am} (ok : PtOk a.q) : (amv a).size = 51 := by simp [amv, amL_len ok]
theorem amv_all {a : Am} (ok : PtOk a.q) : (amv a).extract 0 51 = amv a := by rw [← amv_size ok]; simp
theorem amv_pt {a : Am} (ok : PtOk a.q) : (amv a).extract 1 42 = pt a.q := by
  apply Array.ext'
  rw [Array.toList_extract, List.extract_eq_take_drop]
  have h := pt_size ok
  simp only [amv, amL, List.drop_succ_cons, List.drop_zero]
  rw [List.take_append_of_le_length (by simp [h]), List.take_of_length_le (by simp [h])]
theorem amv_0 (a : Am) : (amv a)[0]? = some (.int .u8 a.d) := by simp [amv, amL]
theorem amL_tail {a : Am} (ok : PtOk a.q) (i : Nat) : (amv a)[42 + i]? = (a.v :: .bool a.wrong :: acv a.ac)[i]? := by
  have h := pt_size ok
  simp only [amv, amL, List.getElem?_toArray]
  rw [show 42 + i = (41 + i) + 1 by omega, List.getElem?_cons_succ, List.getElem?_append_right (by simp [h])]
  congr 1
  simp [h]
/-- the cells of an act's block -/
structure AmC (u : World) (g : Nat) (a : Am) : Prop where
  d : u.cell? ⟨g, 0, none⟩ = some (.int .u8 a.d)
  v : u.cell? ⟨g, 42, none⟩ = some a.v
  w : u.cell? ⟨g, 43, none⟩ = some (.bool a.wrong)
  a0 : u.cell? ⟨g, 44, none⟩ = some (.int .u8 a.ac.d)
  a1 : u.cell? ⟨g, 45, none⟩ = some (.int .u8 a.ac.k)
  a2 : u.cell? ⟨g, 46, none⟩ = some (.int .u16 a.ac.addr)
  a3 : u.cell? ⟨g, 47, none⟩ = some a.ac.v
  a4 : u.cell? ⟨g, 48, none⟩ = some (.bool a.ac.short)
  a5 : u.cell? ⟨g, 49, none⟩ = some (.int .i64 a.ac.n)
  a6 : u.cell? ⟨g, 50, none⟩ = some a.ac.pv
theorem amc {u : World} {g : Nat} {a : Am} (ok : PtOk a.q) {T : TypeId} (h : u.heap[g]? = some (.cells (amv a) T (0, 0))) : AmC u g a :=
  ⟨(cell_blk h 0).trans (amv_0 a), (cell_blk h 42).trans (amL_tail ok 0), (cell_blk h 43).trans (amL_tail ok 1), (cell_blk h 44).trans (amL_tail ok 2), (cell_blk h 45).trans (amL_tail ok 3), (cell_blk h 46).trans (amL_tail ok 4), (cell_blk h 47).trans (amL_tail ok 5), (cell_blk h 48).trans (amL_tail ok 6), (cell_blk h 49).trans (amL_tail ok 7), (cell_blk h 50).trans (amL_tail ok 8)⟩
/-- its pointer, its block -/
def Am.ptr (a : Am) : Pt := if a.wrong then a.q else sealP a.q (fullB a.b)
theorem Am.ptr_ok {a : Am} (ok : PtOk a.q) : PtOk a.ptr := by
  unfold Am.ptr
  split
  · exact ok
  · exact sealP_ok ok _
/-- an act that lies in a world, apart from X -/
structure Am.At (w : World) (a : Am) (X : Nat → Prop) : Prop where
  d : a.d < 256
  ok : PtOk a.q
  sl : Sl w a.v a.b.length (bvs a.b)
  bl : a.b.length ≤ 1000000
  ac : Ac.At w a.ac X
  k : a.ac.k < 256
theorem Am.At.ch {w w' : World} {X : Nat → Prop} {a : Am} (h : Am.At w a X) (hc : Ch Nw w w') : Am.At w' a X := ⟨h.d, h.ok, h.sl.ch hc fun _ _ e => e, h.bl, h.ac.ch hc, h.k⟩
set_option maxRecDepth 100000 in
set_option maxHeartbeats 4000000 in
theorem sealed_any (a : Am) (w : World) (ok : PtOk a.q) (hs : Sl w a.v a.b.length (bvs a.b)) (hb : a.b.length ≤ 1000000) :
    Ret Tryz.prog 8 #[.agg (amv a)] w fun v' w' => ∃ u, v' = .tuple #[.agg (pt a.ptr), u] ∧ Mine 5 w u 512 (bvs (fullB a.b)) w' := by
  refine v_enter Tryz.func8 Tryz.ntmps8 rfl (by simp) fun R' hR => ?_
  have hps := pt_size ok
  have hpa := pt_all ok
  have hzs := pt_size ptz_ok
  have has := amv_size ok
  have haa := amv_all ok
  have hap := amv_pt ok
  have h42 : ∀ h, (amv a)[42]'h = a.v := fun h => by
    have := amL_tail ok 0
    rw [Array.getElem?_eq_getElem h] at this
    simpa using this
  obtain ⟨g, hg⟩ : ∃ g, w.heap.size = g := ⟨_, rfl⟩
  have ca := ((Ch.refl Nw w).alloc (.cells (amv a) 65)).alloc (.cells (pt ptz) 58)
  have b0 := al2_0 w (.cells (amv a) 65) (.cells (pt ptz) 58)
  have b1 := al2_1 w (.cells (amv a) 65) (.cells (pt ptz) 58)
  have sa : ((w.alloc (.cells (amv a) 65)).alloc (.cells (pt ptz) 58)).heap.size = g + 2 := by simp [hg]
  simp [go_sem, hz_pt, zc_pt, hps, hpa, has, haa, h42]
  rw [hg] at b0 b1 ⊢
  revert ca b0 b1 sa
  generalize (w.alloc (.cells (amv a) 65)).alloc (.cells (pt ptz) 58) = w1
  intro ca b0 b1 sa
  refine (full_any a.v a.b w1 (hs.ch ca fun _ _ e => e) hb).mono ?_
  rintro u w2 ⟨m1, c2, m2⟩
  obtain ⟨Au, cu, hu⟩ : ∃ A c, u = .slice A 512 c := by
    rcases m1.2 with ⟨hv, h0⟩ | ⟨g, cap, cur, hv, _⟩
    · exact absurd h0 (by decide)
    · exact ⟨_, _, hv⟩
  have b02 := c2.obj b0 id
  have b12 := c2.obj b1 id
  have q2 := amc ok b02
  have cw2 := ca.trans c2
  have hg2 : g + 2 ≤ w2.heap.size := by rw [← sa]; exact c2.size
  have c3 := (Ch.refl Nw w2).alloc (.cells (pt a.q) 58)
  have b5 := hp_alloc w2 (.cells (pt a.q) 58)
  obtain ⟨g5, hg5⟩ : ∃ g, w2.heap.size = g := ⟨_, rfl⟩
  have b03 := c3.obj b02 id
  have b13 := c3.obj b12 id
  have q3 := amc ok b03
  have m3 := own_ch m1 c3 fun _ _ e => e
  have hq3 := q3.w
  simp [go_sem, b02, has, hap, hz_pt, zc_pt, hps, hzs, blit_whole, hq3]
  rw [hg5] at b5 ⊢
  have cw3 := cw2.trans c3
  have lt3 : g5 < (w2.alloc (.cells (pt a.q) 58)).heap.size := lt_of_block b5
  revert b5 b13 m3 cw3 lt3
  clear q3 hq3 b03 c3
  generalize w2.alloc (.cells (pt a.q) 58) = w3
  intro b5 b13 m3 cw3 lt3
  have hum : ∀ k, u.ownBlock = some k → g + 2 ≤ k ∧ k < g5 := fun k hk => ⟨by rw [← sa]; exact m2 k hk, by rw [← hg5]; exact own_blt m1 k hk⟩
  have fin : ∀ (W : World) (p' : Pt), PtOk p' → p' = a.ptr → Ch Nw w W → W.heap[g5]? = some (.cells (pt p') 58 (0, 0)) → W.heap[g + 1]? = some (.cells (pt ptz) 58 (0, 0)) → W.ownsRow 0 5 1 u 512 (bvs (fullB a.b)) → R' (.tuple #[.agg (pt p'), u]) (W.setRow (g + 1) (pt p')) := fun W p' okp e hc h5 h1 hm => by
    subst e
    have cs := (Ch.refl (one (g + 1)) W).setRow (g := g + 1) (.inl rfl) (pt a.ptr)
    exact hR _ _ ⟨u, rfl, own_ch hm cs fun k hk e => by have := hum k hk; simp only [one] at e; omega, hc.trans' cs fun k hk e => by simp only [one] at e; omega, m2.mono (by omega)⟩
  clear hR
  subst hu
  cases hwr : a.wrong with
  | true =>
    have e : a.q = a.ptr := by unfold Am.ptr; rw [hwr]; rfl
    simp [go_sem, b5, b13, hps, hpa, hzs, blit_whole]
    exact fin w3 a.q ok e cw3 b5 b13 m3
  | false =>
    have e : sealP a.q (fullB a.b) = a.ptr := by unfold Am.ptr; rw [hwr]; rfl
    simp [go_sem, b5, hps, hpa]
    refine (rdigest_any a.q _ (fullB a.b) w3 ok (by rw [fullB_len]; exact Sl.of_own m3) (by rw [fullB_len]; decide)).mono ?_
    rintro _ w4 ⟨rfl, c4⟩
    have b54 := c4.obj b5 id
    have b14 := c4.obj b13 id
    have m4 := own_ch m3 c4 fun _ _ e => e
    have hdl := digS_length a.q (fullB a.b)
    have hbl : ((bvs (digS a.q (fullB a.b))).toArray).size = 32 := by simp [bvs_length, hdl]
    have hbo : ones (bvs (digS a.q (fullB a.b))).toArray = true := ones_bvs _
    have hbt := blit_pt_h (p := a.q) (h' := digS a.q (fullB a.b)) ok.h hdl
    change _ = pt (sealP a.q (fullB a.b)) at hbt
    have oks := sealP_ok ok (fullB a.b)
    have hss := pt_size oks
    have hsa := pt_all oks
    generalize sealP a.q (fullB a.b) = s at *
    generalize hY : (bvs (digS a.q (fullB a.b))).toArray = Y at *
    have cA := (Ch.refl (one g5) w4).setRow (g := g5) (.inl rfl) (blit (pt a.q) 5 Y)
    have bA : (w4.setRow g5 (blit (pt a.q) 5 Y)).heap[g5]? = some (.cells (pt s) 58 (0, 0)) := by rw [hp_setRow, b54, hbt]; rfl
    have bA4 : (w4.setRow g5 (blit (pt a.q) 5 Y)).heap[g + 1]? = some (.cells (pt ptz) 58 (0, 0)) := by rw [hp_setRow_ne _ _ _ _ (by omega)]; exact b14
    have mA := own_ch m4 cA fun k hk e => by have := hum k hk; simp only [one] at e; omega
    have cwA := (cw3.trans c4).trans' cA fun k hk e => by simp only [one] at e; have := ca.size; omega
    simp [go_sem, b54, hps, hbl, hbo]
    revert cA bA bA4 mA cwA
    generalize w4.setRow g5 (blit (pt a.q) 5 Y) = w5
    intro cA bA bA4 mA cwA
    simp [go_sem, hbt, bA, bA4, hss, hsa, hzs, blit_whole]
    exact fin w5 s oks e cwA bA bA4 mA
/-- an act that lies in a world -/
structure Am.In (w : World) (a : Am) : Prop where
  d : a.d < 256
  ok : PtOk a.q
  sl : Sl w a.v a.b.length (bvs a.b)
  ac : a.ac.In w
theorem Ac.In.ch {w w' : World} {a : Ac} (h : a.In w) (hc : Ch Nw w w') : a.In w' := ⟨h.addr, h.d, h.k, h.n, h.sl.ch hc fun _ _ e => e, fun k h0 hk => Nat.lt_of_lt_of_le (h.lt k h0 hk) hc.size, h.ps.ch hc fun _ _ e => e, fun k h0 hk => Nat.lt_of_lt_of_le (h.plt k h0 hk) hc.size, h.pr⟩
theorem Am.In.ch {w w' : World} {a : Am} (h : a.In w) (hc : Ch Nw w w') : a.In w' := ⟨h.d, h.ok, h.sl.ch hc fun _ _ e => e, h.ac.ch hc⟩
def Am.Small (a : Am) : Prop := a.b.length ≤ 600 ∧ a.ac.b.length ≤ 600 ∧ a.ac.ps.length ≤ 200
theorem Am.In.at' {w : World} {a : Am} {X : Nat → Prop} (h : a.In w) (hs : a.Small) (hX : ∀ k, X k → w.heap.size ≤ k) : Am.At w a X :=
  ⟨h.d, h.ok, h.sl, by have := hs.1; omega, ⟨h.ac.addr, h.ac.d, h.ac.n, h.ac.sl, fun h0 k hk => ⟨fun e => by have := hX k e; have := h.ac.lt k h0 hk; omega, h.ac.lt k h0 hk⟩, by have := hs.2.1; omega, h.ac.ps, fun h0 k hk => ⟨fun e => by have := hX k e; have := h.ac.plt k h0 hk; omega, h.ac.plt k h0 hk⟩, by have := hs.2.2; omega, h.ac.pr⟩, h.ac.k⟩
theorem lst_one {α : Type} {en : α → List Value} {k : Nat} (w : World) (T : TypeId) (a : α) : Lst (w.alloc (.cells (en a).toArray T)) (.slice (some ⟨w.heap.size, 0, none⟩) 1 1) en k [a] := by
  refine ⟨_, 1, rfl, Nat.le_refl _, by unfold maxLen; omega, fun _ => ⟨_, 0, rfl, by simp, fun i a' j u hi hu => ?_⟩⟩
  have hi0 : i = 0 := by
    have := (List.getElem?_eq_some_iff.1 hi).1
    simp at this
    exact this
  subst hi0
  simp at hi
  subst hi
  rw [cell_blk (hp_alloc w _)]
  simpa using hu
theorem mgreat_any (v : Value) (L : List Am) (w : World) (hL : Lst w v amL 51 L) (hin : ∀ a ∈ L, a.In w) :
    Ret Tryz.prog 5 #[v] w fun v' w' => ∃ g, v' = .bool g ∧ (g = false → L.length ≤ 60 ∧ ∀ a ∈ L, a.Small) ∧ Ch Nw w w' := by
  refine v_enter Tryz.func5 Tryz.ntmps5 rfl (by simp) fun R' hR => ?_
  have hlen := hL.len Tryz.underlying22 3
  by_cases h60 : (60 : Int) < (L.length : Int)
  · simp [go_sem, hlen, h60]
    exact hR _ _ ⟨true, rfl, by simp, Ch.refl _ _⟩
  simp [go_sem, hlen, h60]
  obtain ⟨A0, c0, rfl, _, _, hrd⟩ := id hL
  refine v_loop (fun r f u => ∃ (i : Nat), r = L.length - i ∧ i ≤ L.length ∧ f 0 = .slice A0 L.length c0 ∧ f 3 = .int .i64 i ∧ (∀ j a, j < i → L[j]? = some a → a.Small) ∧ Ch Nw w u) L.length
    ⟨0, rfl, by omega, by simp, by simp, fun j a h => absurd h (by omega), Ch.refl _ _⟩ ?_
  rintro J hJ _ f u ⟨i, rfl, hi, f0, f3, hall, hc⟩
  by_cases hlt : i < L.length
  · obtain ⟨a, ha⟩ : ∃ a, L[i]? = some a := ⟨_, List.getElem?_eq_getElem hlt⟩
    obtain ⟨b, off, rfl, hblt, hrd⟩ := hrd (by omega)
    have hai := hin a (List.mem_of_getElem? ha)
    have hps := pt_size hai.ok
    have tl : ∀ j x, (a.v :: .bool a.wrong :: acv a.ac)[j]? = some x → u.cell? ⟨b, off + i * 51 + (42 + j), none⟩ = some x := fun j x hx => hc.cell (hrd i a (42 + j) x ha (by rw [← hx, ← amL_tail hai.ok j]; simp [amv])) id
    have q0 := tl 0 _ rfl
    have q2 := tl 2 _ rfl
    have q3 := tl 3 _ rfl
    have q4 := tl 4 _ rfl
    have q5 := tl 5 _ rfl
    have q6 := tl 6 _ rfl
    have q7 := tl 7 _ rfl
    have q8 := tl 8 _ rfl
    obtain ⟨A1, c1, hav, _⟩ := id hai.sl
    obtain ⟨A2, c2, hap, _⟩ := id hai.ac.sl
    obtain ⟨A3, c3, hapv, _⟩ := id hai.ac.ps
    rw [hav] at q0
    have hii : (i : Int) < L.length := by omega
    have hwi : IntKind.i64.wrap ((i : Int) + 1) = ((i + 1 : Nat) : Int) := by rw [IntKind.wrap_i64]; omega
    by_cases h6 : (600 : Int) < (a.b.length : Int)
    · simp [go_sem, f0, f3, hii, hlt, q0, h6]
      exact hR _ _ ⟨true, rfl, by simp, hc⟩
    · simp only [Nat.add_assoc] at q0 q2 q3 q4 q5 q6 q7 q8
      simp [go_sem, f0, f3, hii, hlt, q0, q2, q3, q4, q5, q6, q7, q8, h6, Nat.add_assoc]
      have cal := (Ch.refl Nw u).alloc (.cells (acv a.ac).toArray 63)
      refine (great_any (.slice (some ⟨u.heap.size, 0, none⟩) 1 1) [a.ac] (u.alloc (.cells (acv a.ac).toArray 63)) (lst_one u _ a.ac) (fun x hx => by
        simp at hx
        subst hx
        exact (hai.ac.ch hc).ch cal)).mono ?_
      rintro _ _ ⟨g, rfl, hg, rfl⟩
      cases g with
      | true =>
        simp [go_sem]
        exact hR _ _ ⟨true, rfl, by simp, hc.trans cal⟩
      | false =>
        simp [go_sem, f3, hwi]
        refine Rnd.intro (L.length - (i + 1)) (by omega) (hJ _ _ _ ⟨i + 1, rfl, by omega, by simp [f0], by simp, fun j a' hj ha' => ?_, hc.trans cal⟩)
        by_cases hji : j = i
        · subst hji
          rw [ha] at ha'
          cases ha'
          have := (hg rfl).2 a.ac (by simp)
          exact ⟨by omega, this⟩
        · exact hall j a' (by omega) ha'
  · obtain rfl : i = L.length := by omega
    simp [go_sem, f0, f3]
    refine hR _ _ ⟨false, rfl, fun _ => ⟨by omega, fun a ha => ?_⟩, hc⟩
    obtain ⟨j, hj⟩ := List.mem_iff_getElem?.1 ha
    exact hall j a (List.getElem?_eq_some_iff.1 hj).1 hj
end Go.Proofs.YtppilgkgnofkpaaGreatDoor
