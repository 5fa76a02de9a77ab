/- Tops: what they are in memory, PutTop, TakeTop, and the law's top. Conditions: the variable ptr.wide holds what the text lays; sizes. -/
import Derived.Test.YtnefdmbdkljifaaGreatDoorShaB
import Derived.Test.YtnefdmbdkljifaaGreatDoorPtH
import Derived.Test.YtnefdmbdkljifaaGreatDoorInE
set_option linter.unusedSimpArgs false
set_option linter.unusedVariables false

namespace Go.Proofs.YtnefdmbdkljifaaGreatDoor
open Go.RowKit Go.Kin

abbrev Tp := Nat × Pt
structure TpOk (x : Tp) : Prop where
  n : x.1 < 18446744073709551616
  p : PtOk x.2
def tpL (x : Tp) : List Value := .int .u64 x.1 :: (pt x.2).toList
def tpv (x : Tp) : Array Value := (tpL x).toArray
section
variable {x : Tp}
theorem tpv_size (ok : TpOk x) : (tpv x).size = 42 := by
  have := pt_size ok.p
  simp [tpv, tpL, this]
theorem tpv_all (ok : TpOk x) : (tpv x).extract 0 42 = tpv x := by rw [← tpv_size ok]; simp
theorem tpv_0 : (tpv x)[0]? = some (.int .u64 x.1) := by simp [tpv, tpL]
theorem tpv_g0 (h : 0 < (tpv x).size) : (tpv x)[0] = .int .u64 x.1 := rfl
theorem tpv_p (ok : TpOk x) : (tpv x).extract 1 42 = pt x.2 := by
  have := pt_size ok.p
  apply Array.ext'
  simp [tpv, tpL, this]
  rw [List.take_of_length_le (by simp [this])]
@[simp] theorem tpv_ones (x : Tp) : ones (tpv x) = true := ones_of (by
  intro u hu
  unfold tpL at hu
  rcases List.mem_cons.1 hu with rfl | hu
  · rfl
  · have h2 := pt_ones x.2
    unfold ones at h2
    rw [Array.all_eq_true'] at h2
    exact h2 u (by simpa using hu))
end
def tpz : Tp := (0, ptz)
theorem tpz_ok : TpOk tpz := ⟨by decide, ptz_ok⟩
theorem hz_tp : (Tryz.prog.info? 69).map (fun i => i.zero.isSome) = some true := by kernel_rfl
theorem zc_tp : zc Tryz.prog 69 = tpv tpz := by kernel_rfl
theorem blit_tp1 (n : Nat) : blit (tpv tpz) 0 #[.int .u64 n] = tpv (n, ptz) := by simp [blit, tpv, tpL, tpz]
theorem blit_tp2 (n : Nat) {p q : Pt} (okp : PtOk p) (okq : PtOk q) : blit (tpv (n, q)) 1 (pt p) = tpv (n, p) := by
  have h1 := pt_size okp
  have h2 := pt_size okq
  apply Array.ext'
  simp [blit, tpv, tpL, h1, h2]
theorem bld_tp0 {w : World} {K : Value → World → Prop} : VBld Tryz.prog 69 [] w K = K (.agg (tpv tpz)) w :=
  VBld_struct Tryz.underlying69 hz_tp (places := #[(0, 1), (1, 41)]) (by simp [go_sem]) (by simp [fillB, zc_tp])
theorem bld_tp1 (n : Nat) {w : World} {K : Value → World → Prop} : VBld Tryz.prog 69 [(0, .int .u64 n)] w K = K (.agg (tpv (n, ptz))) w := by
  refine VBld_struct Tryz.underlying69 hz_tp (places := #[(0, 1), (1, 41)]) (by simp [go_sem]) ?_
  have hz := tpv_size tpz_ok
  simp [fillB, zc_tp, Value.cells, hz, blit_tp1]
theorem bld_tp2 (n : Nat) (p : Pt) (ok : PtOk p) (hn : n < 18446744073709551616) {w : World} {K : Value → World → Prop} : VBld Tryz.prog 69 [(0, .int .u64 n), (1, .agg (pt p))] w K = K (.agg (tpv (n, p))) w := by
  refine VBld_struct Tryz.underlying69 hz_tp (places := #[(0, 1), (1, 41)]) (by simp [go_sem]) ?_
  have hz := tpv_size tpz_ok
  have h2 := tpv_size (x := (n, ptz)) ⟨hn, ptz_ok⟩
  have hi := pt_size ok
  simp [fillB, zc_tp, Value.cells, hz, blit_size, blit_tp1, blit_tp2, ok, ptz_ok, hi, h2]
theorem eq_tp (w : World) {x y : Tp} (hx : TpOk x) (hy : TpOk y) : (Op.equalIn 10000 69 (.agg (tpv x)) (.agg (tpv y))).run Tryz.prog w = .ok (decide (x = y)) w := by
  have e1 : ∀ w, (Op.equalIn 9999 37 (.agg (pt x.2)) (.agg (pt y.2))).run Tryz.prog w = .ok (decide (x.2 = y.2)) w := fun w => eq_pt_any w 9996 hx.p hy.p
  have hc : ((x.1 : Int) == (y.1 : Int)) = decide (x.1 = y.1) := by
    by_cases h : x.1 = y.1
    · simp [h]
    · rw [beq_false_of_ne (by omega), decide_eq_false h]
  have hxs := tpv_size hx
  have hys := tpv_size hy
  rw [Op.equalIn]
  simp [go_sem, tpv_0, tpv_g0, tpv_p hx, tpv_p hy, e1, hc, hxs, hys]
  obtain ⟨a, p⟩ := x
  obtain ⟨b, q⟩ := y
  simp only [Prod.mk.injEq]
  by_cases h1 : a = b <;> by_cases h2 : p = q <;> simp [h1, h2]

/- the plain law -/
def putT (x : Tp) : List UInt8 := le x.1 8 ++ (putP x.2 ++ zb 440)
theorem putT_length {x : Tp} (ok : PtOk x.2) : (putT x).length = 512 := by
  simp [putT, le_length, putP_length ok, zb_length]
def t1 (b : List UInt8) := rawS b 0 8
def t2 (b : List UInt8) := ptS (t1 b).2.1 (t1 b).2.2
def t3 (b : List UInt8) := noughtS (t2 b).2.1 (t2 b).2.2 (t2 b).2.1.length
def t4 (b : List UInt8) := endS (t3 b).1 (t3 b).2
/-- what the bytes say -/
def tpR (b : List UInt8) : Tp := (fromLe (t1 b).1, (t2 b).1)
theorem tpR_ok (b : List UInt8) : TpOk (tpR b) := ⟨raw_lt b 0 8, ptS_ok _ _⟩
/-- what TakeTop answers -/
def tpS (b : List UInt8) : Tp × Int := if (t4 b).2 = 0 ∧ b.length = 512 then (tpR b, 0) else (tpz, 5)
theorem tpS_ok (b : List UInt8) : TpOk (tpS b).1 := by
  unfold tpS
  split
  · exact tpR_ok b
  · exact tpz_ok
def goodP (p : Pt) : Bool := decide (p = ptz) || mayP p
theorem nz_zb' (n : Nat) : nz (zb n) = false := (nz_zb _).2 (by rw [zb_length])
theorem nought_all (l : List UInt8) : noughtS l 0 l.length = if nz l then ([], 5) else ([], 0) := by
  unfold noughtS rawS failS
  simp
theorem tpS_put {x : Tp} (ok : TpOk x) : tpS (putT x) = if goodP x.2 then (x, 0) else (tpz, 5) := by
  have hl := putP_length ok.p
  have hlen := putT_length ok.p
  have e1 : t1 (putT x) = (le x.1 8, putP x.2 ++ zb 440, 0) := by
    unfold t1 rawS
    rw [if_neg (by simp), if_neg (by rw [hlen]; decide)]
    unfold putT
    rw [List.take_left' (le_length _ _), List.drop_left' (le_length _ _)]
  have e0 : rawS (putP x.2 ++ zb 440) 0 64 = (putP x.2, zb 440, 0) := by
    unfold rawS
    rw [if_neg (by simp), if_neg (by simp [hl, zb_length]), List.take_left' hl, List.drop_left' hl]
  have hf : fromLe (le x.1 8) = x.1 := by rw [fromLe_of_le, Nat.mod_eq_of_lt (by have := ok.n; simpa using this)]
  have htk : tkOk (putP x.2) = goodP x.2 := by
    have h1 := (put_ptOf_iff (putP_length ok.p)).1 (by rw [ptOf_put ok.p])
    unfold tkOk goodP
    rw [h1, ptOf_put ok.p]
    simp
  have e2 : t2 (putT x) = if goodP x.2 then (x.2, zb 440, 0) else (ptz, [], 5) := by
    unfold t2
    rw [e1]
    show ptS (putP x.2 ++ zb 440) 0 = _
    unfold ptS
    rw [e0]
    simp only [hl, htk, ptOf_put ok.p]
    rw [if_neg (by decide)]
  unfold tpS tpR t4 t3
  rw [e2, e1, hlen]
  cases hg : goodP x.2
  · simp [noughtS, rawS, nz, endS]
  · simp only [if_true, nought_all, nz_zb', hf]
    simp [endS]
theorem goodP_ptS (l : List UInt8) (e : Int) : goodP (ptS l e).1 = true := by
  unfold ptS
  split
  · simp [goodP]
  · split
    · rename_i h
      unfold tkOk at h
      simp only [Bool.and_eq_true] at h
      exact h.2
    · simp [goodP]
theorem tpS_err (b : List UInt8) (h : (tpS b).2 ≠ 0) : tpS b = (tpz, 5) ∧ putT (tpR b) ≠ b := by
  have h1 : tpS b = (tpz, 5) := by
    unfold tpS at h ⊢
    split
    · rename_i hh
      rw [if_pos hh] at h
      exact absurd rfl h
    · rfl
  refine ⟨h1, fun e => ?_⟩
  have h2 := tpS_put (tpR_ok b)
  rw [e, show goodP (tpR b).2 = true from goodP_ptS _ _, if_pos rfl] at h2
  rw [h2] at h
  exact h rfl
theorem tpS_back (b : List UInt8) (h : (tpS b).2 = 0) : putT (tpS b).1 = b := by
  by_cases hh : (t4 b).2 = 0 ∧ b.length = 512
  · have e : tpS b = (tpR b, 0) := by unfold tpS; rw [if_pos hh]
    rw [e]
    show putT (tpR b) = b
    have e1 : t1 b = (b.take 8, b.drop 8, 0) := by
      unfold t1 rawS
      rw [if_neg (by simp), if_neg (by rw [hh.2]; decide)]
    have h4 := hh.1
    have hd : (b.drop 8).length = 504 := by simp [hh.2]
    have e2 : t2 b = ptS (b.drop 8) 0 := by unfold t2; rw [e1]
    have er : rawS (b.drop 8) 0 64 = ((b.drop 8).take 64, (b.drop 8).drop 64, 0) := by
      unfold rawS
      rw [if_neg (by simp), if_neg (by rw [hd]; decide)]
    have htl : ((b.drop 8).take 64).length = 64 := by simp [hh.2]
    by_cases htk : tkOk ((b.drop 8).take 64) = true
    · have e3 : t2 b = (ptOf ((b.drop 8).take 64), (b.drop 8).drop 64, 0) := by
        rw [e2]
        unfold ptS
        rw [er]
        simp only [htl, htk]
        simp
      have hnz : nz ((b.drop 8).drop 64) = false := by
        unfold t4 t3 at h4
        rw [e3] at h4
        simp only [nought_all] at h4
        cases hn : nz ((b.drop 8).drop 64)
        · rfl
        · rw [hn] at h4
          simp [endS] at h4
      have hz := (nz_zb _).1 hnz
      have hdl : ((b.drop 8).drop 64).length = 440 := by simp [hh.2]
      rw [hdl] at hz
      have hp : putP (ptOf ((b.drop 8).take 64)) = (b.drop 8).take 64 := (put_ptOf_iff htl).2 (by
        unfold tkOk at htk
        simp only [Bool.and_eq_true, Bool.not_eq_true'] at htk
        exact htk.1)
      have hle : le (fromLe (b.take 8)) 8 = b.take 8 := by
        have := le_fromLe (b.take 8)
        rwa [show (b.take 8).length = 8 by simp [hh.2]] at this
      unfold putT tpR
      rw [e1, e3]
      show le (fromLe (b.take 8)) 8 ++ (putP (ptOf ((b.drop 8).take 64)) ++ zb 440) = b
      rw [hle, hp, ← hz, List.take_append_drop, List.take_append_drop]
    · exfalso
      have e3 : t2 b = (ptz, [], 5) := by
        rw [e2]
        unfold ptS
        rw [er]
        simp only [htl, htk]
        simp
      unfold t4 t3 at h4
      rw [e3] at h4
      simp [noughtS, rawS, nz, endS] at h4
  · exfalso
    unfold tpS at h
    rw [if_neg hh] at h
    exact absurd h (by decide)

theorem puttop_any (x : Tp) (w : World) (ok : TpOk x) : Ret Tryz.prog 19 #[.agg (tpv x)] w fun v' w' => Mine 5 w v' 512 (bvs (putT x)) w' := by
  refine v_enter Tryz.func19 Tryz.ntmps19 rfl (by simp) fun R' hR => ?_
  have hts := tpv_size ok
  have hta := tpv_all ok
  simp [go_sem, hts, hta]
  have b1 := hp_alloc w (.cells (tpv x) 69)
  have c1 := (Ch.refl Nw w).alloc (.cells (tpv x) 69)
  obtain ⟨w1, hw1⟩ : ∃ w1, w.alloc (.cells (tpv x) 69) = w1 := ⟨_, rfl⟩
  rw [hw1] at b1 c1 ⊢
  have e1 := (cell_blk b1 0).trans tpv_0
  refine v_draw' [(0, none), (1, none), (3, none), (4, none), (2, some [3, 4]), (5, some []), (6, some []), (7, none)] (by kernel_rfl) (by kernel_rfl) ?_
  simp [go_sem, e1, b1, hts, tpv_p ok]
  refine (wu64 (.slice none 0 0) 0 [] x.1 _ ok.n (by decide) (World.ownsRow_nil _ _ _ _)).mono ?_
  intro v2 w2 o2
  have b2 := o2.2.1.hp (show w1.drew.heap[w.heap.size]? = _ from b1) fun e => by simp [Value.ownBlock] at e
  simp [go_sem, b2, hts, tpv_p ok]
  refine (pput_any v2 8 (le x.1 8) x.2 w2 ok.p (by decide) (le_length _ _) (by simpa using o2.1)).mono ?_
  intro v3 w3 o3
  simp [go_sem]
  refine (fill_any v3 72 (le x.1 8 ++ putP x.2) 512 w3 (by decide) (by decide) (by simp [le_length, putP_length ok.p]) (by simpa using o3.1)).mono ?_
  intro v4 w4 o4
  simp [go_sem]
  have m1 : Mine 5 w (.slice none 0 0) 0 (bvs []) w1.drew := Mine.nil _ c1.drew
  have m2 := m1.grow o2.1 o2.2.1 o2.2.2
  have m3 := m2.grow o3.1 o3.2.1 o3.2.2
  have m4 := m3.grow o4.1 o4.2.1 o4.2.2
  refine hR _ _ ?_
  have e : putT x = [] ++ le x.1 8 ++ putP x.2 ++ List.replicate (Int.toNat 512 - 72) 0 := by
    rw [show List.replicate (Int.toNat 512 - 72) (0 : UInt8) = zb 440 from rfl, List.nil_append, List.append_assoc]
    rfl
  rw [e]
  exact m4
theorem taketop_any (v : Value) (b : List UInt8) (w : World) (hl : b.length ≤ 1000000) (hs : Sl w v b.length (bvs b)) (hw : Lw w) :
    Ret Tryz.prog 20 #[v] w fun v' w' => v' = .tuple #[.agg (tpv (tpS b).1), .int .i64 (tpS b).2] ∧ Ch Nw w w' := by
  refine v_enter Tryz.func20 Tryz.ntmps20 rfl (by simp) fun R' hR => ?_
  have hzs := tpv_size tpz_ok
  have hza := tpv_all tpz_ok
  have hlen := hs.len Tryz.underlying62 3
  have hl1 := hw.lt
  simp [go_sem, hz_tp, zc_tp]
  have c1 := (Ch.refl Nw w).alloc (.cells (tpv tpz) 69)
  have b1 := hp_alloc w (.cells (tpv tpz) 69)
  obtain ⟨w1, hw1⟩ : ∃ w1, w.alloc (.cells (tpv tpz) 69) = w1 := ⟨_, rfl⟩
  rw [hw1] at b1 c1 ⊢
  have hz1 := lt_of_block b1
  refine (new_any v b w1 (by omega) (hs.ch c1 fun _ _ e => e)).mono ?_
  rintro _ w2 ⟨gr, o, rfl, k1, k1o, k1z, k2, k3⟩
  have c2 := c1.trans k3
  have b2 := k3.hp b1 id
  simp [go_sem]
  refine (ru64 gr b 0 w2 (by omega) k2).mono ?_
  rw [show rawS b 0 8 = t1 b from rfl]
  rintro _ w3 ⟨rfl, r3, d3⟩
  have b3 := d3.hp b2 (by simp only [only]; omega)
  have c3 : Ch Nw w w3 := c2.trans' d3 fun j hj e => by simp only [only] at e; omega
  have hz3 := c3.size
  have hz23 := d3.size
  have hl3 : (t1 b).2.1.length ≤ b.length := rawS_left _ _ _
  obtain ⟨G, hG⟩ : ∃ G, fromLe (t1 b).1 = G := ⟨_, rfl⟩
  have hG8 : G < 18446744073709551616 := hG ▸ raw_lt b 0 8
  rw [hG]
  have okG : TpOk (G, ptz) := ⟨hG8, ptz_ok⟩
  have hgs := tpv_size okG
  have hga := tpv_all okG
  simp [go_sem, bld_tp1, hz_tp, zc_tp, hgs, hga, hzs, blit_whole]
  have cd := (Ch.refl Nw w3).alloc (.cells (tpv (G, ptz)) 69)
  have b4 := hp_alloc w3 (.cells (tpv (G, ptz)) 69)
  obtain ⟨w4, hw4⟩ : ∃ w4, w3.alloc (.cells (tpv (G, ptz)) 69) = w4 := ⟨_, rfl⟩
  rw [hw4] at b4 cd ⊢
  have c4 := c3.trans cd
  have hz4 := lt_of_block b4
  have b4' := cd.hp b3 id
  have hgr3 := r3.lt
  refine (ptake_any gr o (t1 b).2.1 (t1 b).2.2 w4 (by omega) (hw.ch c4 id) (by omega) (r3.ch cd id id) (by omega)).mono ?_
  rw [show ptS (t1 b).2.1 (t1 b).2.2 = t2 b from rfl]
  rintro _ w5 ⟨rfl, r5, d5⟩
  have okp : PtOk (t2 b).1 := ptS_ok _ _
  have hl5 : (t2 b).2.1.length ≤ (t1 b).2.1.length := ptS_left _ _
  have b5 := d5.hp b4 (by simp only [only]; omega)
  have b5' := d5.hp b4' (by simp only [only]; omega)
  have okT : TpOk (G, (t2 b).1) := ⟨hG8, okp⟩
  have hts := tpv_size okT
  have hta := tpv_all okT
  have hps := pt_size okp
  have c5 : Ch Nw w w5 := c4.trans' d5 fun j hj e => by simp only [only] at e; omega
  have hz5 := c5.size
  have hz45 := d5.size
  simp [go_sem, b5, hgs, hps, blit_tp2 G okp ptz_ok]
  have ce := (Ch.refl (only w3.heap.size) w5).setRow (g := w3.heap.size) (.inl rfl) (tpv (G, (t2 b).1))
  have b6 : (w5.setRow w3.heap.size (tpv (G, (t2 b).1))).heap[w3.heap.size]? = some (.cells (tpv (G, (t2 b).1)) 69 (0, 0)) := by rw [hp_setRow, b5]; rfl
  obtain ⟨w6, hw6⟩ : ∃ w6, w5.setRow w3.heap.size (tpv (G, (t2 b).1)) = w6 := ⟨_, rfl⟩
  rw [hw6] at b6 ce ⊢
  have r6 := r5.ch ce (by simp only [only]; omega) (by simp only [only]; omega)
  have b6' := ce.hp b5' (by simp only [only]; omega)
  have c6 : Ch Nw w w6 := c5.trans' ce fun j hj e => by simp only [only] at e; omega
  refine (left_any gr _ _ w6 r6).mono ?_
  rintro _ w7 ⟨rfl, rfl⟩
  simp [go_sem]
  refine (noughts_any gr _ _ _ w7 (by omega) (by omega) r6).mono ?_
  rw [Int.toNat_natCast, show noughtS (t2 b).2.1 (t2 b).2.2 (t2 b).2.1.length = t3 b from rfl]
  rintro _ w8 ⟨rfl, r8, d8⟩
  have b8 := d8.hp b6 (by simp only [only]; omega)
  have b8' := d8.hp b6' (by simp only [only]; omega)
  have c8 : Ch Nw w w8 := c6.trans' d8 fun j hj e => by simp only [only] at e; omega
  simp [go_sem]
  refine (end_any gr _ _ w8 r8).mono ?_
  rw [show endS (t3 b).1 (t3 b).2 = t4 b from rfl]
  rintro _ w9 ⟨rfl, r9, d9⟩
  have b9 := d9.hp b8 (by simp only [only]; omega)
  have b9' := d9.hp b8' (by simp only [only]; omega)
  have c9 : Ch Nw w w9 := c8.trans' d9 fun j hj e => by simp only [only] at e; omega
  by_cases h : (t4 b).2 = 0 ∧ b.length = 512
  · have e : tpS b = (tpR b, 0) := by unfold tpS; rw [if_pos h]
    rw [e] at hR
    rw [show tpR b = (G, (t2 b).1) by rw [← hG]; rfl] at hR
    have b10 : (w9.setRow w.heap.size (tpv (G, (t2 b).1))).heap[w.heap.size]? = some (.cells (tpv (G, (t2 b).1)) 69 (0, 0)) := by rw [hp_setRow, b9']; rfl
    simp [go_sem, h.1, h.2, hlen, b9, b9', hts, hta, hzs, blit_whole, b10]
    exact hR _ _ ⟨rfl, c9.setRow (g := w.heap.size) (.inr (by omega)) _⟩
  · have e : tpS b = (tpz, 5) := by unfold tpS; rw [if_neg h]
    rw [e] at hR
    have b10 : (w9.setRow w.heap.size (tpv tpz)).heap[w.heap.size]? = some (.cells (tpv tpz) 69 (0, 0)) := by rw [hp_setRow, b9']; rfl
    by_cases h4 : (t4 b).2 = 0
    · have h5 : ((b.length : Int) != 512) = true := by
        have : ¬ (b.length : Int) = 512 := by omega
        simpa using this
      simp [go_sem, h4, h5, hlen, bld_tp0, b9', hzs, hza, blit_whole, b10]
      exact hR _ _ ⟨rfl, c9.setRow (g := w.heap.size) (.inr (by omega)) _⟩
    · have h4' : ((t4 b).2 != 0) = true := by simpa using h4
      simp [go_sem, h4', bld_tp0, b9', hzs, hza, blit_whole, b10]
      exact hR _ _ ⟨rfl, c9.setRow (g := w.heap.size) (.inr (by omega)) _⟩
theorem ltop_any (v : Value) (b : List UInt8) (w : World) (hl : b.length ≤ 1000000) (hs : Sl w v b.length (bvs b)) (hown : ∀ k, v.ownBlock = some k → k < w.heap.size) :
    Ret Tryz.prog 22 #[v] w fun v' w' => v' = .agg (tpv (tpR b)) ∧ Ch Nw w w' := by
  refine v_enter Tryz.func22 Tryz.ntmps22 rfl (by simp) fun R' hR => ?_
  obtain ⟨A, c, rfl, _⟩ := id hs
  have hzs := tpv_size tpz_ok
  have hza := tpv_all tpz_ok
  have hzp := pt_size ptz_ok
  simp [go_sem, hz_tp, zc_tp]
  have c1 := (Ch.refl Nw w).alloc (.cells (tpv tpz) 69)
  have b1 := hp_alloc w (.cells (tpv tpz) 69)
  obtain ⟨w1, hw1⟩ : ∃ w1, w.alloc (.cells (tpv tpz) 69) = w1 := ⟨_, rfl⟩
  rw [hw1] at b1 c1 ⊢
  have hz1 := lt_of_block b1
  have hr0 : RefR w1 (.agg #[.slice A b.length c, .int .i64 0]) b 0 (Value.slice A b.length c).ownBlock := ⟨_, rfl, hs.ch c1 fun _ _ e => e, .inl rfl⟩
  refine (refNumM _ b 0 8 _ w1 (by omega) (by decide) hr0 fun k hk => by have := hown k hk; omega).mono ?_
  rw [show rawS b 0 8 = t1 b from rfl]
  rintro _ w2 ⟨r2, rfl, q2, d2⟩
  have b2 := d2.hp b1 id
  have hl3 : (t1 b).2.1.length ≤ b.length := rawS_left _ _ _
  obtain ⟨s2, rfl, s2l, s2o⟩ := q2
  obtain ⟨A2, c2, rfl, _⟩ := id s2l
  obtain ⟨G, hG⟩ : ∃ G, fromLe (t1 b).1 = G := ⟨_, rfl⟩
  have hG8 : G < 18446744073709551616 := hG ▸ raw_lt b 0 8
  rw [hG]
  simp [go_sem]
  have c3 := d2.alloc (.cells #[.slice A2 (t1 b).2.1.length c2, .int .i64 (t1 b).2.2] 115)
  obtain ⟨w3, hw3⟩ : ∃ w3, w2.alloc (.cells #[.slice A2 (t1 b).2.1.length c2, .int .i64 (t1 b).2.2] 115) = w3 := ⟨_, rfl⟩
  have cd3 := (Ch.refl Nw w2).alloc (.cells #[.slice A2 (t1 b).2.1.length c2, .int .i64 (t1 b).2.2] 115)
  rw [hw3] at c3 cd3 ⊢
  have b3 := c3.hp b1 id
  have hz3 := c3.size
  have hr3 : RefR w3 (.agg #[.slice A2 (t1 b).2.1.length c2, .int .i64 (t1 b).2.2]) (t1 b).2.1 (t1 b).2.2 (Value.slice A b.length c).ownBlock := ⟨_, rfl, s2l.ch cd3 fun _ _ e => e, s2o⟩
  refine (rtake_any _ (t1 b).2.1 (t1 b).2.2 _ w3 (by omega) hr3 fun k hk => by have := hown k hk; omega).mono ?_
  rw [show ptS (t1 b).2.1 (t1 b).2.2 = t2 b from rfl]
  rintro _ w4 ⟨r4, rfl, q4, d4⟩
  have b4 := d4.hp b3 id
  obtain ⟨s4, rfl, s4l, s4o⟩ := q4
  obtain ⟨A4, c4, rfl, _⟩ := id s4l
  have okp : PtOk (t2 b).1 := ptS_ok _ _
  have hps := pt_size okp
  have hpa := pt_all okp
  have okT : TpOk (G, (t2 b).1) := ⟨hG8, okp⟩
  have hts := tpv_size okT
  have hta := tpv_all okT
  have c4' := (c1.trans c3).trans d4
  have hz4 := c4'.size
  have hwl := lt_of_block b1
  have hwl4 := lt_of_block b4
  have q5 := al2_0 w4 (.cells (pt ptz) 37) (.cells #[.slice none 0 0, .int .i64 0] 115)
  have q6 := al2_1 w4 (.cells (pt ptz) 37) (.cells #[.slice none 0 0, .int .i64 0] 115)
  have cd5 := ((Ch.refl Nw w4).alloc (.cells (pt ptz) 37)).alloc (.cells #[.slice none 0 0, .int .i64 0] 115)
  simp [go_sem, hz_pt, zc_pt]
  obtain ⟨w5, hw5⟩ : ∃ w5, (w4.alloc (.cells (pt ptz) 37)).alloc (.cells #[.slice none 0 0, .int .i64 0] 115) = w5 := ⟨_, rfl⟩
  rw [hw5] at q5 q6 cd5 ⊢
  have b5 := cd5.hp b4 id
  have ce := (Ch.refl (fun k => w4.heap.size ≤ k) w5).setRow (g := w4.heap.size) (.inl (Nat.le_refl _)) (pt (t2 b).1)
  have e5 : (w5.setRow w4.heap.size (pt (t2 b).1)).heap[w4.heap.size]? = some (.cells (pt (t2 b).1) 37 (0, 0)) := by rw [hp_setRow, q5]; rfl
  have e6 : (w5.setRow w4.heap.size (pt (t2 b).1)).heap[w4.heap.size + 1]? = some (.cells #[.slice none 0 0, .int .i64 0] 115 (0, 0)) := by rw [hp_setRow_ne _ _ _ _ (by omega), q6]
  simp [go_sem, q5, hps, hzp, blit_whole]
  obtain ⟨w6, hw6⟩ : ∃ w6, w5.setRow w4.heap.size (pt (t2 b).1) = w6 := ⟨_, rfl⟩
  rw [hw6] at e5 e6 ce ⊢
  have z6 := fun i => frz_blk e6 i
  have x6 := fun i => cell_blk e6 i
  have b6 := ce.hp b5 (by omega)
  have cf := (Ch.refl (only (w4.heap.size + 1)) w6).setCell (p := ⟨w4.heap.size + 1, 0, none⟩) (.inl rfl) (.slice A4 (t2 b).2.1.length c4) |>.setCell (p := ⟨w4.heap.size + 1, 1, none⟩) (.inl rfl) (.int .i64 (t2 b).2.2)
  simp [go_sem, x6, z6]
  obtain ⟨w7, hw7⟩ : ∃ w7, (w6.setCell ⟨w4.heap.size + 1, 0, none⟩ (.slice A4 (t2 b).2.1.length c4)).setCell ⟨w4.heap.size + 1, 1, none⟩ (.int .i64 (t2 b).2.2) = w7 := ⟨_, rfl⟩
  rw [hw7] at cf ⊢
  have b7 := cf.hp b6 (by simp only [only]; omega)
  have e7 := cf.hp e5 (by simp only [only]; omega)
  have b8 : (w7.setRow w.heap.size (tpv (G, (t2 b).1))).heap[w.heap.size]? = some (.cells (tpv (G, (t2 b).1)) 69 (0, 0)) := by rw [hp_setRow, b7]; rfl
  simp [go_sem, e5, e7, hps, hpa, bld_tp2 G _ okp hG8, b7, hts, hta, hzs, blit_whole, b8]
  refine hR _ _ ⟨?_, (((c4'.trans cd5).trans' ce fun j hj e => by omega).trans' cf fun j hj e => by simp only [only] at e; omega).setRow (g := w.heap.size) (.inr (Nat.le_refl _)) _⟩
  unfold tpR
  rw [hG]
end Go.Proofs.YtnefdmbdkljifaaGreatDoor
