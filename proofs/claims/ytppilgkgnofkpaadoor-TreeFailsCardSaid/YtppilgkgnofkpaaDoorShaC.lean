/- A piece taken in: package sha's take, as a contract on the call. Condition: the variable sha.constants holds what the text lays. -/
import Derived.Test.YtppilgkgnofkpaaDoorShaB
set_option linter.unusedSimpArgs false
set_option linter.unusedVariables false

namespace Go.Proofs.YtppilgkgnofkpaaDoor
open Go.RowKit Go.Kin

def Kc : List Nat := [1116352408, 1899447441, 3049323471, 3921009573, 961987163, 1508970993, 2453635748, 2870763221, 3624381080, 310598401, 607225278, 1426881987, 1925078388, 2162078206, 2614888103, 3248222580, 3835390401, 4022224774, 264347078, 604807628, 770255983, 1249150122, 1555081692, 1996064986, 2554220882, 2821834349, 2952996808, 3210313671, 3336571891, 3584528711, 113926993, 338241895, 666307205, 773529912, 1294757372, 1396182291, 1695183700, 1986661051, 2177026350, 2456956037, 2730485921, 2820302411, 3259730800, 3345764771, 3516065817, 3600352804, 4094571909, 275423344, 430227734, 506948616, 659060556, 883997877, 958139571, 1322822218, 1537002063, 1747873779, 1955562222, 2024104815, 2227730452, 2361852424, 2428436474, 2756734187, 3204031479, 3329325298]
theorem Kc_lt : ∀ x ∈ Kc, x < 4294967296 := by decide +kernel
/-- the variable sha.constants as the text lays it -/
def Lk (w : World) : Prop := ∀ i, i < 64 → w.cell? ⟨2, i, none⟩ = some (.int .u32 (Kc.getD i 0 : Nat))
theorem Lk.ch {S : Nat → Prop} {w w' : World} (h : Lk w) (hc : Ch S w w') (hn : ¬ S 2) : Lk w' := fun i hi => hc.cell (h i hi) hn
theorem Kc_at_lt (i : Nat) : Kc.getD i 0 < 4294967296 := by
  rw [List.getD_eq_getElem?_getD]
  cases h : Kc[i]? with
  | none => decide
  | some x => exact Kc_lt x (List.mem_of_getElem? h)
structure St where
  a : Nat
  b : Nat
  c : Nat
  d : Nat
  e : Nat
  f : Nat
  g : Nat
  h : Nat
deriving DecidableEq
def stv (s : St) : Array Value := #[.int .u32 s.a, .int .u32 s.b, .int .u32 s.c, .int .u32 s.d, .int .u32 s.e, .int .u32 s.f, .int .u32 s.g, .int .u32 s.h]
structure StOk (s : St) : Prop where
  a : s.a < 4294967296
  b : s.b < 4294967296
  c : s.c < 4294967296
  d : s.d < 4294967296
  e : s.e < 4294967296
  f : s.f < 4294967296
  g : s.g < 4294967296
  h : s.h < 4294967296
def big1 (x : Nat) : Nat := (rot x 6 ^^^ rot x 11) ^^^ rot x 25
def big0 (x : Nat) : Nat := (rot x 2 ^^^ rot x 13) ^^^ rot x 22
def chq (e f g : Nat) : Nat := (e &&& f) ^^^ ((4294967295 ^^^ e) &&& g)
def mjq (a b c : Nat) : Nat := ((a &&& b) ^^^ (a &&& c)) ^^^ (b &&& c)
def tq (s : St) (k w : Nat) : Nat := add32 (add32 (add32 (add32 s.h (big1 s.e)) (chq s.e s.f s.g)) k) w
def uq (s : St) : Nat := add32 (big0 s.a) (mjq s.a s.b s.c)
def stp (s : St) (k w : Nat) : St := ⟨add32 (tq s k w) (uq s), s.a, s.b, s.c, add32 s.d (tq s k w), s.e, s.f, s.g⟩
theorem stp_ok {s : St} (ok : StOk s) (k w : Nat) : StOk (stp s k w) := ⟨add32_lt _ _, ok.a, ok.b, ok.c, add32_lt _ _, ok.e, ok.f, ok.g⟩
def rnds (W : List Nat) : Nat → St → St
  | 0, s => s
  | k + 1, s => stp (rnds W k s) (Kc.getD k 0) (W.getD k 0)
theorem rnds_ok {s : St} (ok : StOk s) (W : List Nat) (k : Nat) : StOk (rnds W k s) := by
  induction k with
  | zero => exact ok
  | succ k ih => exact stp_ok ih _ _
def sumS (s r : St) : St := ⟨add32 s.a r.a, add32 s.b r.b, add32 s.c r.c, add32 s.d r.d, add32 s.e r.e, add32 s.f r.f, add32 s.g r.g, add32 s.h r.h⟩
/-- a piece taken in -/
def takeS (s : St) (b : List UInt8) : St := sumS s (rnds (Wl b 64) 64 s)
theorem takeS_ok (s : St) (b : List UInt8) : StOk (takeS s b) := ⟨add32_lt _ _, add32_lt _ _, add32_lt _ _, add32_lt _ _, add32_lt _ _, add32_lt _ _, add32_lt _ _, add32_lt _ _⟩
/-- the first k words are summed -/
def midS (s r : St) (k : Nat) : St := ⟨if 0 < k then add32 s.a r.a else s.a, if 1 < k then add32 s.b r.b else s.b, if 2 < k then add32 s.c r.c else s.c, if 3 < k then add32 s.d r.d else s.d, if 4 < k then add32 s.e r.e else s.e, if 5 < k then add32 s.f r.f else s.f, if 6 < k then add32 s.g r.g else s.g, if 7 < k then add32 s.h r.h else s.h⟩
theorem midS_all (s r : St) : midS s r 8 = sumS s r := rfl
theorem vT_eq (ra rb rc rd re rf rg rh kk wk : Nat) (le' : re < 4294967296) (lf : rf < 4294967296) (lg : rg < 4294967296) :
    IntKind.u32.wrap (IntKind.u32.wrap (IntKind.u32.wrap (IntKind.u32.wrap ((rh : Int) + bits .xor .u32 (bits .xor .u32 (rot re 6 : Int) (rot re 11)) (rot re 25)) + bits .xor .u32 (bits .and .u32 (re : Int) rf) (bits .and .u32 (bits .xor .u32 (if IntKind.u32.signed = true then (-1 : Int) else IntKind.u32.max) re) rg)) + kk) + wk) = (tq ⟨ra, rb, rc, rd, re, rf, rg, rh⟩ kk wk : Int) := by
  have x1 := rot_lt re 6 le'
  have x2 := rot_lt re 11 le'
  have x3 := rot_lt re 25 le'
  have x4 : rot re 6 ^^^ rot re 11 < 4294967296 := Nat.xor_lt_two_pow (n := 32) x1 x2
  have n0 : (4294967295 : Nat) < 4294967296 := by omega
  have n1 : (4294967295 ^^^ re) < 4294967296 := Nat.xor_lt_two_pow (n := 32) n0 le'
  have n2 : re &&& rf < 4294967296 := Nat.and_lt_two_pow (n := 32) _ lf
  have n3 : (4294967295 ^^^ re) &&& rg < 4294967296 := Nat.and_lt_two_pow (n := 32) _ lg
  have hmx : (if IntKind.u32.signed = true then (-1 : Int) else IntKind.u32.max) = ((4294967295 : Nat) : Int) := by simp [IntKind.signed, IntKind.max, IntKind.bits]
  rw [hmx, bits_xor32 _ _ x1 x2, bits_xor32 _ _ x4 x3, bits_and32 _ _ le' lf, bits_xor32 _ _ n0 le', bits_and32 _ _ n1 lg, bits_xor32 _ _ n2 n3, wrap_add, wrap_add, wrap_add, wrap_add]
  simp only [tq, big1, chq]
theorem vU_eq (ra rb rc rd re rf rg rh : Nat) (la : ra < 4294967296) (lb : rb < 4294967296) (lc : rc < 4294967296) :
    IntKind.u32.wrap (bits .xor .u32 (bits .xor .u32 (rot ra 2 : Int) (rot ra 13)) (rot ra 22) + bits .xor .u32 (bits .xor .u32 (bits .and .u32 (ra : Int) rb) (bits .and .u32 (ra : Int) rc)) (bits .and .u32 (rb : Int) rc)) = (uq ⟨ra, rb, rc, rd, re, rf, rg, rh⟩ : Int) := by
  have y1 := rot_lt ra 2 la
  have y2 := rot_lt ra 13 la
  have y3 := rot_lt ra 22 la
  have y4 : rot ra 2 ^^^ rot ra 13 < 4294967296 := Nat.xor_lt_two_pow (n := 32) y1 y2
  have m1 : ra &&& rb < 4294967296 := Nat.and_lt_two_pow (n := 32) _ lb
  have m2 : ra &&& rc < 4294967296 := Nat.and_lt_two_pow (n := 32) _ lc
  have m3 : rb &&& rc < 4294967296 := Nat.and_lt_two_pow (n := 32) _ lc
  have m4 : (ra &&& rb) ^^^ (ra &&& rc) < 4294967296 := Nat.xor_lt_two_pow (n := 32) m1 m2
  rw [bits_xor32 _ _ y1 y2, bits_xor32 _ _ y4 y3, bits_and32 _ _ la lb, bits_and32 _ _ la lc, bits_and32 _ _ lb lc, bits_xor32 _ _ m1 m2, bits_xor32 _ _ m4 m3, wrap_add]
  simp only [uq, big0, mjq]
theorem stp_eq (ra rb rc rd re rf rg rh kk wk : Nat) : stp ⟨ra, rb, rc, rd, re, rf, rg, rh⟩ kk wk = ⟨add32 (tq ⟨ra, rb, rc, rd, re, rf, rg, rh⟩ kk wk) (uq ⟨ra, rb, rc, rd, re, rf, rg, rh⟩), ra, rb, rc, add32 rd (tq ⟨ra, rb, rc, rd, re, rf, rg, rh⟩ kk wk), re, rf, rg⟩ := rfl
theorem rnds_succ (W : List Nat) (k : Nat) (s : St) : rnds W (k + 1) s = stp (rnds W k s) (Kc.getD k 0) (W.getD k 0) := rfl
theorem midS_step (s r : St) {j : Nat} (hj : j < 8) : ∃ x y : Nat, #[Value.int .u32 r.a, Value.int .u32 r.b, Value.int .u32 r.c, Value.int .u32 r.d, Value.int .u32 r.e, Value.int .u32 r.f, Value.int .u32 r.g, Value.int .u32 r.h][j]? = some (.int .u32 y) ∧ (stv (midS s r j))[j]? = some (.int .u32 x) ∧ (stv (midS s r j)).setIfInBounds j (.int .u32 (add32 x y)) = stv (midS s r (j + 1)) := by
  match j, hj with
  | 0, _ => exact ⟨s.a, r.a, rfl, rfl, rfl⟩
  | 1, _ => exact ⟨s.b, r.b, rfl, rfl, rfl⟩
  | 2, _ => exact ⟨s.c, r.c, rfl, rfl, rfl⟩
  | 3, _ => exact ⟨s.d, r.d, rfl, rfl, rfl⟩
  | 4, _ => exact ⟨s.e, r.e, rfl, rfl, rfl⟩
  | 5, _ => exact ⟨s.f, r.f, rfl, rfl, rfl⟩
  | 6, _ => exact ⟨s.g, r.g, rfl, rfl, rfl⟩
  | 7, _ => exact ⟨s.h, r.h, rfl, rfl, rfl⟩
theorem shatake_any (s : St) (v : Value) (b : List UInt8) (w : World) (ok : StOk s) (hb : b.length = 64) (hs : Sl w v 64 (bvs b)) (hk : Lk w) :
    Ret Tryd.prog 106 #[.agg (stv s), v] w fun v' w' => v' = .agg (stv (takeS s b)) ∧ Ch Nw w w' := by
  refine v_enter Tryd.func106 Tryd.ntmps106 rfl (by simp) fun R' hR => ?_
  obtain ⟨t, ht⟩ : ∃ t, takeS s b = t := ⟨_, rfl⟩
  rw [ht] at hR
  simp [go_sem, stv]
  have c1 := ((Ch.refl Nw w).alloc (.cells #[.int .u32 s.a, .int .u32 s.b, .int .u32 s.c, .int .u32 s.d, .int .u32 s.e, .int .u32 s.f, .int .u32 s.g, .int .u32 s.h] 194)).alloc (.cells #[.int .u32 0, .int .u32 0, .int .u32 0, .int .u32 0, .int .u32 0, .int .u32 0, .int .u32 0, .int .u32 0] 194)
  have b0 := al2_0 w (.cells #[.int .u32 s.a, .int .u32 s.b, .int .u32 s.c, .int .u32 s.d, .int .u32 s.e, .int .u32 s.f, .int .u32 s.g, .int .u32 s.h] 194) (.cells #[.int .u32 0, .int .u32 0, .int .u32 0, .int .u32 0, .int .u32 0, .int .u32 0, .int .u32 0, .int .u32 0] 194)
  have b1 := al2_1 w (.cells #[.int .u32 s.a, .int .u32 s.b, .int .u32 s.c, .int .u32 s.d, .int .u32 s.e, .int .u32 s.f, .int .u32 s.g, .int .u32 s.h] 194) (.cells #[.int .u32 0, .int .u32 0, .int .u32 0, .int .u32 0, .int .u32 0, .int .u32 0, .int .u32 0, .int .u32 0] 194)
  revert c1 b0 b1
  generalize (w.alloc (.cells #[.int .u32 s.a, .int .u32 s.b, .int .u32 s.c, .int .u32 s.d, .int .u32 s.e, .int .u32 s.f, .int .u32 s.g, .int .u32 s.h] 194)).alloc (.cells #[.int .u32 0, .int .u32 0, .int .u32 0, .int .u32 0, .int .u32 0, .int .u32 0, .int .u32 0, .int .u32 0] 194) = w1
  generalize hg : w.heap.size = g
  intro c1 b0 b1
  refine (numbers_any v b w1 hb (hs.ch c1 fun _ _ e => e)).mono ?_
  rintro _ w2 ⟨rfl, c2⟩
  have b0 := c2.hp b0 id
  have b1 := c2.hp b1 id
  obtain ⟨W, hW⟩ : ∃ W, Wl b 64 = W := ⟨_, rfl⟩
  rw [hW]
  have hWl : W.length = 64 := by rw [← hW, Wl_length]
  have hWlt : ∀ i, W.getD i 0 < 4294967296 := fun i => by
    rw [List.getD_eq_getElem?_getD]
    cases h : W[i]? with
    | none => decide
    | some x => exact Wl_lt b 64 x (by rw [hW]; exact List.mem_of_getElem? h)
  obtain ⟨Y, hY⟩ : ∃ z, (w32 W).toArray = z := ⟨_, rfl⟩
  have hYs : Y.size = 64 := by rw [← hY]; simp [w32_length, hWl]
  have hYo : ones Y = true := by rw [← hY]; exact w32_ones _
  have hYg : ∀ i, i < 64 → Y[i]? = some (.int .u32 (W.getD i 0 : Nat)) := fun i hi => by
    rw [← hY]
    refine w32_get ?_
    rw [List.getD_eq_getElem?_getD, List.getElem?_eq_getElem (by omega)]
    rfl
  rw [hY]
  have hz64 := zc_w64
  obtain ⟨Z, hZ⟩ : ∃ z, (w32 (List.replicate 64 0)).toArray = z := ⟨_, rfl⟩
  rw [hZ] at hz64
  have hZs : Z.size = 64 := by rw [← hZ]; simp [w32_length]
  simp [go_sem, hz_w64, hz64, hZs, hYs, hYo, blit_whole]
  have c3 := (c1.trans c2).alloc (.cells Y 219)
  have c3' := (Ch.refl Nw w2).alloc (.cells Y 219)
  have b5 := hp_alloc w2 (.cells Y 219)
  have b0 := c3'.hp b0 id
  have b1 := c3'.hp b1 id
  have hgz := c2.size
  have hg1 := lt_of_block b1
  clear c3'
  revert c3 b5 b0 b1 hg1
  generalize w2.alloc (.cells Y 219) = w3
  generalize hq5 : w2.heap.size = q5
  intro c3 b5 b0 b1 hg1
  have e0 := fun i => cell_blk b0 i
  refine v_draw' [(0, none), (1, none), (2, none), (3, none), (4, none), (5, none), (6, none), (7, none), (8, none), (9, none), (10, none), (11, none), (12, none), (13, none), (14, none), (15, none), (16, none), (17, none), (18, none), (19, none), (20, none), (21, none), (22, none), (23, none)] (by kernel_rfl) (by kernel_rfl) ?_
  simp [go_sem, e0]
  refine v_loop (fun r f wr => ∃ k, k ≤ 64 ∧ r = 64 - k ∧ f 2 = .pointer (some ⟨g, 0, none⟩) ∧ f 4 = .pointer (some ⟨g + 1, 0, none⟩) ∧ f 5 = .pointer (some ⟨q5, 0, none⟩) ∧ f 37 = .int .i64 k ∧
    f 6 = .int .u32 (rnds W k s).a ∧ f 7 = .int .u32 (rnds W k s).b ∧ f 8 = .int .u32 (rnds W k s).c ∧ f 9 = .int .u32 (rnds W k s).d ∧ f 10 = .int .u32 (rnds W k s).e ∧ f 11 = .int .u32 (rnds W k s).f ∧ f 12 = .int .u32 (rnds W k s).g ∧ f 13 = .int .u32 (rnds W k s).h ∧
    Ch Nw w wr ∧ wr.heap[g]? = w3.heap[g]? ∧ wr.heap[g + 1]? = w3.heap[g + 1]? ∧ wr.heap[q5]? = w3.heap[q5]?) 64
    ⟨0, by omega, rfl, by simp, by simp, by simp, by simp, by simp [rnds], by simp [rnds], by simp [rnds], by simp [rnds], by simp [rnds], by simp [rnds], by simp [rnds], by simp [rnds], c3.drew, rfl, rfl, rfl⟩ ?_
  rintro J hJ _ f wr ⟨k, hk64, rfl, f2, f4, f5, f37, f6, f7, f8, f9, f10, f11, f12, f13, hc, h0, h1, h5⟩
  by_cases hlt : k < 64
  · have hki : (k : Int) < 64 := by omega
    have hwk : IntKind.i64.wrap ((k : Int) + 1) = ((k + 1 : Nat) : Int) := by simp [IntKind.wrap_i64]; omega
    have okr := rnds_ok ok W k
    generalize hr : rnds W k s = r at *
    obtain ⟨ra, rb, rc, rd, re, rf, rg, rh⟩ := r
    simp only at f6 f7 f8 f9 f10 f11 f12 f13
    have xk := (hk.ch hc id) k hlt
    have yk := (cell_blk (h5.trans b5) k).trans (hYg k hlt)
    obtain ⟨kk, hkk⟩ : ∃ x, Kc.getD k 0 = x := ⟨_, rfl⟩
    obtain ⟨wk, hwkk⟩ : ∃ x, W.getD k 0 = x := ⟨_, rfl⟩
    rw [hkk] at xk
    rw [hwkk] at yk
    have la := okr.a
    have lb := okr.b
    have lc := okr.c
    have le' := okr.e
    have lf := okr.f
    have lg := okr.g
    simp only at la lb lc le' lf lg
    simp [go_sem, f37, hki]
    refine v_draw' [(0, none), (1, none), (3, none), (6, none), (10, none), (11, none), (12, none), (13, none), (14, none), (15, none), (16, none), (17, none), (19, none), (20, none), (21, none), (23, none), (24, none), (25, none), (2, some [0, 3, 6, 10, 11, 12, 13, 14, 15, 16, 17, 19, 20, 21, 23, 24, 25]), (4, some [0, 6, 10, 11, 12, 13, 14, 15, 16, 17, 19, 20, 21, 23, 24, 25]), (5, none), (7, some [0, 10, 11, 12, 13, 14, 15, 16, 17, 19, 20, 21, 23, 24, 25, 5]), (8, none), (9, none), (18, none), (22, none), (26, none), (27, none)] (by kernel_rfl) (by kernel_rfl) ?_
    simp [go_sem, f5, f10, f11, f12, f13, xk, yk, hki]
    refine (turn_any re 6 _ le' (by decide) (by decide)).mono ?_
    rintro _ _ ⟨rfl, rfl⟩
    simp [go_sem, f5, f10, f11, f12, f13, xk, yk, hki]
    refine (turn_any re 11 _ le' (by decide) (by decide)).mono ?_
    rintro _ _ ⟨rfl, rfl⟩
    simp [go_sem, f5, f10, f11, f12, f13, xk, yk, hki]
    refine (turn_any re 25 _ le' (by decide) (by decide)).mono ?_
    rintro _ _ ⟨rfl, rfl⟩
    simp [go_sem, f5, f6, f10, f11, f12, f13, xk, yk, hki]
    refine (turn_any ra 2 _ la (by decide) (by decide)).mono ?_
    rintro _ _ ⟨rfl, rfl⟩
    simp [go_sem, f6]
    refine (turn_any ra 13 _ la (by decide) (by decide)).mono ?_
    rintro _ _ ⟨rfl, rfl⟩
    simp [go_sem, f6]
    refine (turn_any ra 22 _ la (by decide) (by decide)).mono ?_
    rintro _ _ ⟨rfl, rfl⟩
    simp [go_sem, f6, f7, f8, f9, f10, f11, f12, f37, hwk]
    obtain ⟨T, hT⟩ : ∃ x, tq ⟨ra, rb, rc, rd, re, rf, rg, rh⟩ kk wk = x := ⟨_, rfl⟩
    obtain ⟨U, hU⟩ : ∃ x, uq ⟨ra, rb, rc, rd, re, rf, rg, rh⟩ = x := ⟨_, rfl⟩
    have vT := vT_eq ra rb rc rd re rf rg rh kk wk le' lf lg
    rw [hT] at vT
    have vU := vU_eq ra rb rc rd re rf rg rh la lb lc
    rw [hU] at vU
    have hstep : rnds W (k + 1) s = ⟨add32 T U, ra, rb, rc, add32 rd T, re, rf, rg⟩ := by
      rw [rnds_succ, hr, hkk, hwkk, stp_eq, hT, hU]
    refine Rnd.intro (64 - (k + 1)) (by omega) (hJ _ _ _ ⟨k + 1, by omega, rfl, by simp [f2], by simp [f4], by simp [f5], by simp, by rw [hstep]; simp [vT, vU, wrap_add], by rw [hstep]; simp, by rw [hstep]; simp, by rw [hstep]; simp, by rw [hstep]; simp [vT, vU, wrap_add], by rw [hstep]; simp, by rw [hstep]; simp, by rw [hstep]; simp, hc.drew, h0, h1, h5⟩)
  · obtain rfl : k = 64 := by omega
    have okr := rnds_ok ok W 64
    have hts : takeS s b = sumS s (rnds W 64 s) := by unfold takeS; rw [hW]
    generalize hr : rnds W 64 s = r at *
    have b0 := h0.trans b0
    have b1 := h1.trans b1
    have hn : ∀ a b : Nat, IntKind.u32.wrap ((a : Int) + b) = (add32 a b : Int) := wrap_add
    simp [go_sem, f6, f7, f8, f9, f10, f11, f12, f13, f37]
    refine v_loop (fun r' f' u => ∃ j, j ≤ 8 ∧ r' = 8 - j ∧ f' 2 = .pointer (some ⟨g, 0, none⟩) ∧ f' 4 = .pointer (some ⟨g + 1, 0, none⟩) ∧ f' 108 = .agg #[.int .u32 r.a, .int .u32 r.b, .int .u32 r.c, .int .u32 r.d, .int .u32 r.e, .int .u32 r.f, .int .u32 r.g, .int .u32 r.h] ∧ f' 109 = .int .i64 j ∧
      Ch Nw w u ∧ u.heap[g]? = some (.cells (stv (midS s r j)) 194 (0, 0)) ∧ u.heap[g + 1]? = wr.heap[g + 1]?) 8
      ⟨0, by omega, rfl, by simp [f2], by simp [f4], by simp, by simp, hc, by simpa [stv, midS] using b0, rfl⟩ ?_
    rintro J hJ _ f' u ⟨j, hj, rfl, g2, g4, g108, g109, hcu, hb0, hb1⟩
    by_cases hj8 : j < 8
    · have hji : (j : Int) < 8 := by omega
      have e0 := fun i => cell_blk hb0 i
      have z0 := fun i => frz_blk hb0 i
      have nx : ∀ (x : Nat) f'', (stv (midS s r j)).setIfInBounds j (.int .u32 x) = stv (midS s r (j + 1)) → f'' 2 = .pointer (some ⟨g, 0, none⟩) → f'' 4 = .pointer (some ⟨g + 1, 0, none⟩) → f'' 108 = .agg #[.int .u32 r.a, .int .u32 r.b, .int .u32 r.c, .int .u32 r.d, .int .u32 r.e, .int .u32 r.f, .int .u32 r.g, .int .u32 r.h] → f'' 109 = .int .i64 ((j + 1 : Nat) : Int) → J (8 - (j + 1)) f'' (u.setCell ⟨g, j, none⟩ (.int .u32 x)) := fun x f'' hx a2 a4 a108 a109 =>
        hJ _ _ _ ⟨j + 1, by omega, rfl, a2, a4, a108, a109, hcu.setCell (.inr (by show w.heap.size ≤ g; omega)) _, by rw [hp_setCell, hb0, setOf_cells, hx], by rw [hp_setCell_ne _ _ _ _ (by show g + 1 ≠ g; omega), hb1]⟩
      clear hJ
      obtain ⟨x, y, q1, q2, q3⟩ := midS_step s r hj8
      have hidx := fun w => run_index_agg (P := Tryd.prog) (kd := .i64) Tryd.underlying194 Tryd.sizeOf23 Tryd.isAgg23 hj8 q1 w
      have q4 := (e0 j).trans q2
      have hwj : IntKind.i64.wrap ((j : Int) + 1) = ((j + 1 : Nat) : Int) := by simp [IntKind.wrap_i64]; omega
      simp [go_sem, g2, g108, g109, hidx, q4, z0, hn, hji, hwj]
      exact Rnd.intro _ (by omega) (nx _ _ q3 (by simp [g2]) (by simp [g4]) (by simp [g108]) (by simp))
    · obtain rfl : j = 8 := by omega
      have hms : midS s r 8 = t := by rw [← ht, hts]; exact midS_all s r
      rw [hms] at hb0
      have hb1 := hb1.trans b1
      have e0 := fun i => cell_blk hb0 i
      have e1 := fun i => cell_blk hb1 i
      have z1 := fun i => frz_blk hb1 i
      simp [go_sem, g2, g4, g109, e0, e1, z1, stv]
      exact hR _ _ ⟨rfl, (((((((hcu.setCell (p := ⟨g + 1, 0, none⟩) (.inr (by show w.heap.size ≤ g + 1; omega)) _).setCell (p := ⟨g + 1, 1, none⟩) (.inr (by show w.heap.size ≤ g + 1; omega)) _).setCell (p := ⟨g + 1, 2, none⟩) (.inr (by show w.heap.size ≤ g + 1; omega)) _).setCell (p := ⟨g + 1, 3, none⟩) (.inr (by show w.heap.size ≤ g + 1; omega)) _).setCell (p := ⟨g + 1, 4, none⟩) (.inr (by show w.heap.size ≤ g + 1; omega)) _).setCell (p := ⟨g + 1, 5, none⟩) (.inr (by show w.heap.size ≤ g + 1; omega)) _).setCell (p := ⟨g + 1, 6, none⟩) (.inr (by show w.heap.size ≤ g + 1; omega)) _).setCell (p := ⟨g + 1, 7, none⟩) (.inr (by show w.heap.size ≤ g + 1; omega)) _⟩
attribute [irreducible] takeS rnds
end Go.Proofs.YtppilgkgnofkpaaDoor
