/- An inode's cells; which pointers and inodes may be: the program's answers. Condition: the variable ptr.wide holds what the text lays. -/
import Derived.Test.YtmhnlgndgdmebaaDoorPtB
import Derived.Test.YtmhnlgndgdmebaaDoorLots
namespace Go.Proofs.YtmhnlgndgdmebaaDoor
open Go.RowKit Go.Kin

def zb (n : Nat) : List UInt8 := List.replicate n 0
def eqb (a b : Nat) : Bool := decide (a = b)
theorem eqb_t {a b : Nat} (h : a = b) : eqb a b = true := decide_eq_true h
theorem eqb_f {a b : Nat} (h : a ≠ b) : eqb a b = false := decide_eq_false h
def ptz : Pt := ⟨0, 0, 0, 0, 0, zb 32, [0, 0, 0, 0]⟩
theorem ptz_ok : PtOk ptz := ⟨by decide, by decide, by decide, by decide, by decide, rfl, rfl, by simp [ptz]⟩
/- a pointer's cells -/
theorem blit_whole {cs us : Array Value} (h : us.size = cs.size) : blit cs 0 us = us := by
  unfold blit
  apply Array.ext'
  simp [h]
theorem hz_pt : (Tryd.prog.info? 54).map (fun i => i.zero.isSome) = some true := by kernel_rfl
theorem zc_pt : zc Tryd.prog 54 = pt ptz := by kernel_rfl
theorem pt_h {p : Pt} (ok : PtOk p) : (pt p).extract 5 37 = (bvs p.h).toArray := by
  apply Array.ext'
  simp [pt, bvs_length, ok.h]
theorem pt_h_at {p : Pt} {i : Nat} {c : UInt8} (h : p.h[i]? = some c) (ok : PtOk p) : (pt p)[5 + i]? = some (.int .u8 c.toNat) := by
  have hi : i < 32 := by
    rw [← ok.h]
    exact (List.getElem?_eq_some_iff.1 h).1
  simp only [pt, List.getElem?_toArray]
  rw [show 5 + i = i + 1 + 1 + 1 + 1 + 1 by omega]
  simp only [List.getElem?_cons_succ]
  rw [List.getElem?_append_left (by rw [bvs_length, ok.h]; omega), bvs, List.getElem?_map, h]
  rfl
theorem pt_a' {p : Pt} (ok : PtOk p) : (pt p).extract 37 41 = (u16s p.a).toArray := by
  apply Array.ext'
  simp [pt, bvs_length, u16s_length, ok.h, ok.a]
  exact List.take_of_length_le (by rw [u16s_length, ok.a]; omega)
attribute [simp] pt_ones
theorem eq_pt_any (w : World) (d : Nat) {p q : Pt} (hp : PtOk p) (hq : PtOk q) : (Op.equalIn (d + 3) 54 (.agg (pt p)) (.agg (pt q))).run Tryd.prog w = .ok (decide (p = q)) w := by
  have e1 : ∀ w, (Op.equalIn (d + 2) 51 (.agg (bvs p.h).toArray) (.agg (bvs q.h).toArray)).run Tryd.prog w = .ok (decide (p.h = q.h)) w := fun w => run_equalIn_bvs w d _ _ 32 Tryd.underlying51 Tryd.underlying5 Tryd.sizeOf5 Tryd.isAgg5 _ _ hp.h hq.h
  have e2 : ∀ w, (Op.equalIn (d + 2) 52 (.agg (u16s p.a).toArray) (.agg (u16s q.a).toArray)).run Tryd.prog w = .ok (decide (p.a = q.a)) w := fun w => run_equalIn_u16s w d _ _ 4 Tryd.underlying52 Tryd.underlying30 Tryd.sizeOf30 Tryd.isAgg30 _ _ hp.a hq.a
  have hc : ∀ a b : Nat, ((a : Int) == (b : Int)) = decide (a = b) := fun a b => by
    by_cases h : a = b
    · simp [h]
    · rw [beq_false_of_ne (by omega), decide_eq_false h]
  rw [Op.equalIn]
  simp [go_sem, pt_k, pt_l, pt_o, pt_f, pt_b, pt_h hp, pt_h hq, pt_a' hp, pt_a' hq, e1, e2, hc]
  obtain ⟨k, l, o, f, b, h, a⟩ := p
  obtain ⟨k', l', o', f', b', h', a'⟩ := q
  simp only [Pt.mk.injEq]
  by_cases h1 : k = k' <;> by_cases h2 : l = l' <;> by_cases h3 : o = o' <;> by_cases h4 : f = f' <;> by_cases h5 : b = b' <;> by_cases h6 : h = h' <;> by_cases h7 : a = a' <;> simp [h1, h2, h3, h4, h5, h6, h7]
theorem eq_pt (w : World) {p q : Pt} (hp : PtOk p) (hq : PtOk q) : (Op.equalIn 10000 54 (.agg (pt p)) (.agg (pt q))).run Tryd.prog w = .ok (decide (p = q)) w := eq_pt_any w 9997 hp hq
theorem bld_pt0 {w : World} {K : Value → World → Prop} : VBld Tryd.prog 54 [] w K = K (.agg (pt ptz)) w :=
  VBld_struct Tryd.underlying54 hz_pt (places := #[(0, 1), (1, 1), (2, 1), (3, 1), (4, 1), (5, 32), (37, 4)]) (by simp [go_sem]) (by simp [fillB, zc_pt])
/-- an inode: kind, links, size, root -/
structure In where
  k : Nat
  n : Nat
  s : Nat
  r : Pt
deriving DecidableEq
def ino (x : In) : Array Value := (.int .u8 x.k :: .int .u16 x.n :: .int .u32 x.s :: (pt x.r).toList).toArray
structure InOk (x : In) : Prop where
  k : x.k < 256
  n : x.n < 65536
  s : x.s < 4294967296
  r : PtOk x.r
def inz : In := ⟨0, 0, 0, ptz⟩
theorem inz_ok : InOk inz := ⟨by decide, by decide, by decide, ptz_ok⟩
section
variable {x : In}
theorem ino_size (ok : InOk x) : (ino x).size = 44 := by
  have := pt_size ok.r
  simp [ino, this]
@[simp] theorem ino_ones (x : In) : ones (ino x) = true := ones_of (by
  intro u hu
  simp only [List.mem_cons] at hu
  rcases hu with rfl | rfl | rfl | hu
  · rfl
  · rfl
  · rfl
  · have := pt_ones x.r
    unfold ones at this
    exact Array.all_eq_true'.1 this u (by simpa using hu))
theorem ino_all (ok : InOk x) : (ino x).extract 0 44 = ino x := by rw [← ino_size ok]; simp
theorem ino_k : (ino x)[0]? = some (.int .u8 x.k) := by simp [ino]
theorem ino_n : (ino x)[1]? = some (.int .u16 x.n) := by simp [ino]
theorem ino_s : (ino x)[2]? = some (.int .u32 x.s) := by simp [ino]
theorem ino_rk : (ino x)[3]? = some (.int .u8 x.r.k) := by simp [ino, pt]
theorem ino_rl : (ino x)[4]? = some (.int .u8 x.r.l) := by simp [ino, pt]
@[simp] theorem ino_k' (h : 0 < (ino x).size) : (ino x)[0] = .int .u8 x.k := by simp [ino]
@[simp] theorem ino_n' (h : 1 < (ino x).size) : (ino x)[1] = .int .u16 x.n := by simp [ino]
@[simp] theorem ino_s' (h : 2 < (ino x).size) : (ino x)[2] = .int .u32 x.s := by simp [ino]
@[simp] theorem ino_rk' (h : 3 < (ino x).size) : (ino x)[3] = .int .u8 x.r.k := by simp [ino, pt]
@[simp] theorem ino_rl' (h : 4 < (ino x).size) : (ino x)[4] = .int .u8 x.r.l := by simp [ino, pt]
theorem ino_r (ok : InOk x) : (ino x).extract 3 44 = pt x.r := by
  have := pt_size ok.r
  apply Array.ext'
  simp [ino, this]
  rw [List.take_of_length_le (by simp [this])]
theorem blit_ino_r {q : Pt} (ok : InOk x) (okq : PtOk q) : blit (ino x) 3 (pt q) = ino { x with r := q } := by
  have h1 := pt_size ok.r
  have h2 := pt_size okq
  apply Array.ext'
  simp [blit, ino, h1, h2]
theorem set_ino_k (k : Nat) : (ino x).setIfInBounds 0 (.int .u8 k) = ino { x with k := k } := by simp [ino]
theorem set_ino_n (n : Nat) : (ino x).setIfInBounds 1 (.int .u16 n) = ino { x with n := n } := by simp [ino]
theorem set_ino_s (s : Nat) : (ino x).setIfInBounds 2 (.int .u32 s) = ino { x with s := s } := by simp [ino]
end
theorem hz_ino : (Tryd.prog.info? 85).map (fun i => i.zero.isSome) = some true := by kernel_rfl
theorem zc_ino : zc Tryd.prog 85 = ino inz := by kernel_rfl
theorem hz_rino : (Tryd.prog.info? 56).map (fun i => i.zero.isSome) = some true := by kernel_rfl
theorem zc_rino : zc Tryd.prog 56 = ino inz := by kernel_rfl
theorem bld_ino0 {w : World} {K : Value → World → Prop} : VBld Tryd.prog 85 [] w K = K (.agg (ino inz)) w :=
  VBld_struct Tryd.underlying85 hz_ino (places := #[(0, 1), (1, 1), (2, 1), (3, 41)]) (by simp [go_sem]) (by simp [fillB, zc_ino])
theorem bld_rino0 {w : World} {K : Value → World → Prop} : VBld Tryd.prog 56 [] w K = K (.agg (ino inz)) w :=
  VBld_struct Tryd.underlying56 hz_rino (places := #[(0, 1), (1, 1), (2, 1), (3, 41)]) (by simp [go_sem]) (by simp [fillB, zc_rino])
theorem blit_ino3 (k n s : Nat) : blit (blit (blit (ino inz) 0 #[.int .u8 k]) 1 #[.int .u16 n]) 2 #[.int .u32 s] = ino ⟨k, n, s, ptz⟩ := by simp [blit, ino, inz]
theorem blit_ino2 (k n : Nat) : blit (blit (ino inz) 0 #[.int .u8 k]) 1 #[.int .u16 n] = ino ⟨k, n, 0, ptz⟩ := by simp [blit, ino, inz]
theorem blit_ino1 (k : Nat) : blit (ino inz) 0 #[.int .u8 k] = ino ⟨k, 0, 0, ptz⟩ := by simp [blit, ino, inz]
theorem bld_ino3 (k n s : Nat) {w : World} {K : Value → World → Prop} : VBld Tryd.prog 85 [(0, .int .u8 k), (1, .int .u16 n), (2, .int .u32 s)] w K = K (.agg (ino ⟨k, n, s, ptz⟩)) w := by
  refine VBld_struct Tryd.underlying85 hz_ino (places := #[(0, 1), (1, 1), (2, 1), (3, 41)]) (by simp [go_sem]) ?_
  have hz := ino_size inz_ok
  simp [fillB, zc_ino, Value.cells, hz, blit_size, blit_ino3]
theorem bld_ino1 (k : Nat) {w : World} {K : Value → World → Prop} : VBld Tryd.prog 85 [(0, .int .u8 k)] w K = K (.agg (ino ⟨k, 0, 0, ptz⟩)) w := by
  refine VBld_struct Tryd.underlying85 hz_ino (places := #[(0, 1), (1, 1), (2, 1), (3, 41)]) (by simp [go_sem]) ?_
  have hz := ino_size inz_ok
  simp [fillB, zc_ino, Value.cells, hz, blit_ino1]
theorem bld_rino2 (k n : Nat) {w : World} {K : Value → World → Prop} : VBld Tryd.prog 56 [(0, .int .u8 k), (1, .int .u16 n)] w K = K (.agg (ino ⟨k, n, 0, ptz⟩)) w := by
  refine VBld_struct Tryd.underlying56 hz_rino (places := #[(0, 1), (1, 1), (2, 1), (3, 41)]) (by simp [go_sem]) ?_
  have hz := ino_size inz_ok
  simp [fillB, zc_rino, Value.cells, hz, blit_size, blit_ino2]
theorem bld_ino4 (x : In) (ok : InOk x) {w : World} {K : Value → World → Prop} : VBld Tryd.prog 85 [(0, .int .u8 x.k), (1, .int .u16 x.n), (2, .int .u32 x.s), (3, .agg (pt x.r))] w K = K (.agg (ino x)) w := by
  refine VBld_struct Tryd.underlying85 hz_ino (places := #[(0, 1), (1, 1), (2, 1), (3, 41)]) (by simp [go_sem]) ?_
  have hz := ino_size inz_ok
  have h3 : InOk ⟨x.k, x.n, x.s, ptz⟩ := ⟨ok.k, ok.n, ok.s, ptz_ok⟩
  have hp := pt_size ok.r
  have h4 := ino_size h3
  simp [fillB, zc_ino, Value.cells, hz, blit_size, blit_ino3, blit_ino_r h3 ok.r, hp, h4]
theorem eq_ino_any (w : World) (d : Nat) {x y : In} (hx : InOk x) (hy : InOk y) : (Op.equalIn (d + 4) 85 (.agg (ino x)) (.agg (ino y))).run Tryd.prog w = .ok (decide (x = y)) w := by
  have e1 : ∀ w, (Op.equalIn (d + 3) 54 (.agg (pt x.r)) (.agg (pt y.r))).run Tryd.prog w = .ok (decide (x.r = y.r)) w := fun w => eq_pt_any w d hx.r hy.r
  have hc : ∀ a b : Nat, ((a : Int) == (b : Int)) = decide (a = b) := fun a b => by
    by_cases h : a = b
    · simp [h]
    · rw [beq_false_of_ne (by omega), decide_eq_false h]
  rw [Op.equalIn]
  simp [go_sem, ino_k, ino_n, ino_s, ino_r hx, ino_r hy, e1, hc]
  obtain ⟨k, n, s, r⟩ := x
  obtain ⟨k', n', s', r'⟩ := y
  simp only [In.mk.injEq]
  by_cases h1 : k = k' <;> by_cases h2 : n = n' <;> by_cases h3 : s = s' <;> by_cases h4 : r = r' <;> simp [h1, h2, h3, h4]
theorem eq_ino (w : World) {x y : In} (hx : InOk x) (hy : InOk y) : (Op.equalIn 10000 85 (.agg (ino x)) (.agg (ino y))).run Tryd.prog w = .ok (decide (x = y)) w := eq_ino_any w 9996 hx hy
theorem eq_rino (w : World) {x y : In} (hx : InOk x) (hy : InOk y) : (Op.equalIn 10000 56 (.agg (ino x)) (.agg (ino y))).run Tryd.prog w = .ok (decide (x = y)) w := by
  have e1 : ∀ w, (Op.equalIn 9999 54 (.agg (pt x.r)) (.agg (pt y.r))).run Tryd.prog w = .ok (decide (x.r = y.r)) w := fun w => eq_pt_any w 9996 hx.r hy.r
  have hc : ∀ a b : Nat, ((a : Int) == (b : Int)) = decide (a = b) := fun a b => by
    by_cases h : a = b
    · simp [h]
    · rw [beq_false_of_ne (by omega), decide_eq_false h]
  simp [go_sem, ino_k, ino_n, ino_s, ino_r hx, ino_r hy, e1, hc]
  obtain ⟨k, n, s, r⟩ := x
  obtain ⟨k', n', s', r'⟩ := y
  simp only [In.mk.injEq]
  by_cases h1 : k = k' <;> by_cases h2 : n = n' <;> by_cases h3 : s = s' <;> by_cases h4 : r = r' <;> simp [h1, h2, h3, h4]

def rootB (r : Pt) : Bool := decide (r = ptz) || (mayP r && decide (r.k = 3) && decide (r.l = 2))
def mayI (x : In) : Bool :=
  if x.k = 0 then decide (x = inz) else if x.k = 3 then (decide (x.s ≠ 0) && decide (x.s ≤ 128) && rootB x.r) else if x.k = 1 ∨ x.k = 2 then (decide (x.s ≤ 32768) && rootB x.r) else false
theorem imay_any (x : In) (w : World) (ok : InOk x) (hw : Lw w) : Ret Tryd.prog 42 #[.agg (ino x)] w fun v' w' => v' = .bool (mayI x) ∧ Ch Nw w w' := by
  refine v_enter Tryd.func42 Tryd.ntmps42 rfl (by simp) fun R' hR => ?_
  have hs := ino_size ok
  have ha := ino_all ok
  have hr := ino_r ok
  have hsp := pt_size ok.r
  have hap := pt_all ok.r
  have heq := fun w => eq_ino w ok inz_ok
  have heqp := fun w => eq_pt w ok.r ptz_ok
  have heqz := fun w => eq_pt w ptz_ok ptz_ok
  have c1 := (Ch.refl Nw w).alloc (.cells (ino x) 85)
  have hbeq : ∀ a b : Nat, ((a : Int) == (b : Int)) = eqb a b := fun a b => by
    by_cases h : a = b
    · simp [h, eqb]
    · rw [beq_false_of_ne (by omega), eqb_f h]
  have hb0 : ∀ a : Nat, ((a : Int) == 0) = eqb a 0 := fun a => hbeq a 0
  have hb1 : ∀ a : Nat, ((a : Int) == 1) = eqb a 1 := fun a => hbeq a 1
  have hb2 : ∀ a : Nat, ((a : Int) == 2) = eqb a 2 := fun a => hbeq a 2
  have hb3 : ∀ a : Nat, ((a : Int) == 3) = eqb a 3 := fun a => hbeq a 3
  simp [go_sem, ino_k]
  have b0 := hp_alloc w (.cells (ino x) 85)
  revert b0 c1
  generalize w.alloc (.cells (ino x) 85) = w1
  generalize w.heap.size = g
  intro c1 b0
  have e2 := (cell_blk b0 2).trans ino_s
  have hw1 := hw.ch c1 id
  by_cases k0 : x.k = 0
  · have q0 := eqb_t k0
    simp [go_sem, hb0, q0, b0, hs, ha, bld_ino0, heq]
    exact hR _ _ ⟨by simp [mayI, k0], c1⟩
  have q0 := eqb_f k0
  by_cases k3 : x.k = 3
  · have q3 := eqb_t k3
    by_cases s0 : x.s = 0
    · have qs := eqb_t s0
      simp [go_sem, hb0, hb3, q0, q3, qs, e2]
      exact hR _ _ ⟨by simp [mayI, k3, s0], c1⟩
    have qs := eqb_f s0
    have hm : mayI x = (decide (x.s ≤ 128) && rootB x.r) := by simp [mayI, k3, s0]
    have c2 := c1.alloc (.cells (pt x.r) 54)
    have e2c := fun o => ((Ch.refl Nw w1).alloc o).cell e2 id
    have b2 := hp_alloc w1 (.cells (pt x.r) 54)
    by_cases hle : x.s ≤ 128
    · have hle' : (x.s : Int) ≤ 128 := by omega
      by_cases hz : x.r = ptz
      · simp [go_sem, hb0, hb3, q0, q3, qs, e2, e2c, b0, hs, hr, hz_pt, zc_pt, pt_size ptz_ok, hsp, blit_whole, hle', hap, pt_all ptz_ok, bld_pt0, heqp, heqz, hz]
        try rw [hz] at c2
        exact hR _ _ ⟨by rw [hm]; simp [hle, rootB, hz], c2⟩
      · simp [go_sem, hb0, hb3, q0, q3, qs, e2, e2c, b0, hs, hr, hz_pt, zc_pt, pt_size ptz_ok, hsp, blit_whole, hle', hap, pt_all ptz_ok, bld_pt0, heqp, heqz, hz]
        refine (may_any x.r _ ok.r (hw.ch c2 id)).mono ?_
        rintro _ w3 ⟨rfl, c3⟩
        have b3 := c3.hp b2 id
        have d0 := (cell_blk b3 0).trans pt_k
        have d1 := (cell_blk b3 1).trans pt_l
        cases hmy : mayP x.r
        · simp [go_sem]
          exact hR _ _ ⟨by rw [hm]; simp [rootB, hz, hmy], c2.trans c3⟩
        · by_cases h3 : x.r.k = 3
          · have g3 := eqb_t h3
            by_cases h2 : x.r.l = 2
            · have g2 := eqb_t h2
              simp [go_sem, d0, d1, hb3, hb2, g3, g2]
              exact hR _ _ ⟨by rw [hm]; simp [hle, rootB, hmy, h3, h2], c2.trans c3⟩
            · have g2 := eqb_f h2
              simp [go_sem, d0, d1, hb3, hb2, g3, g2]
              exact hR _ _ ⟨by rw [hm]; simp [rootB, hz, h2], c2.trans c3⟩
          · have g3 := eqb_f h3
            simp [go_sem, d0, hb3, g3]
            exact hR _ _ ⟨by rw [hm]; simp [rootB, hz, h3], c2.trans c3⟩
    · have hle' : ¬ (x.s : Int) ≤ 128 := by omega
      simp [go_sem, hb0, hb3, q0, q3, qs, e2, e2c, b0, hs, hr, hz_pt, zc_pt, pt_size ptz_ok, hsp, blit_whole, hle']
      exact hR _ _ ⟨by rw [hm]; simp [hle], c2⟩
  have q3 := eqb_f k3
  by_cases k1 : x.k = 1
  · have q1 := eqb_t k1
    have hm : mayI x = (decide (x.s ≤ 32768) && rootB x.r) := by simp [mayI, k1]
    have c2 := c1.alloc (.cells (pt x.r) 54)
    have e2c := fun o => ((Ch.refl Nw w1).alloc o).cell e2 id
    have b2 := hp_alloc w1 (.cells (pt x.r) 54)
    by_cases hle : x.s ≤ 32768
    · have hle' : (x.s : Int) ≤ 32768 := by omega
      by_cases hz : x.r = ptz
      · simp [go_sem, hb0, hb1, hb3, q0, q1, q3, e2, e2c, b0, hs, hr, hz_pt, zc_pt, pt_size ptz_ok, hsp, blit_whole, hle', hap, pt_all ptz_ok, bld_pt0, heqp, heqz, hz]
        try rw [hz] at c2
        exact hR _ _ ⟨by rw [hm]; simp [hle, rootB, hz], c2⟩
      · simp [go_sem, hb0, hb1, hb3, q0, q1, q3, e2, e2c, b0, hs, hr, hz_pt, zc_pt, pt_size ptz_ok, hsp, blit_whole, hle', hap, pt_all ptz_ok, bld_pt0, heqp, heqz, hz]
        refine (may_any x.r _ ok.r (hw.ch c2 id)).mono ?_
        rintro _ w3 ⟨rfl, c3⟩
        have b3 := c3.hp b2 id
        have d0 := (cell_blk b3 0).trans pt_k
        have d1 := (cell_blk b3 1).trans pt_l
        cases hmy : mayP x.r
        · simp [go_sem]
          exact hR _ _ ⟨by rw [hm]; simp [rootB, hz, hmy], c2.trans c3⟩
        · by_cases h3 : x.r.k = 3
          · have g3 := eqb_t h3
            by_cases h2 : x.r.l = 2
            · have g2 := eqb_t h2
              simp [go_sem, d0, d1, hb3, hb2, g3, g2]
              exact hR _ _ ⟨by rw [hm]; simp [hle, rootB, hmy, h3, h2], c2.trans c3⟩
            · have g2 := eqb_f h2
              simp [go_sem, d0, d1, hb3, hb2, g3, g2]
              exact hR _ _ ⟨by rw [hm]; simp [rootB, hz, h2], c2.trans c3⟩
          · have g3 := eqb_f h3
            simp [go_sem, d0, hb3, g3]
            exact hR _ _ ⟨by rw [hm]; simp [rootB, hz, h3], c2.trans c3⟩
    · have hle' : ¬ (x.s : Int) ≤ 32768 := by omega
      simp [go_sem, hb0, hb1, hb3, q0, q1, q3, e2, e2c, b0, hs, hr, hz_pt, zc_pt, pt_size ptz_ok, hsp, blit_whole, hle']
      exact hR _ _ ⟨by rw [hm]; simp [hle], c2⟩
  have q1 := eqb_f k1
  by_cases k2 : x.k = 2
  · have q2 := eqb_t k2
    have hm : mayI x = (decide (x.s ≤ 32768) && rootB x.r) := by simp [mayI, k2]
    have c2 := c1.alloc (.cells (pt x.r) 54)
    have e2c := fun o => ((Ch.refl Nw w1).alloc o).cell e2 id
    have b2 := hp_alloc w1 (.cells (pt x.r) 54)
    by_cases hle : x.s ≤ 32768
    · have hle' : (x.s : Int) ≤ 32768 := by omega
      by_cases hz : x.r = ptz
      · simp [go_sem, hb0, hb1, hb2, hb3, q0, q1, q2, q3, e2, e2c, b0, hs, hr, hz_pt, zc_pt, pt_size ptz_ok, hsp, blit_whole, hle', hap, pt_all ptz_ok, bld_pt0, heqp, heqz, hz]
        try rw [hz] at c2
        exact hR _ _ ⟨by rw [hm]; simp [hle, rootB, hz], c2⟩
      · simp [go_sem, hb0, hb1, hb2, hb3, q0, q1, q2, q3, e2, e2c, b0, hs, hr, hz_pt, zc_pt, pt_size ptz_ok, hsp, blit_whole, hle', hap, pt_all ptz_ok, bld_pt0, heqp, heqz, hz]
        refine (may_any x.r _ ok.r (hw.ch c2 id)).mono ?_
        rintro _ w3 ⟨rfl, c3⟩
        have b3 := c3.hp b2 id
        have d0 := (cell_blk b3 0).trans pt_k
        have d1 := (cell_blk b3 1).trans pt_l
        cases hmy : mayP x.r
        · simp [go_sem]
          exact hR _ _ ⟨by rw [hm]; simp [rootB, hz, hmy], c2.trans c3⟩
        · by_cases h3 : x.r.k = 3
          · have g3 := eqb_t h3
            by_cases h2 : x.r.l = 2
            · have g2 := eqb_t h2
              simp [go_sem, d0, d1, hb3, hb2, g3, g2]
              exact hR _ _ ⟨by rw [hm]; simp [hle, rootB, hmy, h3, h2], c2.trans c3⟩
            · have g2 := eqb_f h2
              simp [go_sem, d0, d1, hb3, hb2, g3, g2]
              exact hR _ _ ⟨by rw [hm]; simp [rootB, hz, h2], c2.trans c3⟩
          · have g3 := eqb_f h3
            simp [go_sem, d0, hb3, g3]
            exact hR _ _ ⟨by rw [hm]; simp [rootB, hz, h3], c2.trans c3⟩
    · have hle' : ¬ (x.s : Int) ≤ 32768 := by omega
      simp [go_sem, hb0, hb1, hb2, hb3, q0, q1, q2, q3, e2, e2c, b0, hs, hr, hz_pt, zc_pt, pt_size ptz_ok, hsp, blit_whole, hle']
      exact hR _ _ ⟨by rw [hm]; simp [hle], c2⟩
  have q2 := eqb_f k2
  simp [go_sem, hb0, hb1, hb2, hb3, q0, q1, q2, q3]
  exact hR _ _ ⟨by simp [mayI, k0, k1, k2, k3], c1⟩
end Go.Proofs.YtmhnlgndgdmebaaDoor
