/- Which inodes may be: the program's answer, and the document's. Condition: the variable ptr.wide holds what the text lays. -/
import Derived.Test.YtnefdmbdkljifaaGreatDoorPtH
import Derived.Test.YtnefdmbdkljifaaGreatDoorBsl
set_option linter.unusedSimpArgs false
set_option linter.unusedVariables false

/- An inode's cells, and a block's: read, built, stored, held against one another; which may be. No condition but that the values are of their types. -/
namespace Go.Proofs.YtnefdmbdkljifaaGreatDoor
open Go.RowKit Go.Kin

/-- an inode: kind, links, size, root -/
structure In where
  k : Nat
  n : Nat
  s : Nat
  r : Pt
deriving DecidableEq
def ino (x : In) : Array Value := (.int .u8 x.k :: .int .u16 x.n :: .int .u32 x.s :: (pt x.r).toList).toArray
structure InOk (x : In) : Prop where
  k : x.k < 256
  n : x.n < 65536
  s : x.s < 4294967296
  r : PtOk x.r
def inz : In := ⟨0, 0, 0, ptz⟩
theorem inz_ok : InOk inz := ⟨by decide, by decide, by decide, ptz_ok⟩
section
variable {x : In}
theorem ino_size (ok : InOk x) : (ino x).size = 44 := by
  have := pt_size ok.r
  simp [ino, this]
@[simp] theorem ino_ones (x : In) : ones (ino x) = true := ones_of (by
  intro u hu
  simp only [List.mem_cons] at hu
  rcases hu with rfl | rfl | rfl | hu
  · rfl
  · rfl
  · rfl
  · have := pt_ones x.r
    unfold ones at this
    exact Array.all_eq_true'.1 this u (by simpa using hu))
theorem ino_all (ok : InOk x) : (ino x).extract 0 44 = ino x := by rw [← ino_size ok]; simp
theorem ino_k : (ino x)[0]? = some (.int .u8 x.k) := by simp [ino]
theorem ino_n : (ino x)[1]? = some (.int .u16 x.n) := by simp [ino]
theorem ino_s : (ino x)[2]? = some (.int .u32 x.s) := by simp [ino]
theorem ino_rk : (ino x)[3]? = some (.int .u8 x.r.k) := by simp [ino, pt]
theorem ino_rl : (ino x)[4]? = some (.int .u8 x.r.l) := by simp [ino, pt]
@[simp] theorem ino_k' (h : 0 < (ino x).size) : (ino x)[0] = .int .u8 x.k := by simp [ino]
@[simp] theorem ino_n' (h : 1 < (ino x).size) : (ino x)[1] = .int .u16 x.n := by simp [ino]
@[simp] theorem ino_s' (h : 2 < (ino x).size) : (ino x)[2] = .int .u32 x.s := by simp [ino]
@[simp] theorem ino_rk' (h : 3 < (ino x).size) : (ino x)[3] = .int .u8 x.r.k := by simp [ino, pt]
@[simp] theorem ino_rl' (h : 4 < (ino x).size) : (ino x)[4] = .int .u8 x.r.l := by simp [ino, pt]
theorem ino_r (ok : InOk x) : (ino x).extract 3 44 = pt x.r := by
  have := pt_size ok.r
  apply Array.ext'
  simp [ino, this]
  rw [List.take_of_length_le (by simp [this])]
theorem blit_ino_r {q : Pt} (ok : InOk x) (okq : PtOk q) : blit (ino x) 3 (pt q) = ino { x with r := q } := by
  have h1 := pt_size ok.r
  have h2 := pt_size okq
  apply Array.ext'
  simp [blit, ino, h1, h2]
theorem set_ino_k (k : Nat) : (ino x).setIfInBounds 0 (.int .u8 k) = ino { x with k := k } := by simp [ino]
theorem set_ino_n (n : Nat) : (ino x).setIfInBounds 1 (.int .u16 n) = ino { x with n := n } := by simp [ino]
theorem set_ino_s (s : Nat) : (ino x).setIfInBounds 2 (.int .u32 s) = ino { x with s := s } := by simp [ino]
end
theorem hz_ino : (Tryz.prog.info? 56).map (fun i => i.zero.isSome) = some true := by kernel_rfl
theorem zc_ino : zc Tryz.prog 56 = ino inz := by kernel_rfl
theorem hz_rino : (Tryz.prog.info? 50).map (fun i => i.zero.isSome) = some true := by kernel_rfl
theorem zc_rino : zc Tryz.prog 50 = ino inz := by kernel_rfl
theorem bld_ino0 {w : World} {K : Value → World → Prop} : VBld Tryz.prog 56 [] w K = K (.agg (ino inz)) w :=
  VBld_struct Tryz.underlying56 hz_ino (places := #[(0, 1), (1, 1), (2, 1), (3, 41)]) (by simp [go_sem]) (by simp [fillB, zc_ino])
theorem bld_rino0 {w : World} {K : Value → World → Prop} : VBld Tryz.prog 50 [] w K = K (.agg (ino inz)) w :=
  VBld_struct Tryz.underlying50 hz_rino (places := #[(0, 1), (1, 1), (2, 1), (3, 41)]) (by simp [go_sem]) (by simp [fillB, zc_rino])
theorem blit_ino3 (k n s : Nat) : blit (blit (blit (ino inz) 0 #[.int .u8 k]) 1 #[.int .u16 n]) 2 #[.int .u32 s] = ino ⟨k, n, s, ptz⟩ := by simp [blit, ino, inz]
theorem blit_ino2 (k n : Nat) : blit (blit (ino inz) 0 #[.int .u8 k]) 1 #[.int .u16 n] = ino ⟨k, n, 0, ptz⟩ := by simp [blit, ino, inz]
theorem blit_ino1 (k : Nat) : blit (ino inz) 0 #[.int .u8 k] = ino ⟨k, 0, 0, ptz⟩ := by simp [blit, ino, inz]
theorem bld_ino3 (k n s : Nat) {w : World} {K : Value → World → Prop} : VBld Tryz.prog 56 [(0, .int .u8 k), (1, .int .u16 n), (2, .int .u32 s)] w K = K (.agg (ino ⟨k, n, s, ptz⟩)) w := by
  refine VBld_struct Tryz.underlying56 hz_ino (places := #[(0, 1), (1, 1), (2, 1), (3, 41)]) (by simp [go_sem]) ?_
  have hz := ino_size inz_ok
  simp [fillB, zc_ino, Value.cells, hz, blit_size, blit_ino3]
theorem bld_ino1 (k : Nat) {w : World} {K : Value → World → Prop} : VBld Tryz.prog 56 [(0, .int .u8 k)] w K = K (.agg (ino ⟨k, 0, 0, ptz⟩)) w := by
  refine VBld_struct Tryz.underlying56 hz_ino (places := #[(0, 1), (1, 1), (2, 1), (3, 41)]) (by simp [go_sem]) ?_
  have hz := ino_size inz_ok
  simp [fillB, zc_ino, Value.cells, hz, blit_ino1]
theorem bld_rino2 (k n : Nat) {w : World} {K : Value → World → Prop} : VBld Tryz.prog 50 [(0, .int .u8 k), (1, .int .u16 n)] w K = K (.agg (ino ⟨k, n, 0, ptz⟩)) w := by
  refine VBld_struct Tryz.underlying50 hz_rino (places := #[(0, 1), (1, 1), (2, 1), (3, 41)]) (by simp [go_sem]) ?_
  have hz := ino_size inz_ok
  simp [fillB, zc_rino, Value.cells, hz, blit_size, blit_ino2]
theorem bld_ino4 (x : In) (ok : InOk x) {w : World} {K : Value → World → Prop} : VBld Tryz.prog 56 [(0, .int .u8 x.k), (1, .int .u16 x.n), (2, .int .u32 x.s), (3, .agg (pt x.r))] w K = K (.agg (ino x)) w := by
  refine VBld_struct Tryz.underlying56 hz_ino (places := #[(0, 1), (1, 1), (2, 1), (3, 41)]) (by simp [go_sem]) ?_
  have hz := ino_size inz_ok
  have h3 : InOk ⟨x.k, x.n, x.s, ptz⟩ := ⟨ok.k, ok.n, ok.s, ptz_ok⟩
  have hp := pt_size ok.r
  have h4 := ino_size h3
  simp [fillB, zc_ino, Value.cells, hz, blit_size, blit_ino3, blit_ino_r h3 ok.r, hp, h4]
theorem eq_ino_any (w : World) (d : Nat) {x y : In} (hx : InOk x) (hy : InOk y) : (Op.equalIn (d + 4) 56 (.agg (ino x)) (.agg (ino y))).run Tryz.prog w = .ok (decide (x = y)) w := by
  have e1 : ∀ w, (Op.equalIn (d + 3) 37 (.agg (pt x.r)) (.agg (pt y.r))).run Tryz.prog w = .ok (decide (x.r = y.r)) w := fun w => eq_pt_any w d hx.r hy.r
  have hc : ∀ a b : Nat, ((a : Int) == (b : Int)) = decide (a = b) := fun a b => by
    by_cases h : a = b
    · simp [h]
    · rw [beq_false_of_ne (by omega), decide_eq_false h]
  rw [Op.equalIn]
  simp [go_sem, ino_k, ino_n, ino_s, ino_r hx, ino_r hy, e1, hc]
  obtain ⟨k, n, s, r⟩ := x
  obtain ⟨k', n', s', r'⟩ := y
  simp only [In.mk.injEq]
  by_cases h1 : k = k' <;> by_cases h2 : n = n' <;> by_cases h3 : s = s' <;> by_cases h4 : r = r' <;> simp [h1, h2, h3, h4]
theorem eq_ino (w : World) {x y : In} (hx : InOk x) (hy : InOk y) : (Op.equalIn 10000 56 (.agg (ino x)) (.agg (ino y))).run Tryz.prog w = .ok (decide (x = y)) w := eq_ino_any w 9996 hx hy
theorem eq_rino (w : World) {x y : In} (hx : InOk x) (hy : InOk y) : (Op.equalIn 10000 50 (.agg (ino x)) (.agg (ino y))).run Tryz.prog w = .ok (decide (x = y)) w := by
  have e1 : ∀ w, (Op.equalIn 9999 37 (.agg (pt x.r)) (.agg (pt y.r))).run Tryz.prog w = .ok (decide (x.r = y.r)) w := fun w => eq_pt_any w 9996 hx.r hy.r
  have hc : ∀ a b : Nat, ((a : Int) == (b : Int)) = decide (a = b) := fun a b => by
    by_cases h : a = b
    · simp [h]
    · rw [beq_false_of_ne (by omega), decide_eq_false h]
  simp [go_sem, ino_k, ino_n, ino_s, ino_r hx, ino_r hy, e1, hc]
  obtain ⟨k, n, s, r⟩ := x
  obtain ⟨k', n', s', r'⟩ := y
  simp only [In.mk.injEq]
  by_cases h1 : k = k' <;> by_cases h2 : n = n' <;> by_cases h3 : s = s' <;> by_cases h4 : r = r' <;> simp [h1, h2, h3, h4]

/- four of them -/
def ib (xs : List In) : Array Value := rowsOf ino xs
structure IbOk (xs : List In) : Prop where
  len : xs.length = 4
  all : ∀ x ∈ xs, InOk x
def ibz : List In := List.replicate 4 inz
theorem ibz_ok : IbOk ibz := ⟨rfl, fun p hp => by rw [(List.mem_replicate.1 hp).2]; exact inz_ok⟩
section
variable {xs : List In}
theorem IbOk.sz (h : IbOk xs) : ∀ x ∈ xs, (ino x).size = 44 := fun x hx => ino_size (h.all x hx)
theorem ib_size (h : IbOk xs) : (ib xs).size = 176 := by unfold ib; rw [rows_size h.sz, h.len]
@[simp] theorem ib_ones (xs : List In) : ones (ib xs) = true := rows_ones fun p _ => ino_ones p
theorem ib_all (h : IbOk xs) : (ib xs).extract 0 176 = ib xs := by rw [← ib_size h]; simp
theorem ib_get (h : IbOk xs) {k : Nat} {x : In} (hk : xs[k]? = some x) : (ib xs).extract (k * 44) (k * 44 + 44) = ino x := rows_get h.sz hk
theorem ib_blit (h : IbOk xs) {k : Nat} {x : In} (hk : k < 4) (ok : InOk x) : blit (ib xs) (k * 44) (ino x) = ib (xs.set k x) := rows_blit h.sz (by rw [h.len]; exact hk) (ino_size ok)
theorem IbOk.set (h : IbOk xs) (k : Nat) {x : In} (ok : InOk x) : IbOk (xs.set k x) := ⟨by simp [h.len], fun q hq => by
  rcases List.mem_or_eq_of_mem_set hq with h1 | rfl
  · exact h.all q h1
  · exact ok⟩
theorem IbOk.at' (h : IbOk xs) {k : Nat} (hk : k < 4) : ∃ x, xs[k]? = some x ∧ InOk x := ⟨_, List.getElem?_eq_getElem (by rw [h.len]; exact hk), h.all _ (List.getElem_mem _)⟩
end
theorem hz_ib : (Tryz.prog.info? 100).map (fun i => i.zero.isSome) = some true := by kernel_rfl
theorem zc_ib : zc Tryz.prog 100 = ib ibz := by kernel_rfl
theorem bld_ib0 {w : World} {K : Value → World → Prop} : VBld Tryz.prog 100 [] w K = K (.agg (ib ibz)) w :=
  VBld_array Tryz.underlying100 hz_ib Tryz.sizeOf56 (by simp [fillB, zc_ib])
theorem bld_ib1 (x : In) (ok : InOk x) {w : World} {K : Value → World → Prop} : VBld Tryz.prog 100 [(0, .agg (ino x))] w K = K (.agg (ib (ibz.set 0 x))) w := by
  refine VBld_array Tryz.underlying100 hz_ib Tryz.sizeOf56 ?_
  have h1 := ino_size ok
  have h2 := ib_size ibz_ok
  have h3 := ib_blit ibz_ok (k := 0) (by decide) ok
  simp only [Nat.zero_mul] at h3
  simp [fillB, zc_ib, Value.cells, h1, h2, h3]
theorem eq_ib (w : World) {xs ys : List In} (hp : IbOk xs) (hq : IbOk ys) : (Op.equalIn 10000 100 (.agg (ib xs)) (.agg (ib ys))).run Tryz.prog w = .ok (decide (xs = ys)) w :=
  run_equalIn_rows w 9999 _ _ 4 Tryz.underlying100 Tryz.sizeOf56 Tryz.isAgg56 xs ys hp.len hq.len hp.sz hq.sz fun x hx y hy => eq_ino_any w 9995 (hp.all x hx) (hq.all y hy)
theorem ib_index {xs : List In} (h : IbOk xs) {k : Nat} {x : In} (hk : k < 4) (hx : xs[k]? = some x) (w : World) : (Instr.index 100 (.agg (ib xs)) (.int .i64 k)).run Tryz.prog w = .ok (.agg (ino x)) w :=
  run_index_rows Tryz.underlying100 Tryz.sizeOf56 Tryz.isAgg56 h.sz hk hx w

/-- may an inode be? -/
def rootB (r : Pt) : Bool := decide (r = ptz) || (mayP r && decide (r.k = 3) && decide (r.l = 2))
def mayI (x : In) : Bool :=
  if x.k = 0 then decide (x = inz) else if x.k = 3 then (decide (x.s ≠ 0) && decide (x.s ≤ 128) && rootB x.r) else if x.k = 1 ∨ x.k = 2 then (decide (x.s ≤ 32768) && rootB x.r) else false
theorem mayI_root {x : In} (h : mayI x = true) : x.r = ptz ∨ mayP x.r = true := by
  have hr : ∀ r, rootB r = true → r = ptz ∨ mayP r = true := fun r h => by
    unfold rootB at h
    simp at h
    rcases h with h | ⟨⟨h, _⟩, _⟩
    · exact .inl h
    · exact .inr h
  unfold mayI at h
  split at h
  · rw [of_decide_eq_true h]; exact .inl rfl
  · split at h
    · simp at h; exact hr _ h.2
    · split at h
      · simp at h; exact hr _ h.2
      · cases h
end Go.Proofs.YtnefdmbdkljifaaGreatDoor

namespace Go.Proofs.YtnefdmbdkljifaaGreatDoor
open Go.RowKit Go.Kin

theorem imay_any (x : In) (w : World) (ok : InOk x) (hw : Lw w) : Ret Tryz.prog 26 #[.agg (ino x)] w fun v' w' => v' = .bool (mayI x) ∧ Ch Nw w w' := by
  refine v_enter Tryz.func26 Tryz.ntmps26 rfl (by simp) fun R' hR => ?_
  have hs := ino_size ok
  have ha := ino_all ok
  have hr := ino_r ok
  have hsp := pt_size ok.r
  have hap := pt_all ok.r
  have heq := fun w => eq_ino w ok inz_ok
  have heqp := fun w => eq_pt w ok.r ptz_ok
  have heqz := fun w => eq_pt w ptz_ok ptz_ok
  have c1 := (Ch.refl Nw w).alloc (.cells (ino x) 56)
  have hbeq : ∀ a b : Nat, ((a : Int) == (b : Int)) = eqb a b := fun a b => by
    by_cases h : a = b
    · simp [h, eqb]
    · rw [beq_false_of_ne (by omega), eqb_f h]
  have hb0 : ∀ a : Nat, ((a : Int) == 0) = eqb a 0 := fun a => hbeq a 0
  have hb1 : ∀ a : Nat, ((a : Int) == 1) = eqb a 1 := fun a => hbeq a 1
  have hb2 : ∀ a : Nat, ((a : Int) == 2) = eqb a 2 := fun a => hbeq a 2
  have hb3 : ∀ a : Nat, ((a : Int) == 3) = eqb a 3 := fun a => hbeq a 3
  simp [go_sem, ino_k]
  have b0 := hp_alloc w (.cells (ino x) 56)
  revert b0 c1
  generalize w.alloc (.cells (ino x) 56) = w1
  generalize w.heap.size = g
  intro c1 b0
  have e2 := (cell_blk b0 2).trans ino_s
  have hw1 := hw.ch c1 id
  by_cases k0 : x.k = 0
  · have q0 := eqb_t k0
    simp [go_sem, hb0, q0, b0, hs, ha, bld_ino0, heq]
    exact hR _ _ ⟨by simp [mayI, k0], c1⟩
  have q0 := eqb_f k0
  by_cases k3 : x.k = 3
  · have q3 := eqb_t k3
    by_cases s0 : x.s = 0
    · have qs := eqb_t s0
      simp [go_sem, hb0, hb3, q0, q3, qs, e2]
      exact hR _ _ ⟨by simp [mayI, k3, s0], c1⟩
    have qs := eqb_f s0
    have hm : mayI x = (decide (x.s ≤ 128) && rootB x.r) := by simp [mayI, k3, s0]
    have c2 := c1.alloc (.cells (pt x.r) 37)
    have e2c := fun o => ((Ch.refl Nw w1).alloc o).cell e2 id
    have b2 := hp_alloc w1 (.cells (pt x.r) 37)
    by_cases hle : x.s ≤ 128
    · have hle' : (x.s : Int) ≤ 128 := by omega
      by_cases hz : x.r = ptz
      · simp [go_sem, hb0, hb3, q0, q3, qs, e2, e2c, b0, hs, hr, hz_pt, zc_pt, pt_size ptz_ok, hsp, blit_whole, hle', hap, pt_all ptz_ok, bld_pt0, heqp, heqz, hz]
        try rw [hz] at c2
        exact hR _ _ ⟨by rw [hm]; simp [hle, rootB, hz], c2⟩
      · simp [go_sem, hb0, hb3, q0, q3, qs, e2, e2c, b0, hs, hr, hz_pt, zc_pt, pt_size ptz_ok, hsp, blit_whole, hle', hap, pt_all ptz_ok, bld_pt0, heqp, heqz, hz]
        refine (may_any x.r _ ok.r (hw.ch c2 id)).mono ?_
        rintro _ w3 ⟨rfl, c3⟩
        have b3 := c3.hp b2 id
        have d0 := (cell_blk b3 0).trans pt_k
        have d1 := (cell_blk b3 1).trans pt_l
        cases hmy : mayP x.r
        · simp [go_sem]
          exact hR _ _ ⟨by rw [hm]; simp [rootB, hz, hmy], c2.trans c3⟩
        · by_cases h3 : x.r.k = 3
          · have g3 := eqb_t h3
            by_cases h2 : x.r.l = 2
            · have g2 := eqb_t h2
              simp [go_sem, d0, d1, hb3, hb2, g3, g2]
              exact hR _ _ ⟨by rw [hm]; simp [hle, rootB, hmy, h3, h2], c2.trans c3⟩
            · have g2 := eqb_f h2
              simp [go_sem, d0, d1, hb3, hb2, g3, g2]
              exact hR _ _ ⟨by rw [hm]; simp [rootB, hz, h2], c2.trans c3⟩
          · have g3 := eqb_f h3
            simp [go_sem, d0, hb3, g3]
            exact hR _ _ ⟨by rw [hm]; simp [rootB, hz, h3], c2.trans c3⟩
    · have hle' : ¬ (x.s : Int) ≤ 128 := by omega
      simp [go_sem, hb0, hb3, q0, q3, qs, e2, e2c, b0, hs, hr, hz_pt, zc_pt, pt_size ptz_ok, hsp, blit_whole, hle']
      exact hR _ _ ⟨by rw [hm]; simp [hle], c2⟩
  have q3 := eqb_f k3
  by_cases k1 : x.k = 1
  · have q1 := eqb_t k1
    have hm : mayI x = (decide (x.s ≤ 32768) && rootB x.r) := by simp [mayI, k1]
    have c2 := c1.alloc (.cells (pt x.r) 37)
    have e2c := fun o => ((Ch.refl Nw w1).alloc o).cell e2 id
    have b2 := hp_alloc w1 (.cells (pt x.r) 37)
    by_cases hle : x.s ≤ 32768
    · have hle' : (x.s : Int) ≤ 32768 := by omega
      by_cases hz : x.r = ptz
      · simp [go_sem, hb0, hb1, hb3, q0, q1, q3, e2, e2c, b0, hs, hr, hz_pt, zc_pt, pt_size ptz_ok, hsp, blit_whole, hle', hap, pt_all ptz_ok, bld_pt0, heqp, heqz, hz]
        try rw [hz] at c2
        exact hR _ _ ⟨by rw [hm]; simp [hle, rootB, hz], c2⟩
      · simp [go_sem, hb0, hb1, hb3, q0, q1, q3, e2, e2c, b0, hs, hr, hz_pt, zc_pt, pt_size ptz_ok, hsp, blit_whole, hle', hap, pt_all ptz_ok, bld_pt0, heqp, heqz, hz]
        refine (may_any x.r _ ok.r (hw.ch c2 id)).mono ?_
        rintro _ w3 ⟨rfl, c3⟩
        have b3 := c3.hp b2 id
        have d0 := (cell_blk b3 0).trans pt_k
        have d1 := (cell_blk b3 1).trans pt_l
        cases hmy : mayP x.r
        · simp [go_sem]
          exact hR _ _ ⟨by rw [hm]; simp [rootB, hz, hmy], c2.trans c3⟩
        · by_cases h3 : x.r.k = 3
          · have g3 := eqb_t h3
            by_cases h2 : x.r.l = 2
            · have g2 := eqb_t h2
              simp [go_sem, d0, d1, hb3, hb2, g3, g2]
              exact hR _ _ ⟨by rw [hm]; simp [hle, rootB, hmy, h3, h2], c2.trans c3⟩
            · have g2 := eqb_f h2
              simp [go_sem, d0, d1, hb3, hb2, g3, g2]
              exact hR _ _ ⟨by rw [hm]; simp [rootB, hz, h2], c2.trans c3⟩
          · have g3 := eqb_f h3
            simp [go_sem, d0, hb3, g3]
            exact hR _ _ ⟨by rw [hm]; simp [rootB, hz, h3], c2.trans c3⟩
    · have hle' : ¬ (x.s : Int) ≤ 32768 := by omega
      simp [go_sem, hb0, hb1, hb3, q0, q1, q3, e2, e2c, b0, hs, hr, hz_pt, zc_pt, pt_size ptz_ok, hsp, blit_whole, hle']
      exact hR _ _ ⟨by rw [hm]; simp [hle], c2⟩
  have q1 := eqb_f k1
  by_cases k2 : x.k = 2
  · have q2 := eqb_t k2
    have hm : mayI x = (decide (x.s ≤ 32768) && rootB x.r) := by simp [mayI, k2]
    have c2 := c1.alloc (.cells (pt x.r) 37)
    have e2c := fun o => ((Ch.refl Nw w1).alloc o).cell e2 id
    have b2 := hp_alloc w1 (.cells (pt x.r) 37)
    by_cases hle : x.s ≤ 32768
    · have hle' : (x.s : Int) ≤ 32768 := by omega
      by_cases hz : x.r = ptz
      · simp [go_sem, hb0, hb1, hb2, hb3, q0, q1, q2, q3, e2, e2c, b0, hs, hr, hz_pt, zc_pt, pt_size ptz_ok, hsp, blit_whole, hle', hap, pt_all ptz_ok, bld_pt0, heqp, heqz, hz]
        try rw [hz] at c2
        exact hR _ _ ⟨by rw [hm]; simp [hle, rootB, hz], c2⟩
      · simp [go_sem, hb0, hb1, hb2, hb3, q0, q1, q2, q3, e2, e2c, b0, hs, hr, hz_pt, zc_pt, pt_size ptz_ok, hsp, blit_whole, hle', hap, pt_all ptz_ok, bld_pt0, heqp, heqz, hz]
        refine (may_any x.r _ ok.r (hw.ch c2 id)).mono ?_
        rintro _ w3 ⟨rfl, c3⟩
        have b3 := c3.hp b2 id
        have d0 := (cell_blk b3 0).trans pt_k
        have d1 := (cell_blk b3 1).trans pt_l
        cases hmy : mayP x.r
        · simp [go_sem]
          exact hR _ _ ⟨by rw [hm]; simp [rootB, hz, hmy], c2.trans c3⟩
        · by_cases h3 : x.r.k = 3
          · have g3 := eqb_t h3
            by_cases h2 : x.r.l = 2
            · have g2 := eqb_t h2
              simp [go_sem, d0, d1, hb3, hb2, g3, g2]
              exact hR _ _ ⟨by rw [hm]; simp [hle, rootB, hmy, h3, h2], c2.trans c3⟩
            · have g2 := eqb_f h2
              simp [go_sem, d0, d1, hb3, hb2, g3, g2]
              exact hR _ _ ⟨by rw [hm]; simp [rootB, hz, h2], c2.trans c3⟩
          · have g3 := eqb_f h3
            simp [go_sem, d0, hb3, g3]
            exact hR _ _ ⟨by rw [hm]; simp [rootB, hz, h3], c2.trans c3⟩
    · have hle' : ¬ (x.s : Int) ≤ 32768 := by omega
      simp [go_sem, hb0, hb1, hb2, hb3, q0, q1, q2, q3, e2, e2c, b0, hs, hr, hz_pt, zc_pt, pt_size ptz_ok, hsp, blit_whole, hle']
      exact hR _ _ ⟨by rw [hm]; simp [hle], c2⟩
  have q2 := eqb_f k2
  simp [go_sem, hb0, hb1, hb2, hb3, q0, q1, q2, q3]
  exact hR _ _ ⟨by simp [mayI, k0, k1, k2, k3], c1⟩
end Go.Proofs.YtnefdmbdkljifaaGreatDoor
