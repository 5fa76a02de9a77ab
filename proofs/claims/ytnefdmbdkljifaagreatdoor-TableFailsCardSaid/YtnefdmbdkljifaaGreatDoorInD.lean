/- What inode's Block.Put, Count, Leaf and the document's Block answer, as contracts on calls. Conditions: the variables ptr.wide and inode.leaves hold what the text lays. -/
import Derived.Test.YtnefdmbdkljifaaGreatDoorPtH
import Derived.Test.YtnefdmbdkljifaaGreatDoorBsl
set_option linter.unusedSimpArgs false
set_option linter.unusedVariables false

/- An inode's cells, and a block's: read, built, stored, held against one another; which may be. No condition but that the values are of their types. -/
namespace Go.Proofs.YtnefdmbdkljifaaGreatDoor
open Go.RowKit Go.Kin

/-- an inode: kind, links, size, root -/
structure In where
  k : Nat
  n : Nat
  s : Nat
  r : Pt
deriving DecidableEq
def ino (x : In) : Array Value := (.int .u8 x.k :: .int .u16 x.n :: .int .u32 x.s :: (pt x.r).toList).toArray
structure InOk (x : In) : Prop where
  k : x.k < 256
  n : x.n < 65536
  s : x.s < 4294967296
  r : PtOk x.r
def inz : In := ⟨0, 0, 0, ptz⟩
theorem inz_ok : InOk inz := ⟨by decide, by decide, by decide, ptz_ok⟩
section
variable {x : In}
theorem ino_size (ok : InOk x) : (ino x).size = 44 := by
  have := pt_size ok.r
  simp [ino, this]
@[simp] theorem ino_ones (x : In) : ones (ino x) = true := ones_of (by
  intro u hu
  simp only [List.mem_cons] at hu
  rcases hu with rfl | rfl | rfl | hu
  · rfl
  · rfl
  · rfl
  · have := pt_ones x.r
    unfold ones at this
    exact Array.all_eq_true'.1 this u (by simpa using hu))
theorem ino_all (ok : InOk x) : (ino x).extract 0 44 = ino x := by rw [← ino_size ok]; simp
theorem ino_k : (ino x)[0]? = some (.int .u8 x.k) := by simp [ino]
theorem ino_n : (ino x)[1]? = some (.int .u16 x.n) := by simp [ino]
theorem ino_s : (ino x)[2]? = some (.int .u32 x.s) := by simp [ino]
theorem ino_rk : (ino x)[3]? = some (.int .u8 x.r.k) := by simp [ino, pt]
theorem ino_rl : (ino x)[4]? = some (.int .u8 x.r.l) := by simp [ino, pt]
@[simp] theorem ino_k' (h : 0 < (ino x).size) : (ino x)[0] = .int .u8 x.k := by simp [ino]
@[simp] theorem ino_n' (h : 1 < (ino x).size) : (ino x)[1] = .int .u16 x.n := by simp [ino]
@[simp] theorem ino_s' (h : 2 < (ino x).size) : (ino x)[2] = .int .u32 x.s := by simp [ino]
@[simp] theorem ino_rk' (h : 3 < (ino x).size) : (ino x)[3] = .int .u8 x.r.k := by simp [ino, pt]
@[simp] theorem ino_rl' (h : 4 < (ino x).size) : (ino x)[4] = .int .u8 x.r.l := by simp [ino, pt]
theorem ino_r (ok : InOk x) : (ino x).extract 3 44 = pt x.r := by
  have := pt_size ok.r
  apply Array.ext'
  simp [ino, this]
  rw [List.take_of_length_le (by simp [this])]
theorem blit_ino_r {q : Pt} (ok : InOk x) (okq : PtOk q) : blit (ino x) 3 (pt q) = ino { x with r := q } := by
  have h1 := pt_size ok.r
  have h2 := pt_size okq
  apply Array.ext'
  simp [blit, ino, h1, h2]
theorem set_ino_k (k : Nat) : (ino x).setIfInBounds 0 (.int .u8 k) = ino { x with k := k } := by simp [ino]
theorem set_ino_n (n : Nat) : (ino x).setIfInBounds 1 (.int .u16 n) = ino { x with n := n } := by simp [ino]
theorem set_ino_s (s : Nat) : (ino x).setIfInBounds 2 (.int .u32 s) = ino { x with s := s } := by simp [ino]
end
theorem hz_ino : (Tryz.prog.info? 56).map (fun i => i.zero.isSome) = some true := by kernel_rfl
theorem zc_ino : zc Tryz.prog 56 = ino inz := by kernel_rfl
theorem hz_rino : (Tryz.prog.info? 50).map (fun i => i.zero.isSome) = some true := by kernel_rfl
theorem zc_rino : zc Tryz.prog 50 = ino inz := by kernel_rfl
theorem bld_ino0 {w : World} {K : Value → World → Prop} : VBld Tryz.prog 56 [] w K = K (.agg (ino inz)) w :=
  VBld_struct Tryz.underlying56 hz_ino (places := #[(0, 1), (1, 1), (2, 1), (3, 41)]) (by simp [go_sem]) (by simp [fillB, zc_ino])
theorem bld_rino0 {w : World} {K : Value → World → Prop} : VBld Tryz.prog 50 [] w K = K (.agg (ino inz)) w :=
  VBld_struct Tryz.underlying50 hz_rino (places := #[(0, 1), (1, 1), (2, 1), (3, 41)]) (by simp [go_sem]) (by simp [fillB, zc_rino])
theorem blit_ino3 (k n s : Nat) : blit (blit (blit (ino inz) 0 #[.int .u8 k]) 1 #[.int .u16 n]) 2 #[.int .u32 s] = ino ⟨k, n, s, ptz⟩ := by simp [blit, ino, inz]
theorem blit_ino2 (k n : Nat) : blit (blit (ino inz) 0 #[.int .u8 k]) 1 #[.int .u16 n] = ino ⟨k, n, 0, ptz⟩ := by simp [blit, ino, inz]
theorem blit_ino1 (k : Nat) : blit (ino inz) 0 #[.int .u8 k] = ino ⟨k, 0, 0, ptz⟩ := by simp [blit, ino, inz]
theorem bld_ino3 (k n s : Nat) {w : World} {K : Value → World → Prop} : VBld Tryz.prog 56 [(0, .int .u8 k), (1, .int .u16 n), (2, .int .u32 s)] w K = K (.agg (ino ⟨k, n, s, ptz⟩)) w := by
  refine VBld_struct Tryz.underlying56 hz_ino (places := #[(0, 1), (1, 1), (2, 1), (3, 41)]) (by simp [go_sem]) ?_
  have hz := ino_size inz_ok
  simp [fillB, zc_ino, Value.cells, hz, blit_size, blit_ino3]
theorem bld_ino1 (k : Nat) {w : World} {K : Value → World → Prop} : VBld Tryz.prog 56 [(0, .int .u8 k)] w K = K (.agg (ino ⟨k, 0, 0, ptz⟩)) w := by
  refine VBld_struct Tryz.underlying56 hz_ino (places := #[(0, 1), (1, 1), (2, 1), (3, 41)]) (by simp [go_sem]) ?_
  have hz := ino_size inz_ok
  simp [fillB, zc_ino, Value.cells, hz, blit_ino1]
theorem bld_rino2 (k n : Nat) {w : World} {K : Value → World → Prop} : VBld Tryz.prog 50 [(0, .int .u8 k), (1, .int .u16 n)] w K = K (.agg (ino ⟨k, n, 0, ptz⟩)) w := by
  refine VBld_struct Tryz.underlying50 hz_rino (places := #[(0, 1), (1, 1), (2, 1), (3, 41)]) (by simp [go_sem]) ?_
  have hz := ino_size inz_ok
  simp [fillB, zc_rino, Value.cells, hz, blit_size, blit_ino2]
theorem bld_ino4 (x : In) (ok : InOk x) {w : World} {K : Value → World → Prop} : VBld Tryz.prog 56 [(0, .int .u8 x.k), (1, .int .u16 x.n), (2, .int .u32 x.s), (3, .agg (pt x.r))] w K = K (.agg (ino x)) w := by
  refine VBld_struct Tryz.underlying56 hz_ino (places := #[(0, 1), (1, 1), (2, 1), (3, 41)]) (by simp [go_sem]) ?_
  have hz := ino_size inz_ok
  have h3 : InOk ⟨x.k, x.n, x.s, ptz⟩ := ⟨ok.k, ok.n, ok.s, ptz_ok⟩
  have hp := pt_size ok.r
  have h4 := ino_size h3
  simp [fillB, zc_ino, Value.cells, hz, blit_size, blit_ino3, blit_ino_r h3 ok.r, hp, h4]
theorem eq_ino_any (w : World) (d : Nat) {x y : In} (hx : InOk x) (hy : InOk y) : (Op.equalIn (d + 4) 56 (.agg (ino x)) (.agg (ino y))).run Tryz.prog w = .ok (decide (x = y)) w := by
  have e1 : ∀ w, (Op.equalIn (d + 3) 37 (.agg (pt x.r)) (.agg (pt y.r))).run Tryz.prog w = .ok (decide (x.r = y.r)) w := fun w => eq_pt_any w d hx.r hy.r
  have hc : ∀ a b : Nat, ((a : Int) == (b : Int)) = decide (a = b) := fun a b => by
    by_cases h : a = b
    · simp [h]
    · rw [beq_false_of_ne (by omega), decide_eq_false h]
  rw [Op.equalIn]
  simp [go_sem, ino_k, ino_n, ino_s, ino_r hx, ino_r hy, e1, hc]
  obtain ⟨k, n, s, r⟩ := x
  obtain ⟨k', n', s', r'⟩ := y
  simp only [In.mk.injEq]
  by_cases h1 : k = k' <;> by_cases h2 : n = n' <;> by_cases h3 : s = s' <;> by_cases h4 : r = r' <;> simp [h1, h2, h3, h4]
theorem eq_ino (w : World) {x y : In} (hx : InOk x) (hy : InOk y) : (Op.equalIn 10000 56 (.agg (ino x)) (.agg (ino y))).run Tryz.prog w = .ok (decide (x = y)) w := eq_ino_any w 9996 hx hy
theorem eq_rino (w : World) {x y : In} (hx : InOk x) (hy : InOk y) : (Op.equalIn 10000 50 (.agg (ino x)) (.agg (ino y))).run Tryz.prog w = .ok (decide (x = y)) w := by
  have e1 : ∀ w, (Op.equalIn 9999 37 (.agg (pt x.r)) (.agg (pt y.r))).run Tryz.prog w = .ok (decide (x.r = y.r)) w := fun w => eq_pt_any w 9996 hx.r hy.r
  have hc : ∀ a b : Nat, ((a : Int) == (b : Int)) = decide (a = b) := fun a b => by
    by_cases h : a = b
    · simp [h]
    · rw [beq_false_of_ne (by omega), decide_eq_false h]
  simp [go_sem, ino_k, ino_n, ino_s, ino_r hx, ino_r hy, e1, hc]
  obtain ⟨k, n, s, r⟩ := x
  obtain ⟨k', n', s', r'⟩ := y
  simp only [In.mk.injEq]
  by_cases h1 : k = k' <;> by_cases h2 : n = n' <;> by_cases h3 : s = s' <;> by_cases h4 : r = r' <;> simp [h1, h2, h3, h4]

/- four of them -/
def ib (xs : List In) : Array Value := rowsOf ino xs
structure IbOk (xs : List In) : Prop where
  len : xs.length = 4
  all : ∀ x ∈ xs, InOk x
def ibz : List In := List.replicate 4 inz
theorem ibz_ok : IbOk ibz := ⟨rfl, fun p hp => by rw [(List.mem_replicate.1 hp).2]; exact inz_ok⟩
section
variable {xs : List In}
theorem IbOk.sz (h : IbOk xs) : ∀ x ∈ xs, (ino x).size = 44 := fun x hx => ino_size (h.all x hx)
theorem ib_size (h : IbOk xs) : (ib xs).size = 176 := by unfold ib; rw [rows_size h.sz, h.len]
@[simp] theorem ib_ones (xs : List In) : ones (ib xs) = true := rows_ones fun p _ => ino_ones p
theorem ib_all (h : IbOk xs) : (ib xs).extract 0 176 = ib xs := by rw [← ib_size h]; simp
theorem ib_get (h : IbOk xs) {k : Nat} {x : In} (hk : xs[k]? = some x) : (ib xs).extract (k * 44) (k * 44 + 44) = ino x := rows_get h.sz hk
theorem ib_blit (h : IbOk xs) {k : Nat} {x : In} (hk : k < 4) (ok : InOk x) : blit (ib xs) (k * 44) (ino x) = ib (xs.set k x) := rows_blit h.sz (by rw [h.len]; exact hk) (ino_size ok)
theorem IbOk.set (h : IbOk xs) (k : Nat) {x : In} (ok : InOk x) : IbOk (xs.set k x) := ⟨by simp [h.len], fun q hq => by
  rcases List.mem_or_eq_of_mem_set hq with h1 | rfl
  · exact h.all q h1
  · exact ok⟩
theorem IbOk.at' (h : IbOk xs) {k : Nat} (hk : k < 4) : ∃ x, xs[k]? = some x ∧ InOk x := ⟨_, List.getElem?_eq_getElem (by rw [h.len]; exact hk), h.all _ (List.getElem_mem _)⟩
end
theorem hz_ib : (Tryz.prog.info? 100).map (fun i => i.zero.isSome) = some true := by kernel_rfl
theorem zc_ib : zc Tryz.prog 100 = ib ibz := by kernel_rfl
theorem bld_ib0 {w : World} {K : Value → World → Prop} : VBld Tryz.prog 100 [] w K = K (.agg (ib ibz)) w :=
  VBld_array Tryz.underlying100 hz_ib Tryz.sizeOf56 (by simp [fillB, zc_ib])
theorem bld_ib1 (x : In) (ok : InOk x) {w : World} {K : Value → World → Prop} : VBld Tryz.prog 100 [(0, .agg (ino x))] w K = K (.agg (ib (ibz.set 0 x))) w := by
  refine VBld_array Tryz.underlying100 hz_ib Tryz.sizeOf56 ?_
  have h1 := ino_size ok
  have h2 := ib_size ibz_ok
  have h3 := ib_blit ibz_ok (k := 0) (by decide) ok
  simp only [Nat.zero_mul] at h3
  simp [fillB, zc_ib, Value.cells, h1, h2, h3]
theorem eq_ib (w : World) {xs ys : List In} (hp : IbOk xs) (hq : IbOk ys) : (Op.equalIn 10000 100 (.agg (ib xs)) (.agg (ib ys))).run Tryz.prog w = .ok (decide (xs = ys)) w :=
  run_equalIn_rows w 9999 _ _ 4 Tryz.underlying100 Tryz.sizeOf56 Tryz.isAgg56 xs ys hp.len hq.len hp.sz hq.sz fun x hx y hy => eq_ino_any w 9995 (hp.all x hx) (hq.all y hy)
theorem ib_index {xs : List In} (h : IbOk xs) {k : Nat} {x : In} (hk : k < 4) (hx : xs[k]? = some x) (w : World) : (Instr.index 100 (.agg (ib xs)) (.int .i64 k)).run Tryz.prog w = .ok (.agg (ino x)) w :=
  run_index_rows Tryz.underlying100 Tryz.sizeOf56 Tryz.isAgg56 h.sz hk hx w

/-- may an inode be? -/
def rootB (r : Pt) : Bool := decide (r = ptz) || (mayP r && decide (r.k = 3) && decide (r.l = 2))
def mayI (x : In) : Bool :=
  if x.k = 0 then decide (x = inz) else if x.k = 3 then (decide (x.s ≠ 0) && decide (x.s ≤ 128) && rootB x.r) else if x.k = 1 ∨ x.k = 2 then (decide (x.s ≤ 32768) && rootB x.r) else false
theorem mayI_root {x : In} (h : mayI x = true) : x.r = ptz ∨ mayP x.r = true := by
  have hr : ∀ r, rootB r = true → r = ptz ∨ mayP r = true := fun r h => by
    unfold rootB at h
    simp at h
    rcases h with h | ⟨⟨h, _⟩, _⟩
    · exact .inl h
    · exact .inr h
  unfold mayI at h
  split at h
  · rw [of_decide_eq_true h]; exact .inl rfl
  · split at h
    · simp at h; exact hr _ h.2
    · split at h
      · simp at h; exact hr _ h.2
      · cases h
end Go.Proofs.YtnefdmbdkljifaaGreatDoor

/- Which inodes may be: the program's answer, and the document's. Condition: the variable ptr.wide holds what the text lays. -/
namespace Go.Proofs.YtnefdmbdkljifaaGreatDoor
open Go.RowKit Go.Kin

theorem imay_any (x : In) (w : World) (ok : InOk x) (hw : Lw w) : Ret Tryz.prog 26 #[.agg (ino x)] w fun v' w' => v' = .bool (mayI x) ∧ Ch Nw w w' := by
  refine v_enter Tryz.func26 Tryz.ntmps26 rfl (by simp) fun R' hR => ?_
  have hs := ino_size ok
  have ha := ino_all ok
  have hr := ino_r ok
  have hsp := pt_size ok.r
  have hap := pt_all ok.r
  have heq := fun w => eq_ino w ok inz_ok
  have heqp := fun w => eq_pt w ok.r ptz_ok
  have heqz := fun w => eq_pt w ptz_ok ptz_ok
  have c1 := (Ch.refl Nw w).alloc (.cells (ino x) 56)
  have hbeq : ∀ a b : Nat, ((a : Int) == (b : Int)) = eqb a b := fun a b => by
    by_cases h : a = b
    · simp [h, eqb]
    · rw [beq_false_of_ne (by omega), eqb_f h]
  have hb0 : ∀ a : Nat, ((a : Int) == 0) = eqb a 0 := fun a => hbeq a 0
  have hb1 : ∀ a : Nat, ((a : Int) == 1) = eqb a 1 := fun a => hbeq a 1
  have hb2 : ∀ a : Nat, ((a : Int) == 2) = eqb a 2 := fun a => hbeq a 2
  have hb3 : ∀ a : Nat, ((a : Int) == 3) = eqb a 3 := fun a => hbeq a 3
  simp [go_sem, ino_k]
  have b0 := hp_alloc w (.cells (ino x) 56)
  revert b0 c1
  generalize w.alloc (.cells (ino x) 56) = w1
  generalize w.heap.size = g
  intro c1 b0
  have e2 := (cell_blk b0 2).trans ino_s
  have hw1 := hw.ch c1 id
  by_cases k0 : x.k = 0
  · have q0 := eqb_t k0
    simp [go_sem, hb0, q0, b0, hs, ha, bld_ino0, heq]
    exact hR _ _ ⟨by simp [mayI, k0], c1⟩
  have q0 := eqb_f k0
  by_cases k3 : x.k = 3
  · have q3 := eqb_t k3
    by_cases s0 : x.s = 0
    · have qs := eqb_t s0
      simp [go_sem, hb0, hb3, q0, q3, qs, e2]
      exact hR _ _ ⟨by simp [mayI, k3, s0], c1⟩
    have qs := eqb_f s0
    have hm : mayI x = (decide (x.s ≤ 128) && rootB x.r) := by simp [mayI, k3, s0]
    have c2 := c1.alloc (.cells (pt x.r) 37)
    have e2c := fun o => ((Ch.refl Nw w1).alloc o).cell e2 id
    have b2 := hp_alloc w1 (.cells (pt x.r) 37)
    by_cases hle : x.s ≤ 128
    · have hle' : (x.s : Int) ≤ 128 := by omega
      by_cases hz : x.r = ptz
      · simp [go_sem, hb0, hb3, q0, q3, qs, e2, e2c, b0, hs, hr, hz_pt, zc_pt, pt_size ptz_ok, hsp, blit_whole, hle', hap, pt_all ptz_ok, bld_pt0, heqp, heqz, hz]
        try rw [hz] at c2
        exact hR _ _ ⟨by rw [hm]; simp [hle, rootB, hz], c2⟩
      · simp [go_sem, hb0, hb3, q0, q3, qs, e2, e2c, b0, hs, hr, hz_pt, zc_pt, pt_size ptz_ok, hsp, blit_whole, hle', hap, pt_all ptz_ok, bld_pt0, heqp, heqz, hz]
        refine (may_any x.r _ ok.r (hw.ch c2 id)).mono ?_
        rintro _ w3 ⟨rfl, c3⟩
        have b3 := c3.hp b2 id
        have d0 := (cell_blk b3 0).trans pt_k
        have d1 := (cell_blk b3 1).trans pt_l
        cases hmy : mayP x.r
        · simp [go_sem]
          exact hR _ _ ⟨by rw [hm]; simp [rootB, hz, hmy], c2.trans c3⟩
        · by_cases h3 : x.r.k = 3
          · have g3 := eqb_t h3
            by_cases h2 : x.r.l = 2
            · have g2 := eqb_t h2
              simp [go_sem, d0, d1, hb3, hb2, g3, g2]
              exact hR _ _ ⟨by rw [hm]; simp [hle, rootB, hmy, h3, h2], c2.trans c3⟩
            · have g2 := eqb_f h2
              simp [go_sem, d0, d1, hb3, hb2, g3, g2]
              exact hR _ _ ⟨by rw [hm]; simp [rootB, hz, h2], c2.trans c3⟩
          · have g3 := eqb_f h3
            simp [go_sem, d0, hb3, g3]
            exact hR _ _ ⟨by rw [hm]; simp [rootB, hz, h3], c2.trans c3⟩
    · have hle' : ¬ (x.s : Int) ≤ 128 := by omega
      simp [go_sem, hb0, hb3, q0, q3, qs, e2, e2c, b0, hs, hr, hz_pt, zc_pt, pt_size ptz_ok, hsp, blit_whole, hle']
      exact hR _ _ ⟨by rw [hm]; simp [hle], c2⟩
  have q3 := eqb_f k3
  by_cases k1 : x.k = 1
  · have q1 := eqb_t k1
    have hm : mayI x = (decide (x.s ≤ 32768) && rootB x.r) := by simp [mayI, k1]
    have c2 := c1.alloc (.cells (pt x.r) 37)
    have e2c := fun o => ((Ch.refl Nw w1).alloc o).cell e2 id
    have b2 := hp_alloc w1 (.cells (pt x.r) 37)
    by_cases hle : x.s ≤ 32768
    · have hle' : (x.s : Int) ≤ 32768 := by omega
      by_cases hz : x.r = ptz
      · simp [go_sem, hb0, hb1, hb3, q0, q1, q3, e2, e2c, b0, hs, hr, hz_pt, zc_pt, pt_size ptz_ok, hsp, blit_whole, hle', hap, pt_all ptz_ok, bld_pt0, heqp, heqz, hz]
        try rw [hz] at c2
        exact hR _ _ ⟨by rw [hm]; simp [hle, rootB, hz], c2⟩
      · simp [go_sem, hb0, hb1, hb3, q0, q1, q3, e2, e2c, b0, hs, hr, hz_pt, zc_pt, pt_size ptz_ok, hsp, blit_whole, hle', hap, pt_all ptz_ok, bld_pt0, heqp, heqz, hz]
        refine (may_any x.r _ ok.r (hw.ch c2 id)).mono ?_
        rintro _ w3 ⟨rfl, c3⟩
        have b3 := c3.hp b2 id
        have d0 := (cell_blk b3 0).trans pt_k
        have d1 := (cell_blk b3 1).trans pt_l
        cases hmy : mayP x.r
        · simp [go_sem]
          exact hR _ _ ⟨by rw [hm]; simp [rootB, hz, hmy], c2.trans c3⟩
        · by_cases h3 : x.r.k = 3
          · have g3 := eqb_t h3
            by_cases h2 : x.r.l = 2
            · have g2 := eqb_t h2
              simp [go_sem, d0, d1, hb3, hb2, g3, g2]
              exact hR _ _ ⟨by rw [hm]; simp [hle, rootB, hmy, h3, h2], c2.trans c3⟩
            · have g2 := eqb_f h2
              simp [go_sem, d0, d1, hb3, hb2, g3, g2]
              exact hR _ _ ⟨by rw [hm]; simp [rootB, hz, h2], c2.trans c3⟩
          · have g3 := eqb_f h3
            simp [go_sem, d0, hb3, g3]
            exact hR _ _ ⟨by rw [hm]; simp [rootB, hz, h3], c2.trans c3⟩
    · have hle' : ¬ (x.s : Int) ≤ 32768 := by omega
      simp [go_sem, hb0, hb1, hb3, q0, q1, q3, e2, e2c, b0, hs, hr, hz_pt, zc_pt, pt_size ptz_ok, hsp, blit_whole, hle']
      exact hR _ _ ⟨by rw [hm]; simp [hle], c2⟩
  have q1 := eqb_f k1
  by_cases k2 : x.k = 2
  · have q2 := eqb_t k2
    have hm : mayI x = (decide (x.s ≤ 32768) && rootB x.r) := by simp [mayI, k2]
    have c2 := c1.alloc (.cells (pt x.r) 37)
    have e2c := fun o => ((Ch.refl Nw w1).alloc o).cell e2 id
    have b2 := hp_alloc w1 (.cells (pt x.r) 37)
    by_cases hle : x.s ≤ 32768
    · have hle' : (x.s : Int) ≤ 32768 := by omega
      by_cases hz : x.r = ptz
      · simp [go_sem, hb0, hb1, hb2, hb3, q0, q1, q2, q3, e2, e2c, b0, hs, hr, hz_pt, zc_pt, pt_size ptz_ok, hsp, blit_whole, hle', hap, pt_all ptz_ok, bld_pt0, heqp, heqz, hz]
        try rw [hz] at c2
        exact hR _ _ ⟨by rw [hm]; simp [hle, rootB, hz], c2⟩
      · simp [go_sem, hb0, hb1, hb2, hb3, q0, q1, q2, q3, e2, e2c, b0, hs, hr, hz_pt, zc_pt, pt_size ptz_ok, hsp, blit_whole, hle', hap, pt_all ptz_ok, bld_pt0, heqp, heqz, hz]
        refine (may_any x.r _ ok.r (hw.ch c2 id)).mono ?_
        rintro _ w3 ⟨rfl, c3⟩
        have b3 := c3.hp b2 id
        have d0 := (cell_blk b3 0).trans pt_k
        have d1 := (cell_blk b3 1).trans pt_l
        cases hmy : mayP x.r
        · simp [go_sem]
          exact hR _ _ ⟨by rw [hm]; simp [rootB, hz, hmy], c2.trans c3⟩
        · by_cases h3 : x.r.k = 3
          · have g3 := eqb_t h3
            by_cases h2 : x.r.l = 2
            · have g2 := eqb_t h2
              simp [go_sem, d0, d1, hb3, hb2, g3, g2]
              exact hR _ _ ⟨by rw [hm]; simp [hle, rootB, hmy, h3, h2], c2.trans c3⟩
            · have g2 := eqb_f h2
              simp [go_sem, d0, d1, hb3, hb2, g3, g2]
              exact hR _ _ ⟨by rw [hm]; simp [rootB, hz, h2], c2.trans c3⟩
          · have g3 := eqb_f h3
            simp [go_sem, d0, hb3, g3]
            exact hR _ _ ⟨by rw [hm]; simp [rootB, hz, h3], c2.trans c3⟩
    · have hle' : ¬ (x.s : Int) ≤ 32768 := by omega
      simp [go_sem, hb0, hb1, hb2, hb3, q0, q1, q2, q3, e2, e2c, b0, hs, hr, hz_pt, zc_pt, pt_size ptz_ok, hsp, blit_whole, hle']
      exact hR _ _ ⟨by rw [hm]; simp [hle], c2⟩
  have q2 := eqb_f k2
  simp [go_sem, hb0, hb1, hb2, hb3, q0, q1, q2, q3]
  exact hR _ _ ⟨by simp [mayI, k0, k1, k2, k3], c1⟩
end Go.Proofs.YtnefdmbdkljifaaGreatDoor

/- Which inodes may be, by the document; an inode's bytes, the program's and the document's. Condition: the variable ptr.wide holds what the text lays. -/
namespace Go.Proofs.YtnefdmbdkljifaaGreatDoor
open Go.RowKit Go.Kin

theorem rimay_any (x : In) (w : World) (ok : InOk x) : Ret Tryz.prog 31 #[.agg (ino x)] w fun v' w' => v' = .bool (mayI x) ∧ Ch Nw w w' := by
  refine v_enter Tryz.func31 Tryz.ntmps31 rfl (by simp) fun R' hR => ?_
  have hs := ino_size ok
  have ha := ino_all ok
  have hr := ino_r ok
  have heq := fun w => eq_rino w ok inz_ok
  have heqp := fun w => eq_pt w ok.r ptz_ok
  have c1 := (Ch.refl Nw w).alloc (.cells (ino x) 50)
  have hbeq : ∀ a b : Nat, ((a : Int) == (b : Int)) = eqb a b := fun a b => by
    by_cases h : a = b
    · simp [h, eqb]
    · rw [beq_false_of_ne (by omega), eqb_f h]
  have hb2 : ∀ a : Nat, ((a : Int) == 2) = eqb a 2 := fun a => hbeq a 2
  have hb3 : ∀ a : Nat, ((a : Int) == 3) = eqb a 3 := fun a => hbeq a 3
  by_cases hz : x = inz
  · subst hz
    simp [go_sem, hs, ha, bld_rino0, heq]
    exact hR _ _ ⟨by rw [show mayI inz = true by decide], c1⟩
  by_cases k1 : x.k < 1
  · have k1' : (x.k : Int) < 1 := by omega
    simp [go_sem, hs, ha, bld_rino0, heq, hz, ino_k, k1']
    exact hR _ _ ⟨by simp [mayI, show x.k = 0 by omega, hz], c1⟩
  have k1' : ¬ (x.k : Int) < 1 := by omega
  by_cases k3 : 3 < x.k
  · have k3' : (3 : Int) < x.k := by omega
    simp [go_sem, hs, ha, bld_rino0, heq, hz, ino_k, k1', k3']
    exact hR _ _ ⟨by simp [mayI, show ¬ x.k = 0 by omega, show ¬ x.k = 3 by omega, show ¬ x.k = 1 by omega, show ¬ x.k = 2 by omega], c1⟩
  have k3' : ¬ (3 : Int) < x.k := by omega
  by_cases s3 : 32768 < x.s
  · have s3' : (32768 : Int) < x.s := by omega
    simp [go_sem, hs, ha, bld_rino0, heq, hz, ino_k, ino_s, k1', k3', s3']
    exact hR _ _ ⟨by simp [mayI, show ¬ x.k = 0 by omega, show ¬ x.s ≤ 128 by omega, show ¬ x.s ≤ 32768 by omega], c1⟩
  have s3' : ¬ (32768 : Int) < x.s := by omega
  by_cases k : x.k = 3
  · have q3 := eqb_t k
    by_cases s1 : x.s < 1
    · have s1' : (x.s : Int) < 1 := by omega
      simp [go_sem, hs, ha, bld_rino0, heq, hz, ino_k, ino_s, k1', k3', s3', hb3, q3, s1']
      exact hR _ _ ⟨by simp [mayI, k, show x.s = 0 by omega], c1⟩
    have s1' : ¬ (x.s : Int) < 1 := by omega
    by_cases s2 : 128 < x.s
    · have s2' : (128 : Int) < x.s := by omega
      simp [go_sem, hs, ha, bld_rino0, heq, hz, ino_k, ino_s, k1', k3', s3', hb3, q3, s1', s2']
      exact hR _ _ ⟨by simp [mayI, k, show ¬ x.s ≤ 128 by omega], c1⟩
    have s2' : ¬ (128 : Int) < x.s := by omega
    have hm : mayI x = rootB x.r := by simp [mayI, k, show x.s ≠ 0 by omega, show x.s ≤ 128 by omega]
    by_cases hrz : x.r = ptz
    · rw [hrz] at hr heqp
      simp [go_sem, hs, ha, bld_rino0, heq, hz, ino_k, ino_s, k1', k3', s3', hb3, q3, s1', s2', hr, bld_pt0, heqp, hrz]
      exact hR _ _ ⟨by rw [hm]; simp [rootB, hrz], c1⟩
    · by_cases h3 : x.r.k = 3
      · have g3 := eqb_t h3
        by_cases h2 : x.r.l = 2
        · have g2 := eqb_t h2
          simp [go_sem, hs, ha, bld_rino0, heq, hz, ino_k, ino_s, k1', k3', s3', hb3, q3, s1', s2', hr, bld_pt0, heqp, hrz, ino_rk, ino_rl, hb2, hb3, g3, g2]
          refine (rmay_any x.r _ ok.r).mono ?_
          rintro _ w3 ⟨rfl, c3⟩
          rw [mayR_eq _ ok.r]
          simp [go_sem]
          exact hR _ _ ⟨by rw [hm]; simp [rootB, hrz, h3, h2], c1.trans c3⟩
        · have g2 := eqb_f h2
          simp [go_sem, hs, ha, bld_rino0, heq, hz, ino_k, ino_s, k1', k3', s3', hb3, q3, s1', s2', hr, bld_pt0, heqp, hrz, ino_rk, ino_rl, hb2, hb3, g3, g2]
          exact hR _ _ ⟨by rw [hm]; simp [rootB, hrz, h2], c1⟩
      · have g3 := eqb_f h3
        simp [go_sem, hs, ha, bld_rino0, heq, hz, ino_k, ino_s, k1', k3', s3', hb3, q3, s1', s2', hr, bld_pt0, heqp, hrz, ino_rk, hb3, g3]
        exact hR _ _ ⟨by rw [hm]; simp [rootB, hrz, h3], c1⟩
  have q3 := eqb_f k
  have hm : mayI x = rootB x.r := by simp [mayI, k, show x.k ≠ 0 by omega, show x.k = 1 ∨ x.k = 2 by omega, show x.s ≤ 32768 by omega]
  by_cases hrz : x.r = ptz
  · rw [hrz] at hr heqp
    simp [go_sem, hs, ha, bld_rino0, heq, hz, ino_k, ino_s, k1', k3', s3', hb3, q3, hr, bld_pt0, heqp, hrz]
    exact hR _ _ ⟨by rw [hm]; simp [rootB, hrz], c1⟩
  · by_cases h3 : x.r.k = 3
    · have g3 := eqb_t h3
      by_cases h2 : x.r.l = 2
      · have g2 := eqb_t h2
        simp [go_sem, hs, ha, bld_rino0, heq, hz, ino_k, ino_s, k1', k3', s3', hb3, q3, hr, bld_pt0, heqp, hrz, ino_rk, ino_rl, hb2, hb3, g3, g2]
        refine (rmay_any x.r _ ok.r).mono ?_
        rintro _ w3 ⟨rfl, c3⟩
        rw [mayR_eq _ ok.r]
        simp [go_sem]
        exact hR _ _ ⟨by rw [hm]; simp [rootB, hrz, h3, h2], c1.trans c3⟩
      · have g2 := eqb_f h2
        simp [go_sem, hs, ha, bld_rino0, heq, hz, ino_k, ino_s, k1', k3', s3', hb3, q3, hr, bld_pt0, heqp, hrz, ino_rk, ino_rl, hb2, hb3, g3, g2]
        exact hR _ _ ⟨by rw [hm]; simp [rootB, hrz, h2], c1⟩
    · have g3 := eqb_f h3
      simp [go_sem, hs, ha, bld_rino0, heq, hz, ino_k, ino_s, k1', k3', s3', hb3, q3, hr, bld_pt0, heqp, hrz, ino_rk, hb3, g3]
      exact hR _ _ ⟨by rw [hm]; simp [rootB, hrz, h3], c1⟩

/-- an inode's bytes -/
def putI (x : In) : List UInt8 := [UInt8.ofNat x.k, 0] ++ (le x.n 2 ++ (le x.s 4 ++ (putP x.r ++ zb 56)))
theorem putI_eq (x : In) : putI x = le x.k 1 ++ (zb 1 ++ (le x.n 2 ++ (le x.s 4 ++ (putP x.r ++ zb 56)))) := rfl
theorem putI_length {x : In} (ok : InOk x) : (putI x).length = 128 := by
  rw [putI_eq]
  simp [le_length, putP_length ok.r, zb_length]
theorem iput_any (x : In) (v : Value) (n : Nat) (l : List UInt8) (w : World) (ok : InOk x) (hn : n ≤ 900000) (hl : l.length = n) (hown : w.ownsRow 0 5 1 v n (bvs l)) :
    Ret Tryz.prog 79 #[.agg (ino x), v] w (Onto w v n l 128 (putI x)) := by
  have hlv := own_block_lt hown
  have hlen := Sl.len (Sl.of_own hown) Tryz.underlying62 3
  have hw1 : IntKind.i64.wrap ((n : Int) + 128) = ((n + 128 : Nat) : Int) := by simp [IntKind.wrap_i64]; omega
  have hs := ino_size ok
  have hr := ino_r ok
  refine v_enter Tryz.func79 Tryz.ntmps79 rfl (by simp) fun R' hR => ?_
  simp [go_sem, hlen, hw1]
  have hb := hp_alloc w (.cells (ino x) 56)
  have hc := (Ch.refl Nw w).alloc (.cells (ino x) 56)
  have hown1 := hown.alloc (.cells (ino x) 56)
  revert hb hc hown1
  generalize w.alloc (.cells (ino x) 56) = w1
  generalize hg : w.heap.size = g
  intro hb hc hown1
  have ck := (cell_blk hb 0).trans ino_k
  have cn := (cell_blk hb 1).trans ino_n
  refine v_draw' [(0, none), (1, none), (2, none), (5, none), (6, none), (3, some [0, 5, 6]), (4, some [5, 6]), (7, some []), (8, none)] (by kernel_rfl) (by kernel_rfl) ?_
  have hc2 := ((Ch.refl Nw w1).alloc (.cells #[.int .u8 x.k, .int .u8 0] 5)).drew
  have cn2 := hc2.cell cn id
  simp [go_sem, ck, cn, cn2]
  have hq : (w1.alloc (.cells #[.int .u8 x.k, .int .u8 0] 5)).drew.heap[w1.heap.size]? = some (.cells #[.int .u8 x.k, .int .u8 0] 5 (0, 0)) := by simp
  have hown2 : (w1.alloc (.cells #[.int .u8 x.k, .int .u8 0] 5)).drew.ownsRow 0 5 1 v n (bvs l) := hown1.alloc _
  have hb2 := hc2.hp hb id
  have hc02 := hc.trans hc2
  revert hq hown2 hb2 hc02
  generalize (w1.alloc (.cells #[.int .u8 x.k, .int .u8 0] 5)).drew = w2
  intro hq hown2 hb2 hc02
  have hkl : [Value.int .u8 x.k, .int .u8 0] = bvs [UInt8.ofNat x.k, 0] := by
    have h1 := ok.k
    simp [bvs, bv_ofNat, bv]
    omega
  refine VB_appn tyB hown2 (y := .slice (some ⟨w1.heap.size, 0, none⟩) 2 2) (m := 2) (ys := bvs [UInt8.ofNat x.k, 0]) (Sl.of_blk hq (Nat.le_refl _) (by decide) (by rw [← hkl]; rfl)) rfl (bvs_one _) (by unfold maxLen; omega) (by omega) fun v3 w3 k4 k5 k6 => ?_
  have o3 : Onto w2 v n l 2 [UInt8.ofNat x.k, 0] v3 w3 := ⟨by rw [bvs_append]; exact k4, k5, k6⟩
  have keep : ∀ {v' w' m ys}, Onto w2 v n l m ys v' w' → w'.heap[g]? = some (.cells (ino x) 56 (0, 0)) := fun h => h.2.1.hp hb2 fun e => by have := hlv _ e; omega
  have cn3 := (cell_blk (keep o3) 1).trans ino_n
  simp [go_sem, cn3]
  refine (wu16 v3 (n + 2) (l ++ [UInt8.ofNat x.k, 0]) x.n w3 ok.n (by omega) o3.1).mono ?_
  intro v4 w4 q4
  have o4 := o3.trans q4
  have b4 := keep o4
  simp [go_sem]
  refine v_draw' [(0, none), (1, none), (2, none), (4, none), (5, none), (7, none), (3, some [4, 5, 7]), (6, some [7]), (8, some []), (9, none)] (by kernel_rfl) (by kernel_rfl) ?_
  have cf4 := (cell_blk b4 2).trans ino_s
  simp [go_sem, cf4, b4, hs, hr]
  refine (wu32 v4 _ _ x.s w4.drew ok.s (by omega) o4.1).mono ?_
  intro v5 w5 q5
  have o5 := o4.trans (Onto.from (Ch.refl Nw w4).drew q5)
  have b5 := keep o5
  simp [go_sem, b5, hs, hr]
  have hl5 : (l ++ ([UInt8.ofNat x.k, 0] ++ le x.n 2 ++ le x.s 4)).length = n + (2 + 2 + 4) := by simp [hl, le_length]
  refine (pput_any v5 _ _ x.r w5 ok.r (by omega) hl5 o5.1).mono ?_
  intro v6 w6 q6
  have o6 := o5.trans q6
  simp [go_sem]
  have hl6 : (l ++ ([UInt8.ofNat x.k, 0] ++ le x.n 2 ++ le x.s 4 ++ putP x.r)).length = n + (2 + 2 + 4 + 64) := by simp [hl, le_length, putP_length ok.r]
  refine (fill_any v6 _ _ ((n : Int) + 128) w6 (by omega) (by omega) hl6 o6.1).mono ?_
  intro v9 w9 q9
  have o9 := o6.trans q9
  have e8 : ((n : Int) + 128).toNat - (n + (2 + 2 + 4 + 64)) = 56 := by omega
  rw [e8] at o9
  simp [go_sem]
  refine hR _ _ (Onto.from hc02 ?_)
  have hp : [UInt8.ofNat x.k, 0] ++ le x.n 2 ++ le x.s 4 ++ putP x.r ++ List.replicate 56 0 = putI x := by
    simp only [putI, List.append_assoc]
    rfl
  rw [hp] at o9
  exact o9
end Go.Proofs.YtnefdmbdkljifaaGreatDoor

namespace Go.Proofs.YtnefdmbdkljifaaGreatDoor
open Go.RowKit Go.Kin

def bytesI (xs : List In) : List UInt8 := xs.flatMap putI
theorem bytesI_length : ∀ (xs : List In), (∀ x ∈ xs, InOk x) → (bytesI xs).length = 128 * xs.length
  | [], _ => rfl
  | p :: ps, h => by
    have := bytesI_length ps fun q hq => h q (by simp [hq])
    have hp := putI_length (h p (by simp))
    simp only [bytesI, List.flatMap_cons, List.length_append, List.length_cons] at *
    rw [this, hp]; omega
theorem made_zb (n : Nat) : madeCells (Value.int .u8 0).cells (n * 1) = (bvs (zb n)).toArray := by
  apply Array.ext'
  apply List.ext_getElem?
  intro i
  simp [madeCells, zb, bvs, bv, Value.cells]
  by_cases h : i < n
  · simp [h, Nat.mod_one]
  · simp [h]
theorem mk_zb (n : Nat) (w : World) (hn : n ≤ 1000000) : (Instr.makeSlice 62 (.int .i64 n) (.int .i64 n)).run Tryz.prog w = .ok (.slice (some ⟨w.heap.size, 0, none⟩) n n) (w.alloc (.cells (bvs (zb n)).toArray 5)) := by
  have h1 : (Tryz.prog.info? 5).isSome = true := by kernel_rfl
  obtain ⟨i, hi⟩ := Option.isSome_iff_exists.1 h1
  have h2 : (Tryz.prog.info? 5).map (·.size) = some 1 := by kernel_rfl
  have h3 : (Tryz.prog.info? 5).map (·.bytes) = some 1 := by kernel_rfl
  have h4 : (Tryz.prog.info? 5).bind (·.zero) = some (.int .u8 0) := by kernel_rfl
  rw [hi] at h2 h3 h4
  simp at h2 h3 h4
  have := run_makeSlice (P := Tryz.prog) w 62 5 i _ Tryz.underlying62 hi h4 .i64 .i64 n n (by omega) (Int.le_refl _) (by rw [h2]; omega) (by rw [h3]; omega) (by omega)
  rw [this, h2]
  simp only [Int.toNat_natCast, made_zb]
theorem bytes_ibz : bytesI ibz = zb 512 := by decide +kernel
theorem may_inz : mayI inz = true := by decide
theorem may_ibz : ibz.all mayI = true := by decide
/-- what Put answers -/
def IPut (xs : List In) (w : World) (v' : Value) (w' : World) : Prop :=
  ∃ s e, v' = .tuple #[s, .int .i64 e] ∧ Ch Nw w w' ∧ ((e = 0 ∧ xs.all mayI = true ∧ Sl w' s (bytesI xs).length (bvs (bytesI xs))) ∨ (e = 5 ∧ xs.all mayI = false ∧ s = .slice none 0 0))
theorem ibput_any (xs : List In) (w : World) (ok : IbOk xs) (hw : Lw w) : Ret Tryz.prog 50 #[.agg (ib xs)] w (IPut xs w) := by
  refine v_enter Tryz.func50 Tryz.ntmps50 rfl (by simp) fun R' hR => ?_
  have hsz := ib_size ok
  have hall := ib_all ok
  have hc := (Ch.refl Nw w).alloc (.cells (ib xs) 100)
  have heq := fun w => eq_ib w ok ibz_ok
  by_cases hz : xs = ibz
  · subst hz
    have hmk := mk_zb 512 (w.alloc (.cells (ib ibz) 100)) (by decide)
    have z512 : ((512 : Nat) : Int) = 512 := rfl
    rw [z512] at hmk
    have bM := hp_alloc (w.alloc (.cells (ib ibz) 100)) (.cells (bvs (zb 512)).toArray 5)
    have hsl := Sl.of_blk bM (n := 512) (c := 512) (off := 0) (xs := bvs (zb 512)) (Nat.le_refl _) (by decide) (by simp only [List.drop_zero]; rw [List.take_of_length_le (by simp [bvs_length, zb_length])])
    simp [go_sem, hsz, hall, bld_ib0, heq]
    rw [hmk]
    simp [go_sem]
    refine hR _ _ ⟨_, 0, rfl, hc.alloc _, .inl ⟨rfl, may_ibz, ?_⟩⟩
    rw [bytes_ibz, zb_length]
    simpa using hsl
  simp [go_sem, hsz, hall, bld_ib0, heq, hz]
  revert hc
  generalize w.alloc (.cells (ib xs) 100) = w1
  intro hc
  refine v_loop (fun r f wr => ∃ k, k ≤ 4 ∧ r = 4 - k ∧ f 11 = .agg (ib xs) ∧ f 12 = .int .i64 k ∧ (xs.take k).all mayI = true ∧ Mine 5 w (f 4) (128 * k) (bvs (bytesI (xs.take k))) wr) 4
    ⟨0, by omega, rfl, by simp, by simp, by simp, by simpa [bytesI, bvs] using Mine.nil _ hc⟩ ?_
  rintro J hJ _ f wr ⟨k, hk, rfl, h11, h12, ha, hm⟩
  by_cases hk4 : k < 4
  · have hki : (k : Int) < 4 := by omega
    obtain ⟨x, hx, okx⟩ := ok.at' hk4
    have hix := ib_index ok hk4 hx
    have hs1 := ino_size okx
    have ha1 := ino_all okx
    have hwk : IntKind.i64.wrap ((k : Int) + 1) = ((k + 1 : Nat) : Int) := by simp [IntKind.wrap_i64]; omega
    have htk : xs.take (k + 1) = xs.take k ++ [x] := by rw [List.take_add_one, hx]; rfl
    have htl : (bytesI (xs.take k)).length = 128 * k := by
      rw [bytesI_length _ fun q hq => ok.all q (List.mem_of_mem_take hq), List.length_take, ok.len, Nat.min_eq_left hk]
    have hm1 := hm.step ((Ch.refl Nw wr).alloc (.cells (ino x) 56))
    have hb1 := hp_alloc wr (.cells (ino x) 56)
    simp [go_sem, h11, h12, hki, hix, hz_ino, zc_ino, ino_size inz_ok, hs1, ha1, blit_whole]
    revert hm1 hb1
    generalize wr.alloc (.cells (ino x) 56) = w2
    generalize wr.heap.size = g
    intro hm1 hb1
    refine (imay_any x w2 okx (hw.ch hm1.ch id)).mono ?_
    rintro _ w3 ⟨rfl, c3⟩
    have hm2 := hm1.step c3
    have hb2 := c3.hp hb1 id
    cases hmay : mayI x
    · simp [go_sem]
      refine hR _ _ ⟨_, 5, rfl, hm2.ch, .inr ⟨rfl, ?_, rfl⟩⟩
      rw [List.all_eq_false]
      exact ⟨x, List.mem_of_getElem? hx, by simp [hmay]⟩
    · simp [go_sem, hb2, hs1, ha1]
      refine (iput_any x (f 4) (128 * k) (bytesI (xs.take k)) w3 okx (by omega) htl hm2.own).mono ?_
      intro v3 w4 q
      have hm3 := hm2.grow q.1 q.2.1 q.2.2
      simp [go_sem, h11, h12, hwk]
      refine Rnd.intro (4 - (k + 1)) (by omega) (hJ _ _ _ ⟨k + 1, by omega, rfl, by simp [h11], by simp, ?_, ?_⟩)
      · rw [htk, List.all_append, ha]
        simp [hmay]
      · rw [htk]
        simpa [bytesI, Nat.mul_add] using hm3
  · obtain rfl : k = 4 := by omega
    rw [List.take_of_length_le (by rw [ok.len]; omega)] at ha hm
    simp [go_sem, h12]
    refine hR _ _ ⟨_, 0, rfl, hm.ch, .inl ⟨rfl, ha, ?_⟩⟩
    rw [bytesI_length _ ok.all, ok.len]
    exact hm.sl
def leafN (k : Nat) : Nat := if k = 1 then 1 else if k = 2 ∨ k = 3 then 2 else 0
end Go.Proofs.YtnefdmbdkljifaaGreatDoor
