/- What package anchor's Take answers, as a contract on the call, and the plain law of its bytes. No condition but that the values are of their types. -/
import Derived.Test.YtmhnlgndgdmebaaAncB
namespace Go.Proofs.Ytmhnlgndgdmebaa
open Go.RowKit Go.Kin

theorem le_fromLe (l : List UInt8) : le (fromLe l) l.length = l := by
  induction l with
  | nil => rfl
  | cons c l ih =>
    simp only [fromLe, List.length_cons, le]
    have hc : c.toNat < 256 := c.toNat_lt
    rw [show (c.toNat + 256 * fromLe l) / 256 = fromLe l by omega, ih]
    congr 1
    apply UInt8.toNat_inj.1
    rw [UInt8.toNat_ofNat']
    omega
theorem fromLe_of_le (n k : Nat) : fromLe (le n k) = n % 256 ^ k := by
  induction k generalizing n with
  | zero => simp [le, fromLe, Nat.mod_one]
  | succ k ih =>
    simp only [le, fromLe, ih, UInt8.toNat_ofNat']
    rw [show 256 ^ (k + 1) = 256 * 256 ^ k by rw [Nat.pow_succ, Nat.mul_comm], Nat.mod_mul]
/-- what bytes say of an anchor -/
def takeN (b : List UInt8) : Nat := fromLe (b.take 8)
def takeH (b : List UInt8) : List UInt8 := (b.drop 8).take 32
def takeA (b : List UInt8) : List Nat := [fromLe ((b.drop 40).take 2), fromLe ((b.drop 42).take 2), fromLe ((b.drop 44).take 2), fromLe ((b.drop 46).take 2)]
theorem take_ok {b : List UInt8} (hb : b.length = 64) : AncOk (takeN b) (takeH b) (takeA b) := by
  have h2 : ∀ k, k ≤ 62 → fromLe ((b.drop k).take 2) < 65536 := fun k hk => by
    have := fromLe_lt ((b.drop k).take 2)
    rw [List.length_take, List.length_drop, hb, show min 2 (64 - k) = 2 by omega] at this
    exact this
  refine ⟨?_, by simp [takeH, hb], rfl, fun i x hx => ?_⟩
  · have := fromLe_lt (b.take 8)
    rw [List.length_take, hb] at this
    exact this
  · match i, hx with
    | 0, hx => cases hx; exact h2 40 (by omega)
    | 1, hx => cases hx; exact h2 42 (by omega)
    | 2, hx => cases hx; exact h2 44 (by omega)
    | 3, hx => cases hx; exact h2 46 (by omega)
    | i + 4, hx => simp [takeA] at hx
theorem put_take {b : List UInt8} (hb : b.length = 64) : putB (takeN b) (takeH b) (takeA b) = b.take 48 ++ zb 16 := by
  have e : ∀ k m, k + m ≤ 64 → le (fromLe ((b.drop k).take m)) m = (b.drop k).take m := fun k m hk => by
    have := le_fromLe ((b.drop k).take m)
    rwa [List.length_take, List.length_drop, hb, show min m (64 - k) = m by omega] at this
  have e0 : le (fromLe (b.take 8)) 8 = b.take 8 := by simpa using e 0 8 (by omega)
  have s : ∀ i j, (b.drop i).take j ++ (b.drop (i + j)).take (48 - (i + j)) = (b.drop i).take (j + (48 - (i + j))) := fun i j => by
    rw [List.take_add, List.drop_drop]
  have h48 : b.take 48 = b.take 8 ++ ((b.drop 8).take 32 ++ ((b.drop 40).take 2 ++ ((b.drop 42).take 2 ++ ((b.drop 44).take 2 ++ (b.drop 46).take 2)))) := by
    rw [s 44 2, s 42 2, s 40 2, s 8 32, show b.take 8 = (b.drop 0).take 8 by simp, s 0 8]
    simp
  simp only [putB, takeN, takeH, takeA, e0, List.flatMap_cons, List.flatMap_nil, e 40 2 (by omega), e 42 2 (by omega), e 44 2 (by omega), e 46 2 (by omega), h48, List.append_assoc, List.append_nil]
  rfl
theorem take_put {n : Nat} {h : List UInt8} {a : List Nat} (ok : AncOk n h a) : takeN (putB n h a) = n ∧ takeH (putB n h a) = h ∧ takeA (putB n h a) = a := by
  obtain ⟨hn, hh, ha, hlt⟩ := ok
  obtain ⟨a0, a1, a2, a3, rfl⟩ : ∃ a0 a1 a2 a3, a = [a0, a1, a2, a3] := by
    match a, ha with
    | [a0, a1, a2, a3], _ => exact ⟨a0, a1, a2, a3, rfl⟩
  have l0 := hlt 0 a0 rfl
  have l1 := hlt 1 a1 rfl
  have l2 := hlt 2 a2 rfl
  have l3 := hlt 3 a3 rfl
  have d8 : ∀ r, (le n 8 ++ r).drop 8 = r := fun r => by rw [List.drop_left' (le_length n 8)]
  have d2 : ∀ x r, (le x 2 ++ r).drop 2 = r := fun x r => by rw [List.drop_left' (le_length x 2)]
  have d32 : ∀ r, (h ++ r).drop 32 = r := fun r => by rw [List.drop_left' hh]
  have t2 : ∀ x r, (le x 2 ++ r).take 2 = le x 2 := fun x r => by rw [List.take_left' (le_length x 2)]
  have q8 : (putB n h [a0, a1, a2, a3]).drop 8 = h ++ ([a0, a1, a2, a3].flatMap (fun x => le x 2) ++ List.replicate 16 0) := by rw [putB, d8]
  have q40 : (putB n h [a0, a1, a2, a3]).drop 40 = le a0 2 ++ (le a1 2 ++ (le a2 2 ++ (le a3 2 ++ List.replicate 16 0))) := by
    rw [show 40 = 8 + 32 by rfl, ← List.drop_drop, q8, d32]; simp
  have q42 : (putB n h [a0, a1, a2, a3]).drop 42 = le a1 2 ++ (le a2 2 ++ (le a3 2 ++ List.replicate 16 0)) := by
    rw [show 42 = 40 + 2 by rfl, ← List.drop_drop, q40, d2]
  have q44 : (putB n h [a0, a1, a2, a3]).drop 44 = le a2 2 ++ (le a3 2 ++ List.replicate 16 0) := by
    rw [show 44 = 42 + 2 by rfl, ← List.drop_drop, q42, d2]
  have q46 : (putB n h [a0, a1, a2, a3]).drop 46 = le a3 2 ++ List.replicate 16 0 := by
    rw [show 46 = 44 + 2 by rfl, ← List.drop_drop, q44, d2]
  refine ⟨?_, ?_, ?_⟩
  · rw [takeN, putB, List.take_left' (le_length n 8), fromLe_of_le]; omega
  · rw [takeH, q8, List.take_left' hh]
  · simp only [takeA, q40, q42, q44, q46, t2, fromLe_of_le]
    simp
    omega
/-- may these bytes be an anchor's? -/
def ancMay (b : List UInt8) : Bool := decide (b.drop 48 = zb 16)
theorem put_take_iff {b : List UInt8} (hb : b.length = 64) : putB (takeN b) (takeH b) (takeA b) = b ↔ b.drop 48 = zb 16 := by
  rw [put_take hb]
  constructor
  · intro h
    have := congrArg (List.drop 48) h
    rw [List.drop_left' (by simp [hb])] at this
    exact this.symm
  · intro h
    rw [← h, List.take_append_drop]
theorem may_put {n : Nat} {h : List UInt8} {a : List Nat} (ok : AncOk n h a) : ancMay (putB n h a) = true := by
  have hL := putB_length (n := n) ok.hh ok.ha
  obtain ⟨h1, h2, h3⟩ := take_put ok
  have := (put_take_iff hL).1 (by rw [h1, h2, h3])
  simpa [ancMay] using this
/-- what Take answers -/
def takeV (b : List UInt8) : Value := .tuple #[if ancMay b then .agg (anc (takeN b) (takeH b) (takeA b)) else .agg (anc 0 (zb 32) (zn 4)), .int .i64 (if ancMay b then 0 else 5)]

/- cells that are stored in an anchor -/
section
variable {n : Nat} {h : List UInt8} {a : List Nat}
theorem blit_anc_n (n' : Nat) : blit (anc n h a) 0 #[.int .u64 n'] = anc n' h a := by simp [blit, anc]
theorem blit_anc_h {h' : List UInt8} (hh : h.length = 32) (hh' : h'.length = 32) : blit (anc n h a) 1 (bvs h').toArray = anc n h' a := by
  simp [blit, anc, hh', bvs_length, hh]
theorem blit_anc_a {a' : List Nat} (hh : h.length = 32) (ha : a.length = 4) (ha' : a'.length = 4) : blit (anc n h a) 33 (u16s a').toArray = anc n h a' := by
  simp [blit, anc, bvs_length, u16s_length, hh, ha']
  omega
theorem set_anc_h (i : Nat) (c : UInt8) (hi : i < h.length) : (anc n h a).setIfInBounds (1 + i) (.int .u8 c.toNat) = anc n (h.set i c) a := by
  apply Array.ext'
  simp [anc, Nat.add_comm 1 i, List.set_append_left, hi, bvs, List.map_set, bv]
theorem set_anc_a (hh : h.length = 32) (i x : Nat) : (anc n h a).setIfInBounds (33 + i) (.int .u16 x) = anc n h (a.set i x) := by
  apply Array.ext'
  simp [anc, show 33 + i = (32 + i) + 1 by omega, List.set_append_right, bvs_length, hh, u16s, List.map_set, u16v]
end
theorem zn_length' (n : Nat) : (zn n).length = n := List.length_replicate
theorem bld_anc0 {w : World} {K : Value → World → Prop} : VBld Try.prog 29 [] w K = K (.agg (anc 0 (zb 32) (zn 4))) w :=
  VBld_struct Try.underlying29 hz_anc (places := #[(0, 1), (1, 32), (33, 4)]) (by simp [go_sem]) (by simp [fillB, zc_anc])
theorem bld_anc1 (n : Nat) {w : World} {K : Value → World → Prop} : VBld Try.prog 29 [(0, .int .u64 n)] w K = K (.agg (anc n (zb 32) (zn 4))) w :=
  VBld_struct Try.underlying29 hz_anc (places := #[(0, 1), (1, 32), (33, 4)]) (by simp [go_sem]) (by simp [fillB, zc_anc, Value.cells, anc_size (zb_length 32) (zn_length 4), blit_anc_n])
theorem bld_anc3 (n : Nat) (h : List UInt8) (a : List Nat) (hh : h.length = 32) (ha : a.length = 4) {w : World} {K : Value → World → Prop} :
    VBld Try.prog 29 [(0, .int .u64 n), (1, .agg (bvs h).toArray), (2, .agg (u16s a).toArray)] w K = K (.agg (anc n h a)) w :=
  VBld_struct Try.underlying29 hz_anc (places := #[(0, 1), (1, 32), (33, 4)]) (by simp [go_sem])
    (by simp [fillB, zc_anc, Value.cells, anc_size (zb_length 32) (zn_length 4), anc_size hh (zn_length 4), blit_anc_n, blit_anc_h (zb_length 32) hh, blit_anc_a hh (zn_length 4) ha, bvs_length, u16s_length, hh, ha])
theorem bld_anc2 (n : Nat) (a : List Nat) (ha : a.length = 4) {w : World} {K : Value → World → Prop} :
    VBld Try.prog 29 [(0, .int .u64 n), (2, .agg (u16s a).toArray)] w K = K (.agg (anc n (zb 32) a)) w :=
  VBld_struct Try.underlying29 hz_anc (places := #[(0, 1), (1, 32), (33, 4)]) (by simp [go_sem])
    (by simp [fillB, zc_anc, Value.cells, anc_size (zb_length 32) (zn_length 4), blit_anc_n, blit_anc_a (zb_length 32) (zn_length 4) ha, u16s_length, ha])

theorem hz_hash : (Try.prog.info? 23).map (fun i => i.zero.isSome) = some true := by kernel_rfl
theorem eq_b64 (w : World) (xs ys : List UInt8) (hx : xs.length = 64) (hy : ys.length = 64) : (Op.equalIn 10000 28 (.agg (bvs xs).toArray) (.agg (bvs ys).toArray)).run Try.prog w = .ok (decide (xs = ys)) w :=
  run_equalIn_bvs w 9998 _ _ 64 Try.underlying28 Try.underlying5 Try.sizeOf5 Try.isAgg5 xs ys hx hy

theorem atake_any (b : List UInt8) (w : World) (hb : b.length = 64) :
    Ret Try.prog 11 #[.agg (bvs b).toArray] w fun v' w' => v' = takeV b ∧ Ch Nw w w' := by
  have ok := take_ok hb
  refine v_enter Try.func11 Try.ntmps11 rfl (by simp) fun R' hR => ?_
  simp [go_sem, hz_anc, zc_anc]
  have hb1 : ((w.alloc (.cells (bvs b).toArray 28)).alloc (.cells (anc 0 (zb 32) (zn 4)) 29)).heap[w.heap.size]? = some (.cells (bvs b).toArray 28) := by simp
  have hb2 : ((w.alloc (.cells (bvs b).toArray 28)).alloc (.cells (anc 0 (zb 32) (zn 4)) 29)).heap[w.heap.size + 1]? = some (.cells (anc 0 (zb 32) (zn 4)) 29) := by simp
  have hc1 : Ch Nw w ((w.alloc (.cells (bvs b).toArray 28)).alloc (.cells (anc 0 (zb 32) (zn 4)) 29)) := ((Ch.refl Nw w).alloc _).alloc _
  have hz1 : w.heap.size + 2 = ((w.alloc (.cells (bvs b).toArray 28)).alloc (.cells (anc 0 (zb 32) (zn 4)) 29)).heap.size := by simp
  revert hb1 hb2 hc1 hz1
  generalize (w.alloc (.cells (bvs b).toArray 28)).alloc (.cells (anc 0 (zb 32) (zn 4)) 29) = w1
  generalize hg : w.heap.size = g
  intro hb1 hb2 hc1 hz1
  have hs : Sl w1 (.slice (some ⟨g, 0, none⟩) 64 64) b.length (bvs b) := by
    rw [hb]
    exact Sl.of_blk hb1 (Nat.le_refl _) (by decide) (by simp [hb])
  refine (new_any _ b w1 (by omega) hs).mono ?_
  rintro v2 w2 ⟨gr, o, rfl, k1, k1o, k1z, k2, k3⟩
  simp [go_sem]
  refine (ru64 gr b 0 w2 (by omega) k2).mono ?_
  rintro v3 w3 ⟨rfl, k4, k5⟩
  have r1 : rawS b 0 8 = (b.take 8, b.drop 8, 0) := by simp [rawS, hb]
  rw [r1] at k4
  have hN : fromLe (b.take 8) = takeN b := rfl
  simp [go_sem, r1, hN, bld_anc1, hz_anc, zc_anc, anc_size (zb_length 32) (zn_length 4), blit_whole]
  have hc3 : Ch Nw w1 w3 := k3.trans' k5 fun j hj e => by simp only [only] at e; omega
  have hr4 : Rdr (w3.alloc (.cells (anc (takeN b) (zb 32) (zn 4)) 29)) gr o (b.drop 8) 0 := k4.ch ((Ch.refl Nw w3).alloc _) id id
  have hb5 : (w3.alloc (.cells (anc (takeN b) (zb 32) (zn 4)) 29)).heap[w3.heap.size]? = some (.cells (anc (takeN b) (zb 32) (zn 4)) 29) := by simp
  have hc4 := hc3.alloc (.cells (anc (takeN b) (zb 32) (zn 4)) 29)
  have hgr : gr < w3.heap.size := k4.lt
  have ho3 : o < w3.heap.size := Nat.lt_of_lt_of_le k1z k5.size
  have hz3 := hc3.size
  have hsz4 : (w3.alloc (.cells (anc (takeN b) (zb 32) (zn 4)) 29)).heap.size = w3.heap.size + 1 := by simp
  revert hr4 hb5 hc4 hsz4
  generalize w3.alloc (.cells (anc (takeN b) (zb 32) (zn 4)) 29) = w4
  generalize w3.heap.size = g5 at *
  intro hr4 hb5 hc4 hsz4
  refine (raw_any gr (b.drop 8) 0 32 w4 (by decide) (by simp; omega) hr4).mono ?_
  have r2 : rawS (b.drop 8) 0 (32 : Int).toNat = (takeH b, b.drop 40, 0) := by simp [rawS, hb, takeH]
  rw [r2]
  rintro v5 w5 ⟨d1, d2, d3, d4⟩
  simp only [show (takeH b).length = 32 from ok.hh] at d1
  obtain ⟨g6, cap6, cur6, rfl, hb6, e1, e2, e3, e4⟩ := own_blk d1 (by omega)
  have hb5' := d4.hp hb5 (by simp only [only]; omega)
  have hb2' := d4.hp (hc4.hp hb2 id) (by simp only [only]; omega)
  have harr : ∀ w, (Instr.arrayAt 23 (.slice (some ⟨g6, 0, none⟩) 32 cap6)).run Try.prog w = .ok (.pointer (some ⟨g6, 0, none⟩)) w := fun w => run_arrayAt w _ _ _ _ _ _ Try.underlying23 (by omega)
  have hHl : (takeH b).length = 32 := ok.hh
  simp [go_sem, harr, hb6, e3, e4, hb5', bvs_length, hHl, anc_size (zb_length 32) (zn_length 4), blit_anc_h (zb_length 32) hHl]
  have hq6 := (Ch.refl (only g5) w5).setRow (.inl rfl) (anc (takeN b) (takeH b) (zn 4))
  have hr6 : Rdr (w5.setRow g5 (anc (takeN b) (takeH b) (zn 4))) gr o (b.drop 40) 0 := d3.ch hq6 (by simp only [only]; omega) (by simp only [only]; omega)
  have hc6 : Ch Nw w1 (w5.setRow g5 (anc (takeN b) (takeH b) (zn 4))) := (hc4.trans' d4 (fun j hj e => by simp only [only] at e; omega)).setRow (.inr hz3) _
  have hb6' : (w5.setRow g5 (anc (takeN b) (takeH b) (zn 4))).heap[g5]? = some (.cells (anc (takeN b) (takeH b) (zn 4)) 29) := by rw [hp_setRow, hb5']; rfl
  refine v_loop (fun r f wr => ∃ k, k ≤ 4 ∧ r = 4 - k ∧ f 1 = .pointer (some ⟨g, 0, none⟩) ∧ f 2 = .pointer (some ⟨g + 1, 0, none⟩) ∧ f 4 = .pointer (some ⟨gr, 0, none⟩) ∧ f 5 = .pointer (some ⟨g5, 0, none⟩) ∧ f 17 = .int .i64 k ∧
    Rdr wr gr o (b.drop (40 + 2 * k)) 0 ∧ Ch Nw w1 wr ∧ wr.heap[g5]? = some (.cells (anc (takeN b) (takeH b) ((takeA b).take k ++ zn (4 - k))) 29)) 4
    ⟨0, by omega, rfl, by simp, by simp, by simp, by simp, by simp, hr6, hc6, by simpa using hb6'⟩ ?_
  clear hr6 hc6 hb6' hq6 hb5' hb2' hb6 e1 e2 e3 e4 d1 d2 d3 d4 harr hr4 hb5 hc4
  rintro J hJ _ f wr ⟨k, hk, rfl, h1, h2, h4, h5, h17, hr, hc, hb5⟩
  by_cases hk4 : k < 4
  · have hki : (k : Int) < 4 := by omega
    simp [go_sem, h4, h17, hki]
    refine (ru16 gr _ 0 wr (by simp; omega) hr).mono ?_
    have r3 : rawS (b.drop (40 + 2 * k)) 0 2 = ((b.drop (40 + 2 * k)).take 2, b.drop (40 + 2 * (k + 1)), 0) := by
      simp [rawS, hb, show ¬ 64 - (40 + 2 * k) < 2 by omega, Nat.mul_add, Nat.add_assoc]
    rw [r3]
    rintro _ w7 ⟨rfl, d1, d2⟩
    have hb5' := d2.hp hb5 (by simp only [only]; omega)
    have hcell := fun i => cell_blk hb5' i
    have hfz := fun i => frz_blk hb5' i
    have hAl : (takeA b).length = 4 := rfl
    have hin : (anc (takeN b) (takeH b) ((takeA b).take k ++ zn (4 - k)))[33 + k]? = some (.int .u16 (0 : Nat)) := by
      refine anc_a_at hHl k 0 ?_
      rw [List.getElem?_append_right (by rw [List.length_take]; omega), List.length_take, zn, List.getElem?_replicate, if_pos (by omega)]
    simp [go_sem, h5, h17, hki, hcell, hfz, hin]
    have hq7 := (Ch.refl (only g5) w7).setCell (p := ⟨g5, 33 + k, none⟩) (.inl rfl) (.int .u16 (fromLe ((b.drop (40 + 2 * k)).take 2) : Nat))
    refine Rnd.intro (4 - (k + 1)) (by omega) (hJ _ _ _ ⟨k + 1, by omega, rfl, by simpa using h1, by simpa using h2, by simpa using h4, by simpa using h5, by simp [IntKind.wrap_i64]; omega,
      d1.ch hq7 (by simp only [only]; omega) (by simp only [only]; omega), (hc.trans' d2 (fun j hj e => by simp only [only] at e; omega)).setCell (.inr hz3) _, ?_⟩)
    rw [hp_setCell, hb5', setOf_cells, set_anc_a hHl]
    congr 3
    have hx : (takeA b)[k]? = some (fromLe ((b.drop (40 + 2 * k)).take 2)) := by
      match k, hk4 with
      | 0, _ => rfl
      | 1, _ => rfl
      | 2, _ => rfl
      | 3, _ => rfl
    rw [List.set_append_right _ _ (by rw [List.length_take]; omega), List.length_take, hAl, show k - min k 4 = 0 by omega, show (takeA b).take (k + 1) = (takeA b).take k ++ (takeA b)[k]?.toList from List.take_add_one, hx, zn, show 4 - k = (4 - (k + 1)) + 1 by omega, List.replicate_succ, List.set_cons_zero]
    simp [zn]
  · obtain rfl : k = 4 := by omega
    rw [List.take_of_length_le (by simp [takeA])] at hb5
    simp only [Nat.sub_self, zn, List.replicate_zero, List.append_nil] at hb5
    have hAl : (takeA b).length = 4 := rfl
    simp [go_sem, h17]
    refine v_draw' [(0, none), (2, none), (1, some [2]), (3, none)] (by kernel_rfl) (by kernel_rfl) ?_
    have hall := anc_all (n := takeN b) hHl hAl
    have hsz := anc_size (n := takeN b) hHl hAl
    have hbr := hc.hp hb1 id
    simp [go_sem, h1, h5, hb5, hall, hsz, hbr, bvs_length, hb]
    refine (put_any _ _ _ wr.drew ok).mono ?_
    rintro _ w7 ⟨rfl, d1⟩
    have d1 := d1.of_drew
    have hb5' := d1.hp hb5 id
    have hbr' := d1.hp hbr id
    have hb2' := (hc.trans d1).hp hb2 id
    have hL := putB_length (n := takeN b) hHl hAl
    have heq := fun w => eq_b64 w (putB (takeN b) (takeH b) (takeA b)) b hL hb
    have hiff := put_take_iff hb
    simp [go_sem, h1, hbr', bvs_length, hb, heq]
    by_cases hm : b.drop 48 = zb 16
    · have hm' := hiff.2 hm
      simp [hm', h2, h5, hb5', hb2', hsz, hall, anc_size (zb_length 32) (zn_length 4), blit_whole, go_sem]
      refine hR _ _ ⟨?_, (hc1.trans (hc.trans d1)).setRow (.inr (by omega)) _⟩
      simp [takeV, ancMay, hm]
    · have hm' : ¬ putB (takeN b) (takeH b) (takeA b) = b := fun h => hm (hiff.1 h)
      simp [hm', h2, hb2', anc_size (zb_length 32) (zn_length 4), blit_whole, go_sem, bld_anc0, anc_all (n := 0) (zb_length 32) (zn_length 4)]
      refine hR _ _ ⟨?_, (hc1.trans (hc.trans d1)).setRow (.inr (by omega)) _⟩
      simp [takeV, ancMay, hm]
end Go.Proofs.Ytmhnlgndgdmebaa
