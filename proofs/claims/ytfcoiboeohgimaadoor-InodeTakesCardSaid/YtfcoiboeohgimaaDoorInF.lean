/- What the document's Take of inodes answers, as a contract on the call. No condition but on sizes. -/
import Derived.Test.YtfcoiboeohgimaaDoorInL
import Derived.Test.YtfcoiboeohgimaaDoorBsl
namespace Go.Proofs.YtfcoiboeohgimaaDoor
open Go.RowKit Go.Kin

theorem tyIn : TyS Tryd.prog 59 51 (.agg (ino inz)) 44 64 := ⟨Tryd.underlying59, by kernel_rfl, rfl, by decide⟩
theorem bsl_rino {x : In} (ok : InOk x) (w : World) : (Instr.buildSlice 59 1 #[(0, .agg (ino x))]).run Tryd.prog w = .ok (.slice (some ⟨w.heap.size, 0, none⟩) 1 1) (w.alloc (.cells (ino x) 51)) :=
  run_buildSlice1 Tryd.underlying59 Tryd.sizeOf51 (z := .agg (ino inz)) (by kernel_rfl) (ino_size ok) (by decide) (by decide) w
/-- what 128 bytes tell of -/
def inOf (b : List UInt8) : In := ⟨fromLe (b.take 1), fromLe ((b.drop 2).take 2), fromLe ((b.drop 4).take 4), (ptS ((b.drop 8).take 64) 0).1⟩
theorem inOf_ok {b : List UInt8} (hb : b.length = 128) : InOk (inOf b) := by
  have c : ∀ k m, k + m ≤ 128 → fromLe ((b.drop k).take m) < 256 ^ m := fun k m h => by
    have := fromLe_lt ((b.drop k).take m)
    rwa [List.length_take, List.length_drop, hb, show min m (128 - k) = m by omega] at this
  exact ⟨by simpa [inOf] using c 0 1 (by omega), c 2 2 (by omega), c 4 4 (by omega), ptS_ok _ _⟩
theorem inOf_put {x : In} (ok : InOk x) (h : okP x.r = true) : inOf (putI x) = x ∧ ptS (((putI x).drop 8).take 64) 0 = (x.r, [], 0) := by
  have hP := putP_length ok.r
  have q1 : (putI x).drop 1 = zb 1 ++ (le x.n 2 ++ (le x.s 4 ++ (putP x.r ++ zb 56))) := by rw [putI_eq, List.drop_left' (le_length _ _)]
  have q2 : (putI x).drop 2 = le x.n 2 ++ (le x.s 4 ++ (putP x.r ++ zb 56)) := by rw [show 2 = 1 + 1 by rfl, ← List.drop_drop, q1, List.drop_left' (zb_length 1)]
  have q4 : (putI x).drop 4 = le x.s 4 ++ (putP x.r ++ zb 56) := by rw [show 4 = 2 + 2 by rfl, ← List.drop_drop, q2, List.drop_left' (le_length _ _)]
  have q8 : (putI x).drop 8 = putP x.r ++ zb 56 := by rw [show 8 = 4 + 4 by rfl, ← List.drop_drop, q4, List.drop_left' (le_length _ _)]
  have q0 : (putI x).take 1 = le x.k 1 := by rw [putI_eq, List.take_left' (le_length _ _)]
  have qp : ptS (((putI x).drop 8).take 64) 0 = (x.r, [], 0) := by
    rw [q8, List.take_left' hP]
    have := ptS_put ok.r h []
    rwa [List.append_nil] at this
  refine ⟨?_, qp⟩
  have hk := ok.k
  have hn := ok.n
  have hs := ok.s
  unfold inOf
  rw [qp, q0, q2, q4, List.take_left' (le_length _ _), List.take_left' (le_length _ _)]
  simp only [fromLe_of_le, Nat.mod_eq_of_lt (show x.k < 256 ^ 1 by omega), Nat.mod_eq_of_lt (show x.n < 256 ^ 2 by omega), Nat.mod_eq_of_lt (show x.s < 256 ^ 4 by omega)]
theorem bytesI_snoc (xs : List In) (x : In) : bytesI (xs ++ [x]) = bytesI xs ++ putI x := by simp [bytesI]
theorem bytesI_take : ∀ (xs : List In) (k : Nat), (∀ x ∈ xs, InOk x) → (bytesI xs).take (128 * k) = bytesI (xs.take k)
  | [], k, _ => by simp [bytesI]
  | x :: xs, 0, _ => by simp [bytesI]
  | x :: xs, k + 1, h => by
    have hx := putI_length (h x (by simp))
    have ih := bytesI_take xs k fun y hy => h y (by simp [hy])
    simp only [bytesI, List.flatMap_cons, List.take_succ_cons] at *
    rw [List.take_append, hx, show 128 * (k + 1) - 128 = 128 * k by omega, ih, List.take_of_length_le (by omega)]
theorem bytesI_drop : ∀ (xs : List In) (k : Nat), (∀ x ∈ xs, InOk x) → (bytesI xs).drop (128 * k) = bytesI (xs.drop k)
  | [], k, _ => by simp [bytesI]
  | x :: xs, 0, _ => by simp [bytesI]
  | x :: xs, k + 1, h => by
    have hx := putI_length (h x (by simp))
    have ih := bytesI_drop xs k fun y hy => h y (by simp [hy])
    simp only [bytesI, List.flatMap_cons, List.drop_succ_cons] at *
    rw [List.drop_append, hx, show 128 * (k + 1) - 128 = 128 * k by omega, ih, List.drop_of_length_le (by omega)]
    rfl
/-- the bytes of the k-th inode -/
def chunk (l : List UInt8) (k : Nat) : List UInt8 := (l.drop (128 * k)).take 128
theorem chunk_is4 {l : List UInt8} {ys : List In} (h : Is4 l ys) {k : Nat} (hk : k < 4) : ∃ y, ys[k]? = some y ∧ InOk y ∧ mayI y = true ∧ chunk l k = putI y := by
  obtain ⟨h1, h2, rfl⟩ := h
  have hlt : k < ys.length := by rw [h1.len]; exact hk
  refine ⟨ys[k], List.getElem?_eq_getElem hlt, h1.all _ (List.getElem_mem hlt), List.all_eq_true.1 h2 _ (List.getElem_mem hlt), ?_⟩
  have e1 := List.drop_eq_getElem_cons hlt
  rw [chunk, bytesI_drop _ _ h1.all, e1, bytesI, List.flatMap_cons, List.take_left' (putI_length (h1.all _ (List.getElem_mem hlt)))]
/-- what the document's Take answers -/
def RTake (l : List UInt8) (w : World) (v' : Value) (w' : World) : Prop :=
  Ch Nw w w' ∧ ((∃ xs s, Is4 l xs ∧ v' = .tuple #[s, .bool true] ∧ MineS 51 44 w s 4 (rowsL ino xs) w') ∨ ((∀ xs, ¬ Is4 l xs) ∧ v' = .tuple #[.slice none 0 0, .bool false]))
theorem ribtake_any (v : Value) (l : List UInt8) (w : World) (hl : l.length ≤ 1000000) (hs : Sl w v l.length (bvs l)) (hown : ∀ k, v.ownBlock = some k → k < w.heap.size) :
    Ret Tryd.prog 30 #[v] w (RTake l w) := by
  have hlen := hs.len Tryd.underlying30 3
  refine v_enter Tryd.func30 Tryd.ntmps30 rfl (by simp) fun R' hR => ?_
  by_cases h5 : l.length = 512
  case neg =>
    have h5' : ((l.length : Int) != 512) = true := by
      rw [bne, beq_false_of_ne (by omega)]; rfl
    simp [go_sem, hlen, h5']
    refine hR _ _ ⟨Ch.refl _ _, .inr ⟨fun xs h => ?_, rfl⟩⟩
    obtain ⟨h1, _, rfl⟩ := h
    rw [bytesI_length _ h1.all, h1.len] at h5
    exact h5 rfl
  have h5' : ((l.length : Int) != 512) = false := by rw [h5]; rfl
  simp [go_sem, hlen, h5']
  have sx := fun {w : World} {v : Value} {l : List UInt8} {n : Nat} (h : Sl w v n (bvs l)) (hn : l.length = n) => h.str (P := Tryd.prog) hn Tryd.underlying30 Tryd.underlying5 Tryd.underlying9
  have lit : ∀ {w : World} {v : Value} {n : Nat} {xs : List Value}, Sl w v n xs → ∃ A m c, v = .slice A m c := fun h => by
    obtain ⟨A, c, h, _⟩ := id h
    exact ⟨A, _, c, h⟩
  refine v_loop (fun r f wr => ∃ (k : Nat) (xs : List In), k ≤ 4 ∧ r = 4 - k ∧ f 0 = v ∧ f 5 = .int .i64 k ∧ xs.length = k ∧ (∀ x ∈ xs, InOk x) ∧ xs.all mayI = true ∧ bytesI xs = l.take (128 * k) ∧ MineS 51 44 w (f 4) k (rowsL ino xs) wr) 4
    ⟨0, [], by omega, rfl, by simp, by simp, rfl, by simp, rfl, by simp [bytesI], by simpa [rowsL] using MineS.nil _ _ (Ch.refl _ w)⟩ ?_
  rintro J hJ _ f wr ⟨k, xs, hk, rfl, f0, f5, hxl, hxok, hxm, hxb, hm⟩
  by_cases hk4 : k < 4
  · have hki : (k : Int) < 4 := by omega
    have hwk : IntKind.i64.wrap ((k : Int) + 1) = ((k + 1 : Nat) : Int) := by simp [IntKind.wrap_i64]; omega
    have hw1 : IntKind.i64.wrap (128 * (k : Int)) = 128 * (k : Int) := by rw [IntKind.wrap_i64]; omega
    have hw2 : IntKind.i64.wrap (128 * (k : Int) + 128) = 128 * (k : Int) + 128 := by rw [IntKind.wrap_i64]; omega
    have hsr := hs.ch hm.ch fun _ _ e => e
    obtain ⟨v1, hs1, ho1, hr1, _⟩ := hsr.cut tyB (bvs_length l) (128 * k) (128 * k + 128) (by omega) (by omega)
    rw [show ((128 * k : Nat) : Int) = 128 * (k : Int) by omega, show ((128 * k + 128 : Nat) : Int) = 128 * (k : Int) + 128 by omega] at hr1
    have hcb : chunk l k = (l.take (128 * k + 128)).drop (128 * k) := by
      unfold chunk
      rw [List.drop_take, show 128 * k + 128 - 128 * k = 128 by omega]
    have hs1 : Sl wr v1 128 (bvs (chunk l k)) := by
      rw [show 128 * k + 128 - 128 * k = 128 by omega] at hs1
      rw [hcb, bvs, List.map_drop, List.map_take]
      exact hs1
    generalize hB : chunk l k = b at *
    have hb : b.length = 128 := by rw [← hB, chunk, List.length_take, List.length_drop, h5]; omega
    have hget : ∀ i, i < 128 → ∃ c, b[i]? = some c := fun i hi => ⟨_, List.getElem?_eq_getElem (by omega)⟩
    have hat : ∀ {u : World} (i : Nat) (c : UInt8), Ch Nw wr u → b[i]? = some c → ∃ a, (∀ w', (Instr.indexAt 30 v1 (.int .i64 i)).run Tryd.prog w' = .ok (.pointer (some a)) w') ∧ u.cell? a = some (.int .u8 c.toNat) ∧ v1.ownBlock = some a.block := fun i c hu hc =>
      (hs1.ch hu fun _ _ e => e).at tyB (by rw [bvs_length, hb]) (u := .int .u8 c.toNat) (bvs_get hc)
    simp [go_sem, f0, f5, hki, hw1, hw2, hr1]
    refine v_draw' [(0, none), (1, none), (2, none), (3, none), (4, none), (5, none), (6, none), (7, none), (8, none), (9, none), (10, none), (11, none), (12, none), (13, none), (14, some [0, 1, 2, 3, 4, 5, 6, 7, 8, 9, 10, 11, 12, 13]), (15, some [])] (by kernel_rfl) (by kernel_rfl) ?_
    obtain ⟨c0, hc0⟩ := hget 0 (by omega)
    obtain ⟨c2, hc2⟩ := hget 2 (by omega)
    obtain ⟨c3, hc3⟩ := hget 3 (by omega)
    obtain ⟨a0, p0, x0, _⟩ := hat (u := wr) 0 c0 (Ch.refl _ _) hc0
    obtain ⟨a2, p2, x2, _⟩ := hat (u := wr) 2 c2 (Ch.refl _ _) hc2
    obtain ⟨a3, p3, x3, _⟩ := hat (u := wr) 3 c3 (Ch.refl _ _) hc3
    have cA := (Ch.refl Nw wr).alloc (.cells (ino inz) 51)
    have y0 := cA.cell x0 id
    have y2 := cA.cell x2 id
    have y3 := cA.cell x3 id
    replace p0 : ∀ w', (Instr.indexAt 30 v1 (.int .i64 0)).run Tryd.prog w' = .ok (.pointer (some a0)) w' := p0
    replace p2 : ∀ w', (Instr.indexAt 30 v1 (.int .i64 2)).run Tryd.prog w' = .ok (.pointer (some a2)) w' := p2
    replace p3 : ∀ w', (Instr.indexAt 30 v1 (.int .i64 3)).run Tryd.prog w' = .ok (.pointer (some a3)) w' := p3
    have hl0 := c0.toNat_lt
    have hl2 := c2.toNat_lt
    have hl3 := c3.toNat_lt
    have hK : fromLe (b.take 1) = c0.toNat := by
      have : b.take 1 = [c0] := by
        rw [show (1 : Nat) = 0 + 1 from rfl, List.take_add_one, hc0]; rfl
      rw [this]; simp [fromLe]
    have hN : fromLe ((b.drop 2).take 2) = c2.toNat + 256 * c3.toNat := by
      have : (b.drop 2).take 2 = [c2, c3] := by
        rw [show (2 : Nat) = 0 + 1 + 1 from rfl, List.take_add_one, List.take_add_one, List.getElem?_drop, List.getElem?_drop, hc2, hc3]; rfl
      rw [this]; simp [fromLe]
    have u2 : IntKind.u16.wrap (c2.toNat : Int) = c2.toNat := by rw [IntKind.wrap_u16]; omega
    have u3 : IntKind.u16.wrap (c3.toNat : Int) = c3.toNat := by rw [IntKind.wrap_u16]; omega
    have u4 : IntKind.u16.wrap (256 * (c3.toNat : Int)) = 256 * c3.toNat := by rw [IntKind.wrap_u16]; omega
    obtain ⟨vN, hvN⟩ : ∃ x, c2.toNat + 256 * c3.toNat = x := ⟨_, rfl⟩
    have u5 : IntKind.u16.wrap ((c2.toNat : Int) + 256 * c3.toNat) = (vN : Int) := by rw [IntKind.wrap_u16]; omega
    have okn : InOk ⟨c0.toNat, vN, 0, ptz⟩ := ⟨hl0, by show vN < 65536; omega, by show (0 : Nat) < 4294967296; decide, ptz_ok⟩
    have hbn := fun w K => bld_rino2 c0.toNat vN (w := w) (K := K)
    simp [go_sem, p0, p2, p3, x0, x2, x3, y0, y2, y3, u2, u3, u4, u5, hbn, hz_rino, zc_rino, ino_size inz_ok, ino_size okn, blit_whole]
    have cB := ((Ch.refl Nw wr).alloc (.cells (ino ⟨c0.toNat, vN, 0, ptz⟩) 51)).drew
    have bB := hp_alloc wr (.cells (ino ⟨c0.toNat, vN, 0, ptz⟩) 51)
    replace bB : (wr.alloc (.cells (ino ⟨c0.toNat, vN, 0, ptz⟩) 51)).drew.heap[wr.heap.size]? = some (.cells (ino ⟨c0.toNat, vN, 0, ptz⟩) 51 (0, 0)) := bB
    clear y0 y2 y3 x0 x2 x3 p0 p2 p3 cA hbn okn
    revert cB bB
    generalize (wr.alloc (.cells (ino ⟨c0.toNat, vN, 0, ptz⟩) 51)).drew = w1
    generalize hq7 : wr.heap.size = q7
    intro cB bB
    have hvN' : vN < 65536 := by omega
    refine v_loop (fun r f' u => ∃ j, j ≤ 4 ∧ r = 4 - j ∧ f' 0 = v ∧ f' 4 = f 4 ∧ f' 5 = .int .i64 k ∧ f' 6 = v1 ∧ f' 7 = .pointer (some ⟨q7, 0, none⟩) ∧ f' 8 = .int .i64 (7 - (j : Int)) ∧
      Ch (only q7) w1 u ∧ u.heap[q7]? = some (.cells (ino ⟨c0.toNat, vN, fromLe ((b.drop (8 - j)).take j), ptz⟩) 51 (0, 0))) 4
      ⟨0, by omega, rfl, by simp [f0], by simp, by simp [f5], by simp, by simp, by simp, Ch.refl _ _, by simpa [fromLe] using bB⟩ ?_
    rintro J2 hJ2 _ f' u ⟨j, hj, rfl, g0, g4, g5, g6, g7, g8, d1, bj⟩
    by_cases hj4 : j < 4
    · have hji : (4 : Int) ≤ 7 - (j : Int) := by omega
      obtain ⟨c, hc⟩ := hget (7 - j) (by omega)
      have hv1 : ∀ kk, v1.ownBlock = some kk → ¬ only q7 kk := fun kk hkk e => by
        simp only [only] at e
        rw [ho1] at hkk
        have := hown kk hkk
        have := hm.ch.size
        omega
      obtain ⟨aj, pj, xj, _⟩ := ((hs1.ch cB fun _ _ e => e).ch d1 hv1).at tyB (by rw [bvs_length, hb]) (u := .int .u8 c.toNat) (bvs_get hc)
      replace pj : ∀ w', (Instr.indexAt 30 v1 (.int .i64 (7 - (j : Int)))).run Tryd.prog w' = .ok (.pointer (some aj)) w' := by
        rw [show ((7 - j : Nat) : Int) = 7 - (j : Int) by omega] at pj
        exact pj
      have hcl := c.toNat_lt
      have hlt := fromLe_lt ((b.drop (8 - j)).take j)
      have hlt' : fromLe ((b.drop (8 - j)).take j) < 16777216 := by
        rw [List.length_take, List.length_drop, hb, show min j (128 - (8 - j)) = j by omega] at hlt
        exact Nat.lt_of_lt_of_le hlt (Nat.pow_le_pow_right (by omega) (show j ≤ 3 by omega))
      have e2 := (cell_blk bj 2).trans ino_s
      have z2 := fun i => frz_blk bj i
      have s1 : IntKind.u32.wrap ((fromLe ((b.drop (8 - j)).take j) : Int) * 256) = (fromLe ((b.drop (8 - j)).take j) : Int) * 256 := by rw [IntKind.wrap_u32]; omega
      have s2 : IntKind.u32.wrap ((fromLe ((b.drop (8 - j)).take j) : Int) * 256 + c.toNat) = ((c.toNat + 256 * fromLe ((b.drop (8 - j)).take j) : Nat) : Int) := by rw [IntKind.wrap_u32]; omega
      have s3 : IntKind.u32.wrap (c.toNat : Int) = c.toNat := by rw [IntKind.wrap_u32]; omega
      have s4 : IntKind.i64.wrap (7 - (j : Int) - 1) = 7 - ((j + 1 : Nat) : Int) := by rw [IntKind.wrap_i64]; omega
      simp [go_sem, g8, hji]
      refine v_draw' [(0, none), (1, none), (2, none), (3, none), (4, none), (5, none), (6, none), (7, none), (8, none), (9, none), (10, some [])] (by kernel_rfl) (by kernel_rfl) ?_
      simp [go_sem, g6, g7, g8, e2, z2, pj, xj, s1, s2, s3, s4]
      refine Rnd.intro (4 - (j + 1)) (by omega) (hJ2 _ _ _ ⟨j + 1, by omega, rfl, by simpa using g0, by simpa using g4, by simpa using g5, by simpa using g6, by simpa using g7, by simp, (d1.setCell (p := ⟨q7, 2, none⟩) (.inl rfl) _).drew, ?_⟩)
      rw [hp_drew, hp_setCell, bj, setOf_cells]
      have e1 : (b.drop (8 - (j + 1))).take (j + 1) = c :: (b.drop (8 - j)).take j := by
        rw [List.drop_eq_getElem_cons (show 8 - (j + 1) < b.length by omega), List.take_succ_cons, show 8 - (j + 1) + 1 = 8 - j by omega]
        congr 1
        have := List.getElem?_eq_getElem (show 7 - j < b.length by omega)
        rw [hc] at this
        simp only [show 8 - (j + 1) = 7 - j by omega]
        exact (Option.some.inj this).symm
      rw [e1]
      simp only [fromLe]
      have := set_ino_s (x := ⟨c0.toNat, vN, fromLe ((b.drop (8 - j)).take j), ptz⟩) (c.toNat + 256 * fromLe ((b.drop (8 - j)).take j))
      simpa using this
    · obtain rfl : j = 4 := by omega
      obtain ⟨vS, hvS⟩ : ∃ x, fromLe ((b.drop 4).take 4) = x := ⟨_, rfl⟩
      rw [show 8 - 4 = 4 by rfl, hvS] at bj
      have hvS' : vS < 4294967296 := by
        rw [← hvS]
        have := fromLe_lt ((b.drop 4).take 4)
        rwa [List.length_take, List.length_drop, hb, show min 4 (128 - 4) = 4 by omega] at this
      have cU : Ch Nw wr u := cB.trans' d1 fun jj hjj e => by simp only [only] at e; omega
      have hsU := hs1.ch cU fun _ _ e => e
      obtain ⟨v2, hs2, ho2, hr2, _⟩ := hsU.cut tyB (by rw [bvs_length, hb]) 8 72 (by omega) (by omega)
      replace hr2 : ∀ w', (Instr.sliceAt 30 v1 (some (.int .i64 8)) (some (.int .i64 72)) none).run Tryd.prog w' = .ok v2 w' := hr2
      have hb64 : ((b.drop 8).take 64).length = 64 := by simp [hb]
      have hs2 : Sl u v2 ((b.drop 8).take 64).length (bvs ((b.drop 8).take 64)) := by
        rw [hb64, bvs, List.map_take, List.map_drop, List.take_drop]
        exact hs2
      obtain ⟨A2, n2, C2, rfl⟩ := lit hs2
      simp [go_sem, g6, g8, hr2]
      refine (rtake_any _ ((b.drop 8).take 64) 0 (Value.slice A2 n2 C2).ownBlock u (by omega) ⟨_, rfl, hs2, .inl rfl⟩ (fun kk hkk => by
        rw [ho2, ho1] at hkk
        exact Nat.lt_of_lt_of_le (hown kk hkk) (hm.ch.trans cU).size)).mono ?_
      rintro _ u1 ⟨_, rfl, ⟨s3, rfl, hs3, _⟩, cu1⟩
      generalize hP : (ptS ((b.drop 8).take 64) 0).1 = P at *
      generalize hL3 : (ptS ((b.drop 8).take 64) 0).2.1 = L3 at *
      generalize hE3 : (ptS ((b.drop 8).take 64) 0).2.2 = E3 at *
      obtain ⟨A3, n3, C3, rfl⟩ := lit hs3
      have okP : PtOk P := by rw [← hP]; exact ptS_ok _ _
      have bj := cu1.hp bj id
      have hsP := pt_size okP
      have haP := pt_all okP
      have okn : InOk ⟨c0.toNat, vN, vS, ptz⟩ := ⟨hl0, hvN', hvS', ptz_ok⟩
      have okf : InOk ⟨c0.toNat, vN, vS, P⟩ := ⟨hl0, hvN', hvS', okP⟩
      simp [go_sem, hz_pt, zc_pt, pt_size ptz_ok, hsP, blit_whole]
      have cA := ((Ch.refl Nw u1).alloc (.cells (pt ptz) 28)).alloc (.cells #[.slice none 0 0, .int .i64 0] 43)
      have b8 := al2_0 u1 (.cells (pt ptz) 28) (.cells #[.slice none 0 0, .int .i64 0] 43)
      have b9 := al2_1 u1 (.cells (pt ptz) 28) (.cells #[.slice none 0 0, .int .i64 0] 43)
      have hq7u := lt_of_block bj
      have bj := cA.hp bj id
      have cc := (cU.trans cu1).trans cA
      have hq8u : wr.heap.size ≤ u1.heap.size := (cU.trans cu1).size
      clear cA
      revert b8 b9 bj cc hq7u hq8u
      generalize (u1.alloc (.cells (pt ptz) 28)).alloc (.cells #[.slice none 0 0, .int .i64 0] 43) = uA
      generalize u1.heap.size = q8
      intro b8 b9 hq7u bj cc hq8u
      have cR := (Ch.refl (only q8) uA).setRow (g := q8) (.inl rfl) (pt P)
      have b9 := cR.hp b9 (by simp only [only]; omega)
      have bj := cR.hp bj (by simp only [only]; omega)
      have b8 : (uA.setRow q8 (pt P)).heap[q8]? = some (.cells (pt P) 28 (0, 0)) := by rw [hp_setRow, b8]; rfl
      have cc := cc.setRow (g := q8) (.inr (by omega)) (pt P)
      clear cR
      revert b9 bj b8 cc
      generalize uA.setRow q8 (pt P) = uB
      intro b9 bj b8 cc
      have q9 := fun i => cell_blk b9 i
      have z9 := fun i => frz_blk b9 i
      have cR := put2_ch (s := .slice A3 n3 C3) (e := E3) (q := q8 + 1) (Ch.refl (only (q8 + 1)) uB) (.inl rfl)
      have b8 := cR.hp b8 (by simp only [only]; omega)
      have bj := cR.hp bj (by simp only [only]; omega)
      have cc := put2_ch (s := .slice A3 n3 C3) (e := E3) (q := q8 + 1) cc (.inr (by omega))
      have b9 : (put2 uB (q8 + 1) (.slice A3 n3 C3) E3).heap[q8 + 1]? = some (.cells #[.slice A3 n3 C3, .int .i64 E3] 43 (0, 0)) := blk_set1 (blk_set0 b9)
      obtain ⟨u2, hu2⟩ : ∃ uu, put2 uB (q8 + 1) (.slice A3 n3 C3) E3 = uu := ⟨_, rfl⟩
      rw [hu2] at b8 b9 bj cc
      simp only [put2] at hu2
      clear cR
      have hbl := blit_ino_r okn okP
      have cR := (Ch.refl (only q7) u2).setRow (g := q7) (.inl rfl) (ino ⟨c0.toNat, vN, vS, P⟩)
      have b9' := cR.hp b9 (by simp only [only]; omega)
      have bj' : (u2.setRow q7 (ino ⟨c0.toNat, vN, vS, P⟩)).heap[q7]? = some (.cells (ino ⟨c0.toNat, vN, vS, P⟩) 51 (0, 0)) := by rw [hp_setRow, bj]; rfl
      have cc := cc.setRow (g := q7) (.inr (by omega)) (ino ⟨c0.toNat, vN, vS, P⟩)
      have q9' := fun i => cell_blk b9' i
      simp [go_sem, q9, z9, hu2, b8, hsP, haP, g7, bj, ino_size okn, hbl]
      revert b9' bj' cc q9'
      generalize u2.setRow q7 (ino ⟨c0.toNat, vN, vS, P⟩) = u3
      intro b9' bj' cc q9'
      have hXb : inOf b = ⟨c0.toNat, vN, vS, P⟩ := by
        unfold inOf
        rw [hK, hN, hvN, hvS, hP]
      have hsf := ino_size okf
      have haf := ino_all okf
      have key : ∀ ys, Is4 l ys → ∃ y, ys[k]? = some y ∧ InOk y ∧ mayI y = true ∧ b = putI y ∧ (⟨c0.toNat, vN, vS, P⟩ : In) = y ∧ E3 = 0 := fun ys h => by
        obtain ⟨y, h1, h2, h3, h4⟩ := chunk_is4 h hk4
        rw [hB] at h4
        obtain ⟨h5, h6⟩ := inOf_put h2 (okP_iff.2 (mayI_root h3))
        rw [← h4] at h5 h6
        rw [hXb] at h5
        rw [h6] at hE3
        exact ⟨y, h1, h2, h3, h4, h5, hE3.symm⟩
      have cw := hm.ch.trans cc
      refine v_draw' [(0, none), (1, none), (2, none), (3, none), (4, none), (5, some []), (6, none), (7, none), (8, none), (9, none), (12, none), (13, none), (10, some [12, 13]), (11, none), (14, none), (15, none)] (by kernel_rfl) (by kernel_rfl) ?_
      by_cases hE0 : E3 = 0
      case neg =>
        have hE0' : (E3 != 0) = true := by simpa using hE0
        simp [go_sem, q9', hE0']
        exact hR _ _ ⟨cw.drew, .inr ⟨fun ys h => by
          obtain ⟨_, _, _, _, _, _, h0⟩ := key ys h
          exact hE0 h0, rfl⟩⟩
      have hE0' : (E3 != 0) = false := by rw [hE0]; rfl
      simp [go_sem, q9', hE0', g7, bj', hsf, haf]
      refine (rimay_any _ _ okf).mono ?_
      rintro _ u4 ⟨rfl, d4⟩
      have bj4 := d4.hp (show u3.drew.heap[q7]? = _ from bj') id
      have cc4 := cc.drew.trans d4
      cases hmy : mayI ⟨c0.toNat, vN, vS, P⟩
      · simp [go_sem]
        refine hR _ _ ⟨hm.ch.trans cc4, .inr ⟨fun ys h => ?_, rfl⟩⟩
        obtain ⟨y, _, _, h3, _, h5, _⟩ := key ys h
        rw [h5, h3] at hmy
        cases hmy
      have hs4 := hs1.ch cc4 fun _ _ e => e
      have t1 := sx hs4 hb
      simp [go_sem, g6, g7, bj4, hsf, haf, t1]
      refine (rbytesI_any _ u4 okf).mono ?_
      intro v5 u5 h5
      have t2 := sx (hs4.ch h5.ch fun _ _ e => e) hb
      have t3 := sx h5.sl (putI_length okf)
      have cc5 := cc4.trans h5.ch
      have bj5 := h5.ch.hp bj4 id
      by_cases hpb : putI ⟨c0.toNat, vN, vS, P⟩ = b
      case neg =>
        have hpb' : (putI ⟨c0.toNat, vN, vS, P⟩ == b) = false := beq_false_of_ne hpb
        simp [go_sem, g6, t2, t3, hpb']
        refine hR _ _ ⟨hm.ch.trans cc5, .inr ⟨fun ys h => ?_, rfl⟩⟩
        obtain ⟨y, _, _, _, h4, h6, _⟩ := key ys h
        exact hpb (by rw [h6, h4])
      have hpb' : (putI ⟨c0.toNat, vN, vS, P⟩ == b) = true := by rw [hpb]; simp
      have hm5 := hm.step cc5
      simp [↓VX_bsl1, go_sem, g6, t2, t3, hpb', g4, g7, bj5, hsf, haf]
      refine VBs_run (bsl_rino okf _) ?_
      simp [go_sem, g4]
      refine VB_app1S (us := (ino ⟨c0.toNat, vN, vS, P⟩).toList) tyIn hm5.own (by rw [Array.length_toList, hsf]) (fun uu huu => by
        have := ino_ones ⟨c0.toNat, vN, vS, P⟩
        unfold ones at this
        exact Array.all_eq_true'.1 this uu (by simpa using huu)) (by unfold maxLen; omega) (by omega) fun v6 u6 k4 k5 k6 => ?_
      have hm6 := hm5.grow k4 k5 k6
      simp [go_sem, g5, hwk]
      refine Rnd.intro (4 - (k + 1)) (by omega) (hJ _ _ _ ⟨k + 1, xs ++ [⟨c0.toNat, vN, vS, P⟩], by omega, rfl, by simpa using g0, by simp, by simp [hxl], ?_, ?_, ?_, ?_⟩)
      · intro y hy
        rcases List.mem_append.1 hy with h | h
        · exact hxok y h
        · rw [List.mem_singleton.1 h]; exact okf
      · rw [List.all_append, hxm]
        simp [hmy]
      · rw [bytesI_snoc, hxb, hpb, ← hB, show 128 * (k + 1) = 128 * k + 128 by omega, List.take_add]
        rfl
      · have e : rowsL ino (xs ++ [⟨c0.toNat, vN, vS, P⟩]) = rowsL ino xs ++ (ino ⟨c0.toNat, vN, vS, P⟩).toList := by rw [rowsL_append, rowsL_one]
        rw [e]
        simp only [upd_some, Nat.reduceEqDiff, if_true, if_false]
        exact hm6
  · obtain rfl : k = 4 := by omega
    rw [List.take_of_length_le (by omega)] at hxb
    simp [go_sem, f5]
    exact hR _ _ ⟨hm.ch, .inl ⟨xs, _, ⟨⟨hxl, hxok⟩, hxm, hxb⟩, rfl, hm⟩⟩
end Go.Proofs.YtfcoiboeohgimaaDoor
