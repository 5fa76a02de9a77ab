/- A slice of one value of several cells, built. It speaks of no program. No condition. -/
import Derived.Test.YtnefdmbdkljifaaGreatDoorAgg
import Derived.Test.YtnefdmbdkljifaaGreatDoorPtH
set_option linter.unusedSimpArgs false
set_option linter.unusedVariables false

/- Cells of values that lie behind one another, each of n cells: read, stored, held against one another. They speak of no program. No condition. -/
namespace Go.Kin
open Go Go.RowKit

variable {α : Type}
def rowsL (f : α → Array Value) (xs : List α) : List Value := xs.flatMap fun x => (f x).toList
def rowsOf (f : α → Array Value) (xs : List α) : Array Value := (rowsL f xs).toArray
variable {f : α → Array Value} {n : Nat}
theorem rowsL_length : ∀ (xs : List α), (∀ x ∈ xs, (f x).size = n) → (rowsL f xs).length = xs.length * n
  | [], _ => by simp [rowsL]
  | x :: xs, h => by
    have := rowsL_length xs fun y hy => h y (by simp [hy])
    have hx := h x (by simp)
    simp only [rowsL, List.flatMap_cons, List.length_append, List.length_cons, Array.length_toList] at *
    rw [this, hx, Nat.add_mul]; omega
theorem rows_size {xs : List α} (h : ∀ x ∈ xs, (f x).size = n) : (rowsOf f xs).size = xs.length * n := by simp [rowsOf, rowsL_length xs h]
theorem rowsL_append (xs ys : List α) : rowsL f (xs ++ ys) = rowsL f xs ++ rowsL f ys := by simp [rowsL]
theorem rowsL_one (x : α) : rowsL f [x] = (f x).toList := by simp [rowsL]
theorem rowsL_split {xs : List α} {k : Nat} {x : α} (hk : xs[k]? = some x) : rowsL f xs = rowsL f (xs.take k) ++ ((f x).toList ++ rowsL f (xs.drop (k + 1))) := by
  obtain ⟨hl, hx⟩ := List.getElem?_eq_some_iff.1 hk
  have : xs = xs.take k ++ (x :: xs.drop (k + 1)) := by
    rw [← hx, ← List.drop_eq_getElem_cons hl, List.take_append_drop]
  conv => lhs; rw [this]
  rw [rowsL_append]
  rfl
theorem rowsL_take_length {xs : List α} (h : ∀ x ∈ xs, (f x).size = n) {k : Nat} (hk : k ≤ xs.length) : (rowsL f (xs.take k)).length = k * n := by
  rw [rowsL_length _ fun x hx => h x (List.mem_of_mem_take hx), List.length_take, Nat.min_eq_left hk]
theorem rows_get {xs : List α} (h : ∀ x ∈ xs, (f x).size = n) {k : Nat} {x : α} (hk : xs[k]? = some x) : (rowsOf f xs).extract (k * n) (k * n + n) = f x := by
  obtain ⟨hl, hx⟩ := List.getElem?_eq_some_iff.1 hk
  apply Array.ext'
  have h1 := rowsL_take_length h (Nat.le_of_lt hl)
  have h2 : (f x).toList.length = n := by rw [Array.length_toList, h x (List.mem_of_getElem? hk)]
  rw [Array.toList_extract, List.extract_eq_take_drop, show (rowsOf f xs).toList = rowsL f xs by simp [rowsOf], rowsL_split hk, List.drop_left' h1, show k * n + n - k * n = n by omega, List.take_left' h2]
theorem rows_at {xs : List α} (h : ∀ x ∈ xs, (f x).size = n) {k i : Nat} {x : α} {u : Value} (hk : xs[k]? = some x) (hu : (f x)[i]? = some u) : (rowsOf f xs)[k * n + i]? = some u := by
  obtain ⟨hl, hx⟩ := List.getElem?_eq_some_iff.1 hk
  have h1 := rowsL_take_length h (Nat.le_of_lt hl)
  have hi := (Array.getElem?_eq_some_iff.1 hu).1
  rw [rowsOf, List.getElem?_toArray, rowsL_split hk, List.getElem?_append_right (by omega), h1, show k * n + i - k * n = i by omega, List.getElem?_append_left (by rw [Array.length_toList]; exact hi), ← hu]
  simp
theorem rows_blit {xs : List α} (h : ∀ x ∈ xs, (f x).size = n) {k : Nat} {y : α} (hk : k < xs.length) (hy : (f y).size = n) : blit (rowsOf f xs) (k * n) (f y) = rowsOf f (xs.set k y) := by
  have h1 := rowsL_take_length h (Nat.le_of_lt hk)
  have hx := List.getElem?_eq_getElem hk
  have h2 : (f xs[k]).toList.length = n := by rw [Array.length_toList, h _ (List.getElem_mem hk)]
  unfold blit
  apply Array.ext'
  have e : (rowsOf f xs).toList = rowsL f (xs.take k) ++ ((f xs[k]).toList ++ rowsL f (xs.drop (k + 1))) := by
    rw [← rowsL_split hx]; simp [rowsOf]
  have e2 : rowsL f (xs.set k y) = rowsL f (xs.take k) ++ ((f y).toList ++ rowsL f (xs.drop (k + 1))) := by
    have hk' : (xs.set k y)[k]? = some y := by rw [List.getElem?_set_self hk]
    rw [rowsL_split hk', List.take_set_of_le (Nat.le_refl k), List.drop_set_of_lt (by omega)]
  show _ = rowsL f (xs.set k y)
  rw [e2]
  simp only [e]
  rw [List.take_left' h1, hy, ← List.drop_drop, List.drop_left' h1, List.drop_left' h2, List.append_assoc]
theorem rows_blit_at {xs : List α} (h : ∀ x ∈ xs, (f x).size = n) {k i : Nat} {x y : α} {us : Array Value} (hk : xs[k]? = some x) (hi : i + us.size ≤ n) (hy : blit (f x) i us = f y) (hyn : (f y).size = n) : blit (rowsOf f xs) (k * n + i) us = rowsOf f (xs.set k y) := by
  obtain ⟨hl, hx⟩ := List.getElem?_eq_some_iff.1 hk
  have h1 := rowsL_take_length h (Nat.le_of_lt hl)
  have h2 : (f x).toList.length = n := by rw [Array.length_toList, h _ (List.mem_of_getElem? hk)]
  unfold blit at *
  apply Array.ext'
  have e : (rowsOf f xs).toList = rowsL f (xs.take k) ++ ((f x).toList ++ rowsL f (xs.drop (k + 1))) := by
    rw [← rowsL_split hk]; simp [rowsOf]
  have e2 : rowsL f (xs.set k y) = rowsL f (xs.take k) ++ ((f y).toList ++ rowsL f (xs.drop (k + 1))) := by
    have hk' : (xs.set k y)[k]? = some y := by rw [List.getElem?_set_self hl]
    rw [rowsL_split hk', List.take_set_of_le (Nat.le_refl k), List.drop_set_of_lt (by omega)]
  show _ = rowsL f (xs.set k y)
  rw [e2, ← hy]
  simp only [e]
  rw [List.take_append, h1, show k * n + i - k * n = i by omega, List.take_of_length_le (by omega), List.take_append_of_le_length (by omega),
    show k * n + i + us.size = k * n + (i + us.size) by omega, ← List.drop_drop, List.drop_left' h1, List.drop_append_of_le_length (by omega)]
  simp
theorem rows_set_at {xs : List α} (h : ∀ x ∈ xs, (f x).size = n) {k i : Nat} {x y : α} {u : Value} (hk : xs[k]? = some x) (hi : i < n) (hy : (f x).setIfInBounds i u = f y) : (rowsOf f xs).setIfInBounds (k * n + i) u = rowsOf f (xs.set k y) := by
  obtain ⟨hl, hx⟩ := List.getElem?_eq_some_iff.1 hk
  have h1 := rowsL_take_length h (Nat.le_of_lt hl)
  have h2 : (f x).toList.length = n := by rw [Array.length_toList, h _ (List.mem_of_getElem? hk)]
  apply Array.ext'
  have e : (rowsOf f xs).toList = rowsL f (xs.take k) ++ ((f x).toList ++ rowsL f (xs.drop (k + 1))) := by
    rw [← rowsL_split hk]; simp [rowsOf]
  have e2 : rowsL f (xs.set k y) = rowsL f (xs.take k) ++ ((f y).toList ++ rowsL f (xs.drop (k + 1))) := by
    have hk' : (xs.set k y)[k]? = some y := by rw [List.getElem?_set_self hl]
    rw [rowsL_split hk', List.take_set_of_le (Nat.le_refl k), List.drop_set_of_lt (by omega)]
  show _ = rowsL f (xs.set k y)
  rw [e2, ← hy, Array.toList_setIfInBounds, e, List.set_append_right _ _ (by omega), h1, show k * n + i - k * n = i by omega, List.set_append_left _ _ (by omega), Array.toList_setIfInBounds]
theorem rows_ones {xs : List α} (h : ∀ x ∈ xs, ones (f x) = true) : ones (rowsOf f xs) = true := ones_of (by
  intro u hu
  obtain ⟨x, hx, hu⟩ := List.mem_flatMap.1 hu
  have := h x hx
  unfold ones at this
  exact Array.all_eq_true'.1 this u (by simpa using hu))
theorem run_index_rows {P : Program} {t e len : Nat} {kd : IntKind} {k : Nat} {xs : List α} {x : α} (ht : P.underlying t = some (.array len e)) (hs : ∀ w, (sizeOf e).run P w = .ok n w) (ha : ∀ w, (isAgg e).run P w = .ok true w)
    (h : ∀ x ∈ xs, (f x).size = n) (hk : k < len) (hx : xs[k]? = some x) (w : World) : (Instr.index t (.agg (rowsOf f xs)) (.int kd k)).run P w = .ok (.agg (f x)) w := by
  simp [Instr.index, asIntOf, run_underlying ht, part, hs, ha, hk, rows_get h hx]
theorem run_equalIn_rows {P : Program} (w : World) (d : Nat) (t e len : Nat) [DecidableEq α] (ht : P.underlying t = some (.array len e)) (hs : ∀ w, (sizeOf e).run P w = .ok n w) (ha : ∀ w, (isAgg e).run P w = .ok true w)
    (xs ys : List α) (hx : xs.length = len) (hy : ys.length = len) (hfx : ∀ x ∈ xs, (f x).size = n) (hfy : ∀ x ∈ ys, (f x).size = n)
    (heq : ∀ x ∈ xs, ∀ y ∈ ys, (Op.equalIn d e (.agg (f x)) (.agg (f y))).run P w = .ok (decide (x = y)) w) :
    (Op.equalIn (d + 1) t (.agg (rowsOf f xs)) (.agg (rowsOf f ys))).run P w = .ok (decide (xs = ys)) w := by
  rw [Op.equalIn]
  simp only [Sem.run_bind, run_underlying ht, Result.andThen_ok, hs]
  rw [Std.Legacy.Range.forIn_eq_forIn_range']
  have key : ∀ (m s : Nat), s + m = len → (forIn (List.range' s m 1) ((none, ()) : Option Bool × Unit) (fun i _ => do
          let a ← part e (rowsOf f xs) (i * n)
          let b ← part e (rowsOf f ys) (i * n)
          let r ← Op.equalIn d e a b
          if (!r) = true then pure (ForInStep.done (some false, ())) else pure (ForInStep.yield (none, ()))) : Sem (Option Bool × Unit)).run P w = .ok (if xs.drop s = ys.drop s then (none, ()) else (some false, ())) w := by
    intro m
    induction m with
    | zero =>
      intro s hsm
      have h1 : xs.drop s = [] := List.drop_eq_nil_iff.2 (by omega)
      have h2 : ys.drop s = [] := List.drop_eq_nil_iff.2 (by omega)
      simp [h1, h2]
    | succ m ih =>
      intro s hsm
      have hsx : s < xs.length := by omega
      have hsy : s < ys.length := by omega
      rw [List.range'_succ]
      have p1 : (part e (rowsOf f xs) (s * n)).run P w = .ok (.agg (f xs[s])) w := by simp [part, ha, hs, rows_get hfx (List.getElem?_eq_getElem hsx)]
      have p2 : (part e (rowsOf f ys) (s * n)).run P w = .ok (.agg (f ys[s])) w := by simp [part, ha, hs, rows_get hfy (List.getElem?_eq_getElem hsy)]
      simp only [List.forIn_cons, Sem.run_bind, p1, p2, Result.andThen_ok, heq _ (List.getElem_mem hsx) _ (List.getElem_mem hsy)]
      have e1 := List.drop_eq_getElem_cons hsx
      have e2 := List.drop_eq_getElem_cons hsy
      rw [e1, e2]
      by_cases hq : xs[s] = ys[s]
      · have := ih (s + 1) (by omega)
        simp only [hq, decide_true, Bool.not_true, Bool.false_eq_true, if_false, Sem.run_pure, Result.andThen_ok, this, List.cons.injEq, true_and]
      · have hne : ¬ (xs[s] :: xs.drop (s + 1) = ys[s] :: ys.drop (s + 1)) := fun h => hq (List.cons.inj h).1
        simp only [if_neg hne]
        simp [hq]
  rw [show List.range' (Std.Legacy.Range.start [:len]) (Std.Legacy.Range.size [:len]) (Std.Legacy.Range.step [:len]) = List.range' 0 len 1 by simp [Std.Legacy.Range.size]]
  rw [key len 0 (by omega)]
  by_cases hq : xs = ys <;> simp [hq]
end Go.Kin
namespace Go.Kin
open Go Go.RowKit
theorem VBld_array {P : Program} {t e len size : Nat} {parts : List (Nat × Value)} {w : World} {K : Value → World → Prop} {cs : Array Value} (ht : P.underlying t = some (.array len e)) (hz : (P.info? t).map (fun i => i.zero.isSome) = some true)
    (hs : ∀ w, (sizeOf e).run P w = .ok size w) (hf : fillB (fun i => some (i * size, size)) (zc P t) parts = some cs) : VBld P t parts w K = K (.agg cs) w := by
  unfold VBld VR
  cases hq : P.info? t with
  | none => simp [hq] at hz
  | some i =>
    cases hi : i.zero with
    | none => simp [hq, hi] at hz
    | some v =>
      have hzc : zc P t = v.cells := by unfold zc; simp [hq, hi]
      simp only [hzc, ← fill_eq] at hf
      simp only [Instr.build, zeroValue, typeInfo, Sem.run_bind, run_program, Result.andThen_ok, hq, hi, Sem.run_pure, run_underlying ht, hs, hf]
end Go.Kin

/- A node's cells: eight pointers behind one another; whether a pointer is good; a node that is empty, how many are none, one place changed. No condition but that the values are of their types. -/
namespace Go.Proofs.YtnefdmbdkljifaaGreatDoor
open Go.RowKit Go.Kin

def nd (ps : List Pt) : Array Value := rowsOf pt ps
structure NdOk (ps : List Pt) : Prop where
  len : ps.length = 8
  all : ∀ p ∈ ps, PtOk p
def ndz : List Pt := List.replicate 8 ptz
theorem ndz_ok : NdOk ndz := ⟨rfl, fun p hp => by rw [(List.mem_replicate.1 hp).2]; exact ptz_ok⟩
section
variable {ps : List Pt}
theorem NdOk.sz (h : NdOk ps) : ∀ p ∈ ps, (pt p).size = 41 := fun p hp => pt_size (h.all p hp)
theorem nd_size (h : NdOk ps) : (nd ps).size = 328 := by unfold nd; rw [rows_size h.sz, h.len]
@[simp] theorem nd_ones (ps : List Pt) : ones (nd ps) = true := rows_ones fun p _ => pt_ones p
theorem nd_all (h : NdOk ps) : (nd ps).extract 0 328 = nd ps := by rw [← nd_size h]; simp
theorem nd_get (h : NdOk ps) {k : Nat} {p : Pt} (hk : ps[k]? = some p) : (nd ps).extract (k * 41) (k * 41 + 41) = pt p := rows_get h.sz hk
theorem nd_blit (h : NdOk ps) {k : Nat} {p : Pt} (hk : k < 8) (ok : PtOk p) : blit (nd ps) (k * 41) (pt p) = nd (ps.set k p) := rows_blit h.sz (by rw [h.len]; exact hk) (pt_size ok)
theorem NdOk.set (h : NdOk ps) (k : Nat) {p : Pt} (ok : PtOk p) : NdOk (ps.set k p) := ⟨by simp [h.len], fun q hq => by
  rcases List.mem_or_eq_of_mem_set hq with h1 | rfl
  · exact h.all q h1
  · exact ok⟩
theorem NdOk.at' (h : NdOk ps) {k : Nat} (hk : k < 8) : ∃ p, ps[k]? = some p ∧ PtOk p := ⟨_, List.getElem?_eq_getElem (by rw [h.len]; exact hk), h.all _ (List.getElem_mem _)⟩
end
theorem hz_nd : (Tryz.prog.info? 128).map (fun i => i.zero.isSome) = some true := by kernel_rfl
theorem zc_nd : zc Tryz.prog 128 = nd ndz := by kernel_rfl
theorem bld_nd0 {w : World} {K : Value → World → Prop} : VBld Tryz.prog 128 [] w K = K (.agg (nd ndz)) w :=
  VBld_array Tryz.underlying128 hz_nd Tryz.sizeOf37 (by simp [fillB, zc_nd])
theorem eq_nd (w : World) {ps qs : List Pt} (hp : NdOk ps) (hq : NdOk qs) : (Op.equalIn 10000 128 (.agg (nd ps)) (.agg (nd qs))).run Tryz.prog w = .ok (decide (ps = qs)) w :=
  run_equalIn_rows w 9999 _ _ 8 Tryz.underlying128 Tryz.sizeOf37 Tryz.isAgg37 ps qs hp.len hq.len hp.sz hq.sz fun x hx y hy => eq_pt_any w 9996 (hp.all x hx) (hq.all y hy)
theorem nd_index {ps : List Pt} (h : NdOk ps) {k : Nat} {p : Pt} (hk : k < 8) (hx : ps[k]? = some p) (w : World) : (Instr.index 128 (.agg (nd ps)) (.int .i64 k)).run Tryz.prog w = .ok (.agg (pt p)) w :=
  run_index_rows Tryz.underlying128 Tryz.sizeOf37 Tryz.isAgg37 h.sz hk hx w

/-- is a pointer a hole, or one that may be? -/
def okP (p : Pt) : Bool := decide (p = ptz) || mayP p
theorem empty_any (ps : List Pt) (w : World) (ok : NdOk ps) : Ret Tryz.prog 81 #[.agg (nd ps)] w fun v' w' => v' = .bool (decide (ps = ndz)) ∧ Ch Nw w w' := by
  refine v_enter Tryz.func81 Tryz.ntmps81 rfl (by simp) fun R' hR => ?_
  have hsz := nd_size ok
  have hall := nd_all ok
  have heq := fun w => eq_nd w ok ndz_ok
  have hc := (Ch.refl Nw w).alloc (.cells (nd ps) 128)
  simp [go_sem, hsz, hall, bld_nd0, heq]
  exact hR _ _ ⟨rfl, hc⟩
def cnt (ps : List Pt) : Nat := (ps.filter fun p => decide (p ≠ ptz)).length
theorem cnt_snoc (ps : List Pt) (p : Pt) : cnt (ps ++ [p]) = cnt ps + if p = ptz then 0 else 1 := by
  unfold cnt
  rw [List.filter_append, List.length_append]
  by_cases h : p = ptz <;> simp [h]
theorem cnt_le (ps : List Pt) : cnt ps ≤ ps.length := List.length_filter_le _ _
theorem with_any (ps : List Pt) (i : Int) (p : Pt) (w : World) (ok : NdOk ps) (okp : PtOk p) : Ret Tryz.prog 55 #[.agg (nd ps), .int .i64 i, .agg (pt p)] w fun v' w' => v' = .agg (nd (if 0 ≤ i ∧ i < 8 then ps.set i.toNat p else ps)) ∧ Ch Nw w w' := by
  refine v_enter Tryz.func55 Tryz.ntmps55 rfl (by simp) fun R' hR => ?_
  have hsz := nd_size ok
  have hall := nd_all ok
  have hs1 := pt_size okp
  have ha1 := pt_all okp
  have hc := ((((Ch.refl Nw w).alloc (.cells (nd ps) 128)).alloc (.cells (pt p) 37)).alloc (.cells (nd ndz) 128))
  have b0 := al3_0 w (.cells (nd ps) 128) (.cells (pt p) 37) (.cells (nd ndz) 128)
  have b1 := al3_1 w (.cells (nd ps) 128) (.cells (pt p) 37) (.cells (nd ndz) 128)
  have b2 := al3_2 w (.cells (nd ps) 128) (.cells (pt p) 37) (.cells (nd ndz) 128)
  have hz := nd_size ndz_ok
  have hza := nd_all ndz_ok
  have e : (w.heap.size + 1) + 1 = w.heap.size + 2 := rfl
  by_cases h0 : 0 ≤ i
  · by_cases h8 : i < 8
    · rw [if_pos ⟨h0, h8⟩] at hR
      obtain ⟨k, rfl⟩ := Int.eq_ofNat_of_zero_le h0
      have hk : k < 8 := by omega
      have ok' := ok.set k okp
      simp [go_sem, hz_nd, zc_nd, h8]
      revert hc b0 b1 b2
      generalize ((w.alloc (.cells (nd ps) 128)).alloc (.cells (pt p) 37)).alloc (.cells (nd ndz) 128) = w1
      generalize hg : w.heap.size = g
      intro hc b0 b1 b2
      have b0' : (w1.setRow g (nd (ps.set k p))).heap[g]? = some (.cells (nd (ps.set k p)) 128 (0, 0)) := by rw [hp_setRow, b0]; rfl
      have b2' : (w1.setRow g (nd (ps.set k p))).heap[g + 1 + 1]? = some (.cells (nd ndz) 128 (0, 0)) := by rw [hp_setRow_ne _ _ _ _ (by omega)]; exact b2
      have b3 : ((w1.setRow g (nd (ps.set k p))).setRow (g + 1 + 1) (nd (ps.set k p))).heap[g + 1 + 1]? = some (.cells (nd (ps.set k p)) 128 (0, 0)) := by rw [hp_setRow, b2']; rfl
      simp [go_sem, b0, b1, b2, hsz, hs1, ha1, h8, hk, nd_blit ok hk okp, b0', b2', nd_size ok', nd_all ok', hz, blit_whole, b3, show k * 41 + 41 ≤ 328 by omega]
      exact hR _ _ ⟨by simp, (hc.setRow (.inr (by omega)) _).setRow (.inr (by omega)) _⟩
    · rw [if_neg (by omega)] at hR
      simp [go_sem, hz_nd, zc_nd, h0, h8]
      revert hc b0 b1 b2
      generalize ((w.alloc (.cells (nd ps) 128)).alloc (.cells (pt p) 37)).alloc (.cells (nd ndz) 128) = w1
      generalize hg : w.heap.size = g
      intro hc b0 b1 b2
      have b2' : w1.heap[g + 1 + 1]? = some (.cells (nd ndz) 128 (0, 0)) := b2
      have b3 : (w1.setRow (g + 1 + 1) (nd ps)).heap[g + 1 + 1]? = some (.cells (nd ps) 128 (0, 0)) := by rw [hp_setRow, b2']; rfl
      simp [go_sem, b0, b2', hsz, hall, hz, blit_whole, b3]
      exact hR _ _ ⟨rfl, hc.setRow (.inr (by omega)) _⟩
  · rw [if_neg (by omega)] at hR
    simp [go_sem, hz_nd, zc_nd, h0]
    revert hc b0 b1 b2
    generalize ((w.alloc (.cells (nd ps) 128)).alloc (.cells (pt p) 37)).alloc (.cells (nd ndz) 128) = w1
    generalize hg : w.heap.size = g
    intro hc b0 b1 b2
    have b2' : w1.heap[g + 1 + 1]? = some (.cells (nd ndz) 128 (0, 0)) := b2
    have b3 : (w1.setRow (g + 1 + 1) (nd ps)).heap[g + 1 + 1]? = some (.cells (nd ps) 128 (0, 0)) := by rw [hp_setRow, b2']; rfl
    simp [go_sem, b0, b2', hsz, hall, hz, blit_whole, b3]
    exact hR _ _ ⟨rfl, hc.setRow (.inr (by omega)) _⟩
end Go.Proofs.YtnefdmbdkljifaaGreatDoor

namespace Go.Kin
open Go Go.RowKit
theorem run_buildSlice1 {P : Program} {t e size : Nat} {cs : Array Value} {z : Value} (ht : P.underlying t = some (.slice e)) (hs : ∀ w, (sizeOf e).run P w = .ok size w) (hz : (P.info? e).bind (·.zero) = some z) (hc : cs.size = size) (h0 : 0 < size) (h24 : size ≤ 16777216) (w : World) :
    (Instr.buildSlice t 1 #[(0, .agg cs)]).run P w = .ok (.slice (some ⟨w.heap.size, 0, none⟩) 1 1) (w.alloc (.cells cs e)) := by
  cases hi : P.info? e with
  | none => simp [hi] at hz
  | some i =>
    simp [hi] at hz
    have hf : fillB (fun i => some (i * size, size)) ((Array.range size).map fun x => z.cells[x % z.cells.size]!) [(0, .agg cs)] = some cs := by
      simp [fillB, Value.cells, hc]
      unfold blit
      apply Array.ext'
      simp [hc]
    rw [← fill_eq] at hf
    simp [Instr.buildSlice, run_underlying ht, hs, zeroValue, typeInfo, hi, hz, show ¬ size = 0 by omega, show ¬ 16777216 < size by omega, newRow]
    simp only [hf]
    simp
/-- a slice of one value, built: as a constant, so that simp does not lay it open -/
def VBs (P : Program) (t : TypeId) (v : Value) (w : World) (K : Value → World → Prop) : Prop := VR ((Instr.buildSlice t 1 #[(0, v)]).run P w) K
theorem VX_bsl1 (P : Program) (ρ : Operand → Value) (w : World) (K : Value → World → Prop) (d : Option Tmp) (ty : TypeId) (pos : String) (aft : Array Edge) (g : Option (Nat × Bool)) (t : TypeId) (x : Operand) :
    VX P ρ ⟨d, .buildSlice t 1 [(0, x)].toArray, ty, pos, aft, g⟩ w K = VBs P t (ρ x) w K := by
  rw [VX_buildSlice]
  rfl
theorem VBs_run {P : Program} {t : TypeId} {v v' : Value} {w w' : World} {K : Value → World → Prop} (h : (Instr.buildSlice t 1 #[(0, v)]).run P w = .ok v' w') (hk : K v' w') : VBs P t v w K := by
  unfold VBs VR
  rw [h]
  exact hk
attribute [irreducible] VBs
end Go.Kin
