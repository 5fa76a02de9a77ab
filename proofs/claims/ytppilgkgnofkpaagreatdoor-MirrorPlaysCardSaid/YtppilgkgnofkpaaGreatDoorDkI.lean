/- slices.DeleteFunc on a disk's cache, as a contract on calls. No condition but on sizes. -/
import Derived.Test.YtppilgkgnofkpaaGreatDoorDkG
set_option linter.unusedSimpArgs false
set_option linter.unusedVariables false

/- slices.DeleteFunc on a disk's cache, as a contract on calls. No condition but on sizes. -/
namespace Go.Kin
open Go Go.RowKit
/-- clear on a part of a block -/
theorem VB_clear_at {P : Program} {w : World} {t e ty : TypeId} {z : Value} {size bytes : Nat} {K : Value → World → Prop} (T : TyS P t e z size bytes) (hz1 : ∀ u ∈ z.cells, u.oneCell' = true) {g o n c : Nat} {cur : Array Value} (hg : w.heap[g]? = some (.cells cur e (0, 0))) (hfit : o + n * size ≤ cur.size)
    (h : ∀ w' cur', w'.heap[g]? = some (.cells cur' e (0, 0)) → cur'.size = cur.size → cur'.toList.take o = cur.toList.take o → Ch (one g) w w' → K (.tuple #[]) w') : VB P .clear #[t] ty #[.slice (some ⟨g, o, none⟩) n c] w K := by
  obtain ⟨i, hi, hz, hsz, hby⟩ := info_parts T.info
  have go : ∀ w', (Builtin.clear_ #[t] ty #[.slice (some ⟨g, o, none⟩) n c]).run P w = .ok (.tuple #[]) w' → K (.tuple #[]) w' → VB P .clear #[t] ty #[.slice (some ⟨g, o, none⟩) n c] w K := fun w' hr hk => by
    unfold VB VR
    simp only [hr]
    exact hk
  rcases Nat.eq_zero_or_pos n with rfl | hn
  · exact go w (by simp [Builtin.clear_, run_underlying T.und]) (h w cur hg rfl rfl (Ch.refl _ _))
  · obtain ⟨m, rfl⟩ : ∃ m, n = m + 1 := ⟨n - 1, by omega⟩
    have hzs : (Builtin.zeroCells z.cells (m + 1)).toList.length = (m + 1) * size := by simp [Builtin.zeroCells, T.cells]
    have hz1' : ∀ u ∈ (Builtin.zeroCells z.cells (m + 1)).toList, u.oneCell' = true := by
      intro u hu
      simp only [Builtin.zeroCells, Array.toList_map, List.mem_map] at hu
      obtain ⟨j, _, rfl⟩ := hu
      have hp := T.pos
      have hlt : j % z.cells.size < z.cells.size := Nat.mod_lt _ (by rw [T.cells]; exact hp)
      rw [getElem!_pos z.cells _ hlt]
      exact hz1 _ (Array.getElem_mem _)
    have hst := run_storeCells_at P g o e (Builtin.zeroCells z.cells (m + 1)).toList 0 cur w hg (by omega) hz1'
    have hrun : (Builtin.clear_ #[t] ty #[.slice (some ⟨g, o, none⟩) (m + 1) c]).run P w = .ok (.tuple #[]) (w.setRow g (cur.toList.take (o + 0) ++ (Builtin.zeroCells z.cells (m + 1)).toList ++ cur.toList.drop (o + 0 + (Builtin.zeroCells z.cells (m + 1)).toList.length)).toArray) := by
      simp [Builtin.clear_, run_underlying T.und, zeroValue, typeInfo, hi, hz, hst]
    refine go _ hrun (h _ _ (by rw [hp_setRow, hg]; rfl) (by simp only [List.size_toArray, List.length_append, List.length_take, List.length_drop, hzs, Array.length_toList]; omega) ?_ (Ch.setRow (g := g) (S := one g) (Ch.refl _ w) (.inl rfl) _))
    simp only [Nat.add_zero, List.append_assoc]
    rw [List.take_append_of_le_length (by simp; omega), List.take_take, Nat.min_self]
theorem set2 (cs : Array Value) (o : Nat) (a b : Value) (h : o + 2 ≤ cs.size) : (cs.setIfInBounds o a).setIfInBounds (o + 1) b = blit cs o #[a, b] := by
  have := foldl_blit [a, b] cs o 0 (by simp; omega)
  simpa using this
theorem par_filter {R : Value → Byts → Prop} (p : Nat → Bool) : ∀ (c : List (Nat × Byts)) (vs : List (Nat × Value)), vs.length = c.length → (∀ (i a : Nat) (b : Byts), c[i]? = some (a, b) → ∃ u, vs[i]? = some (a, u) ∧ R u b) →
    (vs.filter fun e => p e.1).length = (c.filter fun e => p e.1).length ∧ ∀ (i a : Nat) (b : Byts), (c.filter fun e => p e.1)[i]? = some (a, b) → ∃ u, (vs.filter fun e => p e.1)[i]? = some (a, u) ∧ R u b := by
  intro c
  induction c with
  | nil => intro vs hl _; rw [List.eq_nil_of_length_eq_zero (l := vs) hl]; simp
  | cons e c ih =>
    obtain ⟨a, b⟩ := e
    intro vs hl h
    cases vs with
    | nil => simp at hl
    | cons e vs =>
      obtain ⟨a', u⟩ := e
      obtain ⟨u', hu, hr⟩ := h 0 a b rfl
      simp at hu
      obtain ⟨rfl, rfl⟩ := hu
      obtain ⟨h1, h2⟩ := ih vs (by simpa using hl) fun i a b hi => by simpa using h (i + 1) a b (by simpa using hi)
      by_cases hp : p a' = true
      · rw [List.filter_cons_of_pos (by simpa using hp), List.filter_cons_of_pos (by simpa using hp)]
        refine ⟨by simp [h1], fun i x y hi => ?_⟩
        cases i with
        | zero =>
          simp at hi
          obtain ⟨rfl, rfl⟩ := hi
          exact ⟨u, rfl, hr⟩
        | succ i => exact h2 i x y (by simpa using hi)
      · rw [List.filter_cons_of_neg (by simpa using hp), List.filter_cons_of_neg (by simpa using hp)]
        exact ⟨h1, h2⟩
/-- a row in the midst of a deletion: j looked at, k kept -/
structure DelS (vs us : List (Nat × Value)) (a j k : Nat) : Prop where
  len : us.length = vs.length
  fr : us.take k = (vs.take j).filter fun e => e.1 != a
  bk : us.drop j = vs.drop j
  cnt : k = ((vs.take j).filter fun e => e.1 != a).length
  lt : k < j
theorem DelS.start {vs : List (Nat × Value)} {a i : Nat} {u : Value} (h : vs[i]? = some (a, u)) (hb : ∀ x ∈ vs.take i, x.1 ≠ a) : DelS vs vs a (i + 1) i := by
  have hi : i < vs.length := (List.getElem?_eq_some_iff.1 h).1
  have e : (vs.take (i + 1)).filter (fun e => e.1 != a) = vs.take i := by
    rw [List.take_add_one, h, List.filter_append, List.filter_eq_self.2 fun x hx => by simpa using hb x hx]
    simp
  exact ⟨rfl, e.symm, rfl, by rw [e, List.length_take]; omega, by omega⟩
theorem DelS.at {vs us : List (Nat × Value)} {a j k : Nat} (h : DelS vs us a j k) (i : Nat) (hi : j ≤ i) : us[i]? = vs[i]? := by
  have := congrArg (fun l => l[i - j]?) h.bk
  simpa [List.getElem?_drop, Nat.add_sub_cancel' hi] using this
theorem DelS.skip {vs us : List (Nat × Value)} {a j k : Nat} {u : Value} (h : DelS vs us a j k) (hj : vs[j]? = some (a, u)) : DelS vs us a (j + 1) k := by
  have e : (vs.take (j + 1)).filter (fun e => e.1 != a) = (vs.take j).filter fun e => e.1 != a := by
    rw [List.take_add_one, hj, List.filter_append]
    simp
  refine ⟨h.len, h.fr.trans e.symm, ?_, by rw [e]; exact h.cnt, by have := h.lt; omega⟩
  have := congrArg (List.drop 1) h.bk
  simpa [List.drop_drop] using this
theorem DelS.keep {vs us : List (Nat × Value)} {a j k x : Nat} {u : Value} (h : DelS vs us a j k) (hj : vs[j]? = some (x, u)) (hx : x ≠ a) : DelS vs (us.set k (x, u)) a (j + 1) (k + 1) := by
  have hjl : j < vs.length := (List.getElem?_eq_some_iff.1 hj).1
  have hl := h.len
  have hlt := h.lt
  have e : (vs.take (j + 1)).filter (fun e => e.1 != a) = ((vs.take j).filter fun e => e.1 != a) ++ [(x, u)] := by
    rw [List.take_add_one, hj, List.filter_append]
    simp [hx]
  refine ⟨by simp [hl], ?_, ?_, by rw [e, List.length_append, ← h.cnt]; rfl, by omega⟩
  · rw [e, ← h.fr, List.take_add_one, List.take_set_of_le (by omega), List.getElem?_set_self (by omega)]
    rfl
  · rw [List.drop_set_of_lt (by omega)]
    have := congrArg (List.drop 1) h.bk
    simpa [List.drop_drop] using this
theorem DelS.fin {vs us : List (Nat × Value)} {a k : Nat} (h : DelS vs us a vs.length k) : us.take k = vs.filter (fun e => e.1 != a) ∧ (vs.filter fun e => e.1 != a).length = k := by
  have h1 := h.fr
  have h2 := h.cnt
  rw [List.take_length] at h1 h2
  exact ⟨h1, h2.symm⟩
end Go.Kin
namespace Go.Proofs.YtppilgkgnofkpaaGreatDoor
open Go.RowKit Go.Kin

theorem rows_set2 (xs : List (Nat × Value)) (k : Nat) (y : Nat × Value) (hk : k < xs.length) : ((rowsL wc xs).set (k * 2) (.int .u16 y.1)).set (k * 2 + 1) y.2 = rowsL wc (xs.set k y) := by
  have hsz : (rowsOf wc xs).size = xs.length * 2 := rows_size (wc_size xs)
  have e := rows_blit (wc_size xs) (k := k) (y := y) hk rfl
  have e2 := set2 (rowsOf wc xs) (k * 2) (.int .u16 y.1) y.2 (by omega)
  have : ((rowsOf wc xs).setIfInBounds (k * 2) (.int .u16 y.1)).setIfInBounds (k * 2 + 1) y.2 = rowsOf wc (xs.set k y) := e2.trans e
  have := congrArg Array.toList this
  simpa [rowsOf] using this
/-- an element of a row of the call's own, stored -/
theorem own_set {w : World} {g cap m : Nat} {xs : List (Nat × Value)} (h : w.ownsRow 0 140 2 (.slice (some ⟨g, 0, none⟩) m cap) m (rowsL wc xs)) {k : Nat} (hk : k < xs.length) (y : Nat × Value) :
    ((w.setCell ⟨g, k * 2, none⟩ (.int .u16 y.1)).setCell ⟨g, k * 2 + 1, none⟩ y.2).ownsRow 0 140 2 (.slice (some ⟨g, 0, none⟩) m cap) m (rowsL wc (xs.set k y)) := by
  have hl := h.1
  rw [rowsL_length xs (wc_size xs)] at hl
  rcases h.2 with ⟨hv, _⟩ | ⟨g', cap', cur, hv, h0, hg, h1, h2, h3, h4⟩
  · cases hv
  · cases hv
    refine ⟨by rw [rowsL_length _ (wc_size _), List.length_set]; omega, .inr ⟨g, cap, (cur.setIfInBounds (k * 2) (.int .u16 y.1)).setIfInBounds (k * 2 + 1) y.2, rfl, h0, ?_, h1, h2, ?_, ?_⟩⟩
    · rw [hp_setCell, hp_setCell, hg, setOf_cells, setOf_cells]
    · simp [h3]
    · rw [Array.toList_setIfInBounds, Array.toList_setIfInBounds, List.take_set, List.take_set, h4]
      exact rows_set2 xs k y hk
theorem fault_fn (q a x : Nat) (A : Option Addr) (m c : Nat) (w : World) (hq : w.heap[q]? = some (.cells #[.int .u16 a] 52 (0, 0))) :
    Ret Tryz.prog 99 #[.agg #[.int .u16 x, .slice A m c], .pointer (some ⟨q, 0, none⟩)] w fun v' w' => v' = .bool (x == a) ∧ Ch Nw w w' := by
  refine v_enter Tryz.func99 Tryz.ntmps99 rfl (by simp) fun R' hR => ?_
  have ca := (Ch.refl Nw w).alloc (.cells #[.int .u16 x, .slice A m c] 140)
  have b1 := fun i => cell_blk (hp_alloc w (.cells #[.int .u16 x, .slice A m c] 140)) i
  have bq := fun i => cell_blk (ca.hp hq id) i
  have he : ((x : Int) == (a : Int)) = (x == a) := by
    by_cases h : x = a
    · simp [h]
    · rw [beq_false_of_ne (by omega), beq_false_of_ne h]
  simp [go_sem, b1, bq, he]
  exact hR _ _ ⟨rfl, ca⟩
def IxR (vs : List (Nat × Value)) (a : Nat) (r : Int) : Prop := (r = -1 ∧ ∀ x ∈ vs, x.1 ≠ a) ∨ ∃ i : Nat, r = i ∧ (∃ u, vs[i]? = some (a, u)) ∧ ∀ x ∈ vs.take i, x.1 ≠ a
theorem index_any (q a : Nat) (v : Value) (m : Nat) (vs : List (Nat × Value)) (w : World) (hm : m ≤ 1000000) (hv : w.ownsRow 0 140 2 v m (rowsL wc vs)) (hl : vs.length = m) (hvs : ∀ x ∈ vs, ∃ A n c, x.2 = .slice A n c) (hq : w.heap[q]? = some (.cells #[.int .u16 a] 52 (0, 0))) :
    Ret Tryz.prog 115 #[v, .func (.func 99) #[] #[.pointer (some ⟨q, 0, none⟩)]] w fun v' w' => (∃ r, v' = .int .i64 r ∧ IxR vs a r) ∧ Ch Nw w w' := by
  refine v_enter Tryz.func115 Tryz.ntmps115 rfl (by simp) fun R' hR => ?_
  have hlit : ∃ A c, v = .slice A m c := by
    rcases hv.2 with ⟨rfl, rfl⟩ | ⟨g, cap, cur, rfl, _⟩
    · exact ⟨none, 0, rfl⟩
    · exact ⟨_, _, rfl⟩
  obtain ⟨A, c, rfl⟩ := hlit
  simp [go_sem]
  refine v_loop (fun r f u => ∃ k, r = m - k ∧ k ≤ m ∧ f 0 = .slice A m c ∧ f 1 = .func (.func 99) #[] #[.pointer (some ⟨q, 0, none⟩)] ∧ f 7 = .int .i64 m ∧ f 8 = .int .i64 k ∧ (∀ x ∈ vs.take k, x.1 ≠ a) ∧ Ch Nw w u) m
    ⟨0, rfl, by omega, by simp, by simp, by simp, by simp, by simp, Ch.refl _ _⟩ ?_
  rintro J hJ _ f u ⟨k, rfl, hk, f0, f1, f7, f8, hno, ku⟩
  by_cases hlt : k < m
  · obtain ⟨x, hx⟩ : ∃ x, vs[k]? = some x := ⟨_, List.getElem?_eq_getElem (by omega)⟩
    obtain ⟨a', u'⟩ := x
    obtain ⟨A', n', c', hu'⟩ := hvs _ (List.mem_of_getElem? hx)
    simp only at hu'
    subst hu'
    obtain ⟨g, cap, hvv, h1, h2, h3, h4, r0, r1⟩ := own_cells hv hx
    cases hvv
    have r0 := ku.cell r0 id
    have r1 := ku.cell r1 id
    have hki : (k : Int) < m := by omega
    have hwk : IntKind.i64.wrap ((k : Int) + 1) = ((k + 1 : Nat) : Int) := by rw [IntKind.wrap_i64]; omega
    simp [go_sem, f0, f1, f7, f8, hki, hlt, r0, r1]
    have hfn : ∀ (x : List Value) (w : World), (callFunc 99 x.toArray).run Tryz.prog w = .ok (.enter 99 x.toArray) w := fun x w => by simp [go_sem]
    rw [VCall_closure _ _ _ _ [.pointer (some ⟨q, 0, none⟩)] _ (hfn _ _)]
    refine (fault_fn q a a' A' n' c' u (ku.hp hq id)).mono ?_
    rintro _ u2 ⟨rfl, k2⟩
    by_cases hae : a' = a
    · subst hae
      simp [go_sem]
      exact hR _ _ ⟨⟨k, rfl, .inr ⟨k, rfl, ⟨_, hx⟩, hno⟩⟩, ku.trans k2⟩
    · have hne : (a' == a) = false := beq_false_of_ne hae
      simp [go_sem, hne, f8, hwk]
      refine Rnd.intro (m - (k + 1)) (by omega) (hJ _ _ _ ⟨k + 1, rfl, by omega, by simp [f0], by simp [f1], by simp [f7], by simp, ?_, ku.trans k2⟩)
      intro y hy
      rw [List.take_add_one, hx, List.mem_append] at hy
      rcases hy with hy | hy
      · exact hno y hy
      · simp at hy; subst hy; exact hae
  · have : k = m := by omega
    subst this
    simp [go_sem, f7, f8]
    refine hR _ _ ⟨⟨-1, rfl, .inl ⟨rfl, fun x hx => hno x ?_⟩⟩, ku⟩
    rw [List.take_of_length_le (by omega)]; exact hx
end Go.Proofs.YtppilgkgnofkpaaGreatDoor

namespace Go.Proofs.YtppilgkgnofkpaaGreatDoor
open Go.RowKit Go.Kin

theorem cutL (g m c k : Nat) (hk : k ≤ m) (hm : m ≤ c) (hlt : k < c) (w : World) : (Instr.sliceAt 134 (.slice (some ⟨g, 0, none⟩) m c) (some (.int .i64 k)) none none).run Tryz.prog w = .ok (.slice (some ⟨g, k * 2, none⟩) (m - k) (c - k)) w := by
  obtain ⟨i, hi, _, hsz, _⟩ := info_parts tyWr.info
  have h1 : ¬ c - k = 0 := by omega
  simp [Instr.sliceAt, Instr.slice, Instr.sliceBounds, Instr.sliceBound, asIntOf, run_underlying tyWr.und, sizeOf, typeInfo, hi, hsz, hk, hm, h1, Addr.add]
  rw [if_neg (by omega)]
  by_cases h0 : k = 0
  · simp [h0]
  · rw [if_neg (by omega)]
theorem rowsL_take {α : Type} (f : α → Array Value) (n : Nat) (xs : List α) (h : ∀ x ∈ xs, (f x).size = n) (k : Nat) : (rowsL f xs).take (k * n) = rowsL f (xs.take k) := by
  by_cases hk : k ≤ xs.length
  · have e : rowsL f xs = rowsL f (xs.take k) ++ rowsL f (xs.drop k) := by rw [← rowsL_append, List.take_append_drop]
    rw [e, List.take_append_of_le_length (by rw [rowsL_take_length h hk]; omega), List.take_of_length_le (by rw [rowsL_take_length h hk]; omega)]
  · rw [List.take_of_length_le (l := xs) (by omega), List.take_of_length_le (by rw [rowsL_length xs h]; exact Nat.mul_le_mul_right _ (by omega))]
/-- a deletion in memory, in its midst -/
structure DelI (w u : World) (q g m c a j k : Nat) (vs us : List (Nat × Value)) (f : Nat → Value) : Prop where
  s : DelS vs us a j k
  f0 : f 0 = .slice (some ⟨g, 0, none⟩) m c
  f1 : f 1 = .func (.func 99) #[] #[.pointer (some ⟨q, 0, none⟩)]
  f5 : f 5 = .int .i64 k
  f6 : f 6 = .int .i64 j
  own : u.ownsRow 0 140 2 (.slice (some ⟨g, 0, none⟩) m c) m (rowsL wc us)
  ch : Ch (one g) w u
theorem delete_any (q a : Nat) (v : Value) (m : Nat) (vs : List (Nat × Value)) (w : World) (hm : m ≤ 1000000) (hv : w.ownsRow 0 140 2 v m (rowsL wc vs)) (hl : vs.length = m) (hvs : ∀ x ∈ vs, ∃ A n c, x.2 = .slice A n c) (hq : w.heap[q]? = some (.cells #[.int .u16 a] 52 (0, 0))) :
    Ret Tryz.prog 98 #[v, .func (.func 99) #[] #[.pointer (some ⟨q, 0, none⟩)]] w fun v' w' =>
      w'.ownsRow 0 140 2 v' (vs.filter fun e => e.1 != a).length (rowsL wc (vs.filter fun e => e.1 != a)) ∧ v'.ownBlock = v.ownBlock ∧ Ch (fun k => v.ownBlock = some k) w w' := by
  refine v_enter Tryz.func98 Tryz.ntmps98 rfl (by simp) fun R' hR => ?_
  have hlit : ∃ A c, v = .slice A m c := by
    rcases hv.2 with ⟨rfl, rfl⟩ | ⟨g, cap, cur, rfl, _⟩
    · exact ⟨none, 0, rfl⟩
    · exact ⟨_, _, rfl⟩
  obtain ⟨A, c, rfl⟩ := hlit
  simp [go_sem]
  refine (index_any q a _ m vs w hm hv hl hvs hq).mono ?_
  rintro _ w1 ⟨⟨r, rfl, hr⟩, c1⟩
  have hv1 := own_ch hv c1 fun _ _ e => e
  have hq1 := c1.hp hq id
  rcases hr with ⟨rfl, hno⟩ | ⟨i, rfl, ⟨x, hx⟩, hno⟩
  · simp [go_sem]
    have e : vs.filter (fun e => e.1 != a) = vs := List.filter_eq_self.2 fun x hx => by simpa using hno x hx
    refine hR _ _ ⟨by rw [e, hl]; exact hv1, rfl, c1.mono fun _ _ e => e.elim⟩
  · have him : i < m := by have := (List.getElem?_eq_some_iff.1 hx).1; omega
    obtain ⟨g, cap, hvv, h1, h2, h3, _⟩ := own_cells hv1 hx
    cases hvv
    have hi1 : ((i : Int) == -1) = false := beq_false_of_ne (by omega)
    have hwi : IntKind.i64.wrap ((i : Int) + 1) = ((i + 1 : Nat) : Int) := by rw [IntKind.wrap_i64]; omega
    have hqg : q ≠ g := by
      rintro rfl
      rcases hv1.2 with ⟨hv, _⟩ | ⟨g', cap', cur, hv, _, hg, _⟩
      · cases hv
      · cases hv
        rw [hq1] at hg
        cases hg
    simp [go_sem, hi1, hwi]
    refine v_loop (fun r f u => ∃ k j us, r = m - j ∧ j ≤ m ∧ DelI w u q g m c a j k vs us f) (m - (i + 1))
      ⟨i, i + 1, vs, rfl, by omega, DelS.start hx hno, by simp, by simp, by simp, by simp, hv1, c1.mono fun _ _ e => e.elim⟩ ?_
    rintro J hJ _ f u ⟨k, j, us, rfl, hj, hs, f0, f1, f5, f6, hown, ku⟩
    have hgb : ∀ k, (Value.slice (some ⟨g, 0, none⟩) m c).ownBlock = some k → k = g := fun k hk => by simp [Value.ownBlock] at hk; exact hk.symm
    by_cases hlt : j < m
    · obtain ⟨y, hy⟩ : ∃ y, vs[j]? = some y := ⟨_, List.getElem?_eq_getElem (by omega)⟩
      obtain ⟨b, uu⟩ := y
      obtain ⟨A', n', c', hu'⟩ := hvs _ (List.mem_of_getElem? hy)
      simp only at hu'
      subst hu'
      have hyu := (hs.at j (Nat.le_refl _)).trans hy
      obtain ⟨g2, cap2, hvv2, _, _, _, _, r0, r1⟩ := own_cells hown hyu
      cases hvv2
      have hji : (j : Int) < m := by omega
      have hwj : IntKind.i64.wrap ((j : Int) + 1) = ((j + 1 : Nat) : Int) := by rw [IntKind.wrap_i64]; omega
      have hwk : IntKind.i64.wrap ((k : Int) + 1) = ((k + 1 : Nat) : Int) := by rw [IntKind.wrap_i64]; have := hs.lt; omega
      have ca := (Ch.refl Nw u).alloc (.cells #[.int .u16 b, .slice A' n' c'] 140)
      have ba' := hp_alloc u (.cells #[.int .u16 b, .slice A' n' c'] 140)
      have ba := fun i => cell_blk ba' i
      simp [go_sem, f0, f1, f5, f6, hji, hlt, r0, r1, ba]
      have hfn : ∀ (x : List Value) (w : World), (callFunc 99 x.toArray).run Tryz.prog w = .ok (.enter 99 x.toArray) w := fun x w => by simp [go_sem]
      rw [VCall_closure _ _ _ _ [.pointer (some ⟨q, 0, none⟩)] _ (hfn _ _)]
      have hqu := (ku.hp hq hqg)
      refine (fault_fn q a b A' n' c' _ (ca.hp hqu id)).mono ?_
      rintro _ u2 ⟨rfl, k2⟩
      have k02 := ca.trans k2
      have own2 := own_ch hown k02 fun _ _ e => e
      have ba2 := fun i => cell_blk (k2.hp ba' id) i
      by_cases hba : b = a
      · subst hba
        simp [go_sem, f6, hwj]
        exact Rnd.intro (m - (j + 1)) (by omega) (hJ _ _ _ ⟨k, j + 1, us, rfl, by omega, hs.skip hy, by simp [f0], by simp [f1], by simp [f5], by simp, own2, ku.trans' k02 fun _ _ e => e.elim⟩)
      · have hne : (b == a) = false := beq_false_of_ne hba
        have hkl : k < us.length := by have := hs.lt; have := hs.len; omega
        have hki : (k : Int) < m := by have := hs.lt; omega
        have own3 := own_set own2 hkl (b, .slice A' n' c')
        obtain ⟨y2, hy2⟩ : ∃ y2, us[k]? = some y2 := ⟨_, List.getElem?_eq_getElem hkl⟩
        obtain ⟨cur, hcur⟩ : ∃ cur, u2.heap[g]? = some (.cells cur 140 (0, 0)) := by
          rcases own2.2 with ⟨hv, _⟩ | ⟨g', cap', cur, hv, _, hg, _⟩
          · cases hv
          · cases hv; exact ⟨cur, hg⟩
        obtain ⟨_, _, hvv3, _, _, _, _, r2, r3⟩ := own_cells (a := y2.1) (u := y2.2) own2 hy2
        cases hvv3
        have z1 := frz_blk hcur (k * 2)
        have hcur2 : (u2.setCell ⟨g, k * 2, none⟩ (.int .u16 b)).heap[g]? = some (.cells (cur.setIfInBounds (k * 2) (.int .u16 b)) 140 (0, 0)) := by rw [hp_setCell, hcur, setOf_cells]
        have z2 := frz_blk hcur2 (k * 2 + 1)
        have r4 : (u2.setCell ⟨g, k * 2, none⟩ (.int .u16 b)).cell? ⟨g, k * 2 + 1, none⟩ = some y2.2 := by
          refine (cell_blk hcur2 (k * 2 + 1)).trans ?_
          rw [Array.getElem?_setIfInBounds_ne (by omega)]
          exact (cell_blk hcur (k * 2 + 1)).symm.trans r3
        simp [go_sem, hne, f0, f5, f6, hwj, hwk, ba2, hki, r2, r4, z1, z2]
        have ks : Ch (one g) w ((u2.setCell ⟨g, k * 2, none⟩ (.int .u16 b)).setCell ⟨g, k * 2 + 1, none⟩ (.slice A' n' c')) := ((ku.trans' k02 fun _ _ e => e.elim).setCell (p := ⟨g, k * 2, none⟩) (.inl rfl) _).setCell (p := ⟨g, k * 2 + 1, none⟩) (.inl rfl) _
        exact Rnd.intro (m - (j + 1)) (by omega) (hJ _ _ _ ⟨k + 1, j + 1, us.set k (b, .slice A' n' c'), rfl, by omega, hs.keep hy hba, by simp [f0], by simp [f1], by simp, by simp, own3, ks⟩)
    · obtain rfl : j = m := by omega
      have hs' := hs
      rw [← hl] at hs'
      obtain ⟨e1, e2⟩ := hs'.fin
      have hkm := hs.lt
      have hki : (k : Int) ≤ j := by omega
      have hkc : (k : Int) ≤ c := by omega
      obtain ⟨cur, hcur, hcs, hct⟩ : ∃ cur, u.heap[g]? = some (.cells cur 140 (0, 0)) ∧ cur.size = c * 2 ∧ cur.toList.take (j * 2) = rowsL wc us := by
        rcases hown.2 with ⟨hv, _⟩ | ⟨g', cap', cur, hv, _, hg, _, _, h3, h4⟩
        · cases hv
        · cases hv; exact ⟨cur, hg, h3, h4⟩
      simp [go_sem, f0, f5, f6, cutL g j c k (by omega) h1 (by omega)]
      refine VB_clear_at tyWr (by decide) hcur (by omega) fun u2 cur' hc2 hsz htk k2 => ?_
      simp [go_sem, f0, f5, cutS (some ⟨g, 0, none⟩) j k c (by omega)]
      refine hR _ _ ⟨?_, rfl, (ku.trans k2).mono fun x _ e => by simp only [one] at e; rw [e]; rfl⟩
      rw [e2]
      refine ⟨by rw [rowsL_length _ (wc_size _), e2], .inr ⟨g, c, cur', rfl, Nat.zero_le _, hc2, by omega, h2, by omega, ?_⟩⟩
      rw [htk, ← e1, ← rowsL_take wc 2 us (wc_size us) k, ← hct, List.take_take, Nat.min_eq_left (by omega)]
end Go.Proofs.YtppilgkgnofkpaaGreatDoor
