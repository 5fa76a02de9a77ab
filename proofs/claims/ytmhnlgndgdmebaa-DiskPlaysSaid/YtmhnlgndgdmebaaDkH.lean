/- slices.DeleteFunc on a disk's cache, as a contract on calls. No condition but on sizes. -/
import Derived.Test.YtmhnlgndgdmebaaDkG
namespace Go.Kin
open Go Go.RowKit
/-- clear on a part of a block -/
theorem VB_clear_at {P : Program} {w : World} {t e ty : TypeId} {z : Value} {size bytes : Nat} {K : Value → World → Prop} (T : TyS P t e z size bytes) (hz1 : ∀ u ∈ z.cells, u.oneCell' = true) {g o n c : Nat} {cur : Array Value} (hg : w.heap[g]? = some (.cells cur e (0, 0))) (hfit : o + n * size ≤ cur.size)
    (h : ∀ w' cur', w'.heap[g]? = some (.cells cur' e (0, 0)) → cur'.size = cur.size → cur'.toList.take o = cur.toList.take o → Ch (one g) w w' → K (.tuple #[]) w') : VB P .clear #[t] ty #[.slice (some ⟨g, o, none⟩) n c] w K := by
  obtain ⟨i, hi, hz, hsz, hby⟩ := info_parts T.info
  have go : ∀ w', (Builtin.clear_ #[t] ty #[.slice (some ⟨g, o, none⟩) n c]).run P w = .ok (.tuple #[]) w' → K (.tuple #[]) w' → VB P .clear #[t] ty #[.slice (some ⟨g, o, none⟩) n c] w K := fun w' hr hk => by
    unfold VB VR
    simp only [hr]
    exact hk
  rcases Nat.eq_zero_or_pos n with rfl | hn
  · exact go w (by simp [Builtin.clear_, run_underlying T.und]) (h w cur hg rfl rfl (Ch.refl _ _))
  · obtain ⟨m, rfl⟩ : ∃ m, n = m + 1 := ⟨n - 1, by omega⟩
    have hzs : (Builtin.zeroCells z.cells (m + 1)).toList.length = (m + 1) * size := by simp [Builtin.zeroCells, T.cells]
    have hz1' : ∀ u ∈ (Builtin.zeroCells z.cells (m + 1)).toList, u.oneCell' = true := by
      intro u hu
      simp only [Builtin.zeroCells, Array.toList_map, List.mem_map] at hu
      obtain ⟨j, _, rfl⟩ := hu
      have hp := T.pos
      have hlt : j % z.cells.size < z.cells.size := Nat.mod_lt _ (by rw [T.cells]; exact hp)
      rw [getElem!_pos z.cells _ hlt]
      exact hz1 _ (Array.getElem_mem _)
    have hst := run_storeCells_at P g o e (Builtin.zeroCells z.cells (m + 1)).toList 0 cur w hg (by omega) hz1'
    have hrun : (Builtin.clear_ #[t] ty #[.slice (some ⟨g, o, none⟩) (m + 1) c]).run P w = .ok (.tuple #[]) (w.setRow g (cur.toList.take (o + 0) ++ (Builtin.zeroCells z.cells (m + 1)).toList ++ cur.toList.drop (o + 0 + (Builtin.zeroCells z.cells (m + 1)).toList.length)).toArray) := by
      simp [Builtin.clear_, run_underlying T.und, zeroValue, typeInfo, hi, hz, hst]
    refine go _ hrun (h _ _ (by rw [hp_setRow, hg]; rfl) (by simp only [List.size_toArray, List.length_append, List.length_take, List.length_drop, hzs, Array.length_toList]; omega) ?_ (Ch.setRow (g := g) (S := one g) (Ch.refl _ w) (.inl rfl) _))
    simp only [Nat.add_zero, List.append_assoc]
    rw [List.take_append_of_le_length (by simp; omega), List.take_take, Nat.min_self]
theorem set2 (cs : Array Value) (o : Nat) (a b : Value) (h : o + 2 ≤ cs.size) : (cs.setIfInBounds o a).setIfInBounds (o + 1) b = blit cs o #[a, b] := by
  have := foldl_blit [a, b] cs o 0 (by simp; omega)
  simpa using this
theorem par_filter {R : Value → Byts → Prop} (p : Nat → Bool) : ∀ (c : List (Nat × Byts)) (vs : List (Nat × Value)), vs.length = c.length → (∀ (i a : Nat) (b : Byts), c[i]? = some (a, b) → ∃ u, vs[i]? = some (a, u) ∧ R u b) →
    (vs.filter fun e => p e.1).length = (c.filter fun e => p e.1).length ∧ ∀ (i a : Nat) (b : Byts), (c.filter fun e => p e.1)[i]? = some (a, b) → ∃ u, (vs.filter fun e => p e.1)[i]? = some (a, u) ∧ R u b := by
  intro c
  induction c with
  | nil => intro vs hl _; rw [List.eq_nil_of_length_eq_zero (l := vs) hl]; simp
  | cons e c ih =>
    obtain ⟨a, b⟩ := e
    intro vs hl h
    cases vs with
    | nil => simp at hl
    | cons e vs =>
      obtain ⟨a', u⟩ := e
      obtain ⟨u', hu, hr⟩ := h 0 a b rfl
      simp at hu
      obtain ⟨rfl, rfl⟩ := hu
      obtain ⟨h1, h2⟩ := ih vs (by simpa using hl) fun i a b hi => by simpa using h (i + 1) a b (by simpa using hi)
      by_cases hp : p a' = true
      · rw [List.filter_cons_of_pos (by simpa using hp), List.filter_cons_of_pos (by simpa using hp)]
        refine ⟨by simp [h1], fun i x y hi => ?_⟩
        cases i with
        | zero =>
          simp at hi
          obtain ⟨rfl, rfl⟩ := hi
          exact ⟨u, rfl, hr⟩
        | succ i => exact h2 i x y (by simpa using hi)
      · rw [List.filter_cons_of_neg (by simpa using hp), List.filter_cons_of_neg (by simpa using hp)]
        exact ⟨h1, h2⟩
/-- a row in the midst of a deletion: j looked at, k kept -/
structure DelS (vs us : List (Nat × Value)) (a j k : Nat) : Prop where
  len : us.length = vs.length
  fr : us.take k = (vs.take j).filter fun e => e.1 != a
  bk : us.drop j = vs.drop j
  cnt : k = ((vs.take j).filter fun e => e.1 != a).length
  lt : k < j
theorem DelS.start {vs : List (Nat × Value)} {a i : Nat} {u : Value} (h : vs[i]? = some (a, u)) (hb : ∀ x ∈ vs.take i, x.1 ≠ a) : DelS vs vs a (i + 1) i := by
  have hi : i < vs.length := (List.getElem?_eq_some_iff.1 h).1
  have e : (vs.take (i + 1)).filter (fun e => e.1 != a) = vs.take i := by
    rw [List.take_add_one, h, List.filter_append, List.filter_eq_self.2 fun x hx => by simpa using hb x hx]
    simp
  exact ⟨rfl, e.symm, rfl, by rw [e, List.length_take]; omega, by omega⟩
theorem DelS.at {vs us : List (Nat × Value)} {a j k : Nat} (h : DelS vs us a j k) (i : Nat) (hi : j ≤ i) : us[i]? = vs[i]? := by
  have := congrArg (fun l => l[i - j]?) h.bk
  simpa [List.getElem?_drop, Nat.add_sub_cancel' hi] using this
theorem DelS.skip {vs us : List (Nat × Value)} {a j k : Nat} {u : Value} (h : DelS vs us a j k) (hj : vs[j]? = some (a, u)) : DelS vs us a (j + 1) k := by
  have e : (vs.take (j + 1)).filter (fun e => e.1 != a) = (vs.take j).filter fun e => e.1 != a := by
    rw [List.take_add_one, hj, List.filter_append]
    simp
  refine ⟨h.len, h.fr.trans e.symm, ?_, by rw [e]; exact h.cnt, by have := h.lt; omega⟩
  have := congrArg (List.drop 1) h.bk
  simpa [List.drop_drop] using this
theorem DelS.keep {vs us : List (Nat × Value)} {a j k x : Nat} {u : Value} (h : DelS vs us a j k) (hj : vs[j]? = some (x, u)) (hx : x ≠ a) : DelS vs (us.set k (x, u)) a (j + 1) (k + 1) := by
  have hjl : j < vs.length := (List.getElem?_eq_some_iff.1 hj).1
  have hl := h.len
  have hlt := h.lt
  have e : (vs.take (j + 1)).filter (fun e => e.1 != a) = ((vs.take j).filter fun e => e.1 != a) ++ [(x, u)] := by
    rw [List.take_add_one, hj, List.filter_append]
    simp [hx]
  refine ⟨by simp [hl], ?_, ?_, by rw [e, List.length_append, ← h.cnt]; rfl, by omega⟩
  · rw [e, ← h.fr, List.take_add_one, List.take_set_of_le (by omega), List.getElem?_set_self (by omega)]
    rfl
  · rw [List.drop_set_of_lt (by omega)]
    have := congrArg (List.drop 1) h.bk
    simpa [List.drop_drop] using this
theorem DelS.fin {vs us : List (Nat × Value)} {a k : Nat} (h : DelS vs us a vs.length k) : us.take k = vs.filter (fun e => e.1 != a) ∧ (vs.filter fun e => e.1 != a).length = k := by
  have h1 := h.fr
  have h2 := h.cnt
  rw [List.take_length] at h1 h2
  exact ⟨h1, h2.symm⟩
end Go.Kin
namespace Go.Proofs.Ytmhnlgndgdmebaa
open Go.RowKit Go.Kin

theorem rows_set2 (xs : List (Nat × Value)) (k : Nat) (y : Nat × Value) (hk : k < xs.length) : ((rowsL wc xs).set (k * 2) (.int .u16 y.1)).set (k * 2 + 1) y.2 = rowsL wc (xs.set k y) := by
  have hsz : (rowsOf wc xs).size = xs.length * 2 := rows_size (wc_size xs)
  have e := rows_blit (wc_size xs) (k := k) (y := y) hk rfl
  have e2 := set2 (rowsOf wc xs) (k * 2) (.int .u16 y.1) y.2 (by omega)
  have : ((rowsOf wc xs).setIfInBounds (k * 2) (.int .u16 y.1)).setIfInBounds (k * 2 + 1) y.2 = rowsOf wc (xs.set k y) := e2.trans e
  have := congrArg Array.toList this
  simpa [rowsOf] using this
/-- an element of a row of the call's own, stored -/
theorem own_set {w : World} {g cap m : Nat} {xs : List (Nat × Value)} (h : w.ownsRow 0 116 2 (.slice (some ⟨g, 0, none⟩) m cap) m (rowsL wc xs)) {k : Nat} (hk : k < xs.length) (y : Nat × Value) :
    ((w.setCell ⟨g, k * 2, none⟩ (.int .u16 y.1)).setCell ⟨g, k * 2 + 1, none⟩ y.2).ownsRow 0 116 2 (.slice (some ⟨g, 0, none⟩) m cap) m (rowsL wc (xs.set k y)) := by
  have hl := h.1
  rw [rowsL_length xs (wc_size xs)] at hl
  rcases h.2 with ⟨hv, _⟩ | ⟨g', cap', cur, hv, h0, hg, h1, h2, h3, h4⟩
  · cases hv
  · cases hv
    refine ⟨by rw [rowsL_length _ (wc_size _), List.length_set]; omega, .inr ⟨g, cap, (cur.setIfInBounds (k * 2) (.int .u16 y.1)).setIfInBounds (k * 2 + 1) y.2, rfl, h0, ?_, h1, h2, ?_, ?_⟩⟩
    · rw [hp_setCell, hp_setCell, hg, setOf_cells, setOf_cells]
    · simp [h3]
    · rw [Array.toList_setIfInBounds, Array.toList_setIfInBounds, List.take_set, List.take_set, h4]
      exact rows_set2 xs k y hk
theorem fault_fn (q a x : Nat) (A : Option Addr) (m c : Nat) (w : World) (hq : w.heap[q]? = some (.cells #[.int .u16 a] 24 (0, 0))) :
    Ret Try.prog 80 #[.agg #[.int .u16 x, .slice A m c], .pointer (some ⟨q, 0, none⟩)] w fun v' w' => v' = .bool (x == a) ∧ Ch Nw w w' := by
  refine v_enter Try.func80 Try.ntmps80 rfl (by simp) fun R' hR => ?_
  have ca := (Ch.refl Nw w).alloc (.cells #[.int .u16 x, .slice A m c] 116)
  have b1 := fun i => cell_blk (hp_alloc w (.cells #[.int .u16 x, .slice A m c] 116)) i
  have bq := fun i => cell_blk (ca.hp hq id) i
  have he : ((x : Int) == (a : Int)) = (x == a) := by
    by_cases h : x = a
    · simp [h]
    · rw [beq_false_of_ne (by omega), beq_false_of_ne h]
  simp [go_sem, b1, bq, he]
  exact hR _ _ ⟨rfl, ca⟩
def IxR (vs : List (Nat × Value)) (a : Nat) (r : Int) : Prop := (r = -1 ∧ ∀ x ∈ vs, x.1 ≠ a) ∨ ∃ i : Nat, r = i ∧ (∃ u, vs[i]? = some (a, u)) ∧ ∀ x ∈ vs.take i, x.1 ≠ a
theorem index_any (q a : Nat) (v : Value) (m : Nat) (vs : List (Nat × Value)) (w : World) (hm : m ≤ 1000000) (hv : w.ownsRow 0 116 2 v m (rowsL wc vs)) (hl : vs.length = m) (hvs : ∀ x ∈ vs, ∃ A n c, x.2 = .slice A n c) (hq : w.heap[q]? = some (.cells #[.int .u16 a] 24 (0, 0))) :
    Ret Try.prog 88 #[v, .func (.func 80) #[] #[.pointer (some ⟨q, 0, none⟩)]] w fun v' w' => (∃ r, v' = .int .i64 r ∧ IxR vs a r) ∧ Ch Nw w w' := by
  refine v_enter Try.func88 Try.ntmps88 rfl (by simp) fun R' hR => ?_
  have hlit : ∃ A c, v = .slice A m c := by
    rcases hv.2 with ⟨rfl, rfl⟩ | ⟨g, cap, cur, rfl, _⟩
    · exact ⟨none, 0, rfl⟩
    · exact ⟨_, _, rfl⟩
  obtain ⟨A, c, rfl⟩ := hlit
  simp [go_sem]
  refine v_loop (fun r f u => ∃ k, r = m - k ∧ k ≤ m ∧ f 0 = .slice A m c ∧ f 1 = .func (.func 80) #[] #[.pointer (some ⟨q, 0, none⟩)] ∧ f 7 = .int .i64 m ∧ f 8 = .int .i64 k ∧ (∀ x ∈ vs.take k, x.1 ≠ a) ∧ Ch Nw w u) m
    ⟨0, rfl, by omega, by simp, by simp, by simp, by simp, by simp, Ch.refl _ _⟩ ?_
  rintro J hJ _ f u ⟨k, rfl, hk, f0, f1, f7, f8, hno, ku⟩
  by_cases hlt : k < m
  · obtain ⟨x, hx⟩ : ∃ x, vs[k]? = some x := ⟨_, List.getElem?_eq_getElem (by omega)⟩
    obtain ⟨a', u'⟩ := x
    obtain ⟨A', n', c', hu'⟩ := hvs _ (List.mem_of_getElem? hx)
    simp only at hu'
    subst hu'
    obtain ⟨g, cap, hvv, h1, h2, h3, h4, r0, r1⟩ := own_cells hv hx
    cases hvv
    have r0 := ku.cell r0 id
    have r1 := ku.cell r1 id
    have hki : (k : Int) < m := by omega
    have hwk : IntKind.i64.wrap ((k : Int) + 1) = ((k + 1 : Nat) : Int) := by rw [IntKind.wrap_i64]; omega
    simp [go_sem, f0, f1, f7, f8, hki, hlt, r0, r1]
    have hfn : ∀ (x : List Value) (w : World), (callFunc 80 x.toArray).run Try.prog w = .ok (.enter 80 x.toArray) w := fun x w => by simp [go_sem]
    rw [VCall_closure _ _ _ _ [.pointer (some ⟨q, 0, none⟩)] _ (hfn _ _)]
    refine (fault_fn q a a' A' n' c' u (ku.hp hq id)).mono ?_
    rintro _ u2 ⟨rfl, k2⟩
    by_cases hae : a' = a
    · subst hae
      simp [go_sem]
      exact hR _ _ ⟨⟨k, rfl, .inr ⟨k, rfl, ⟨_, hx⟩, hno⟩⟩, ku.trans k2⟩
    · have hne : (a' == a) = false := beq_false_of_ne hae
      simp [go_sem, hne, f8, hwk]
      refine Rnd.intro (m - (k + 1)) (by omega) (hJ _ _ _ ⟨k + 1, rfl, by omega, by simp [f0], by simp [f1], by simp [f7], by simp, ?_, ku.trans k2⟩)
      intro y hy
      rw [List.take_add_one, hx, List.mem_append] at hy
      rcases hy with hy | hy
      · exact hno y hy
      · simp at hy; subst hy; exact hae
  · have : k = m := by omega
    subst this
    simp [go_sem, f7, f8]
    refine hR _ _ ⟨⟨-1, rfl, .inl ⟨rfl, fun x hx => hno x ?_⟩⟩, ku⟩
    rw [List.take_of_length_le (by omega)]; exact hx
end Go.Proofs.Ytmhnlgndgdmebaa
