/- slices.DeleteFunc on a disk's cache, as a contract on calls. No condition but on sizes. -/
import Derived.Test.YtmhnlgndgdmebaaDkH
namespace Go.Proofs.Ytmhnlgndgdmebaa
open Go.RowKit Go.Kin

theorem cutL (g m c k : Nat) (hk : k ≤ m) (hm : m ≤ c) (hlt : k < c) (w : World) : (Instr.sliceAt 110 (.slice (some ⟨g, 0, none⟩) m c) (some (.int .i64 k)) none none).run Try.prog w = .ok (.slice (some ⟨g, k * 2, none⟩) (m - k) (c - k)) w := by
  obtain ⟨i, hi, _, hsz, _⟩ := info_parts tyWr.info
  have h1 : ¬ c - k = 0 := by omega
  simp [Instr.sliceAt, Instr.slice, Instr.sliceBounds, Instr.sliceBound, asIntOf, run_underlying tyWr.und, sizeOf, typeInfo, hi, hsz, hk, hm, h1, Addr.add]
  rw [if_neg (by omega)]
  by_cases h0 : k = 0
  · simp [h0]
  · rw [if_neg (by omega)]
theorem rowsL_take {α : Type} (f : α → Array Value) (n : Nat) (xs : List α) (h : ∀ x ∈ xs, (f x).size = n) (k : Nat) : (rowsL f xs).take (k * n) = rowsL f (xs.take k) := by
  by_cases hk : k ≤ xs.length
  · have e : rowsL f xs = rowsL f (xs.take k) ++ rowsL f (xs.drop k) := by rw [← rowsL_append, List.take_append_drop]
    rw [e, List.take_append_of_le_length (by rw [rowsL_take_length h hk]; omega), List.take_of_length_le (by rw [rowsL_take_length h hk]; omega)]
  · rw [List.take_of_length_le (l := xs) (by omega), List.take_of_length_le (by rw [rowsL_length xs h]; exact Nat.mul_le_mul_right _ (by omega))]
/-- a deletion in memory, in its midst -/
structure DelI (w u : World) (q g m c a j k : Nat) (vs us : List (Nat × Value)) (f : Nat → Value) : Prop where
  s : DelS vs us a j k
  f0 : f 0 = .slice (some ⟨g, 0, none⟩) m c
  f1 : f 1 = .func (.func 80) #[] #[.pointer (some ⟨q, 0, none⟩)]
  f5 : f 5 = .int .i64 k
  f6 : f 6 = .int .i64 j
  own : u.ownsRow 0 116 2 (.slice (some ⟨g, 0, none⟩) m c) m (rowsL wc us)
  ch : Ch (one g) w u
theorem delete_any (q a : Nat) (v : Value) (m : Nat) (vs : List (Nat × Value)) (w : World) (hm : m ≤ 1000000) (hv : w.ownsRow 0 116 2 v m (rowsL wc vs)) (hl : vs.length = m) (hvs : ∀ x ∈ vs, ∃ A n c, x.2 = .slice A n c) (hq : w.heap[q]? = some (.cells #[.int .u16 a] 24 (0, 0))) :
    Ret Try.prog 79 #[v, .func (.func 80) #[] #[.pointer (some ⟨q, 0, none⟩)]] w fun v' w' =>
      w'.ownsRow 0 116 2 v' (vs.filter fun e => e.1 != a).length (rowsL wc (vs.filter fun e => e.1 != a)) ∧ v'.ownBlock = v.ownBlock ∧ Ch (fun k => v.ownBlock = some k) w w' := by
  refine v_enter Try.func79 Try.ntmps79 rfl (by simp) fun R' hR => ?_
  have hlit : ∃ A c, v = .slice A m c := by
    rcases hv.2 with ⟨rfl, rfl⟩ | ⟨g, cap, cur, rfl, _⟩
    · exact ⟨none, 0, rfl⟩
    · exact ⟨_, _, rfl⟩
  obtain ⟨A, c, rfl⟩ := hlit
  simp [go_sem]
  refine (index_any q a _ m vs w hm hv hl hvs hq).mono ?_
  rintro _ w1 ⟨⟨r, rfl, hr⟩, c1⟩
  have hv1 := own_ch hv c1 fun _ _ e => e
  have hq1 := c1.hp hq id
  rcases hr with ⟨rfl, hno⟩ | ⟨i, rfl, ⟨x, hx⟩, hno⟩
  · simp [go_sem]
    have e : vs.filter (fun e => e.1 != a) = vs := List.filter_eq_self.2 fun x hx => by simpa using hno x hx
    refine hR _ _ ⟨by rw [e, hl]; exact hv1, rfl, c1.mono fun _ _ e => e.elim⟩
  · have him : i < m := by have := (List.getElem?_eq_some_iff.1 hx).1; omega
    obtain ⟨g, cap, hvv, h1, h2, h3, _⟩ := own_cells hv1 hx
    cases hvv
    have hi1 : ((i : Int) == -1) = false := beq_false_of_ne (by omega)
    have hwi : IntKind.i64.wrap ((i : Int) + 1) = ((i + 1 : Nat) : Int) := by rw [IntKind.wrap_i64]; omega
    have hqg : q ≠ g := by
      rintro rfl
      rcases hv1.2 with ⟨hv, _⟩ | ⟨g', cap', cur, hv, _, hg, _⟩
      · cases hv
      · cases hv
        rw [hq1] at hg
        cases hg
    simp [go_sem, hi1, hwi]
    refine v_loop (fun r f u => ∃ k j us, r = m - j ∧ j ≤ m ∧ DelI w u q g m c a j k vs us f) (m - (i + 1))
      ⟨i, i + 1, vs, rfl, by omega, DelS.start hx hno, by simp, by simp, by simp, by simp, hv1, c1.mono fun _ _ e => e.elim⟩ ?_
    rintro J hJ _ f u ⟨k, j, us, rfl, hj, hs, f0, f1, f5, f6, hown, ku⟩
    have hgb : ∀ k, (Value.slice (some ⟨g, 0, none⟩) m c).ownBlock = some k → k = g := fun k hk => by simp [Value.ownBlock] at hk; exact hk.symm
    by_cases hlt : j < m
    · obtain ⟨y, hy⟩ : ∃ y, vs[j]? = some y := ⟨_, List.getElem?_eq_getElem (by omega)⟩
      obtain ⟨b, uu⟩ := y
      obtain ⟨A', n', c', hu'⟩ := hvs _ (List.mem_of_getElem? hy)
      simp only at hu'
      subst hu'
      have hyu := (hs.at j (Nat.le_refl _)).trans hy
      obtain ⟨g2, cap2, hvv2, _, _, _, _, r0, r1⟩ := own_cells hown hyu
      cases hvv2
      have hji : (j : Int) < m := by omega
      have hwj : IntKind.i64.wrap ((j : Int) + 1) = ((j + 1 : Nat) : Int) := by rw [IntKind.wrap_i64]; omega
      have hwk : IntKind.i64.wrap ((k : Int) + 1) = ((k + 1 : Nat) : Int) := by rw [IntKind.wrap_i64]; have := hs.lt; omega
      have ca := (Ch.refl Nw u).alloc (.cells #[.int .u16 b, .slice A' n' c'] 116)
      have ba' := hp_alloc u (.cells #[.int .u16 b, .slice A' n' c'] 116)
      have ba := fun i => cell_blk ba' i
      simp [go_sem, f0, f1, f5, f6, hji, hlt, r0, r1, ba]
      have hfn : ∀ (x : List Value) (w : World), (callFunc 80 x.toArray).run Try.prog w = .ok (.enter 80 x.toArray) w := fun x w => by simp [go_sem]
      rw [VCall_closure _ _ _ _ [.pointer (some ⟨q, 0, none⟩)] _ (hfn _ _)]
      have hqu := (ku.hp hq hqg)
      refine (fault_fn q a b A' n' c' _ (ca.hp hqu id)).mono ?_
      rintro _ u2 ⟨rfl, k2⟩
      have k02 := ca.trans k2
      have own2 := own_ch hown k02 fun _ _ e => e
      have ba2 := fun i => cell_blk (k2.hp ba' id) i
      by_cases hba : b = a
      · subst hba
        simp [go_sem, f6, hwj]
        exact Rnd.intro (m - (j + 1)) (by omega) (hJ _ _ _ ⟨k, j + 1, us, rfl, by omega, hs.skip hy, by simp [f0], by simp [f1], by simp [f5], by simp, own2, ku.trans' k02 fun _ _ e => e.elim⟩)
      · have hne : (b == a) = false := beq_false_of_ne hba
        have hkl : k < us.length := by have := hs.lt; have := hs.len; omega
        have hki : (k : Int) < m := by have := hs.lt; omega
        have own3 := own_set own2 hkl (b, .slice A' n' c')
        obtain ⟨y2, hy2⟩ : ∃ y2, us[k]? = some y2 := ⟨_, List.getElem?_eq_getElem hkl⟩
        obtain ⟨cur, hcur⟩ : ∃ cur, u2.heap[g]? = some (.cells cur 116 (0, 0)) := by
          rcases own2.2 with ⟨hv, _⟩ | ⟨g', cap', cur, hv, _, hg, _⟩
          · cases hv
          · cases hv; exact ⟨cur, hg⟩
        obtain ⟨_, _, hvv3, _, _, _, _, r2, r3⟩ := own_cells (a := y2.1) (u := y2.2) own2 hy2
        cases hvv3
        have z1 := frz_blk hcur (k * 2)
        have hcur2 : (u2.setCell ⟨g, k * 2, none⟩ (.int .u16 b)).heap[g]? = some (.cells (cur.setIfInBounds (k * 2) (.int .u16 b)) 116 (0, 0)) := by rw [hp_setCell, hcur, setOf_cells]
        have z2 := frz_blk hcur2 (k * 2 + 1)
        have r4 : (u2.setCell ⟨g, k * 2, none⟩ (.int .u16 b)).cell? ⟨g, k * 2 + 1, none⟩ = some y2.2 := by
          refine (cell_blk hcur2 (k * 2 + 1)).trans ?_
          rw [Array.getElem?_setIfInBounds_ne (by omega)]
          exact (cell_blk hcur (k * 2 + 1)).symm.trans r3
        simp [go_sem, hne, f0, f5, f6, hwj, hwk, ba2, hki, r2, r4, z1, z2]
        have ks : Ch (one g) w ((u2.setCell ⟨g, k * 2, none⟩ (.int .u16 b)).setCell ⟨g, k * 2 + 1, none⟩ (.slice A' n' c')) := ((ku.trans' k02 fun _ _ e => e.elim).setCell (p := ⟨g, k * 2, none⟩) (.inl rfl) _).setCell (p := ⟨g, k * 2 + 1, none⟩) (.inl rfl) _
        exact Rnd.intro (m - (j + 1)) (by omega) (hJ _ _ _ ⟨k + 1, j + 1, us.set k (b, .slice A' n' c'), rfl, by omega, hs.keep hy hba, by simp [f0], by simp [f1], by simp, by simp, own3, ks⟩)
    · obtain rfl : j = m := by omega
      have hs' := hs
      rw [← hl] at hs'
      obtain ⟨e1, e2⟩ := hs'.fin
      have hkm := hs.lt
      have hki : (k : Int) ≤ j := by omega
      have hkc : (k : Int) ≤ c := by omega
      obtain ⟨cur, hcur, hcs, hct⟩ : ∃ cur, u.heap[g]? = some (.cells cur 116 (0, 0)) ∧ cur.size = c * 2 ∧ cur.toList.take (j * 2) = rowsL wc us := by
        rcases hown.2 with ⟨hv, _⟩ | ⟨g', cap', cur, hv, _, hg, _, _, h3, h4⟩
        · cases hv
        · cases hv; exact ⟨cur, hg, h3, h4⟩
      simp [go_sem, f0, f5, f6, cutL g j c k (by omega) h1 (by omega)]
      refine VB_clear_at tyWr (by decide) hcur (by omega) fun u2 cur' hc2 hsz htk k2 => ?_
      simp [go_sem, f0, f5, cutS (some ⟨g, 0, none⟩) j k c (by omega)]
      refine hR _ _ ⟨?_, rfl, (ku.trans k2).mono fun x _ e => by simp only [one] at e; rw [e]; rfl⟩
      rw [e2]
      refine ⟨by rw [rowsL_length _ (wc_size _), e2], .inr ⟨g, c, cur', rfl, Nat.zero_le _, hc2, by omega, h2, by omega, ?_⟩⟩
      rw [htk, ← e1, ← rowsL_take wc 2 us (wc_size us) k, ← hct, List.take_take, Nat.min_eq_left (by omega)]
end Go.Proofs.Ytmhnlgndgdmebaa
