/- The document's functions on lists of addresses and of blocks. No condition but on sizes. -/
import Derived.Test.YtmhnlgndgdmebaaRkA
namespace Go.Proofs.Ytmhnlgndgdmebaa
open Go.RowKit Go.Kin

theorem filter_take {α : Type} (p : α → Bool) {l : List α} {i : Nat} {a : α} (h : l[i]? = some a) : (l.take (i + 1)).filter p = (l.take i).filter p ++ if p a then [a] else [] := by
  obtain ⟨hi, he⟩ := List.getElem?_eq_some_iff.1 h
  rw [List.take_succ_eq_append_getElem hi, List.filter_append, he]
  congr 1
  by_cases hp : p a <;> simp [hp]
theorem has_rk (v : Value) (l : List Nat) (a : Nat) (w : World) (h : RowA w v l) (hl : l.length ≤ 1000000) :
    Ret Try.prog 84 #[v, .int .u16 a] w fun v' w' => v' = .bool (decide (a ∈ l)) ∧ w' = w := by
  refine v_enter Try.func84 Try.ntmps84 rfl (by simp) fun R' hR => ?_
  have hlen := h.sl.len Try.underlying86 3
  simp [go_sem]
  refine v_loop (fun r f u => ∃ i, r = l.length - i ∧ i ≤ l.length ∧ f 0 = v ∧ f 1 = .int .u16 a ∧ f 5 = .int .i64 i ∧ (∀ (j : Nat) x, j < i → l[j]? = some x → x ≠ a) ∧ u = w) l.length
    ⟨0, rfl, by omega, by simp, by simp, by simp, fun j x hj => absurd hj (by omega), rfl⟩ ?_
  rintro J hJ _ f u ⟨i, rfl, hi, f0, f1, f5, hno, rfl⟩
  by_cases hlt : i < l.length
  · have hii : (i : Int) < l.length := by omega
    have hwi : IntKind.i64.wrap ((i : Int) + 1) = ((i + 1 : Nat) : Int) := by rw [IntKind.wrap_i64]; omega
    obtain ⟨x, hx⟩ : ∃ x, l[i]? = some x := ⟨_, List.getElem?_eq_getElem hlt⟩
    obtain ⟨ad, hat, hcl, _⟩ := h.sl.at tyU16 (u16s_length l) (show (u16s l)[i]? = some (.int .u16 x) by unfold u16s; rw [List.getElem?_map, hx]; rfl)
    by_cases hxa : x = a
    · subst hxa
      simp [go_sem, f0, f1, f5, hlen, hii, hat, hcl]
      exact hR _ _ ⟨by simp [List.mem_of_getElem? hx], rfl⟩
    · have hxa2 : ((x : Int) == (a : Int)) = false := beq_false_of_ne (by omega)
      simp [go_sem, f0, f1, f5, hlen, hii, hat, hcl, hxa, hxa2, hwi]
      refine Rnd.intro (l.length - (i + 1)) (by omega) (hJ _ _ _ ⟨i + 1, rfl, by omega, by simp [f0], by simp [f1], by simp, fun j y hj hy => ?_, rfl⟩)
      by_cases hji : j = i
      · subst hji
        rw [hx] at hy
        cases hy
        exact hxa
      · exact hno j y (by omega) hy
  · obtain rfl : i = l.length := by omega
    simp [go_sem, f0, f5, hlen]
    refine hR _ _ ⟨?_, rfl⟩
    rw [decide_eq_false]
    intro hm
    obtain ⟨j, hj⟩ := List.mem_iff_getElem?.1 hm
    exact hno j a (List.getElem?_eq_some_iff.1 hj).1 hj rfl
theorem without_rk (v : Value) (l : List Nat) (a : Nat) (w : World) (h : RowA w v l) (hl : l.length ≤ 1000000) :
    Ret Try.prog 83 #[v, .int .u16 a] w fun v' w' => RowA w' v' (l.filter (· != a)) ∧ Fresh w.heap.size v' ∧ Ch Nw w w' := by
  refine v_enter Try.func83 Try.ntmps83 rfl (by simp) fun R' hR => ?_
  have hlen := h.sl.len Try.underlying86 3
  simp [go_sem]
  refine v_loop (fun r f u => ∃ i, r = l.length - i ∧ i ≤ l.length ∧ f 0 = v ∧ f 1 = .int .u16 a ∧ f 6 = .int .i64 i ∧ Mine 24 w (f 5) ((l.take i).filter (· != a)).length (u16s ((l.take i).filter (· != a))) u) l.length
    ⟨0, rfl, by omega, by simp, by simp, by simp, by simpa [u16s] using Mine.nil _ (Ch.refl Nw w)⟩ ?_
  rintro J hJ _ f u ⟨i, rfl, hi, f0, f1, f6, hm⟩
  by_cases hlt : i < l.length
  · have hii : (i : Int) < l.length := by omega
    have hwi : IntKind.i64.wrap ((i : Int) + 1) = ((i + 1 : Nat) : Int) := by rw [IntKind.wrap_i64]; omega
    obtain ⟨x, hx⟩ : ∃ x, l[i]? = some x := ⟨_, List.getElem?_eq_getElem hlt⟩
    have hu := h.ch hm.ch fun _ _ e => e
    obtain ⟨ad, hat, hcl, _⟩ := hu.sl.at tyU16 (u16s_length l) (show (u16s l)[i]? = some (.int .u16 x) by unfold u16s; rw [List.getElem?_map, hx]; rfl)
    have hft := filter_take (· != a) hx
    by_cases hxa : x = a
    · subst hxa
      simp at hft
      simp [go_sem, f0, f1, f6, hlen, hii, hat, hcl, hwi]
      exact Rnd.intro (l.length - (i + 1)) (by omega) (hJ _ _ _ ⟨i + 1, rfl, by omega, by simp [f0], by simp [f1], by simp, by simpa [hft] using hm⟩)
    · have hxa2 : ((x : Int) == (a : Int)) = false := beq_false_of_ne (by omega)
      simp [hxa] at hft
      have hfl : ((l.take i).filter (· != a)).length ≤ 1000000 := by
        have := List.length_filter_le (· != a) (l.take i)
        rw [List.length_take] at this
        omega
      simp [go_sem, f0, f1, f6, hlen, hii, hat, hcl, hxa, hxa2, bne]
      refine VB_app1 tyU16 (u := .int .u16 x) hm.own rfl (by unfold maxLen; omega) (by omega) fun v' u' d4 d5 d6 => ?_
      have h5 := hm.grow d4 d5 d6
      simp [go_sem, f6, hwi]
      refine Rnd.intro (l.length - (i + 1)) (by omega) (hJ _ _ _ ⟨i + 1, rfl, by omega, by simp [f0], by simp [f1], by simp, ?_⟩)
      rw [hft, List.length_append]
      simpa [u16s, u16v] using h5
  · obtain rfl : i = l.length := by omega
    simp [go_sem, f0, f6, hlen]
    rw [List.take_length] at hm
    exact hR _ _ ⟨hm.own, hm.fresh, hm.ch⟩
def lastV : Option Byts → Value
  | none => .tuple #[.string ⟨#[]⟩, .bool false]
  | some b => .tuple #[.string ⟨b.toArray⟩, .bool true]
theorem last_rk (v : Value) (l : List (Nat × Byts)) (a : Nat) (w : World) (h : RowB w v l) (hl : l.length ≤ 1000000) :
    Ret Try.prog 85 #[v, .int .u16 a] w fun v' w' => v' = lastV (lastC l a) ∧ w' = w := by
  refine v_enter Try.func85 Try.ntmps85 rfl (by simp) fun R' hR => ?_
  have hlen := own_len h Try.underlying85 3
  have hw1 : IntKind.i64.wrap ((l.length : Int) - 1) = (l.length : Int) - 1 := by rw [IntKind.wrap_i64]; omega
  simp [go_sem, hlen, hw1]
  refine v_loop (fun r f u => ∃ k, r = k ∧ k ≤ l.length ∧ f 0 = v ∧ f 1 = .int .u16 a ∧ f 6 = .int .i64 ((k : Int) - 1) ∧ (∀ (j : Nat) e, k ≤ j → l[j]? = some e → e.1 ≠ a) ∧ u = w) l.length
    ⟨l.length, rfl, by omega, by simp, by simp, by simp, fun j e hj he => absurd (List.getElem?_eq_some_iff.1 he).1 (by omega), rfl⟩ ?_
  rintro J hJ k f u ⟨_, rfl, hk, f0, f1, f6, hno, rfl⟩
  rcases Nat.eq_zero_or_pos k with rfl | hk0
  · simp [go_sem, f6]
    refine hR _ _ ⟨?_, rfl⟩
    rw [lastC_none fun e he => by
      obtain ⟨j, hj⟩ := List.mem_iff_getElem?.1 he
      exact hno j e (by omega) hj]
    rfl
  · obtain ⟨i, rfl⟩ : ∃ i, k = i + 1 := ⟨k - 1, by omega⟩
    obtain ⟨e, he⟩ : ∃ e, l[i]? = some e := ⟨_, List.getElem?_eq_getElem (by omega)⟩
    obtain ⟨g, cap, rfl, hc0, hc1⟩ := h.at he
    have hi1 : ((i + 1 : Nat) : Int) - 1 = i := by omega
    rw [hi1] at f6
    have hil : i < l.length := by omega
    have h0i : (0 : Int) ≤ i := by omega
    have hwi : IntKind.i64.wrap ((i : Int) - 1) = (i : Int) - 1 := by rw [IntKind.wrap_i64]; omega
    obtain ⟨x, b⟩ := e
    by_cases hxa : x = a
    · subst hxa
      simp [go_sem, f0, f1, f6, h0i, hil, hc0, hc1]
      refine hR _ _ ⟨?_, rfl⟩
      rw [lastC_back he fun j e hj hje => hno j e (by omega) hje]
      rfl
    · have hxa2 : ((x : Int) == (a : Int)) = false := beq_false_of_ne (by omega)
      simp [go_sem, f0, f1, f6, h0i, hil, hc0, hc1, hxa, hxa2, hwi]
      refine Rnd.intro i (by omega) (hJ _ _ _ ⟨i, rfl, by omega, by simp [f0], by simp [f1], by simp, fun j e hj hje => ?_, rfl⟩)
      by_cases hji : j = i
      · subst hji
        rw [he] at hje
        cases hje
        exact hxa
      · exact hno j e (by omega) hje
theorem drop_rk (v : Value) (l : List (Nat × Byts)) (a : Nat) (w : World) (h : RowB w v l) (hl : l.length ≤ 1000000) :
    Ret Try.prog 82 #[v, .int .u16 a] w fun v' w' => RowB w' v' (dropC l a) ∧ Fresh w.heap.size v' ∧ Ch Nw w w' := by
  refine v_enter Try.func82 Try.ntmps82 rfl (by simp) fun R' hR => ?_
  have hlen := own_len h Try.underlying85 3
  simp [go_sem]
  refine v_loop (fun r f u => ∃ i, r = l.length - i ∧ i ≤ l.length ∧ f 0 = v ∧ f 1 = .int .u16 a ∧ f 6 = .int .i64 i ∧ MineS 140 2 w (f 5) (dropC (l.take i) a).length (rowsL sbl (dropC (l.take i) a)) u) l.length
    ⟨0, rfl, by omega, by simp, by simp, by simp, by simpa [dropC, rowsL] using MineS.nil _ _ (Ch.refl Nw w)⟩ ?_
  rintro J hJ _ f u ⟨i, rfl, hi, f0, f1, f6, hm⟩
  by_cases hlt : i < l.length
  · have hii : (i : Int) < l.length := by omega
    have hwi : IntKind.i64.wrap ((i : Int) + 1) = ((i + 1 : Nat) : Int) := by rw [IntKind.wrap_i64]; omega
    obtain ⟨e, he⟩ : ∃ x, l[i]? = some x := ⟨_, List.getElem?_eq_getElem hlt⟩
    have hu : RowB u v l := h.ch hm.ch fun _ _ e => e
    obtain ⟨g, cap, rfl, hc0, hc1⟩ := hu.at he
    obtain ⟨x, b⟩ := e
    have hft := filter_take (fun e : Nat × Byts => e.1 != a) he
    by_cases hxa : x = a
    · subst hxa
      simp at hft
      simp [go_sem, f0, f1, f6, hlen, hii, hlt, hc0, hc1, hwi]
      exact Rnd.intro (l.length - (i + 1)) (by omega) (hJ _ _ _ ⟨i + 1, rfl, by omega, by simp [f0], by simp [f1], by simp, by simpa [dropC, hft] using hm⟩)
    · have hxa2 : ((x : Int) == (a : Int)) = false := beq_false_of_ne (by omega)
      simp [hxa] at hft
      have hfl : (dropC (l.take i) a).length ≤ 1000000 := by
        have := List.length_filter_le (fun e : Nat × Byts => e.1 != a) (l.take i)
        rw [List.length_take] at this
        unfold dropC
        omega
      simp [go_sem, f0, f1, f6, hlen, hii, hlt, hc0, hc1, hxa, hxa2, bne]
      refine VB_app1S tySB (us := [.int .u16 x, .string ⟨b.toArray⟩]) hm.own rfl (by simp [Value.oneCell']) (by unfold maxLen; omega) (by omega) fun v' u' d4 d5 d6 => ?_
      have h5 := hm.grow d4 d5 d6
      simp [go_sem, f6, hwi]
      refine Rnd.intro (l.length - (i + 1)) (by omega) (hJ _ _ _ ⟨i + 1, rfl, by omega, by simp [f0], by simp [f1], by simp, ?_⟩)
      have e2 : dropC (l.take (i + 1)) a = dropC (l.take i) a ++ [(x, b)] := hft
      rw [e2, List.length_append, rowsL_append, rowsL_one]
      simpa [sbl] using h5
  · obtain rfl : i = l.length := by omega
    simp [go_sem, f0, f6, hlen]
    rw [List.take_length] at hm
    exact hR _ _ ⟨hm.own, hm.fresh, hm.ch⟩
end Go.Proofs.Ytmhnlgndgdmebaa
