/- append onto a slice without spare room. It speaks of no program. No condition. -/
import Derived.Test.YtfcoiboeohgimaaDoorAgg
import Derived.ArgAppend
import Derived.Deep.Upon
namespace Go.Kin
open Go Go.RowKit
variable {P : Program} {w : World} {t e : TypeId} {z : Value} {bytes : Nat}
theorem Sl.cutFull {v : Value} {n : Nat} {xs : List Value} (h : Sl w v n xs) (T : Ty1 P t e z bytes) :
    ∃ A, Sl w (.slice A n n) n xs ∧ (Value.slice A n n).ownBlock = v.ownBlock ∧ ∀ w', (Instr.sliceAt t v none (some (.int .i64 n)) (some (.int .i64 n))).run P w' = .ok (.slice A n n) w' := by
  obtain ⟨A, c, rfl, h1, h2, h3⟩ := h
  obtain ⟨i, hi, _, hsz, _⟩ := info_parts T.info
  have hc1' : ¬ c < n := by omega
  have hA : (if n = 0 then A else A.map (·.add (0 * 1))) = A := by
    cases A with
    | none => simp
    | some ad => split <;> simp [Addr.add]
  refine ⟨A, ⟨A, n, rfl, Nat.le_refl _, by omega, h3⟩, by cases A <;> rfl, fun w' => ?_⟩
  have : (Instr.sliceAt t (.slice A n c) none (some (.int .i64 n)) (some (.int .i64 n))).run P w' = .ok (.slice (if n = 0 then A else A.map (·.add (0 * 1))) n n) w' := by
    simp [Instr.sliceAt, Instr.slice, Instr.sliceBounds, Instr.sliceBound, asIntOf, run_underlying T.und, sizeOf, typeInfo, hi, hc1']
  rw [hA] at this
  exact this
theorem VB_full (T : Ty1 P t e z bytes) {A : Option Addr} {n m : Nat} {xs ys : List Value} {y : Value} {ty : TypeId} {K : Value → World → Prop} (hx : Sl w (.slice A n n) n xs) (hxl : xs.length = n) (hy : Sl w y m ys) (hyl : ys.length = m) (h1 : ∀ u ∈ ys, u.oneCell' = true) (h63 : n + m ≤ maxLen) (hbytes : (n + m) * bytes ≤ 140737488355328)
    (h : ∀ v' w', Sl w' v' (n + m) (xs ++ ys) → Ch Nw w w' → (v'.ownBlock = (Value.slice A n n).ownBlock ∨ Fresh w.heap.size v') → K v' w') : VB P .append #[t, t] ty #[.slice A n n, y] w K := by
  obtain ⟨i, hi, hz, hsz, hby⟩ := info_parts T.info
  by_cases hm : m = 0
  · subst hm
    obtain rfl : ys = [] := List.eq_nil_of_length_eq_zero hyl
    have hs : Src P i.size t y 0 [] w := by
      obtain ⟨A2, c2, rfl, _⟩ := hy
      cases A2 with
      | none => exact Src.ofNil w T.und c2
      | some ad => exact Src.ofSlice w T.und ad 0 c2 [] (by simp) (by simp) (by simp)
    refine VB_append (run_append_nothing (P := P) w t t ty e i T.und hi A n n (Nat.le_refl _) y hs) (h _ _ (by simpa using hx) (Ch.refl _ _) (.inl rfl))
  · cases A with
    | none =>
      obtain ⟨A', c', hv, _, _, h3⟩ := id hx
      have hn0 : n = 0 := by
        apply Classical.byContradiction
        intro hn
        obtain ⟨ad, had, _⟩ := h3 (by omega)
        injection hv with e1
        rw [← e1] at had
        cases had
      subst hn0
      obtain rfl : xs = [] := List.eq_nil_of_length_eq_zero hxl
      obtain ⟨v', w', hr, k1, k2, k3⟩ := run_appn T ty (World.ownsRow_nil _ _ _ _) hy hyl h1 h63 hbytes
      exact VB_append hr (h _ _ (Sl.of_own k1) (k2.mono fun k _ e => by simp [Value.ownBlock] at e) k3)
    | some b =>
      obtain ⟨A2, c2, rfl, _, _, hc⟩ := hy
      obtain ⟨ad, rfl, hc'⟩ := hc (by omega)
      have hxc : ∀ j u, xs[j]? = some u → w.cell? (b.add j) = some u := fun j u hu => by
        obtain ⟨A', c', hv, _, _, h3⟩ := id hx
        obtain ⟨b', hb', h4⟩ := h3 (by have := (List.getElem?_eq_some_iff.1 hu).1; omega)
        injection hv with e1
        rw [hb'] at e1
        injection e1 with e1
        rw [e1]
        exact h4 j u hu
      obtain ⟨v', w', hr, k1, k2⟩ := run_append_arg_grows (P := P) w t ty e i z 1 bytes T.und hi hz hsz hby T.one (by decide) b n n xs (by omega) hxc ad m c2 ys (by omega) hc' (by omega) h63 hbytes
      refine VB_append hr (h _ _ (Sl.of_own k1) (Ch.of_grown k2 |>.mono fun k _ e => by cases e) (.inr fun k hk => ?_))
      rcases k1.2 with ⟨hv, _⟩ | ⟨g, cap, cur, hv, hg, _⟩
      · rw [hv] at hk; simp [Value.ownBlock] at hk
      · rw [hv] at hk
        simp [Value.ownBlock] at hk
        omega
theorem VB_fullOwn (T : Ty1 P t e z bytes) {A : Option Addr} {n m : Nat} {xs ys : List Value} {y : Value} {ty : TypeId} {K : Value → World → Prop} (hx : Sl w (.slice A n n) n xs) (hxl : xs.length = n) (hy : Sl w y m ys) (hyl : ys.length = m) (h0 : 0 < m) (h1 : ∀ u ∈ ys, u.oneCell' = true) (h63 : n + m ≤ maxLen) (hbytes : (n + m) * bytes ≤ 140737488355328)
    (h : ∀ v' w', w'.ownsRow 0 e 1 v' (n + m) (xs ++ ys) → Ch Nw w w' → Fresh w.heap.size v' → K v' w') : VB P .append #[t, t] ty #[.slice A n n, y] w K := by
  obtain ⟨i, hi, hz, hsz, hby⟩ := info_parts T.info
  cases A with
  | none =>
    obtain ⟨A', c', hv, _, _, h3⟩ := id hx
    have hn0 : n = 0 := by
      apply Classical.byContradiction
      intro hn
      obtain ⟨ad, had, _⟩ := h3 (by omega)
      injection hv with e1
      rw [← e1] at had
      cases had
    subst hn0
    obtain rfl : xs = [] := List.eq_nil_of_length_eq_zero hxl
    obtain ⟨v', w', hr, k1, k2, k3⟩ := run_appn T ty (World.ownsRow_nil _ _ _ _) hy hyl h1 h63 hbytes
    exact VB_append hr (h _ _ k1 (k2.mono fun k _ e => by simp [Value.ownBlock] at e) (by
      rcases k3 with k3 | k3
      · intro k hk; rw [k3] at hk; simp [Value.ownBlock] at hk
      · exact k3))
  | some b =>
    obtain ⟨A2, c2, rfl, _, _, hc⟩ := hy
    obtain ⟨ad, rfl, hc'⟩ := hc (by omega)
    have hxc : ∀ j u, xs[j]? = some u → w.cell? (b.add j) = some u := fun j u hu => by
      obtain ⟨A', c', hv, _, _, h3⟩ := id hx
      obtain ⟨b', hb', h4⟩ := h3 (by have := (List.getElem?_eq_some_iff.1 hu).1; omega)
      injection hv with e1
      rw [hb'] at e1
      injection e1 with e1
      rw [e1]
      exact h4 j u hu
    obtain ⟨v', w', hr, k1, k2⟩ := run_append_arg_grows (P := P) w t ty e i z 1 bytes T.und hi hz hsz hby T.one (by decide) b n n xs (by omega) hxc ad m c2 ys (by omega) hc' (by omega) h63 hbytes
    refine VB_append hr (h _ _ ⟨k1.1, k1.2.imp id fun ⟨g, cap, cur, hv, hg, r⟩ => ⟨g, cap, cur, hv, Nat.zero_le _, r⟩⟩ (Ch.of_grown k2 |>.mono fun k _ e => by cases e) fun k hk => ?_)
    rcases k1.2 with ⟨hv, _⟩ | ⟨g, cap, cur, hv, hg, _⟩
    · rw [hv] at hk; simp [Value.ownBlock] at hk
    · rw [hv] at hk
      simp [Value.ownBlock] at hk
      omega
end Go.Kin
