/- A hash: New, now, Write, as contracts on calls. Conditions: the variable sha.constants holds what the text lays; sizes. -/
import Derived.Test.YtppilgkgnofkpaaDoorAgg
import Derived.ArgAppend
import Derived.Deep.Upon
import Derived.Test.YtppilgkgnofkpaaDoorShaC
set_option linter.unusedSimpArgs false
set_option linter.unusedVariables false

/- append onto a slice without spare room. It speaks of no program. No condition. -/
namespace Go.Kin
open Go Go.RowKit
variable {P : Program} {w : World} {t e : TypeId} {z : Value} {bytes : Nat}
theorem Sl.cutFull {v : Value} {n : Nat} {xs : List Value} (h : Sl w v n xs) (T : Ty1 P t e z bytes) :
    ∃ A, Sl w (.slice A n n) n xs ∧ (Value.slice A n n).ownBlock = v.ownBlock ∧ ∀ w', (Instr.sliceAt t v none (some (.int .i64 n)) (some (.int .i64 n))).run P w' = .ok (.slice A n n) w' := by
  obtain ⟨A, c, rfl, h1, h2, h3⟩ := h
  obtain ⟨i, hi, _, hsz, _⟩ := info_parts T.info
  have hc1' : ¬ c < n := by omega
  have hA : (if n = 0 then A else A.map (·.add (0 * 1))) = A := by
    cases A with
    | none => simp
    | some ad => split <;> simp [Addr.add]
  refine ⟨A, ⟨A, n, rfl, Nat.le_refl _, by omega, h3⟩, by cases A <;> rfl, fun w' => ?_⟩
  have : (Instr.sliceAt t (.slice A n c) none (some (.int .i64 n)) (some (.int .i64 n))).run P w' = .ok (.slice (if n = 0 then A else A.map (·.add (0 * 1))) n n) w' := by
    simp [Instr.sliceAt, Instr.slice, Instr.sliceBounds, Instr.sliceBound, asIntOf, run_underlying T.und, sizeOf, typeInfo, hi, hc1']
  rw [hA] at this
  exact this
theorem VB_full (T : Ty1 P t e z bytes) {A : Option Addr} {n m : Nat} {xs ys : List Value} {y : Value} {ty : TypeId} {K : Value → World → Prop} (hx : Sl w (.slice A n n) n xs) (hxl : xs.length = n) (hy : Sl w y m ys) (hyl : ys.length = m) (h1 : ∀ u ∈ ys, u.oneCell' = true) (h63 : n + m ≤ maxLen) (hbytes : (n + m) * bytes ≤ 140737488355328)
    (h : ∀ v' w', Sl w' v' (n + m) (xs ++ ys) → Ch Nw w w' → (v'.ownBlock = (Value.slice A n n).ownBlock ∨ Fresh w.heap.size v') → K v' w') : VB P .append #[t, t] ty #[.slice A n n, y] w K := by
  obtain ⟨i, hi, hz, hsz, hby⟩ := info_parts T.info
  by_cases hm : m = 0
  · subst hm
    obtain rfl : ys = [] := List.eq_nil_of_length_eq_zero hyl
    have hs : Src P i.size t y 0 [] w := by
      obtain ⟨A2, c2, rfl, _⟩ := hy
      cases A2 with
      | none => exact Src.ofNil w T.und c2
      | some ad => exact Src.ofSlice w T.und ad 0 c2 [] (by simp) (by simp) (by simp)
    refine VB_append (run_append_nothing (P := P) w t t ty e i T.und hi A n n (Nat.le_refl _) y hs) (h _ _ (by simpa using hx) (Ch.refl _ _) (.inl rfl))
  · cases A with
    | none =>
      obtain ⟨A', c', hv, _, _, h3⟩ := id hx
      have hn0 : n = 0 := by
        apply Classical.byContradiction
        intro hn
        obtain ⟨ad, had, _⟩ := h3 (by omega)
        injection hv with e1
        rw [← e1] at had
        cases had
      subst hn0
      obtain rfl : xs = [] := List.eq_nil_of_length_eq_zero hxl
      obtain ⟨v', w', hr, k1, k2, k3⟩ := run_appn T ty (World.ownsRow_nil _ _ _ _) hy hyl h1 h63 hbytes
      exact VB_append hr (h _ _ (Sl.of_own k1) (k2.mono fun k _ e => by simp [Value.ownBlock] at e) k3)
    | some b =>
      obtain ⟨A2, c2, rfl, _, _, hc⟩ := hy
      obtain ⟨ad, rfl, hc'⟩ := hc (by omega)
      have hxc : ∀ j u, xs[j]? = some u → w.cell? (b.add j) = some u := fun j u hu => by
        obtain ⟨A', c', hv, _, _, h3⟩ := id hx
        obtain ⟨b', hb', h4⟩ := h3 (by have := (List.getElem?_eq_some_iff.1 hu).1; omega)
        injection hv with e1
        rw [hb'] at e1
        injection e1 with e1
        rw [e1]
        exact h4 j u hu
      obtain ⟨v', w', hr, k1, k2⟩ := run_append_arg_grows (P := P) w t ty e i z 1 bytes T.und hi hz hsz hby T.one (by decide) b n n xs (by omega) hxc ad m c2 ys (by omega) hc' (by omega) h63 hbytes
      refine VB_append hr (h _ _ (Sl.of_own k1) (Ch.of_grown k2 |>.mono fun k _ e => by cases e) (.inr fun k hk => ?_))
      rcases k1.2 with ⟨hv, _⟩ | ⟨g, cap, cur, hv, hg, _⟩
      · rw [hv] at hk; simp [Value.ownBlock] at hk
      · rw [hv] at hk
        simp [Value.ownBlock] at hk
        omega
theorem VB_fullOwn (T : Ty1 P t e z bytes) {A : Option Addr} {n m : Nat} {xs ys : List Value} {y : Value} {ty : TypeId} {K : Value → World → Prop} (hx : Sl w (.slice A n n) n xs) (hxl : xs.length = n) (hy : Sl w y m ys) (hyl : ys.length = m) (h0 : 0 < m) (h1 : ∀ u ∈ ys, u.oneCell' = true) (h63 : n + m ≤ maxLen) (hbytes : (n + m) * bytes ≤ 140737488355328)
    (h : ∀ v' w', w'.ownsRow 0 e 1 v' (n + m) (xs ++ ys) → Ch Nw w w' → Fresh w.heap.size v' → K v' w') : VB P .append #[t, t] ty #[.slice A n n, y] w K := by
  obtain ⟨i, hi, hz, hsz, hby⟩ := info_parts T.info
  cases A with
  | none =>
    obtain ⟨A', c', hv, _, _, h3⟩ := id hx
    have hn0 : n = 0 := by
      apply Classical.byContradiction
      intro hn
      obtain ⟨ad, had, _⟩ := h3 (by omega)
      injection hv with e1
      rw [← e1] at had
      cases had
    subst hn0
    obtain rfl : xs = [] := List.eq_nil_of_length_eq_zero hxl
    obtain ⟨v', w', hr, k1, k2, k3⟩ := run_appn T ty (World.ownsRow_nil _ _ _ _) hy hyl h1 h63 hbytes
    exact VB_append hr (h _ _ k1 (k2.mono fun k _ e => by simp [Value.ownBlock] at e) (by
      rcases k3 with k3 | k3
      · intro k hk; rw [k3] at hk; simp [Value.ownBlock] at hk
      · exact k3))
  | some b =>
    obtain ⟨A2, c2, rfl, _, _, hc⟩ := hy
    obtain ⟨ad, rfl, hc'⟩ := hc (by omega)
    have hxc : ∀ j u, xs[j]? = some u → w.cell? (b.add j) = some u := fun j u hu => by
      obtain ⟨A', c', hv, _, _, h3⟩ := id hx
      obtain ⟨b', hb', h4⟩ := h3 (by have := (List.getElem?_eq_some_iff.1 hu).1; omega)
      injection hv with e1
      rw [hb'] at e1
      injection e1 with e1
      rw [e1]
      exact h4 j u hu
    obtain ⟨v', w', hr, k1, k2⟩ := run_append_arg_grows (P := P) w t ty e i z 1 bytes T.und hi hz hsz hby T.one (by decide) b n n xs (by omega) hxc ad m c2 ys (by omega) hc' (by omega) h63 hbytes
    refine VB_append hr (h _ _ ⟨k1.1, k1.2.imp id fun ⟨g, cap, cur, hv, hg, r⟩ => ⟨g, cap, cur, hv, Nat.zero_le _, r⟩⟩ (Ch.of_grown k2 |>.mono fun k _ e => by cases e) fun k hk => ?_)
    rcases k1.2 with ⟨hv, _⟩ | ⟨g, cap, cur, hv, hg, _⟩
    · rw [hv] at hk; simp [Value.ownBlock] at hk
    · rw [hv] at hk
      simp [Value.ownBlock] at hk
      omega
end Go.Kin

namespace Go.Proofs.YtppilgkgnofkpaaDoor
open Go.RowKit Go.Kin

def first : St := ⟨1779033703, 3144134277, 1013904242, 2773480762, 1359893119, 2600822924, 528734635, 1541459225⟩
theorem first_ok : StOk first := ⟨by decide, by decide, by decide, by decide, by decide, by decide, by decide, by decide⟩
def stz : St := ⟨0, 0, 0, 0, 0, 0, 0, 0⟩
theorem stz_ok : StOk stz := ⟨by decide, by decide, by decide, by decide, by decide, by decide, by decide, by decide⟩
/-- pieces taken in, as long as there is a whole one -/
def absorbF : Nat → St → List UInt8 → St × List UInt8
  | 0, s, l => (s, l)
  | n + 1, s, l => if 64 ≤ l.length then absorbF n (takeS s (l.take 64)) (l.drop 64) else (s, l)
def absorb (s : St) (l : List UInt8) : St × List UInt8 := absorbF l.length s l
theorem absorbF_enough : ∀ (n m : Nat) (s : St) (l : List UInt8), l.length ≤ n → l.length ≤ m → absorbF n s l = absorbF m s l
  | 0, 0, _, _, _, _ => rfl
  | 0, m + 1, s, l, h, _ => by simp [absorbF, List.length_eq_zero_iff.1 (Nat.le_zero.1 h)]
  | n + 1, 0, s, l, _, h => by simp [absorbF, List.length_eq_zero_iff.1 (Nat.le_zero.1 h)]
  | n + 1, m + 1, s, l, h1, h2 => by
    simp only [absorbF]
    split
    · exact absorbF_enough n m _ _ (by rw [List.length_drop]; omega) (by rw [List.length_drop]; omega)
    · rfl
theorem absorb_step {s : St} {l : List UInt8} (h : 64 ≤ l.length) : absorb s l = absorb (takeS s (l.take 64)) (l.drop 64) := by
  unfold absorb
  obtain ⟨n, hn⟩ : ∃ n, l.length = n + 1 := ⟨l.length - 1, by omega⟩
  rw [hn]
  show (if 64 ≤ l.length then _ else _) = _
  rw [if_pos h]
  exact absorbF_enough _ _ _ _ (by rw [List.length_drop]; omega) (Nat.le_refl _)
theorem absorb_end {s : St} {l : List UInt8} (h : l.length < 64) : absorb s l = (s, l) := by
  unfold absorb
  cases hn : l.length with
  | zero => simp [absorbF]
  | succ n =>
    show (if 64 ≤ l.length then _ else _) = _
    rw [if_neg (by omega)]
theorem absorb_rest_lt : ∀ (n : Nat) (s : St) (l : List UInt8), l.length ≤ n → (absorb s l).2.length < 64 := by
  intro n
  induction n with
  | zero => intro s l h; rw [absorb_end (by omega)]; show l.length < 64; omega
  | succ n ih =>
    intro s l h
    by_cases h64 : 64 ≤ l.length
    · rw [absorb_step h64]
      exact ih _ _ (by rw [List.length_drop]; omega)
    · rw [absorb_end (by omega)]; show l.length < 64; omega
theorem absorb_app : ∀ (n : Nat) (s : St) (l r : List UInt8), l.length ≤ n → absorb s (l ++ r) = absorb (absorb s l).1 ((absorb s l).2 ++ r) := by
  intro n
  induction n with
  | zero =>
    intro s l r h
    have : l = [] := List.length_eq_zero_iff.1 (by omega)
    subst this
    rw [absorb_end (s := s) (l := []) (by decide)]
  | succ n ih =>
    intro s l r h
    by_cases h64 : 64 ≤ l.length
    · rw [absorb_step h64, absorb_step (l := l ++ r) (by rw [List.length_append]; omega), List.take_append_of_le_length h64, List.drop_append_of_le_length h64]
      exact ih _ _ _ (by rw [List.length_drop]; omega)
    · rw [absorb_end (s := s) (l := l) (by omega)]
theorem absorb_ok : ∀ (n : Nat) (s : St) (l : List UInt8), l.length ≤ n → StOk s → StOk (absorb s l).1 := by
  intro n
  induction n with
  | zero => intro s l h ok; rw [absorb_end (by omega)]; exact ok
  | succ n ih =>
    intro s l h ok
    by_cases h64 : 64 ≤ l.length
    · rw [absorb_step h64]
      exact ih _ _ (by rw [List.length_drop]; omega) (takeS_ok _ _)
    · rw [absorb_end (by omega)]; exact ok
attribute [irreducible] absorb
theorem first_any (w : World) : Ret Tryd.prog 125 #[] w fun v' w' => v' = .agg (stv first) ∧ Ch Nw w w' := by
  refine v_enter Tryd.func125 Tryd.ntmps125 rfl (by simp) fun R' hR => ?_
  simp [go_sem]
  exact hR _ _ ⟨rfl, (Ch.refl Nw w).alloc _⟩
/-- a hash's cells: state, rest, length, whether something was taken in -/
def hcs (s : St) (v : Value) (n : Nat) (on : Bool) : Array Value := #[.int .u32 s.a, .int .u32 s.b, .int .u32 s.c, .int .u32 s.d, .int .u32 s.e, .int .u32 s.f, .int .u32 s.g, .int .u32 s.h, v, .int .u64 n, .bool on]
/-- block g is a hash that m was written to; its rest lies in a block of its own -/
def Hsh (w : World) (g : Nat) (m : List UInt8) : Prop :=
  ∃ s v on, w.heap[g]? = some (.cells (hcs s v m.length on) 196 (0, 0)) ∧ Sl w v (absorb first m).2.length (bvs (absorb first m).2) ∧ v.ownBlock ≠ some g ∧ (if on = true then s else first) = (absorb first m).1 ∧ StOk s
/-- a state's cells, stored at the head of a block -/
def st8 (w : World) (g : Nat) (s : St) : World := (((((((w.setCell ⟨g, 0, none⟩ (.int .u32 s.a)).setCell ⟨g, 1, none⟩ (.int .u32 s.b)).setCell ⟨g, 2, none⟩ (.int .u32 s.c)).setCell ⟨g, 3, none⟩ (.int .u32 s.d)).setCell ⟨g, 4, none⟩ (.int .u32 s.e)).setCell ⟨g, 5, none⟩ (.int .u32 s.f)).setCell ⟨g, 6, none⟩ (.int .u32 s.g)).setCell ⟨g, 7, none⟩ (.int .u32 s.h)
theorem st8_ch {S : Nat → Prop} {w0 w : World} {g : Nat} {s : St} (hc : Ch S w0 w) (hg : S g ∨ w0.heap.size ≤ g) : Ch S w0 (st8 w g s) :=
  (((((((hc.setCell (p := ⟨g, 0, none⟩) hg _).setCell (p := ⟨g, 1, none⟩) hg _).setCell (p := ⟨g, 2, none⟩) hg _).setCell (p := ⟨g, 3, none⟩) hg _).setCell (p := ⟨g, 4, none⟩) hg _).setCell (p := ⟨g, 5, none⟩) hg _).setCell (p := ⟨g, 6, none⟩) hg _).setCell (p := ⟨g, 7, none⟩) hg _
def put8 (cs : Array Value) (s : St) : Array Value := (((((((cs.setIfInBounds 0 (.int .u32 s.a)).setIfInBounds 1 (.int .u32 s.b)).setIfInBounds 2 (.int .u32 s.c)).setIfInBounds 3 (.int .u32 s.d)).setIfInBounds 4 (.int .u32 s.e)).setIfInBounds 5 (.int .u32 s.f)).setIfInBounds 6 (.int .u32 s.g)).setIfInBounds 7 (.int .u32 s.h)
theorem st8_blk {w : World} {g : Nat} {s' : St} {cs : Array Value} {T : TypeId} (hb : w.heap[g]? = some (.cells cs T (0, 0))) : (st8 w g s').heap[g]? = some (.cells (put8 cs s') T (0, 0)) := by
  unfold st8 put8
  rw [hp_setCell, hp_setCell, hp_setCell, hp_setCell, hp_setCell, hp_setCell, hp_setCell, hp_setCell, hb]
  simp only [setOf_cells]
theorem put8_hcs (s s' : St) (v : Value) (n : Nat) (on : Bool) : put8 (hcs s v n on) s' = hcs s' v n on := by simp [put8, hcs]
theorem put8_stv (s s' : St) : put8 (stv s) s' = stv s' := by simp [put8, stv]
theorem st8_hcs {w : World} {g n : Nat} {s s' : St} {v : Value} {on : Bool} {T : TypeId} (hb : w.heap[g]? = some (.cells (hcs s v n on) T (0, 0))) : (st8 w g s').heap[g]? = some (.cells (hcs s' v n on) T (0, 0)) := by
  rw [st8_blk hb, put8_hcs]
theorem st8_stv {w : World} {g : Nat} {s s' : St} {T : TypeId} (hb : w.heap[g]? = some (.cells (stv s) T (0, 0))) : (st8 w g s').heap[g]? = some (.cells (stv s') T (0, 0)) := by
  rw [st8_blk hb, put8_stv]
theorem now_any (g : Nat) (s : St) (v : Value) (n : Nat) (on : Bool) (w : World) (hb : w.heap[g]? = some (.cells (hcs s v n on) 196 (0, 0))) :
    Ret Tryd.prog 105 #[.pointer (some ⟨g, 0, none⟩)] w fun v' w' => v' = .agg (stv (if on = true then s else first)) ∧ Ch Nw w w' := by
  refine v_enter Tryd.func105 Tryd.ntmps105 rfl (by simp) fun R' hR => ?_
  have e := fun i => cell_blk hb i
  have c1 := (Ch.refl Nw w).alloc (.cells #[.int .u32 0, .int .u32 0, .int .u32 0, .int .u32 0, .int .u32 0, .int .u32 0, .int .u32 0, .int .u32 0] 194)
  have hb1 := c1.hp hb id
  have e1 := fun i => cell_blk hb1 i
  cases on
  · simp [go_sem, e, e1, hcs]
    refine (first_any _).mono ?_
    rintro _ w2 ⟨rfl, c2⟩
    have bz := c2.hp (hp_alloc w (.cells #[.int .u32 0, .int .u32 0, .int .u32 0, .int .u32 0, .int .u32 0, .int .u32 0, .int .u32 0, .int .u32 0] 194)) id
    have ez := fun i => cell_blk bz i
    have zz := fun i => frz_blk bz i
    have cF := st8_ch (s := first) (g := w.heap.size) (c1.trans c2) (.inr (Nat.le_refl _))
    simp [go_sem, stv, ez, zz]
    exact hR _ _ ⟨rfl, cF⟩
  · simp [go_sem, e, e1, hcs]
    exact hR _ _ ⟨rfl, (Ch.refl Nw w).alloc _⟩
theorem hz_h : (Tryd.prog.info? 196).map (fun i => i.zero.isSome) = some true := by kernel_rfl
theorem zc_h : zc Tryd.prog 196 = hcs stz (.slice none 0 0) 0 false := by kernel_rfl
theorem bld_h0 {w : World} {K : Value → World → Prop} : VBld Tryd.prog 196 [] w K = K (.agg (hcs stz (.slice none 0 0) 0 false)) w :=
  VBld_struct Tryd.underlying196 hz_h (places := #[(0, 8), (8, 1), (9, 1), (10, 1)]) (by simp [go_sem]) (by simp [fillB, zc_h])
theorem newsha_any (w : World) : Ret Tryd.prog 86 #[] w fun v' w' => v' = .pointer (some ⟨w.heap.size, 0, none⟩) ∧ Hsh w' w.heap.size [] ∧ Ch Nw w w' := by
  refine v_enter Tryd.func86 Tryd.ntmps86 rfl (by simp) fun R' hR => ?_
  simp [go_sem, bld_h0]
  refine hR _ _ ⟨rfl, ?_, (Ch.refl Nw w).alloc _⟩
  have ha : absorb first [] = (first, []) := absorb_end (by decide)
  refine ⟨stz, .slice none 0 0, false, hp_alloc _ _, ?_, by simp [Value.ownBlock], ?_, stz_ok⟩
  · rw [ha]; exact Sl.nil _
  · rw [ha]; rfl
end Go.Proofs.YtppilgkgnofkpaaDoor
