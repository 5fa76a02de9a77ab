/- A hash: Write, as a contract on the call. Conditions: the variable sha.constants holds what the text lays; sizes. -/
import Derived.Test.YtppilgkgnofkpaaGreatDoorAgg
import Derived.ArgAppend
import Derived.Deep.Upon
import Derived.Test.YtppilgkgnofkpaaGreatDoorShaC
set_option linter.unusedSimpArgs false
set_option linter.unusedVariables false

/- append onto a slice without spare room. It speaks of no program. No condition. -/
namespace Go.Kin
open Go Go.RowKit
variable {P : Program} {w : World} {t e : TypeId} {z : Value} {bytes : Nat}
theorem Sl.cutFull {v : Value} {n : Nat} {xs : List Value} (h : Sl w v n xs) (T : Ty1 P t e z bytes) :
    ∃ A, Sl w (.slice A n n) n xs ∧ (Value.slice A n n).ownBlock = v.ownBlock ∧ ∀ w', (Instr.sliceAt t v none (some (.int .i64 n)) (some (.int .i64 n))).run P w' = .ok (.slice A n n) w' := by
  obtain ⟨A, c, rfl, h1, h2, h3⟩ := h
  obtain ⟨i, hi, _, hsz, _⟩ := info_parts T.info
  have hc1' : ¬ c < n := by omega
  have hA : (if n = 0 then A else A.map (·.add (0 * 1))) = A := by
    cases A with
    | none => simp
    | some ad => split <;> simp [Addr.add]
  refine ⟨A, ⟨A, n, rfl, Nat.le_refl _, by omega, h3⟩, by cases A <;> rfl, fun w' => ?_⟩
  have : (Instr.sliceAt t (.slice A n c) none (some (.int .i64 n)) (some (.int .i64 n))).run P w' = .ok (.slice (if n = 0 then A else A.map (·.add (0 * 1))) n n) w' := by
    simp [Instr.sliceAt, Instr.slice, Instr.sliceBounds, Instr.sliceBound, asIntOf, run_underlying T.und, sizeOf, typeInfo, hi, hc1']
  rw [hA] at this
  exact this
theorem VB_full (T : Ty1 P t e z bytes) {A : Option Addr} {n m : Nat} {xs ys : List Value} {y : Value} {ty : TypeId} {K : Value → World → Prop} (hx : Sl w (.slice A n n) n xs) (hxl : xs.length = n) (hy : Sl w y m ys) (hyl : ys.length = m) (h1 : ∀ u ∈ ys, u.oneCell' = true) (h63 : n + m ≤ maxLen) (hbytes : (n + m) * bytes ≤ 140737488355328)
    (h : ∀ v' w', Sl w' v' (n + m) (xs ++ ys) → Ch Nw w w' → (v'.ownBlock = (Value.slice A n n).ownBlock ∨ Fresh w.heap.size v') → K v' w') : VB P .append #[t, t] ty #[.slice A n n, y] w K := by
  obtain ⟨i, hi, hz, hsz, hby⟩ := info_parts T.info
  by_cases hm : m = 0
  · subst hm
    obtain rfl : ys = [] := List.eq_nil_of_length_eq_zero hyl
    have hs : Src P i.size t y 0 [] w := by
      obtain ⟨A2, c2, rfl, _⟩ := hy
      cases A2 with
      | none => exact Src.ofNil w T.und c2
      | some ad => exact Src.ofSlice w T.und ad 0 c2 [] (by simp) (by simp) (by simp)
    refine VB_append (run_append_nothing (P := P) w t t ty e i T.und hi A n n (Nat.le_refl _) y hs) (h _ _ (by simpa using hx) (Ch.refl _ _) (.inl rfl))
  · cases A with
    | none =>
      obtain ⟨A', c', hv, _, _, h3⟩ := id hx
      have hn0 : n = 0 := by
        apply Classical.byContradiction
        intro hn
        obtain ⟨ad, had, _⟩ := h3 (by omega)
        injection hv with e1
        rw [← e1] at had
        cases had
      subst hn0
      obtain rfl : xs = [] := List.eq_nil_of_length_eq_zero hxl
      obtain ⟨v', w', hr, k1, k2, k3⟩ := run_appn T ty (World.ownsRow_nil _ _ _ _) hy hyl h1 h63 hbytes
      exact VB_append hr (h _ _ (Sl.of_own k1) (k2.mono fun k _ e => by simp [Value.ownBlock] at e) k3)
    | some b =>
      obtain ⟨A2, c2, rfl, _, _, hc⟩ := hy
      obtain ⟨ad, rfl, hc'⟩ := hc (by omega)
      have hxc : ∀ j u, xs[j]? = some u → w.cell? (b.add j) = some u := fun j u hu => by
        obtain ⟨A', c', hv, _, _, h3⟩ := id hx
        obtain ⟨b', hb', h4⟩ := h3 (by have := (List.getElem?_eq_some_iff.1 hu).1; omega)
        injection hv with e1
        rw [hb'] at e1
        injection e1 with e1
        rw [e1]
        exact h4 j u hu
      obtain ⟨v', w', hr, k1, k2⟩ := run_append_arg_grows (P := P) w t ty e i z 1 bytes T.und hi hz hsz hby T.one (by decide) b n n xs (by omega) hxc ad m c2 ys (by omega) hc' (by omega) h63 hbytes
      refine VB_append hr (h _ _ (Sl.of_own k1) (Ch.of_grown k2 |>.mono fun k _ e => by cases e) (.inr fun k hk => ?_))
      rcases k1.2 with ⟨hv, _⟩ | ⟨g, cap, cur, hv, hg, _⟩
      · rw [hv] at hk; simp [Value.ownBlock] at hk
      · rw [hv] at hk
        simp [Value.ownBlock] at hk
        omega
theorem VB_fullOwn (T : Ty1 P t e z bytes) {A : Option Addr} {n m : Nat} {xs ys : List Value} {y : Value} {ty : TypeId} {K : Value → World → Prop} (hx : Sl w (.slice A n n) n xs) (hxl : xs.length = n) (hy : Sl w y m ys) (hyl : ys.length = m) (h0 : 0 < m) (h1 : ∀ u ∈ ys, u.oneCell' = true) (h63 : n + m ≤ maxLen) (hbytes : (n + m) * bytes ≤ 140737488355328)
    (h : ∀ v' w', w'.ownsRow 0 e 1 v' (n + m) (xs ++ ys) → Ch Nw w w' → Fresh w.heap.size v' → K v' w') : VB P .append #[t, t] ty #[.slice A n n, y] w K := by
  obtain ⟨i, hi, hz, hsz, hby⟩ := info_parts T.info
  cases A with
  | none =>
    obtain ⟨A', c', hv, _, _, h3⟩ := id hx
    have hn0 : n = 0 := by
      apply Classical.byContradiction
      intro hn
      obtain ⟨ad, had, _⟩ := h3 (by omega)
      injection hv with e1
      rw [← e1] at had
      cases had
    subst hn0
    obtain rfl : xs = [] := List.eq_nil_of_length_eq_zero hxl
    obtain ⟨v', w', hr, k1, k2, k3⟩ := run_appn T ty (World.ownsRow_nil _ _ _ _) hy hyl h1 h63 hbytes
    exact VB_append hr (h _ _ k1 (k2.mono fun k _ e => by simp [Value.ownBlock] at e) (by
      rcases k3 with k3 | k3
      · intro k hk; rw [k3] at hk; simp [Value.ownBlock] at hk
      · exact k3))
  | some b =>
    obtain ⟨A2, c2, rfl, _, _, hc⟩ := hy
    obtain ⟨ad, rfl, hc'⟩ := hc (by omega)
    have hxc : ∀ j u, xs[j]? = some u → w.cell? (b.add j) = some u := fun j u hu => by
      obtain ⟨A', c', hv, _, _, h3⟩ := id hx
      obtain ⟨b', hb', h4⟩ := h3 (by have := (List.getElem?_eq_some_iff.1 hu).1; omega)
      injection hv with e1
      rw [hb'] at e1
      injection e1 with e1
      rw [e1]
      exact h4 j u hu
    obtain ⟨v', w', hr, k1, k2⟩ := run_append_arg_grows (P := P) w t ty e i z 1 bytes T.und hi hz hsz hby T.one (by decide) b n n xs (by omega) hxc ad m c2 ys (by omega) hc' (by omega) h63 hbytes
    refine VB_append hr (h _ _ ⟨k1.1, k1.2.imp id fun ⟨g, cap, cur, hv, hg, r⟩ => ⟨g, cap, cur, hv, Nat.zero_le _, r⟩⟩ (Ch.of_grown k2 |>.mono fun k _ e => by cases e) fun k hk => ?_)
    rcases k1.2 with ⟨hv, _⟩ | ⟨g, cap, cur, hv, hg, _⟩
    · rw [hv] at hk; simp [Value.ownBlock] at hk
    · rw [hv] at hk
      simp [Value.ownBlock] at hk
      omega
end Go.Kin

/- A hash: New, now, Write, as contracts on calls. Conditions: the variable sha.constants holds what the text lays; sizes. -/
namespace Go.Proofs.YtppilgkgnofkpaaGreatDoor
open Go.RowKit Go.Kin

def first : St := ⟨1779033703, 3144134277, 1013904242, 2773480762, 1359893119, 2600822924, 528734635, 1541459225⟩
theorem first_ok : StOk first := ⟨by decide, by decide, by decide, by decide, by decide, by decide, by decide, by decide⟩
def stz : St := ⟨0, 0, 0, 0, 0, 0, 0, 0⟩
theorem stz_ok : StOk stz := ⟨by decide, by decide, by decide, by decide, by decide, by decide, by decide, by decide⟩
/-- pieces taken in, as long as there is a whole one -/
def absorbF : Nat → St → List UInt8 → St × List UInt8
  | 0, s, l => (s, l)
  | n + 1, s, l => if 64 ≤ l.length then absorbF n (takeS s (l.take 64)) (l.drop 64) else (s, l)
def absorb (s : St) (l : List UInt8) : St × List UInt8 := absorbF l.length s l
theorem absorbF_enough : ∀ (n m : Nat) (s : St) (l : List UInt8), l.length ≤ n → l.length ≤ m → absorbF n s l = absorbF m s l
  | 0, 0, _, _, _, _ => rfl
  | 0, m + 1, s, l, h, _ => by simp [absorbF, List.length_eq_zero_iff.1 (Nat.le_zero.1 h)]
  | n + 1, 0, s, l, _, h => by simp [absorbF, List.length_eq_zero_iff.1 (Nat.le_zero.1 h)]
  | n + 1, m + 1, s, l, h1, h2 => by
    simp only [absorbF]
    split
    · exact absorbF_enough n m _ _ (by rw [List.length_drop]; omega) (by rw [List.length_drop]; omega)
    · rfl
theorem absorb_step {s : St} {l : List UInt8} (h : 64 ≤ l.length) : absorb s l = absorb (takeS s (l.take 64)) (l.drop 64) := by
  unfold absorb
  obtain ⟨n, hn⟩ : ∃ n, l.length = n + 1 := ⟨l.length - 1, by omega⟩
  rw [hn]
  show (if 64 ≤ l.length then _ else _) = _
  rw [if_pos h]
  exact absorbF_enough _ _ _ _ (by rw [List.length_drop]; omega) (Nat.le_refl _)
theorem absorb_end {s : St} {l : List UInt8} (h : l.length < 64) : absorb s l = (s, l) := by
  unfold absorb
  cases hn : l.length with
  | zero => simp [absorbF]
  | succ n =>
    show (if 64 ≤ l.length then _ else _) = _
    rw [if_neg (by omega)]
theorem absorb_rest_lt : ∀ (n : Nat) (s : St) (l : List UInt8), l.length ≤ n → (absorb s l).2.length < 64 := by
  intro n
  induction n with
  | zero => intro s l h; rw [absorb_end (by omega)]; show l.length < 64; omega
  | succ n ih =>
    intro s l h
    by_cases h64 : 64 ≤ l.length
    · rw [absorb_step h64]
      exact ih _ _ (by rw [List.length_drop]; omega)
    · rw [absorb_end (by omega)]; show l.length < 64; omega
theorem absorb_app : ∀ (n : Nat) (s : St) (l r : List UInt8), l.length ≤ n → absorb s (l ++ r) = absorb (absorb s l).1 ((absorb s l).2 ++ r) := by
  intro n
  induction n with
  | zero =>
    intro s l r h
    have : l = [] := List.length_eq_zero_iff.1 (by omega)
    subst this
    rw [absorb_end (s := s) (l := []) (by decide)]
  | succ n ih =>
    intro s l r h
    by_cases h64 : 64 ≤ l.length
    · rw [absorb_step h64, absorb_step (l := l ++ r) (by rw [List.length_append]; omega), List.take_append_of_le_length h64, List.drop_append_of_le_length h64]
      exact ih _ _ _ (by rw [List.length_drop]; omega)
    · rw [absorb_end (s := s) (l := l) (by omega)]
theorem absorb_ok : ∀ (n : Nat) (s : St) (l : List UInt8), l.length ≤ n → StOk s → StOk (absorb s l).1 := by
  intro n
  induction n with
  | zero => intro s l h ok; rw [absorb_end (by omega)]; exact ok
  | succ n ih =>
    intro s l h ok
    by_cases h64 : 64 ≤ l.length
    · rw [absorb_step h64]
      exact ih _ _ (by rw [List.length_drop]; omega) (takeS_ok _ _)
    · rw [absorb_end (by omega)]; exact ok
attribute [irreducible] absorb
theorem first_any (w : World) : Ret Tryz.prog 123 #[] w fun v' w' => v' = .agg (stv first) ∧ Ch Nw w w' := by
  refine v_enter Tryz.func123 Tryz.ntmps123 rfl (by simp) fun R' hR => ?_
  simp [go_sem]
  exact hR _ _ ⟨rfl, (Ch.refl Nw w).alloc _⟩
/-- a hash's cells: state, rest, length, whether something was taken in -/
def hcs (s : St) (v : Value) (n : Nat) (on : Bool) : Array Value := #[.int .u32 s.a, .int .u32 s.b, .int .u32 s.c, .int .u32 s.d, .int .u32 s.e, .int .u32 s.f, .int .u32 s.g, .int .u32 s.h, v, .int .u64 n, .bool on]
/-- block g is a hash that m was written to; its rest lies in a block of its own -/
def Hsh (w : World) (g : Nat) (m : List UInt8) : Prop :=
  ∃ s v on, w.heap[g]? = some (.cells (hcs s v m.length on) 191 (0, 0)) ∧ Sl w v (absorb first m).2.length (bvs (absorb first m).2) ∧ v.ownBlock ≠ some g ∧ (if on = true then s else first) = (absorb first m).1 ∧ StOk s
/-- a state's cells, stored at the head of a block -/
def st8 (w : World) (g : Nat) (s : St) : World := (((((((w.setCell ⟨g, 0, none⟩ (.int .u32 s.a)).setCell ⟨g, 1, none⟩ (.int .u32 s.b)).setCell ⟨g, 2, none⟩ (.int .u32 s.c)).setCell ⟨g, 3, none⟩ (.int .u32 s.d)).setCell ⟨g, 4, none⟩ (.int .u32 s.e)).setCell ⟨g, 5, none⟩ (.int .u32 s.f)).setCell ⟨g, 6, none⟩ (.int .u32 s.g)).setCell ⟨g, 7, none⟩ (.int .u32 s.h)
theorem st8_ch {S : Nat → Prop} {w0 w : World} {g : Nat} {s : St} (hc : Ch S w0 w) (hg : S g ∨ w0.heap.size ≤ g) : Ch S w0 (st8 w g s) :=
  (((((((hc.setCell (p := ⟨g, 0, none⟩) hg _).setCell (p := ⟨g, 1, none⟩) hg _).setCell (p := ⟨g, 2, none⟩) hg _).setCell (p := ⟨g, 3, none⟩) hg _).setCell (p := ⟨g, 4, none⟩) hg _).setCell (p := ⟨g, 5, none⟩) hg _).setCell (p := ⟨g, 6, none⟩) hg _).setCell (p := ⟨g, 7, none⟩) hg _
def put8 (cs : Array Value) (s : St) : Array Value := (((((((cs.setIfInBounds 0 (.int .u32 s.a)).setIfInBounds 1 (.int .u32 s.b)).setIfInBounds 2 (.int .u32 s.c)).setIfInBounds 3 (.int .u32 s.d)).setIfInBounds 4 (.int .u32 s.e)).setIfInBounds 5 (.int .u32 s.f)).setIfInBounds 6 (.int .u32 s.g)).setIfInBounds 7 (.int .u32 s.h)
theorem st8_blk {w : World} {g : Nat} {s' : St} {cs : Array Value} {T : TypeId} (hb : w.heap[g]? = some (.cells cs T (0, 0))) : (st8 w g s').heap[g]? = some (.cells (put8 cs s') T (0, 0)) := by
  unfold st8 put8
  rw [hp_setCell, hp_setCell, hp_setCell, hp_setCell, hp_setCell, hp_setCell, hp_setCell, hp_setCell, hb]
  simp only [setOf_cells]
theorem put8_hcs (s s' : St) (v : Value) (n : Nat) (on : Bool) : put8 (hcs s v n on) s' = hcs s' v n on := by simp [put8, hcs]
theorem put8_stv (s s' : St) : put8 (stv s) s' = stv s' := by simp [put8, stv]
theorem st8_hcs {w : World} {g n : Nat} {s s' : St} {v : Value} {on : Bool} {T : TypeId} (hb : w.heap[g]? = some (.cells (hcs s v n on) T (0, 0))) : (st8 w g s').heap[g]? = some (.cells (hcs s' v n on) T (0, 0)) := by
  rw [st8_blk hb, put8_hcs]
theorem st8_stv {w : World} {g : Nat} {s s' : St} {T : TypeId} (hb : w.heap[g]? = some (.cells (stv s) T (0, 0))) : (st8 w g s').heap[g]? = some (.cells (stv s') T (0, 0)) := by
  rw [st8_blk hb, put8_stv]
theorem now_any (g : Nat) (s : St) (v : Value) (n : Nat) (on : Bool) (w : World) (hb : w.heap[g]? = some (.cells (hcs s v n on) 191 (0, 0))) :
    Ret Tryz.prog 108 #[.pointer (some ⟨g, 0, none⟩)] w fun v' w' => v' = .agg (stv (if on = true then s else first)) ∧ Ch Nw w w' := by
  refine v_enter Tryz.func108 Tryz.ntmps108 rfl (by simp) fun R' hR => ?_
  have e := fun i => cell_blk hb i
  have c1 := (Ch.refl Nw w).alloc (.cells #[.int .u32 0, .int .u32 0, .int .u32 0, .int .u32 0, .int .u32 0, .int .u32 0, .int .u32 0, .int .u32 0] 189)
  have hb1 := c1.hp hb id
  have e1 := fun i => cell_blk hb1 i
  cases on
  · simp [go_sem, e, e1, hcs]
    refine (first_any _).mono ?_
    rintro _ w2 ⟨rfl, c2⟩
    have bz := c2.hp (hp_alloc w (.cells #[.int .u32 0, .int .u32 0, .int .u32 0, .int .u32 0, .int .u32 0, .int .u32 0, .int .u32 0, .int .u32 0] 189)) id
    have ez := fun i => cell_blk bz i
    have zz := fun i => frz_blk bz i
    have cF := st8_ch (s := first) (g := w.heap.size) (c1.trans c2) (.inr (Nat.le_refl _))
    simp [go_sem, stv, ez, zz]
    exact hR _ _ ⟨rfl, cF⟩
  · simp [go_sem, e, e1, hcs]
    exact hR _ _ ⟨rfl, (Ch.refl Nw w).alloc _⟩
theorem hz_h : (Tryz.prog.info? 191).map (fun i => i.zero.isSome) = some true := by kernel_rfl
theorem zc_h : zc Tryz.prog 191 = hcs stz (.slice none 0 0) 0 false := by kernel_rfl
theorem bld_h0 {w : World} {K : Value → World → Prop} : VBld Tryz.prog 191 [] w K = K (.agg (hcs stz (.slice none 0 0) 0 false)) w :=
  VBld_struct Tryz.underlying191 hz_h (places := #[(0, 8), (8, 1), (9, 1), (10, 1)]) (by simp [go_sem]) (by simp [fillB, zc_h])
theorem newsha_any (w : World) : Ret Tryz.prog 93 #[] w fun v' w' => v' = .pointer (some ⟨w.heap.size, 0, none⟩) ∧ Hsh w' w.heap.size [] ∧ Ch Nw w w' := by
  refine v_enter Tryz.func93 Tryz.ntmps93 rfl (by simp) fun R' hR => ?_
  simp [go_sem, bld_h0]
  refine hR _ _ ⟨rfl, ?_, (Ch.refl Nw w).alloc _⟩
  have ha : absorb first [] = (first, []) := absorb_end (by decide)
  refine ⟨stz, .slice none 0 0, false, hp_alloc _ _, ?_, by simp [Value.ownBlock], ?_, stz_ok⟩
  · rw [ha]; exact Sl.nil _
  · rw [ha]; rfl
end Go.Proofs.YtppilgkgnofkpaaGreatDoor

namespace Go.Proofs.YtppilgkgnofkpaaGreatDoor
open Go.RowKit Go.Kin

theorem write_any (g : Nat) (m : List UInt8) (v : Value) (b : List UInt8) (w : World) (hH : Hsh w g m) (hs : Sl w v b.length (bvs b)) (hv : v.ownBlock ≠ some g) (hlen : m.length + b.length ≤ 1000000) (hk : Lk w) (hgk : g ≠ 1) :
    Ret Tryz.prog 94 #[.pointer (some ⟨g, 0, none⟩), v] w fun v' w' => v' = .tuple #[] ∧ Hsh w' g (m ++ b) ∧ Ch (only g) w w' := by
  obtain ⟨s, v0, on, hb, hs0, hv0, hst, oks⟩ := hH
  refine v_enter Tryz.func94 Tryz.ntmps94 rfl (by simp) fun R' hR => ?_
  have hgl := lt_of_block hb
  have e := fun i => cell_blk hb i
  have z := fun i => frz_blk hb i
  have hlb := hs.len Tryz.underlying59 3
  have u1 : IntKind.u64.wrap (b.length : Int) = b.length := by rw [IntKind.wrap_u64]; omega
  have u2 : IntKind.u64.wrap ((m.length : Int) + b.length) = ((m.length + b.length : Nat) : Int) := by rw [IntKind.wrap_u64]; omega
  simp [go_sem, e, z, hcs, hlb, u1]
  rw [u2]
  generalize hN : m.length + b.length = N at *
  have hb1 : (w.setCell ⟨g, 9, none⟩ (.int .u64 N)).heap[g]? = some (.cells (hcs s v0 N on) 191 (0, 0)) := by
    rw [hp_setCell, hb, setOf_cells]
    simp [hcs]
  have c1 := (Ch.refl (only g) w).setCell (p := ⟨g, 9, none⟩) (.inl rfl) (.int .u64 N)
  have nog : ∀ {v : Value}, v.ownBlock ≠ some g → ∀ k, v.ownBlock = some k → ¬ only g k := fun h k hk e => h (by rw [hk, e])
  have hs1 := hs.ch c1 (nog hv)
  have hs01 := hs0.ch c1 (nog hv0)
  revert hb1 c1 hs1 hs01
  generalize w.setCell ⟨g, 9, none⟩ (.int .u64 N) = w1
  intro hb1 c1 hs1 hs01
  have e1 := fun i => cell_blk hb1 i
  have hrl := absorb_rest_lt m.length first m (Nat.le_refl _)
  generalize hrest : (absorb first m).2 = rest at *
  have hl0 := hs01.len Tryz.underlying59 3
  obtain ⟨A, hsA, hoA, hrA⟩ := hs01.cutFull tyB
  refine v_draw' [(0, none), (1, none), (2, none), (3, none), (4, none), (5, none), (6, none), (7, none), (8, none), (9, none), (10, none), (11, none), (12, none), (13, none), (14, none), (15, none), (16, some []), (17, none)] (by kernel_rfl) (by kernel_rfl) ?_
  simp [go_sem, e1, hcs, hl0, hrA]
  refine VB_full tyB (hsA.drew) (bvs_length _) (hs1.drew) (bvs_length _) (bvs_one _) (by unfold maxLen; omega) (by omega) fun v4 w2 k1 k2 k3 => ?_
  have k2 := (Ch.refl Nw w1).drew.trans k2
  have hb2 := k2.hp hb1 id
  have hv4 : v4.ownBlock ≠ some g := by
    rcases k3 with k3 | k3
    · rw [k3, hoA]; exact hv0
    · intro h
      have := k3 g h
      have := c1.size
      simp at *
      omega
  have hle : (rest ++ b).length ≤ 1000000 + 64 := by rw [List.length_append]; omega
  have hsL : Sl w2 v4 (rest ++ b).length (bvs (rest ++ b)) := by rw [bvs_append, List.length_append]; exact k1
  have hab : absorb first (m ++ b) = absorb (if on = true then s else first) (rest ++ b) := by
    rw [absorb_app m.length first m b (Nat.le_refl _), hst, hrest]
  simp [go_sem]
  refine v_loop (fun r f wr => ∃ (l : List UInt8) (s' : St) (on' : Bool), r = l.length ∧ l.length ≤ 1000064 ∧ f 0 = .pointer (some ⟨g, 0, none⟩) ∧ Sl wr (f 4) l.length (bvs l) ∧ (f 4).ownBlock ≠ some g ∧ wr.heap[g]? = some (.cells (hcs s' v0 N on') 191 (0, 0)) ∧ StOk s' ∧
    absorb first (m ++ b) = absorb (if on' = true then s' else first) l ∧ Ch (only g) w wr) (rest ++ b).length
    ⟨rest ++ b, s, on, rfl, hle, by simp, by simpa using hsL, by simpa using hv4, hb2, oks, hab, c1.trans (k2.mono fun _ _ e => e.elim)⟩ ?_
  rintro J hJ _ f wr ⟨l, s', on', rfl, hll, f0, hs4, ho4, hbg, ok', hab', hc⟩
  have hlen4 := hs4.len Tryz.underlying59 3
  by_cases h64 : 64 ≤ l.length
  · have h64' : (64 : Int) ≤ l.length := by omega
    obtain ⟨v5, hs5, ho5, _, hr5, _⟩ := hs4.cut tyB (bvs_length l) 0 64 (by omega) h64
    replace hr5 : ∀ w', (Instr.sliceAt 59 (f 4) none (some (.int .i64 64)) none).run Tryz.prog w' = .ok v5 w' := hr5 rfl
    obtain ⟨v6, hs6, ho6, _, _, hr6⟩ := hs4.cut tyB (bvs_length l) 64 l.length h64 (Nat.le_refl _)
    replace hr6 : ∀ w', (Instr.sliceAt 59 (f 4) (some (.int .i64 64)) none none).run Tryz.prog w' = .ok v6 w' := hr6 rfl
    have hs5 : Sl wr v5 64 (bvs (l.take 64)) := by
      rw [bvs, List.map_take]
      simpa [bvs] using hs5
    have hs6 : Sl wr v6 (l.drop 64).length (bvs (l.drop 64)) := by
      rw [List.length_drop, bvs, List.map_drop]
      have h := hs6
      rw [show l.length = (bvs l).length from (bvs_length l).symm, List.take_length] at h
      simpa [bvs] using h
    have hl64 : (l.take 64).length = 64 := by rw [List.length_take]; omega
    simp [go_sem, hlen4, h64']
    refine v_draw' [(0, none), (1, none), (2, none), (4, none), (5, none), (3, some [0, 1, 4, 5]), (6, some [0, 1]), (7, none), (8, none), (9, some [1]), (10, none), (11, none), (12, some [])] (by kernel_rfl) (by kernel_rfl) ?_
    simp [go_sem, f0, hr5]
    refine (now_any g s' v0 N on' wr.drew hbg).mono ?_
    rintro _ w3 ⟨rfl, c3⟩
    have c3 := (Ch.refl Nw wr).drew.trans c3
    have okn : StOk (if on' = true then s' else first) := by cases on' <;> simp [first_ok, ok']
    generalize hS : (if on' = true then s' else first) = S at *
    simp [go_sem, f0, hr5]
    refine (shatake_any S v5 (l.take 64) w3 okn hl64 (hs5.ch c3 fun _ _ e => e) (hk.ch (hc.trans (c3.mono fun _ _ e => e.elim)) (by simp only [only]; exact fun e => hgk e.symm))).mono ?_
    rintro _ w4 ⟨rfl, c4⟩
    have c34 := c3.trans c4
    have hb4 := c34.hp hbg id
    have okt := takeS_ok S (l.take 64)
    have habt : absorb first (m ++ b) = absorb (takeS S (l.take 64)) (l.drop 64) := by rw [hab', absorb_step h64]
    generalize ht : takeS S (l.take 64) = t at *
    have hb5 := st8_hcs (s' := t) hb4
    have cS := st8_ch (s := t) (g := g) (Ch.refl (only g) w4) (.inl rfl)
    have hb6 : ((st8 w4 g t).setCell ⟨g, 10, none⟩ (.bool true)).heap[g]? = some (.cells (hcs t v0 N true) 191 (0, 0)) := by
      rw [hp_setCell, hb5, setOf_cells]
      simp [hcs]
    have cS := cS.setCell (p := ⟨g, 10, none⟩) (.inl rfl) (.bool true)
    have e4 := fun i => cell_blk hb4 i
    have z4 := fun i => frz_blk hb4 i
    simp [go_sem, f0, stv, e4, z4, hcs, hr6]
    have hv6 : v6.ownBlock ≠ some g := by rw [ho6]; exact ho4
    refine Rnd.intro (l.drop 64).length (by rw [List.length_drop]; omega) (hJ _ _ ((st8 w4 g t).setCell ⟨g, 10, none⟩ (.bool true)) ⟨l.drop 64, t, true, rfl, by rw [List.length_drop]; omega, by simp [f0], ?_, by simpa using hv6, hb6, okt, habt, (hc.trans (c34.mono fun _ _ e => e.elim)).trans cS⟩)
    have := (hs6.ch c34 fun _ _ e => e).ch cS (nog hv6)
    simpa using this
  · have h64' : ¬ (64 : Int) ≤ l.length := by omega
    simp [go_sem, hlen4, h64', f0]
    refine VB_appn tyB (World.ownsRow_nil wr 0 5 1) hs4 (bvs_length _) (bvs_one _) (by unfold maxLen; omega) (by omega) fun v7 w7 d4 d5 d6 => ?_
    have c7 : Ch Nw wr w7 := d5.mono fun k _ e => by simp [Value.ownBlock] at e
    have hb7 := c7.hp hbg id
    have hv7 : v7.ownBlock ≠ some g := by
      rcases d6 with d6 | d6
      · rw [d6]; simp [Value.ownBlock]
      · intro h
        have h1 := d6 g h
        have h2 := hc.size
        omega
    have hs7 := Sl.of_own d4
    obtain ⟨A7, n7, C7, rfl⟩ : ∃ A m c, v7 = .slice A m c := by
      obtain ⟨A, c, h, _⟩ := id hs7
      exact ⟨A, _, c, h⟩
    have e7 := fun i => cell_blk hb7 i
    have z7 := fun i => frz_blk hb7 i
    have habl : absorb first (m ++ b) = ((if on' = true then s' else first), l) := by rw [hab', absorb_end (by omega)]
    have cS := (Ch.refl (only g) w7).setCell (p := ⟨g, 8, none⟩) (.inl rfl) (.slice A7 n7 C7)
    have hs8 := hs7.ch cS (nog hv7)
    simp [go_sem, f0, e7, z7, hcs]
    refine hR _ _ ⟨rfl, ⟨s', .slice A7 n7 C7, on', ?_, ?_, hv7, by rw [habl], ok'⟩, (hc.trans (c7.mono fun _ _ e => e.elim)).trans cS⟩
    · rw [hp_setCell, hb7, setOf_cells, List.length_append, hN]
      simp [hcs]
    · rw [habl]
      simpa using hs8
end Go.Proofs.YtppilgkgnofkpaaGreatDoor
