/- A shelf of blocks, and the tree on it as a map, in plain Lean. No condition but that the values are of their types. -/
import Derived.Test.YtnefdmbdkljifaaGreatDoorAgg
import Derived.ArgAppend
import Derived.Deep.Upon
import Derived.Test.YtnefdmbdkljifaaGreatDoorRsB
import Derived.Test.YtnefdmbdkljifaaGreatDoorPtG
import Derived.Test.YtnefdmbdkljifaaGreatDoorTrH
set_option linter.unusedSimpArgs false
set_option linter.unusedVariables false

/- append onto a slice without spare room. It speaks of no program. No condition. -/
namespace Go.Kin
open Go Go.RowKit
variable {P : Program} {w : World} {t e : TypeId} {z : Value} {bytes : Nat}
theorem Sl.cutFull {v : Value} {n : Nat} {xs : List Value} (h : Sl w v n xs) (T : Ty1 P t e z bytes) :
    ∃ A, Sl w (.slice A n n) n xs ∧ (Value.slice A n n).ownBlock = v.ownBlock ∧ ∀ w', (Instr.sliceAt t v none (some (.int .i64 n)) (some (.int .i64 n))).run P w' = .ok (.slice A n n) w' := by
  obtain ⟨A, c, rfl, h1, h2, h3⟩ := h
  obtain ⟨i, hi, _, hsz, _⟩ := info_parts T.info
  have hc1' : ¬ c < n := by omega
  have hA : (if n = 0 then A else A.map (·.add (0 * 1))) = A := by
    cases A with
    | none => simp
    | some ad => split <;> simp [Addr.add]
  refine ⟨A, ⟨A, n, rfl, Nat.le_refl _, by omega, h3⟩, by cases A <;> rfl, fun w' => ?_⟩
  have : (Instr.sliceAt t (.slice A n c) none (some (.int .i64 n)) (some (.int .i64 n))).run P w' = .ok (.slice (if n = 0 then A else A.map (·.add (0 * 1))) n n) w' := by
    simp [Instr.sliceAt, Instr.slice, Instr.sliceBounds, Instr.sliceBound, asIntOf, run_underlying T.und, sizeOf, typeInfo, hi, hc1']
  rw [hA] at this
  exact this
theorem VB_full (T : Ty1 P t e z bytes) {A : Option Addr} {n m : Nat} {xs ys : List Value} {y : Value} {ty : TypeId} {K : Value → World → Prop} (hx : Sl w (.slice A n n) n xs) (hxl : xs.length = n) (hy : Sl w y m ys) (hyl : ys.length = m) (h1 : ∀ u ∈ ys, u.oneCell' = true) (h63 : n + m ≤ maxLen) (hbytes : (n + m) * bytes ≤ 140737488355328)
    (h : ∀ v' w', Sl w' v' (n + m) (xs ++ ys) → Ch Nw w w' → (v'.ownBlock = (Value.slice A n n).ownBlock ∨ Fresh w.heap.size v') → K v' w') : VB P .append #[t, t] ty #[.slice A n n, y] w K := by
  obtain ⟨i, hi, hz, hsz, hby⟩ := info_parts T.info
  by_cases hm : m = 0
  · subst hm
    obtain rfl : ys = [] := List.eq_nil_of_length_eq_zero hyl
    have hs : Src P i.size t y 0 [] w := by
      obtain ⟨A2, c2, rfl, _⟩ := hy
      cases A2 with
      | none => exact Src.ofNil w T.und c2
      | some ad => exact Src.ofSlice w T.und ad 0 c2 [] (by simp) (by simp) (by simp)
    refine VB_append (run_append_nothing (P := P) w t t ty e i T.und hi A n n (Nat.le_refl _) y hs) (h _ _ (by simpa using hx) (Ch.refl _ _) (.inl rfl))
  · cases A with
    | none =>
      obtain ⟨A', c', hv, _, _, h3⟩ := id hx
      have hn0 : n = 0 := by
        apply Classical.byContradiction
        intro hn
        obtain ⟨ad, had, _⟩ := h3 (by omega)
        injection hv with e1
        rw [← e1] at had
        cases had
      subst hn0
      obtain rfl : xs = [] := List.eq_nil_of_length_eq_zero hxl
      obtain ⟨v', w', hr, k1, k2, k3⟩ := run_appn T ty (World.ownsRow_nil _ _ _ _) hy hyl h1 h63 hbytes
      exact VB_append hr (h _ _ (Sl.of_own k1) (k2.mono fun k _ e => by simp [Value.ownBlock] at e) k3)
    | some b =>
      obtain ⟨A2, c2, rfl, _, _, hc⟩ := hy
      obtain ⟨ad, rfl, hc'⟩ := hc (by omega)
      have hxc : ∀ j u, xs[j]? = some u → w.cell? (b.add j) = some u := fun j u hu => by
        obtain ⟨A', c', hv, _, _, h3⟩ := id hx
        obtain ⟨b', hb', h4⟩ := h3 (by have := (List.getElem?_eq_some_iff.1 hu).1; omega)
        injection hv with e1
        rw [hb'] at e1
        injection e1 with e1
        rw [e1]
        exact h4 j u hu
      obtain ⟨v', w', hr, k1, k2⟩ := run_append_arg_grows (P := P) w t ty e i z 1 bytes T.und hi hz hsz hby T.one (by decide) b n n xs (by omega) hxc ad m c2 ys (by omega) hc' (by omega) h63 hbytes
      refine VB_append hr (h _ _ (Sl.of_own k1) (Ch.of_grown k2 |>.mono fun k _ e => by cases e) (.inr fun k hk => ?_))
      rcases k1.2 with ⟨hv, _⟩ | ⟨g, cap, cur, hv, hg, _⟩
      · rw [hv] at hk; simp [Value.ownBlock] at hk
      · rw [hv] at hk
        simp [Value.ownBlock] at hk
        omega
theorem VB_fullOwn (T : Ty1 P t e z bytes) {A : Option Addr} {n m : Nat} {xs ys : List Value} {y : Value} {ty : TypeId} {K : Value → World → Prop} (hx : Sl w (.slice A n n) n xs) (hxl : xs.length = n) (hy : Sl w y m ys) (hyl : ys.length = m) (h0 : 0 < m) (h1 : ∀ u ∈ ys, u.oneCell' = true) (h63 : n + m ≤ maxLen) (hbytes : (n + m) * bytes ≤ 140737488355328)
    (h : ∀ v' w', w'.ownsRow 0 e 1 v' (n + m) (xs ++ ys) → Ch Nw w w' → Fresh w.heap.size v' → K v' w') : VB P .append #[t, t] ty #[.slice A n n, y] w K := by
  obtain ⟨i, hi, hz, hsz, hby⟩ := info_parts T.info
  cases A with
  | none =>
    obtain ⟨A', c', hv, _, _, h3⟩ := id hx
    have hn0 : n = 0 := by
      apply Classical.byContradiction
      intro hn
      obtain ⟨ad, had, _⟩ := h3 (by omega)
      injection hv with e1
      rw [← e1] at had
      cases had
    subst hn0
    obtain rfl : xs = [] := List.eq_nil_of_length_eq_zero hxl
    obtain ⟨v', w', hr, k1, k2, k3⟩ := run_appn T ty (World.ownsRow_nil _ _ _ _) hy hyl h1 h63 hbytes
    exact VB_append hr (h _ _ k1 (k2.mono fun k _ e => by simp [Value.ownBlock] at e) (by
      rcases k3 with k3 | k3
      · intro k hk; rw [k3] at hk; simp [Value.ownBlock] at hk
      · exact k3))
  | some b =>
    obtain ⟨A2, c2, rfl, _, _, hc⟩ := hy
    obtain ⟨ad, rfl, hc'⟩ := hc (by omega)
    have hxc : ∀ j u, xs[j]? = some u → w.cell? (b.add j) = some u := fun j u hu => by
      obtain ⟨A', c', hv, _, _, h3⟩ := id hx
      obtain ⟨b', hb', h4⟩ := h3 (by have := (List.getElem?_eq_some_iff.1 hu).1; omega)
      injection hv with e1
      rw [hb'] at e1
      injection e1 with e1
      rw [e1]
      exact h4 j u hu
    obtain ⟨v', w', hr, k1, k2⟩ := run_append_arg_grows (P := P) w t ty e i z 1 bytes T.und hi hz hsz hby T.one (by decide) b n n xs (by omega) hxc ad m c2 ys (by omega) hc' (by omega) h63 hbytes
    refine VB_append hr (h _ _ ⟨k1.1, k1.2.imp id fun ⟨g, cap, cur, hv, hg, r⟩ => ⟨g, cap, cur, hv, Nat.zero_le _, r⟩⟩ (Ch.of_grown k2 |>.mono fun k _ e => by cases e) fun k hk => ?_)
    rcases k1.2 with ⟨hv, _⟩ | ⟨g, cap, cur, hv, hg, _⟩
    · rw [hv] at hk; simp [Value.ownBlock] at hk
    · rw [hv] at hk
      simp [Value.ownBlock] at hk
      omega
end Go.Kin

/- A hash: New, now, Write, as contracts on calls. Conditions: the variable sha.constants holds what the text lays; sizes. -/
namespace Go.Proofs.YtnefdmbdkljifaaGreatDoor
open Go.RowKit Go.Kin

def first : St := ⟨1779033703, 3144134277, 1013904242, 2773480762, 1359893119, 2600822924, 528734635, 1541459225⟩
theorem first_ok : StOk first := ⟨by decide, by decide, by decide, by decide, by decide, by decide, by decide, by decide⟩
def stz : St := ⟨0, 0, 0, 0, 0, 0, 0, 0⟩
theorem stz_ok : StOk stz := ⟨by decide, by decide, by decide, by decide, by decide, by decide, by decide, by decide⟩
/-- pieces taken in, as long as there is a whole one -/
def absorbF : Nat → St → List UInt8 → St × List UInt8
  | 0, s, l => (s, l)
  | n + 1, s, l => if 64 ≤ l.length then absorbF n (takeS s (l.take 64)) (l.drop 64) else (s, l)
def absorb (s : St) (l : List UInt8) : St × List UInt8 := absorbF l.length s l
theorem absorbF_enough : ∀ (n m : Nat) (s : St) (l : List UInt8), l.length ≤ n → l.length ≤ m → absorbF n s l = absorbF m s l
  | 0, 0, _, _, _, _ => rfl
  | 0, m + 1, s, l, h, _ => by simp [absorbF, List.length_eq_zero_iff.1 (Nat.le_zero.1 h)]
  | n + 1, 0, s, l, _, h => by simp [absorbF, List.length_eq_zero_iff.1 (Nat.le_zero.1 h)]
  | n + 1, m + 1, s, l, h1, h2 => by
    simp only [absorbF]
    split
    · exact absorbF_enough n m _ _ (by rw [List.length_drop]; omega) (by rw [List.length_drop]; omega)
    · rfl
theorem absorb_step {s : St} {l : List UInt8} (h : 64 ≤ l.length) : absorb s l = absorb (takeS s (l.take 64)) (l.drop 64) := by
  unfold absorb
  obtain ⟨n, hn⟩ : ∃ n, l.length = n + 1 := ⟨l.length - 1, by omega⟩
  rw [hn]
  show (if 64 ≤ l.length then _ else _) = _
  rw [if_pos h]
  exact absorbF_enough _ _ _ _ (by rw [List.length_drop]; omega) (Nat.le_refl _)
theorem absorb_end {s : St} {l : List UInt8} (h : l.length < 64) : absorb s l = (s, l) := by
  unfold absorb
  cases hn : l.length with
  | zero => simp [absorbF]
  | succ n =>
    show (if 64 ≤ l.length then _ else _) = _
    rw [if_neg (by omega)]
theorem absorb_rest_lt : ∀ (n : Nat) (s : St) (l : List UInt8), l.length ≤ n → (absorb s l).2.length < 64 := by
  intro n
  induction n with
  | zero => intro s l h; rw [absorb_end (by omega)]; show l.length < 64; omega
  | succ n ih =>
    intro s l h
    by_cases h64 : 64 ≤ l.length
    · rw [absorb_step h64]
      exact ih _ _ (by rw [List.length_drop]; omega)
    · rw [absorb_end (by omega)]; show l.length < 64; omega
theorem absorb_app : ∀ (n : Nat) (s : St) (l r : List UInt8), l.length ≤ n → absorb s (l ++ r) = absorb (absorb s l).1 ((absorb s l).2 ++ r) := by
  intro n
  induction n with
  | zero =>
    intro s l r h
    have : l = [] := List.length_eq_zero_iff.1 (by omega)
    subst this
    rw [absorb_end (s := s) (l := []) (by decide)]
  | succ n ih =>
    intro s l r h
    by_cases h64 : 64 ≤ l.length
    · rw [absorb_step h64, absorb_step (l := l ++ r) (by rw [List.length_append]; omega), List.take_append_of_le_length h64, List.drop_append_of_le_length h64]
      exact ih _ _ _ (by rw [List.length_drop]; omega)
    · rw [absorb_end (s := s) (l := l) (by omega)]
theorem absorb_ok : ∀ (n : Nat) (s : St) (l : List UInt8), l.length ≤ n → StOk s → StOk (absorb s l).1 := by
  intro n
  induction n with
  | zero => intro s l h ok; rw [absorb_end (by omega)]; exact ok
  | succ n ih =>
    intro s l h ok
    by_cases h64 : 64 ≤ l.length
    · rw [absorb_step h64]
      exact ih _ _ (by rw [List.length_drop]; omega) (takeS_ok _ _)
    · rw [absorb_end (by omega)]; exact ok
attribute [irreducible] absorb
/-- a hash's cells: state, rest, length, whether something was taken in -/
def hcs (s : St) (v : Value) (n : Nat) (on : Bool) : Array Value := #[.int .u32 s.a, .int .u32 s.b, .int .u32 s.c, .int .u32 s.d, .int .u32 s.e, .int .u32 s.f, .int .u32 s.g, .int .u32 s.h, v, .int .u64 n, .bool on]
/-- a state's cells, stored at the head of a block -/
def st8 (w : World) (g : Nat) (s : St) : World := (((((((w.setCell ⟨g, 0, none⟩ (.int .u32 s.a)).setCell ⟨g, 1, none⟩ (.int .u32 s.b)).setCell ⟨g, 2, none⟩ (.int .u32 s.c)).setCell ⟨g, 3, none⟩ (.int .u32 s.d)).setCell ⟨g, 4, none⟩ (.int .u32 s.e)).setCell ⟨g, 5, none⟩ (.int .u32 s.f)).setCell ⟨g, 6, none⟩ (.int .u32 s.g)).setCell ⟨g, 7, none⟩ (.int .u32 s.h)
theorem st8_ch {S : Nat → Prop} {w0 w : World} {g : Nat} {s : St} (hc : Ch S w0 w) (hg : S g ∨ w0.heap.size ≤ g) : Ch S w0 (st8 w g s) :=
  (((((((hc.setCell (p := ⟨g, 0, none⟩) hg _).setCell (p := ⟨g, 1, none⟩) hg _).setCell (p := ⟨g, 2, none⟩) hg _).setCell (p := ⟨g, 3, none⟩) hg _).setCell (p := ⟨g, 4, none⟩) hg _).setCell (p := ⟨g, 5, none⟩) hg _).setCell (p := ⟨g, 6, none⟩) hg _).setCell (p := ⟨g, 7, none⟩) hg _
def put8 (cs : Array Value) (s : St) : Array Value := (((((((cs.setIfInBounds 0 (.int .u32 s.a)).setIfInBounds 1 (.int .u32 s.b)).setIfInBounds 2 (.int .u32 s.c)).setIfInBounds 3 (.int .u32 s.d)).setIfInBounds 4 (.int .u32 s.e)).setIfInBounds 5 (.int .u32 s.f)).setIfInBounds 6 (.int .u32 s.g)).setIfInBounds 7 (.int .u32 s.h)
theorem st8_blk {w : World} {g : Nat} {s' : St} {cs : Array Value} {T : TypeId} (hb : w.heap[g]? = some (.cells cs T (0, 0))) : (st8 w g s').heap[g]? = some (.cells (put8 cs s') T (0, 0)) := by
  unfold st8 put8
  rw [hp_setCell, hp_setCell, hp_setCell, hp_setCell, hp_setCell, hp_setCell, hp_setCell, hp_setCell, hb]
  simp only [setOf_cells]
theorem put8_hcs (s s' : St) (v : Value) (n : Nat) (on : Bool) : put8 (hcs s v n on) s' = hcs s' v n on := by simp [put8, hcs]
theorem put8_stv (s s' : St) : put8 (stv s) s' = stv s' := by simp [put8, stv]
theorem st8_hcs {w : World} {g n : Nat} {s s' : St} {v : Value} {on : Bool} {T : TypeId} (hb : w.heap[g]? = some (.cells (hcs s v n on) T (0, 0))) : (st8 w g s').heap[g]? = some (.cells (hcs s' v n on) T (0, 0)) := by
  rw [st8_blk hb, put8_hcs]
theorem st8_stv {w : World} {g : Nat} {s s' : St} {T : TypeId} (hb : w.heap[g]? = some (.cells (stv s) T (0, 0))) : (st8 w g s').heap[g]? = some (.cells (stv s') T (0, 0)) := by
  rw [st8_blk hb, put8_stv]
end Go.Proofs.YtnefdmbdkljifaaGreatDoor

/- A hash: Write, as a contract on the call. Conditions: the variable sha.constants holds what the text lays; sizes. -/
namespace Go.Proofs.YtnefdmbdkljifaaGreatDoor
open Go.RowKit Go.Kin

end Go.Proofs.YtnefdmbdkljifaaGreatDoor

/- A hash: Sum, as a contract on the call. Conditions: the variable sha.constants holds what the text lays; sizes. -/
namespace Go.Proofs.YtnefdmbdkljifaaGreatDoor
open Go.RowKit Go.Kin

theorem absorb_rest_len : ∀ (n : Nat) (s : St) (l : List UInt8), l.length ≤ n → (absorb s l).2.length = l.length % 64 := by
  intro n
  induction n with
  | zero => intro s l h; rw [absorb_end (by omega)]; show l.length = _; omega
  | succ n ih =>
    intro s l h
    by_cases h64 : 64 ≤ l.length
    · rw [absorb_step h64, ih _ _ (by rw [List.length_drop]; omega), List.length_drop]; omega
    · rw [absorb_end (by omega)]; show l.length = _; omega
def bej (x j : Nat) : List UInt8 := (List.range j).map fun i => UInt8.ofNat (x / 2 ^ (56 - 8 * i))
theorem bej_succ (x j : Nat) : bej x (j + 1) = bej x j ++ [UInt8.ofNat (x / 2 ^ (56 - 8 * j))] := by simp [bej, List.range_succ]
theorem bej_length (x j : Nat) : (bej x j).length = j := by simp [bej]
/-- what a message is filled with -/
def padS (n : Nat) : List UInt8 := [128] ++ zb ((119 - n % 64) % 64) ++ bej (8 * n) 8
def wb (x : Nat) : List UInt8 := [UInt8.ofNat (x / 16777216), UInt8.ofNat (x / 65536), UInt8.ofNat (x / 256), UInt8.ofNat x]
def outS (s : St) : List UInt8 := wb s.a ++ (wb s.b ++ (wb s.c ++ (wb s.d ++ (wb s.e ++ (wb s.f ++ (wb s.g ++ wb s.h))))))
theorem outS_length (s : St) : (outS s).length = 32 := rfl
/-- a message's digest -/
def shaS (m : List UInt8) : List UInt8 := outS (absorb first (m ++ padS m.length)).1
theorem shaS_length (m : List UInt8) : (shaS m).length = 32 := rfl
def wd (s : St) (k : Nat) : Nat := [s.a, s.b, s.c, s.d, s.e, s.f, s.g, s.h].getD k 0
/-- the first k words, as bytes -/
def outK (s : St) (k : Nat) : List UInt8 := (outS s).take (4 * k) ++ zb (32 - 4 * k)
theorem outK_step (s : St) {k : Nat} (hk : k < 8) : ((((outK s k).set (4 * k) (UInt8.ofNat (wd s k / 16777216))).set (4 * k + 1) (UInt8.ofNat (wd s k / 65536))).set (4 * k + 2) (UInt8.ofNat (wd s k / 256))).set (4 * k + 3) (UInt8.ofNat (wd s k)) = outK s (k + 1) := by
  match k, hk with
  | 0, _ => rfl
  | 1, _ => rfl
  | 2, _ => rfl
  | 3, _ => rfl
  | 4, _ => rfl
  | 5, _ => rfl
  | 6, _ => rfl
  | 7, _ => rfl
theorem wd_at (s : St) {k : Nat} (hk : k < 8) : (stv s)[k]? = some (.int .u32 (wd s k : Nat)) := by
  match k, hk with
  | 0, _ => rfl
  | 1, _ => rfl
  | 2, _ => rfl
  | 3, _ => rfl
  | 4, _ => rfl
  | 5, _ => rfl
  | 6, _ => rfl
  | 7, _ => rfl
theorem wd_lt {s : St} (ok : StOk s) {k : Nat} (hk : k < 8) : wd s k < 4294967296 := by
  match k, hk with
  | 0, _ => exact ok.a
  | 1, _ => exact ok.b
  | 2, _ => exact ok.c
  | 3, _ => exact ok.d
  | 4, _ => exact ok.e
  | 5, _ => exact ok.f
  | 6, _ => exact ok.g
  | 7, _ => exact ok.h
theorem outK_length (s : St) {k : Nat} (hk : k ≤ 8) : (outK s k).length = 32 := by
  simp [outK, outS_length, zb_length]; omega
attribute [irreducible] outS
end Go.Proofs.YtnefdmbdkljifaaGreatDoor

/- A pointer's digest, and what is sealed and fits by it (digest, Seal, Fits), walked. Conditions: the variable sha.constants holds what the text lays; sizes. -/
namespace Go.Proofs.YtnefdmbdkljifaaGreatDoor
open Go.RowKit Go.Kin

/-- the digest of a tag and a block -/
def digS (p : Pt) (b : List UInt8) : List UInt8 := shaS ((putP p).take 16 ++ b)
theorem digS_length (p : Pt) (b : List UInt8) : (digS p b).length = 32 := shaS_length _
/-- the pointer that a block fits -/
def sealP (p : Pt) (b : List UInt8) : Pt := { p with h := digS p b }
theorem sealP_ok {p : Pt} (ok : PtOk p) (b : List UInt8) : PtOk (sealP p b) := ⟨ok.k, ok.l, ok.o, ok.f, ok.b, digS_length p b, ok.a, ok.at'⟩
end Go.Proofs.YtnefdmbdkljifaaGreatDoor

namespace Go.Proofs.YtnefdmbdkljifaaGreatDoor
open Go.RowKit Go.Kin

/-- a shelf: blocks, addresses that aren't read, what was made, what is old, the room, what was asked -/
structure Shf where
  bl : List (List UInt8)
  bad : List Nat
  made : List Pt
  gone : List Pt
  room : Int
  red : List Pt
def Shf.more (s : Shf) (l : List Pt) : Shf := { s with red := s.red ++ l }
def shRd (s : Shf) (p : Pt) : Shf × List UInt8 × Int :=
  if s.bad.contains (p.a.getD 0 0) then (s.more [p], [], 21)
  else if p.a.getD 0 0 = 0 ∨ s.bl.length < p.a.getD 0 0 then (s.more [p], [], 6)
  else (s.more [p], s.bl.getD (p.a.getD 0 0 - 1) [], 0)
def shq (n : Nat) (p : Pt) : Pt := { p with b := n, a := [n, 0, 0, 0] }
def shp (n : Nat) (p : Pt) (b : List UInt8) : Pt := { shq n p with h := digS (shq n p) b }
def shNw (s : Shf) (p : Pt) (b : List UInt8) : Shf × Pt × Int :=
  if s.room = 0 ∨ 30000 ≤ s.bl.length then (s, ptz, 30)
  else ({ s with room := max (s.room - 1) (-1), bl := s.bl ++ [b], made := s.made ++ [shp (s.bl.length + 1) p b] }, shp (s.bl.length + 1) p b, 0)
def shOd (s : Shf) (p : Pt) : Shf := { s with gone := s.gone ++ [p] }
@[simp] theorem Shf.more_nil (s : Shf) : s.more [] = s := by simp [Shf.more]
@[simp] theorem Shf.more_more (s : Shf) (a b : List Pt) : (s.more a).more b = s.more (a ++ b) := by simp [Shf.more]
@[simp] theorem Shf.more_bl (s : Shf) (a : List Pt) : (s.more a).bl = s.bl := rfl
@[simp] theorem Shf.more_bad (s : Shf) (a : List Pt) : (s.more a).bad = s.bad := rfl
@[simp] theorem Shf.more_made (s : Shf) (a : List Pt) : (s.more a).made = s.made := rfl
@[simp] theorem Shf.more_gone (s : Shf) (a : List Pt) : (s.more a).gone = s.gone := rfl
@[simp] theorem Shf.more_room (s : Shf) (a : List Pt) : (s.more a).room = s.room := rfl
@[simp] theorem Shf.more_red (s : Shf) (a : List Pt) : (s.more a).red = s.red ++ a := rfl

/-- what a pointer's block says -/
structure RsT (bl : List (List UInt8)) (p : Pt) (n : List Pt) : Prop where
  okn : NdOk n
  all : n.all okP = true
  okp : PtOk p
  at' : (p = ptz ∧ n = ndz) ∨ (p ≠ ptz ∧ n ≠ ndz ∧ ∃ i, p.a.getD 0 0 = i + 1 ∧ bl[i]? = some (bytesN n))
theorem RsT.z (bl : List (List UInt8)) : RsT bl ptz ndz := ⟨ndz_ok, by decide, ptz_ok, .inl ⟨rfl, rfl⟩⟩
theorem RsT.iff {bl : List (List UInt8)} {p : Pt} {n : List Pt} (h : RsT bl p n) : p = ptz ↔ n = ndz := by
  rcases h.at' with ⟨h1, h2⟩ | ⟨h1, h2, _⟩
  · exact ⟨fun _ => h2, fun _ => h1⟩
  · exact ⟨fun e => absurd e h1, fun e => absurd e h2⟩
theorem RsT.ext {bl bl' : List (List UInt8)} {p : Pt} {n : List Pt} (h : RsT bl p n) (he : ∃ l, bl' = bl ++ l) : RsT bl' p n := by
  obtain ⟨l, rfl⟩ := he
  refine ⟨h.okn, h.all, h.okp, h.at'.imp id ?_⟩
  rintro ⟨h1, h2, i, h3, h4⟩
  refine ⟨h1, h2, i, h3, ?_⟩
  rw [List.getElem?_append_left (List.getElem?_eq_some_iff.1 h4).1]
  exact h4
theorem RsT.read {s : Shf} {p : Pt} {n : List Pt} (h : RsT s.bl p n) (hb : s.bad.contains (p.a.getD 0 0) = false) : tread shRd s p = (s.more (if p = ptz then [] else [p]), n, 0) := by
  unfold tread
  rcases h.at' with ⟨rfl, rfl⟩ | ⟨h1, h2, i, h3, h4⟩
  · simp
  · have hlt := (List.getElem?_eq_some_iff.1 h4).1
    have e : shRd s p = (s.more [p], bytesN n, 0) := by
      unfold shRd
      rw [hb, if_neg (by decide), if_neg (by rw [h3]; omega), h3, Nat.add_sub_cancel, List.getD_eq_getElem?_getD, h4]
      rfl
    rw [if_neg h1, e]
    simp [nd8_put h.okn h.all, h1]
/-- the pointers of eight leaves -/
def slT (g : Nat) (h : List Pt) : List Pt := (h.drop (8 * g)).take 8
theorem slT_get {g k : Nat} {h : List Pt} (hk : k < 8) : (slT g h).getD k ptz = h.getD (8 * g + k) ptz := by
  unfold slT
  rw [List.getD_eq_getElem?_getD, List.getElem?_take, if_pos hk, List.getElem?_drop, ← List.getD_eq_getElem?_getD]
theorem slT_len {g : Nat} {h : List Pt} (hl : h.length = 64) (hg : g < 8) : (slT g h).length = 8 := by
  unfold slT
  simp [hl]
  omega
structure GpT (bl : List (List UInt8)) (g : Nat) (p : Pt) (n : List Pt) : Prop where
  rs : RsT bl p n
  tag : p ≠ ptz → p.k = 3 ∧ p.l = 1 ∧ p.f = g
  bb : p.b ≤ bl.length
  ok : okP p = true
theorem GpT.ext {bl bl' : List (List UInt8)} {g : Nat} {p : Pt} {n : List Pt} (h : GpT bl g p n) (he : ∃ l, bl' = bl ++ l) : GpT bl' g p n := by
  refine ⟨h.rs.ext he, h.tag, ?_, h.ok⟩
  obtain ⟨l, rfl⟩ := he
  have := h.bb
  rw [List.length_append]
  omega
/-- a tree tells a map -/
structure TreeP (bl : List (List UInt8)) (root : Pt) (top h : List Pt) : Prop where
  rs : RsT bl root top
  tag : root ≠ ptz → root.k = 3 ∧ root.l = 2
  bb : root.b ≤ bl.length
  may : mayT root = true
  gr : ∀ g, g < 8 → GpT bl g (top.getD g ptz) (slT g h)
  hl : h.length = 64
  lf : ∀ x ∈ h, x = ptz ∨ x.k ≠ 3
theorem TreeP.ext {bl bl' : List (List UInt8)} {root : Pt} {top h : List Pt} (t : TreeP bl root top h) (he : ∃ l, bl' = bl ++ l) : TreeP bl' root top h := by
  refine ⟨t.rs.ext he, t.tag, ?_, t.may, fun g hg => (t.gr g hg).ext he, t.hl, t.lf⟩
  obtain ⟨l, rfl⟩ := he
  have := t.bb
  rw [List.length_append]
  omega
theorem ndz_get (g : Nat) : ndz.getD g ptz = ptz := by
  unfold ndz
  rw [List.getD_eq_getElem?_getD, List.getElem?_replicate]
  split <;> rfl
theorem TreeP.z (bl : List (List UInt8)) : TreeP bl ptz ndz (List.replicate 64 ptz) := by
  refine ⟨RsT.z bl, fun h => absurd rfl h, Nat.zero_le _, by decide, fun g hg => ?_, List.length_replicate, fun x hx => .inl (List.mem_replicate.1 hx).2⟩
  have e : slT g (List.replicate 64 ptz) = ndz := by
    unfold slT ndz
    rw [List.drop_replicate, List.take_replicate, Nat.min_eq_left (by omega)]
  rw [ndz_get, e]
  exact ⟨RsT.z bl, fun h => absurd rfl h, Nat.zero_le _, rfl⟩
/-- a leaf of a tree -/
theorem TreeP.get {s : Shf} {root : Pt} {top h : List Pt} (t : TreeP s.bl root top h) (hb : s.bad = []) {off : Nat} (ho : off < 64) : ∃ l, l.length ≤ 2 ∧ tget shRd s root off = (s.more l, h.getD off ptz, 0) := by
  have hb' : ∀ a, s.bad.contains a = false := fun a => by rw [hb]; rfl
  unfold tget
  rw [t.may, decide_eq_true ho]
  simp only [Bool.and_self, if_true]
  have e1 := t.rs.read (hb' _)
  have g := t.gr (off / 8) (by omega)
  have e2 := RsT.read (s := s.more (if root = ptz then [] else [root])) g.rs (hb' _)
  refine ⟨(if root = ptz then [] else [root]) ++ (if top.getD (off / 8) ptz = ptz then [] else [top.getD (off / 8) ptz]), by split <;> split <;> simp, ?_⟩
  unfold tgo
  rw [e1]
  simp only [ne_eq, not_true_eq_false, if_false, if_true]
  unfold tgo
  rw [e2]
  simp only [ne_eq, not_true_eq_false, if_false, show ¬ (0 = 1) by decide]
  unfold tgo
  rw [slT_get (by omega), show 8 * (off / 8) + off % 8 = off by omega, Shf.more_more]
/-- the leaves of a map, the nodes of a tree -/
def lvsOf (h : List Pt) (k : Nat) : List (Nat × Pt) := (List.range k).filterMap fun off => if h.getD off ptz = ptz then none else some (off, h.getD off ptz)
def nodesOf (root : Pt) (top : List Pt) : List Pt := if root = ptz then [] else root :: top.filter (fun p => decide (p ≠ ptz))
theorem lvsOf_step (h : List Pt) (k : Nat) : lvsOf h (k + 1) = lvsOf h k ++ if h.getD k ptz = ptz then [] else [(k, h.getD k ptz)] := by
  unfold lvsOf
  rw [List.range_succ, List.filterMap_append]
  congr 1
  simp only [List.filterMap_cons, List.filterMap_nil]
  by_cases h : h.getD k ptz = ptz
  · simp only [if_pos h]
  · simp only [if_neg h]
theorem filterMap_cg {α β : Type} {f g : α → Option β} : ∀ {l : List α}, (∀ x ∈ l, f x = g x) → l.filterMap f = l.filterMap g
  | [], _ => rfl
  | x :: l, h => by
    rw [List.filterMap_cons, List.filterMap_cons, h x (by simp), filterMap_cg fun y hy => h y (by simp [hy])]
theorem lvsOf_grp (h : List Pt) : lvsOf h 64 = (List.range 8).flatMap fun g => tlvs g (slT g h) := by
  have e : List.range 64 = (List.range 8).flatMap fun g => (List.range 8).map (8 * g + ·) := by decide
  unfold lvsOf
  rw [e, List.filterMap_flatMap]
  congr 1
  funext g
  unfold tlvs
  rw [List.filterMap_map]
  apply filterMap_cg
  intro k hk
  have hk := List.mem_range.1 hk
  simp only [Function.comp_apply]
  rw [slT_get hk]
theorem lvsOf_len (h : List Pt) (k : Nat) : (lvsOf h k).length ≤ k := Nat.le_trans (List.length_filterMap_le _ _) (by simp)
theorem lvsOf_pre (h : List Pt) (k m : Nat) : ∃ l, lvsOf h (k + m) = lvsOf h k ++ l := by
  induction m with
  | zero => exact ⟨[], by simp⟩
  | succ m ih =>
    obtain ⟨l, hl⟩ := ih
    exact ⟨l ++ if h.getD (k + m) ptz = ptz then [] else [(k + m, h.getD (k + m) ptz)], by rw [← Nat.add_assoc, lvsOf_step, hl, List.append_assoc]⟩
theorem lvsOf_at {h : List Pt} {k n : Nat} (hk : k < n) (hz : h.getD k ptz ≠ ptz) : (lvsOf h n)[(lvsOf h k).length]? = some (k, h.getD k ptz) := by
  obtain ⟨l, hl⟩ := lvsOf_pre h (k + 1) (n - (k + 1))
  rw [show k + 1 + (n - (k + 1)) = n by omega, lvsOf_step, if_neg hz] at hl
  rw [hl, List.append_assoc, List.getElem?_append_right (Nat.le_refl _), Nat.sub_self]
  rfl
theorem TreeP.ok {bl : List (List UInt8)} {root : Pt} {top h : List Pt} (t : TreeP bl root top h) : ∀ p ∈ h, PtOk p := fun p hp => by
  obtain ⟨o, ho⟩ := List.mem_iff_getElem?.1 hp
  have hlt := (List.getElem?_eq_some_iff.1 ho).1
  rw [t.hl] at hlt
  have g := t.gr (o / 8) (by omega)
  have e := slT_get (g := o / 8) (h := h) (show o % 8 < 8 by omega)
  rw [show 8 * (o / 8) + o % 8 = o by omega, List.getD_eq_getElem?_getD, List.getD_eq_getElem?_getD, ho, List.getElem?_eq_getElem (by rw [slT_len t.hl (by omega)]; omega)] at e
  have e : (slT (o / 8) h)[o % 8]'(by rw [slT_len t.hl (by omega)]; omega) = p := e
  rw [← e]
  exact g.rs.okn.all _ (List.getElem_mem _)
theorem top_list {top : List Pt} (h : top.length = 8) : top = (List.range 8).map fun g => top.getD g ptz := by
  apply List.ext_getElem?
  intro i
  rw [List.getElem?_map]
  by_cases hi : i < 8
  · rw [List.getElem?_range hi, List.getElem?_eq_getElem (by omega)]
    simp [List.getElem?_eq_getElem (show i < top.length by omega)]
  · rw [List.getElem?_eq_none (by omega), List.getElem?_eq_none (by simp; omega)]
    rfl
theorem TreeP.all {s : Shf} {root : Pt} {top h : List Pt} (t : TreeP s.bl root top h) (hb : s.bad = []) : ∃ l, l.length ≤ 9 ∧ tall shRd s root = (s.more l, lvsOf h 64, nodesOf root top, 0) := by
  have hb' : ∀ a, s.bad.contains a = false := fun a => by rw [hb]; rfl
  have key : ∀ (L : List Nat), (∀ g ∈ L, g < 8) → ∀ (m : List Pt) (ls : List (Nat × Pt)) (ns : List Pt), ∃ l, l.length ≤ m.length + L.length ∧ twk shRd top L (s.more m) ls ns = (s.more l, ls ++ L.flatMap (fun g => tlvs g (slT g h)), ns ++ (L.map fun g => top.getD g ptz).filter (fun p => decide (p ≠ ptz)), 0) := by
    intro L
    induction L with
    | nil => intro _ m ls ns; exact ⟨m, by simp, by simp [twk]⟩
    | cons g L ih =>
      intro hL m ls ns
      have hg := hL g (by simp)
      have gp := t.gr g hg
      by_cases hp : top.getD g ptz = ptz
      · obtain ⟨l, hll, hl⟩ := ih (fun x hx => hL x (by simp [hx])) m ls ns
        refine ⟨l, by rw [List.length_cons]; omega, ?_⟩
        have e0 : slT g h = ndz := gp.rs.iff.1 hp
        unfold twk
        rw [if_pos hp, hl, List.flatMap_cons, e0, List.map_cons, List.filter_cons, hp]
        have e1 : tlvs g ndz = [] := by
          unfold tlvs
          rw [List.filterMap_eq_nil_iff]
          intro k _
          rw [ndz_get, if_pos rfl]
        rw [e1]
        simp
      · have e := RsT.read (s := s.more m) gp.rs (hb' _)
        rw [if_neg hp] at e
        obtain ⟨l, hll, hl⟩ := ih (fun x hx => hL x (by simp [hx])) (m ++ [top.getD g ptz]) (ls ++ tlvs g (slT g h)) (ns ++ [top.getD g ptz])
        refine ⟨l, by rw [List.length_append, List.length_singleton] at hll; rw [List.length_cons]; omega, ?_⟩
        unfold twk
        rw [if_neg hp, e]
        simp only [ne_eq, not_true_eq_false, if_false, Shf.more_more]
        rw [hl, List.flatMap_cons, List.map_cons, List.filter_cons, if_pos (decide_eq_true hp)]
        simp only [List.append_assoc, List.singleton_append]
  unfold tall
  rw [t.may]
  simp only [if_true]
  unfold twalk nodesOf
  by_cases hr : root = ptz
  · have ht := t.rs.iff.1 hr
    refine ⟨[], by simp, ?_⟩
    rw [if_pos hr, if_pos hr, lvsOf_grp]
    have e0 : (List.range 8).flatMap (fun g => tlvs g (slT g h)) = [] := by
      rw [List.flatMap_eq_nil_iff]
      intro g hg
      have gp := t.gr g (List.mem_range.1 hg)
      rw [ht, ndz_get] at gp
      rw [gp.rs.iff.1 rfl]
      unfold tlvs
      rw [List.filterMap_eq_nil_iff]
      intro k _
      rw [ndz_get, if_pos rfl]
    rw [e0]
    simp
  · have e1 := t.rs.read (hb' _)
    rw [if_neg hr] at e1
    obtain ⟨l, hll, hl⟩ := key (List.range 8) (fun g hg => List.mem_range.1 hg) [root] [] [root]
    refine ⟨l, by simpa using hll, ?_⟩
    rw [if_neg hr, if_neg hr, e1]
    simp only [ne_eq, not_true_eq_false, if_false]
    rw [hl]
    simp only [ne_eq, not_true_eq_false, if_false, List.nil_append, List.singleton_append]
    rw [lvsOf_grp, ← top_list t.rs.okn.len]
end Go.Proofs.YtnefdmbdkljifaaGreatDoor
