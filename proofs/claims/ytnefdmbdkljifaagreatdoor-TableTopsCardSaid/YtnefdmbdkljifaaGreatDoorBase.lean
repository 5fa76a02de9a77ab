/- Words and laws on memory that every walk of this family uses: what a call changed, a slice that reads as a list, append onto a row of the call's own. They speak of no program. No condition. -/
import Derived.WalkKit
import Derived.WalkSpells
import Derived.WalkLawsBesides
import Derived.Lib.Hide
import Derived.Maps.AppendAt
import Derived.Deep.AppendLies
import Derived.Deep.Draws
set_option linter.unusedSimpArgs false
set_option linter.unusedVariables false

namespace Go.Kin
open Go Go.RowKit

def bv (c : UInt8) : Value := .int .u8 (c.toNat : Int)
theorem bcat (a b : List UInt8) : (⟨a.toArray⟩ ++ ⟨b.toArray⟩ : ByteArray) = ⟨(a ++ b).toArray⟩ := by
  ext1
  rw [ByteArray.data_append]
  simp
def bvs (l : List UInt8) : List Value := l.map bv
theorem bvs_append (a b : List UInt8) : bvs (a ++ b) = bvs a ++ bvs b := List.map_append ..
theorem bvs_length (a : List UInt8) : (bvs a).length = a.length := List.length_map ..
theorem bvs_one (l : List UInt8) : ∀ u ∈ bvs l, u.oneCell' = true := by
  intro u hu
  obtain ⟨c, _, rfl⟩ := List.mem_map.1 hu
  rfl
theorem bvs_nil : bvs [] = [] := rfl
theorem bvs_cons (a : UInt8) (l : List UInt8) : bvs (a :: l) = bv a :: bvs l := rfl
theorem bv_inj {a b : UInt8} (h : bv a = bv b) : a = b := by
  unfold bv at h
  injection h with _ h
  exact UInt8.toNat_inj.1 (by omega)
theorem bvs_inj : ∀ {a b : List UInt8}, bvs a = bvs b → a = b
  | [], [], _ => rfl
  | [], _ :: _, h => by simp [bvs] at h
  | _ :: _, [], h => by simp [bvs] at h
  | x :: a, y :: b, h => by
    simp only [bvs_cons, List.cons.injEq] at h
    rw [bv_inj h.1, bvs_inj h.2]

/-- What a call changed: of the blocks that there were, those of S alone; the streams are as they were. -/
structure Ch (S : Nat → Prop) (w w' : World) : Prop where
  os : w'.os = w.os
  tape : w'.tape = w.tape
  output : w'.output = w.output
  size : w.heap.size ≤ w'.heap.size
  block : ∀ k, k < w.heap.size → ¬ S k → w'.heap[k]? = w.heap[k]?

section
variable {S S' : Nat → Prop} {w w' w1 w2 : World}
theorem Ch.refl (S : Nat → Prop) (w : World) : Ch S w w := ⟨rfl, rfl, rfl, Nat.le_refl _, fun _ _ _ => rfl⟩
theorem Ch.trans' (h : Ch S w w1) (k : Ch S' w1 w2) (hs : ∀ j, j < w.heap.size → S' j → S j) : Ch S w w2 :=
  ⟨k.os.trans h.os, k.tape.trans h.tape, k.output.trans h.output, Nat.le_trans h.size k.size,
    fun j hj hn => (k.block j (Nat.lt_of_lt_of_le hj h.size) (fun e => hn (hs j hj e))).trans (h.block j hj hn)⟩
theorem Ch.trans (h : Ch S w w1) (k : Ch S w1 w2) : Ch S w w2 := h.trans' k fun _ _ e => e
theorem Ch.mono (h : Ch S w w') (hs : ∀ j, j < w.heap.size → S j → S' j) : Ch S' w w' :=
  ⟨h.os, h.tape, h.output, h.size, fun j hj hn => h.block j hj (fun e => hn (hs j hj e))⟩
theorem Ch.drew (h : Ch S w w') : Ch S w w'.drew := ⟨h.os, h.tape, h.output, h.size, h.block⟩
theorem Ch.drewN (h : Ch S w w') (n : Nat) : Ch S w (w'.drewN n) := ⟨h.os, h.tape, h.output, h.size, h.block⟩
theorem Ch.of_drew (h : Ch S w.drew w') : Ch S w w' := ⟨h.os, h.tape, h.output, h.size, h.block⟩
theorem Ch.alloc (h : Ch S w w') (o : Obj) : Ch S w (w'.alloc o) :=
  h.trans ⟨rfl, rfl, rfl, by simp, fun k hk _ => Below.heap_alloc _ o k hk⟩
theorem Ch.setCell (h : Ch S w w') {p : Addr} (hp : S p.block ∨ w.heap.size ≤ p.block) (u : Value) : Ch S w (w'.setCell p u) :=
  ⟨h.os, h.tape, h.output, by simpa [World.setCell] using h.size, fun k hk hn => (Below.heap_setCell _ _ _ _ (by
    rintro rfl
    rcases hp with hp | hp
    · exact hn hp
    · omega)).trans (h.block k hk hn)⟩
theorem Ch.of_grown {row : Option Nat} (h : w.grownBy w' row) : Ch (fun k => row = some k) w w' :=
  ⟨h.os, h.tape, h.output, h.size, fun k hk hn => h.block k hk (fun e => hn e.symm)⟩
theorem Ch.of_below {B : Nat} (h : Below B w w') : Ch (fun k => B ≤ k) w w' := ⟨h.os, h.tape, h.output, h.size, fun k _ hn => h.block k (by omega)⟩
theorem Ch.below (h : Ch (fun _ => False) w w') : Below w.heap.size w w' := ⟨h.os, h.tape, h.output, h.size, fun k hk => h.block k hk (fun e => e)⟩
theorem Ch.cell (h : Ch S w w') {p : Addr} {v : Value} (hc : w.cell? p = some v) (hn : ¬ S p.block) : w'.cell? p = some v :=
  (World.cell?_of_block (h.block p.block (World.block_lt_of_cell? w p hc) hn)).trans hc
theorem Ch.obj (h : Ch S w w') {k : Nat} {o : Obj} (hc : w.heap[k]? = some o) (hn : ¬ S k) : w'.heap[k]? = some o :=
  (h.block k (lt_of_block hc) hn).trans hc
end

/-- Nothing of what there was. -/
def Nw : Nat → Prop := fun _ => False

/-- A value's block is none of the first B. -/
def Fresh (B : Nat) (v : Value) : Prop := ∀ k, v.ownBlock = some k → B ≤ k
theorem Fresh.mono {B B' : Nat} {v : Value} (h : Fresh B v) (hb : B' ≤ B) : Fresh B' v := fun k hk => Nat.le_trans hb (h k hk)

theorem block_of_add (a : Addr) (n : Nat) : (a.add n).block = a.block := by unfold Addr.add; split <;> rfl
theorem add_of_add (a : Addr) (i j : Nat) : (a.add i).add j = a.add (i + j) := by
  unfold Addr.add
  by_cases hi : i = 0 <;> by_cases hj : j = 0 <;> simp [hi, hj, Nat.add_assoc]

/-- The slice value v, of n elements, reads as the cells xs. -/
def Sl (w : World) (v : Value) (n : Nat) (xs : List Value) : Prop :=
  ∃ A c, v = .slice A n c ∧ n ≤ c ∧ c ≤ maxLen ∧ (0 < xs.length → ∃ ad, A = some ad ∧ ∀ j u, xs[j]? = some u → w.cell? (ad.add j) = some u)

section
variable {S : Nat → Prop} {w w' : World} {v : Value} {n : Nat} {xs : List Value}
theorem Sl.nil (w : World) : Sl w (.slice none 0 0) 0 [] := ⟨none, 0, rfl, Nat.le_refl _, Nat.zero_le _, fun h => absurd h (by simp)⟩
theorem Sl.ch (h : Sl w v n xs) (hc : Ch S w w') (hn : ∀ k, v.ownBlock = some k → ¬ S k) : Sl w' v n xs := by
  obtain ⟨A, c, rfl, h1, h2, h3⟩ := h
  refine ⟨A, c, rfl, h1, h2, fun hp => ?_⟩
  obtain ⟨ad, rfl, hr⟩ := h3 hp
  exact ⟨ad, rfl, fun j u hu => hc.cell (hr j u hu) (by rw [block_of_add]; exact hn _ rfl)⟩
theorem Sl.keep (h : Sl w v n xs) (hk : ∀ p u, w.cell? p = some u → w'.cell? p = some u) : Sl w' v n xs := by
  obtain ⟨A, c, rfl, h1, h2, h3⟩ := h
  refine ⟨A, c, rfl, h1, h2, fun hp => ?_⟩
  obtain ⟨ad, rfl, hr⟩ := h3 hp
  exact ⟨ad, rfl, fun j u hu => hk _ _ (hr j u hu)⟩
theorem Sl.drew (h : Sl w v n xs) : Sl w.drew v n xs := h
theorem Sl.alloc (h : Sl w v n xs) (o : Obj) : Sl (w.alloc o) v n xs := h.ch ((Ch.refl Nw w).alloc o) fun _ _ e => e
theorem Sl.of_own {base : Nat} {e : TypeId} {size : Nat} (h : w.ownsRow base e size v n xs) : Sl w v n xs := by
  rcases h.2 with ⟨rfl, rfl⟩ | ⟨g, cap, cur, rfl, _, _, h1, h2, _⟩
  · exact ⟨none, 0, rfl, Nat.le_refl _, Nat.zero_le _, fun hp => by have := h.1; omega⟩
  · exact ⟨_, cap, rfl, h1, h2, fun _ => ⟨_, rfl, h.cells (g := g) rfl⟩⟩
theorem own_of_ownsRow {base e size : Nat} (h : w.ownsRow base e size v n xs) : w.ownsRow 0 e size v n xs := by
  refine ⟨h.1, h.2.imp id ?_⟩
  rintro ⟨g, cap, cur, h1, _, h3⟩
  exact ⟨g, cap, cur, h1, Nat.zero_le _, h3⟩
theorem ownsRow_of_own {e size : Nat} (h : w.ownsRow 0 e size v n xs) {B : Nat} (hB : Fresh B v) : w.ownsRow B e size v n xs := by
  refine ⟨h.1, h.2.imp id ?_⟩
  rintro ⟨g, cap, cur, rfl, _, h3⟩
  exact ⟨g, cap, cur, rfl, hB g rfl, h3⟩
theorem own_ch {e size : Nat} (h : w.ownsRow 0 e size v n xs) (hc : Ch S w w') (hn : ∀ k, v.ownBlock = some k → ¬ S k) : w'.ownsRow 0 e size v n xs := by
  refine ⟨h.1, h.2.imp id ?_⟩
  rintro ⟨g, cap, cur, rfl, h2, h3, h4⟩
  exact ⟨g, cap, cur, rfl, h2, hc.obj h3 (hn g rfl), h4⟩
end

/-- A slice's type, its element's: of one cell. -/
structure Ty1 (P : Program) (t e : TypeId) (z : Value) (bytes : Nat) : Prop where
  und : P.underlying t = some (.slice e)
  info : (P.info? e).map (fun i => (i.zero, i.size, i.bytes)) = some (some z, 1, bytes)
  one : z.cells.size = 1

section
variable {P : Program} {w : World} {t e : TypeId} {z : Value} {bytes : Nat}

/-- append(v, u) onto a row of the call's own; the new element lies in a block of its own already. -/
theorem run_app1 (T : Ty1 P t e z bytes) (ty : TypeId) {v : Value} {n : Nat} {xs : List Value} {u : Value}
    (hown : w.ownsRow 0 e 1 v n xs) (h1 : u.oneCell' = true) (h63 : n + 1 ≤ maxLen) (hbytes : (n + 1) * bytes ≤ 140737488355328) :
    ∃ v' w', (Builtin.append_ #[t, t] ty #[v, .slice (some ⟨w.heap.size, 0, none⟩) 1 1]).run P (w.alloc (.cells #[u] e)) = .ok v' w' ∧
      w'.ownsRow 0 e 1 v' (n + 1) (xs ++ [u]) ∧ Ch (fun k => v.ownBlock = some k) w w' ∧ (v'.ownBlock = v.ownBlock ∨ Fresh w.heap.size v') := by
  obtain ⟨i, hi, hz, hsz, hby⟩ := info_parts T.info
  obtain ⟨v', w', hr, k1, k2, _, k4⟩ := run_append_own_at (P := P) (w.alloc (.cells #[u] e)) 0 t ty e i z 1 bytes T.und hi hz hsz hby T.one (by decide) v n xs (hown.alloc _) ⟨w.heap.size, 0, none⟩ 1 1 [u] rfl (cell_one_new w u e)
    (fun u' hu' => by simp at hu'; subst hu'; exact h1) h63 hbytes (Nat.zero_le _)
  refine ⟨v', w', hr, k1, ((Ch.refl _ w).alloc _).trans (Ch.of_grown k2), k4.imp id fun e k hk => ?_⟩
  rw [e] at hk
  simp at hk
  omega

/-- append(v, y...) onto a row of the call's own, y a slice that reads as ys. -/
theorem run_appn (T : Ty1 P t e z bytes) (ty : TypeId) {v : Value} {n : Nat} {xs : List Value} {y : Value} {m : Nat} {ys : List Value}
    (hown : w.ownsRow 0 e 1 v n xs) (hy : Sl w y m ys) (hm : ys.length = m) (h1 : ∀ u ∈ ys, u.oneCell' = true) (h63 : n + m ≤ maxLen) (hbytes : (n + m) * bytes ≤ 140737488355328) :
    ∃ v' w', (Builtin.append_ #[t, t] ty #[v, y]).run P w = .ok v' w' ∧
      w'.ownsRow 0 e 1 v' (n + m) (xs ++ ys) ∧ Ch (fun k => v.ownBlock = some k) w w' ∧ (v'.ownBlock = v.ownBlock ∨ Fresh w.heap.size v') := by
  obtain ⟨i, hi, hz, hsz, hby⟩ := info_parts T.info
  obtain ⟨A, c, rfl, hle, hcm, hr⟩ := hy
  have go : ∀ ad, (∀ j u, ys[j]? = some u → w.cell? (ad.add j) = some u) → ∃ v' w', (Builtin.append_ #[t, t] ty #[v, .slice (some ad) m c]).run P w = .ok v' w' ∧
      w'.ownsRow 0 e 1 v' (n + m) (xs ++ ys) ∧ Ch (fun k => v.ownBlock = some k) w w' ∧ (v'.ownBlock = v.ownBlock ∨ Fresh w.heap.size v') := by
    intro ad hc
    obtain ⟨v', w', hr, k1, k2, _, k4⟩ := run_append_own_at (P := P) w 0 t ty e i z 1 bytes T.und hi hz hsz hby T.one (by decide) v n xs hown ad m c ys (by omega) hc h1 h63 hbytes (Nat.zero_le _)
    refine ⟨v', w', hr, k1, Ch.of_grown k2, k4.imp id fun e k hk => ?_⟩
    rw [e] at hk
    simp at hk
    omega
  by_cases h0 : 0 < ys.length
  · obtain ⟨ad, rfl, hc⟩ := hr h0
    exact go ad hc
  · have hm0 : m = 0 := by omega
    subst hm0
    obtain rfl : ys = [] := List.eq_nil_of_length_eq_zero (by omega)
    cases A with
    | none =>
      refine ⟨v, w, ?_, by simpa using hown, Ch.refl _ _, .inl rfl⟩
      rcases hown.2 with ⟨rfl, rfl⟩ | ⟨g, cap, cur, rfl, _, _, hnc, _⟩
      · simp [Builtin.append_, run_underlying T.und, sizeOf, typeInfo, hi, Builtin.lenOf, Builtin.firstCells]
      · simp [Builtin.append_, run_underlying T.und, sizeOf, typeInfo, hi, Builtin.lenOf, Builtin.firstCells, hnc, storeCells]
    | some ad => exact go ad (by simp)
end

section
variable {P : Program} {w w' : World} {v : Value} {n : Nat} {xs : List Value}
/-- len of a slice, as an equation for every world. -/
theorem Sl.len (h : Sl w v n xs) {t e : TypeId} (ht : P.underlying t = some (.slice e)) (ty : TypeId) (w' : World) : (Builtin.len_ #[t] ty #[v]).run P w' = .ok (.int .i64 n) w' := by
  obtain ⟨A, c, rfl, _⟩ := h
  simp [Builtin.len_, run_underlying ht, goInt]
/-- A cut of a slice. -/
theorem Sl.cut (h : Sl w v n xs) {t e : TypeId} {z : Value} {bytes : Nat} (T : Ty1 P t e z bytes) (hn : xs.length = n) (l : Nat) (hh : Nat) (hl : l ≤ hh) (hhn : hh ≤ n) :
    ∃ v', Sl w v' (hh - l) ((xs.take hh).drop l) ∧ v'.ownBlock = v.ownBlock ∧ (∀ w', (Instr.sliceAt t v (some (.int .i64 l)) (some (.int .i64 hh)) none).run P w' = .ok v' w') ∧
      (l = 0 → ∀ w', (Instr.sliceAt t v none (some (.int .i64 hh)) none).run P w' = .ok v' w') ∧ (hh = n → ∀ w', (Instr.sliceAt t v (some (.int .i64 l)) none none).run P w' = .ok v' w') := by
  obtain ⟨A, c, rfl, h1, h2, h3⟩ := h
  obtain ⟨i, hi, _, hsz, _⟩ := info_parts T.info
  have key : ∃ v', v' = Value.slice (if c = l then A else A.map (·.add (l * 1))) (hh - l) (c - l) ∧ Sl w v' (hh - l) ((xs.take hh).drop l) ∧ v'.ownBlock = (Value.slice A n c).ownBlock := by
    refine ⟨_, rfl, ⟨_, _, rfl, by omega, by omega, fun hp => ?_⟩, ?_⟩
    · have hlen : ((xs.take hh).drop l).length = hh - l := by simp; omega
      obtain ⟨ad, rfl, hc⟩ := h3 (by omega)
      rw [if_neg (by omega)]
      refine ⟨ad.add (l * 1), rfl, fun j u hu => ?_⟩
      rw [add_of_add]
      refine hc _ u ?_
      rw [List.getElem?_drop, List.getElem?_take] at hu
      split at hu
      · rw [Nat.mul_one]; exact hu
      · cases hu
    · cases A with
      | none => simp [Value.ownBlock]
      | some ad =>
        split
        · rfl
        · simp [Value.ownBlock, block_of_add]
  obtain ⟨v', hv, h4, h5⟩ := key
  have hc1 : hh ≤ c := by omega
  have hc1' : ¬ c < hh := by omega
  refine ⟨v', h4, h5, fun w' => ?_, fun hl0 w' => ?_, fun hhn' w' => ?_⟩
  · simp [Instr.sliceAt, Instr.slice, Instr.sliceBounds, Instr.sliceBound, asIntOf, run_underlying T.und, sizeOf, typeInfo, hi, hsz, hc1, hl, hv]
  · subst hl0
    simp [Instr.sliceAt, Instr.slice, Instr.sliceBounds, Instr.sliceBound, asIntOf, run_underlying T.und, sizeOf, typeInfo, hi, hc1, hv]
  · subst hhn'
    simp [Instr.sliceAt, Instr.slice, Instr.sliceBounds, Instr.sliceBound, asIntOf, run_underlying T.und, sizeOf, typeInfo, hi, hsz, hl, hv]
/-- The cut with three bounds. -/
theorem Sl.cut3 (h : Sl w v n xs) {t e : TypeId} {z : Value} {bytes : Nat} (T : Ty1 P t e z bytes) (hn : xs.length = n) (hh : Nat) (hhn : hh ≤ n) :
    ∃ v', Sl w v' hh (xs.take hh) ∧ v'.ownBlock = v.ownBlock ∧ (∀ w', (Instr.sliceAt t v none (some (.int .i64 hh)) (some (.int .i64 hh))).run P w' = .ok v' w') := by
  obtain ⟨A, c, rfl, h1, h2, h3⟩ := h
  obtain ⟨i, hi, _, hsz, _⟩ := info_parts T.info
  have hc1' : ¬ c < hh := by omega
  refine ⟨.slice (if hh = 0 then A else A.map (·.add (0 * 1))) hh hh, ⟨_, _, rfl, Nat.le_refl _, by omega, fun hp => ?_⟩, ?_, fun w' => ?_⟩
  · obtain ⟨ad, rfl, hc⟩ := h3 (by simp at hp; omega)
    refine ⟨ad, by split <;> simp [Addr.add], fun j u hu => hc j u ?_⟩
    rw [List.getElem?_take] at hu
    split at hu
    · exact hu
    · cases hu
  · cases A with
    | none => simp [Value.ownBlock]
    | some ad => split <;> simp [Value.ownBlock, Addr.add]
  · simp [Instr.sliceAt, Instr.slice, Instr.sliceBounds, Instr.sliceBound, asIntOf, run_underlying T.und, sizeOf, typeInfo, hi, hc1']
/-- An element. -/
theorem Sl.at (h : Sl w v n xs) {t e : TypeId} {z : Value} {bytes : Nat} (T : Ty1 P t e z bytes) (hn : xs.length = n) {i : Nat} {u : Value} (hi : xs[i]? = some u) :
    ∃ a, (∀ w', (Instr.indexAt t v (.int .i64 i)).run P w' = .ok (.pointer (some a)) w') ∧ w.cell? a = some u ∧ v.ownBlock = some a.block := by
  obtain ⟨A, c, rfl, h1, h2, h3⟩ := h
  obtain ⟨ti, hti, _, hsz, _⟩ := info_parts T.info
  have hlt : i < xs.length := (List.getElem?_eq_some_iff.1 hi).1
  obtain ⟨ad, rfl, hc⟩ := h3 (by omega)
  refine ⟨ad.add i, fun w' => ?_, hc i u hi, by simp [Value.ownBlock, block_of_add]⟩
  have h4 : ¬ n ≤ i := by omega
  simp [Instr.indexAt, asIntOf, run_underlying T.und, sizeOf, typeInfo, hti, hsz, h4]
end

section
variable {P : Program} {w : World} {v : Value} {n : Nat} {l : List UInt8}
def str (l : List UInt8) : Value := .string ⟨l.toArray⟩
/-- string(b) -/
theorem Sl.str (h : Sl w v n (bvs l)) (hn : l.length = n) {t e : TypeId} (ht : P.underlying t = some (.slice e)) (he : P.underlying e = some (.int .u8)) {d : TypeId} (hd : P.underlying d = some .string) :
    (convert t d v).run P w = .ok (.string ⟨l.toArray⟩) w := by
  subst hn
  obtain ⟨A, c, rfl, h1, h2, h3⟩ := h
  by_cases hp : 0 < l.length
  · obtain ⟨ad, rfl, hc⟩ := h3 (by rw [bvs_length]; exact hp)
    refine run_convert_bytes_back w t d e ad c l ht he hd fun j hj => hc j _ ?_
    simp [bvs, hj, bv]
  · obtain rfl : l = [] := List.eq_nil_of_length_eq_zero (by omega)
    cases A with
    | none => exact run_convert_bytes_nil w t e ht he 0 c d hd
    | some ad => exact run_convert_bytes_back w t d e ad c [] ht he hd fun j hj => absurd hj (by simp)
/-- bytes that the call has just laid -/
theorem Sl.lit (w : World) (e : TypeId) (l : List UInt8) (n : Nat) (hn : l.length = n) (hm : n ≤ maxLen) : (w.alloc (.cells (bvs l).toArray e)).ownsRow 0 e 1 (.slice (some ⟨w.heap.size, 0, none⟩) n n) n (bvs l) := by
  subst hn
  have := World.ownsRow_lit (size := 1) (e := e) w (bvs l).toArray l.length (base := 0) (Nat.zero_le _) hm (by simp [bvs_length])
  simpa using this
end
end Go.Kin
