/- The last step of a law's row: a call that answers true and changes nothing that there was. It speaks of no program. No condition. -/
import Derived.WalkKit
import Derived.WalkSpells
import Derived.WalkLawsBesides
import Derived.Lib.Hide
import Derived.Maps.AppendAt
import Derived.Deep.AppendLies
import Derived.Deep.Draws
import Derived.ProofKit
import Derived.Deep.Slices
import Derived.Deep.Fields
set_option linter.unusedSimpArgs false
set_option linter.unusedVariables false

/- Words and laws on memory that every walk of this family uses: what a call changed, a slice that reads as a list, append onto a row of the call's own. They speak of no program. No condition. -/
namespace Go.Kin
open Go Go.RowKit

def bv (c : UInt8) : Value := .int .u8 (c.toNat : Int)
theorem bcat (a b : List UInt8) : (⟨a.toArray⟩ ++ ⟨b.toArray⟩ : ByteArray) = ⟨(a ++ b).toArray⟩ := by
  ext1
  rw [ByteArray.data_append]
  simp
def bvs (l : List UInt8) : List Value := l.map bv
theorem bvs_append (a b : List UInt8) : bvs (a ++ b) = bvs a ++ bvs b := List.map_append ..
theorem bvs_length (a : List UInt8) : (bvs a).length = a.length := List.length_map ..
theorem bvs_one (l : List UInt8) : ∀ u ∈ bvs l, u.oneCell' = true := by
  intro u hu
  obtain ⟨c, _, rfl⟩ := List.mem_map.1 hu
  rfl
theorem bvs_nil : bvs [] = [] := rfl
theorem bvs_cons (a : UInt8) (l : List UInt8) : bvs (a :: l) = bv a :: bvs l := rfl
theorem bv_inj {a b : UInt8} (h : bv a = bv b) : a = b := by
  unfold bv at h
  injection h with _ h
  exact UInt8.toNat_inj.1 (by omega)
theorem bvs_inj : ∀ {a b : List UInt8}, bvs a = bvs b → a = b
  | [], [], _ => rfl
  | [], _ :: _, h => by simp [bvs] at h
  | _ :: _, [], h => by simp [bvs] at h
  | x :: a, y :: b, h => by
    simp only [bvs_cons, List.cons.injEq] at h
    rw [bv_inj h.1, bvs_inj h.2]

/-- What a call changed: of the blocks that there were, those of S alone; the streams are as they were. -/
structure Ch (S : Nat → Prop) (w w' : World) : Prop where
  os : w'.os = w.os
  tape : w'.tape = w.tape
  output : w'.output = w.output
  size : w.heap.size ≤ w'.heap.size
  block : ∀ k, k < w.heap.size → ¬ S k → w'.heap[k]? = w.heap[k]?

section
variable {S S' : Nat → Prop} {w w' w1 w2 : World}
theorem Ch.refl (S : Nat → Prop) (w : World) : Ch S w w := ⟨rfl, rfl, rfl, Nat.le_refl _, fun _ _ _ => rfl⟩
theorem Ch.trans' (h : Ch S w w1) (k : Ch S' w1 w2) (hs : ∀ j, j < w.heap.size → S' j → S j) : Ch S w w2 :=
  ⟨k.os.trans h.os, k.tape.trans h.tape, k.output.trans h.output, Nat.le_trans h.size k.size,
    fun j hj hn => (k.block j (Nat.lt_of_lt_of_le hj h.size) (fun e => hn (hs j hj e))).trans (h.block j hj hn)⟩
theorem Ch.trans (h : Ch S w w1) (k : Ch S w1 w2) : Ch S w w2 := h.trans' k fun _ _ e => e
theorem Ch.mono (h : Ch S w w') (hs : ∀ j, j < w.heap.size → S j → S' j) : Ch S' w w' :=
  ⟨h.os, h.tape, h.output, h.size, fun j hj hn => h.block j hj (fun e => hn (hs j hj e))⟩
theorem Ch.drew (h : Ch S w w') : Ch S w w'.drew := ⟨h.os, h.tape, h.output, h.size, h.block⟩
theorem Ch.drewN (h : Ch S w w') (n : Nat) : Ch S w (w'.drewN n) := ⟨h.os, h.tape, h.output, h.size, h.block⟩
theorem Ch.of_drew (h : Ch S w.drew w') : Ch S w w' := ⟨h.os, h.tape, h.output, h.size, h.block⟩
theorem Ch.alloc (h : Ch S w w') (o : Obj) : Ch S w (w'.alloc o) :=
  h.trans ⟨rfl, rfl, rfl, by simp, fun k hk _ => Below.heap_alloc _ o k hk⟩
theorem Ch.setCell (h : Ch S w w') {p : Addr} (hp : S p.block ∨ w.heap.size ≤ p.block) (u : Value) : Ch S w (w'.setCell p u) :=
  ⟨h.os, h.tape, h.output, by simpa [World.setCell] using h.size, fun k hk hn => (Below.heap_setCell _ _ _ _ (by
    rintro rfl
    rcases hp with hp | hp
    · exact hn hp
    · omega)).trans (h.block k hk hn)⟩
theorem Ch.of_grown {row : Option Nat} (h : w.grownBy w' row) : Ch (fun k => row = some k) w w' :=
  ⟨h.os, h.tape, h.output, h.size, fun k hk hn => h.block k hk (fun e => hn e.symm)⟩
theorem Ch.of_below {B : Nat} (h : Below B w w') : Ch (fun k => B ≤ k) w w' := ⟨h.os, h.tape, h.output, h.size, fun k _ hn => h.block k (by omega)⟩
theorem Ch.below (h : Ch (fun _ => False) w w') : Below w.heap.size w w' := ⟨h.os, h.tape, h.output, h.size, fun k hk => h.block k hk (fun e => e)⟩
theorem Ch.cell (h : Ch S w w') {p : Addr} {v : Value} (hc : w.cell? p = some v) (hn : ¬ S p.block) : w'.cell? p = some v :=
  (World.cell?_of_block (h.block p.block (World.block_lt_of_cell? w p hc) hn)).trans hc
theorem Ch.obj (h : Ch S w w') {k : Nat} {o : Obj} (hc : w.heap[k]? = some o) (hn : ¬ S k) : w'.heap[k]? = some o :=
  (h.block k (lt_of_block hc) hn).trans hc
end

/-- Nothing of what there was. -/
def Nw : Nat → Prop := fun _ => False

/-- A value's block is none of the first B. -/
def Fresh (B : Nat) (v : Value) : Prop := ∀ k, v.ownBlock = some k → B ≤ k
theorem Fresh.mono {B B' : Nat} {v : Value} (h : Fresh B v) (hb : B' ≤ B) : Fresh B' v := fun k hk => Nat.le_trans hb (h k hk)

theorem block_of_add (a : Addr) (n : Nat) : (a.add n).block = a.block := by unfold Addr.add; split <;> rfl
theorem add_of_add (a : Addr) (i j : Nat) : (a.add i).add j = a.add (i + j) := by
  unfold Addr.add
  by_cases hi : i = 0 <;> by_cases hj : j = 0 <;> simp [hi, hj, Nat.add_assoc]

/-- The slice value v, of n elements, reads as the cells xs. -/
def Sl (w : World) (v : Value) (n : Nat) (xs : List Value) : Prop :=
  ∃ A c, v = .slice A n c ∧ n ≤ c ∧ c ≤ maxLen ∧ (0 < xs.length → ∃ ad, A = some ad ∧ ∀ j u, xs[j]? = some u → w.cell? (ad.add j) = some u)

section
variable {S : Nat → Prop} {w w' : World} {v : Value} {n : Nat} {xs : List Value}
theorem Sl.nil (w : World) : Sl w (.slice none 0 0) 0 [] := ⟨none, 0, rfl, Nat.le_refl _, Nat.zero_le _, fun h => absurd h (by simp)⟩
theorem Sl.ch (h : Sl w v n xs) (hc : Ch S w w') (hn : ∀ k, v.ownBlock = some k → ¬ S k) : Sl w' v n xs := by
  obtain ⟨A, c, rfl, h1, h2, h3⟩ := h
  refine ⟨A, c, rfl, h1, h2, fun hp => ?_⟩
  obtain ⟨ad, rfl, hr⟩ := h3 hp
  exact ⟨ad, rfl, fun j u hu => hc.cell (hr j u hu) (by rw [block_of_add]; exact hn _ rfl)⟩
theorem Sl.keep (h : Sl w v n xs) (hk : ∀ p u, w.cell? p = some u → w'.cell? p = some u) : Sl w' v n xs := by
  obtain ⟨A, c, rfl, h1, h2, h3⟩ := h
  refine ⟨A, c, rfl, h1, h2, fun hp => ?_⟩
  obtain ⟨ad, rfl, hr⟩ := h3 hp
  exact ⟨ad, rfl, fun j u hu => hk _ _ (hr j u hu)⟩
theorem Sl.drew (h : Sl w v n xs) : Sl w.drew v n xs := h
theorem Sl.alloc (h : Sl w v n xs) (o : Obj) : Sl (w.alloc o) v n xs := h.ch ((Ch.refl Nw w).alloc o) fun _ _ e => e
theorem Sl.of_own {base : Nat} {e : TypeId} {size : Nat} (h : w.ownsRow base e size v n xs) : Sl w v n xs := by
  rcases h.2 with ⟨rfl, rfl⟩ | ⟨g, cap, cur, rfl, _, _, h1, h2, _⟩
  · exact ⟨none, 0, rfl, Nat.le_refl _, Nat.zero_le _, fun hp => by have := h.1; omega⟩
  · exact ⟨_, cap, rfl, h1, h2, fun _ => ⟨_, rfl, h.cells (g := g) rfl⟩⟩
theorem own_of_ownsRow {base e size : Nat} (h : w.ownsRow base e size v n xs) : w.ownsRow 0 e size v n xs := by
  refine ⟨h.1, h.2.imp id ?_⟩
  rintro ⟨g, cap, cur, h1, _, h3⟩
  exact ⟨g, cap, cur, h1, Nat.zero_le _, h3⟩
theorem ownsRow_of_own {e size : Nat} (h : w.ownsRow 0 e size v n xs) {B : Nat} (hB : Fresh B v) : w.ownsRow B e size v n xs := by
  refine ⟨h.1, h.2.imp id ?_⟩
  rintro ⟨g, cap, cur, rfl, _, h3⟩
  exact ⟨g, cap, cur, rfl, hB g rfl, h3⟩
theorem own_ch {e size : Nat} (h : w.ownsRow 0 e size v n xs) (hc : Ch S w w') (hn : ∀ k, v.ownBlock = some k → ¬ S k) : w'.ownsRow 0 e size v n xs := by
  refine ⟨h.1, h.2.imp id ?_⟩
  rintro ⟨g, cap, cur, rfl, h2, h3, h4⟩
  exact ⟨g, cap, cur, rfl, h2, hc.obj h3 (hn g rfl), h4⟩
end

/-- A slice's type, its element's: of one cell. -/
structure Ty1 (P : Program) (t e : TypeId) (z : Value) (bytes : Nat) : Prop where
  und : P.underlying t = some (.slice e)
  info : (P.info? e).map (fun i => (i.zero, i.size, i.bytes)) = some (some z, 1, bytes)
  one : z.cells.size = 1

section
variable {P : Program} {w : World} {t e : TypeId} {z : Value} {bytes : Nat}

/-- append(v, u) onto a row of the call's own; the new element lies in a block of its own already. -/
theorem run_app1 (T : Ty1 P t e z bytes) (ty : TypeId) {v : Value} {n : Nat} {xs : List Value} {u : Value}
    (hown : w.ownsRow 0 e 1 v n xs) (h1 : u.oneCell' = true) (h63 : n + 1 ≤ maxLen) (hbytes : (n + 1) * bytes ≤ 140737488355328) :
    ∃ v' w', (Builtin.append_ #[t, t] ty #[v, .slice (some ⟨w.heap.size, 0, none⟩) 1 1]).run P (w.alloc (.cells #[u] e)) = .ok v' w' ∧
      w'.ownsRow 0 e 1 v' (n + 1) (xs ++ [u]) ∧ Ch (fun k => v.ownBlock = some k) w w' ∧ (v'.ownBlock = v.ownBlock ∨ Fresh w.heap.size v') := by
  obtain ⟨i, hi, hz, hsz, hby⟩ := info_parts T.info
  obtain ⟨v', w', hr, k1, k2, _, k4⟩ := run_append_own_at (P := P) (w.alloc (.cells #[u] e)) 0 t ty e i z 1 bytes T.und hi hz hsz hby T.one (by decide) v n xs (hown.alloc _) ⟨w.heap.size, 0, none⟩ 1 1 [u] rfl (cell_one_new w u e)
    (fun u' hu' => by simp at hu'; subst hu'; exact h1) h63 hbytes (Nat.zero_le _)
  refine ⟨v', w', hr, k1, ((Ch.refl _ w).alloc _).trans (Ch.of_grown k2), k4.imp id fun e k hk => ?_⟩
  rw [e] at hk
  simp at hk
  omega

/-- append(v, y...) onto a row of the call's own, y a slice that reads as ys. -/
theorem run_appn (T : Ty1 P t e z bytes) (ty : TypeId) {v : Value} {n : Nat} {xs : List Value} {y : Value} {m : Nat} {ys : List Value}
    (hown : w.ownsRow 0 e 1 v n xs) (hy : Sl w y m ys) (hm : ys.length = m) (h1 : ∀ u ∈ ys, u.oneCell' = true) (h63 : n + m ≤ maxLen) (hbytes : (n + m) * bytes ≤ 140737488355328) :
    ∃ v' w', (Builtin.append_ #[t, t] ty #[v, y]).run P w = .ok v' w' ∧
      w'.ownsRow 0 e 1 v' (n + m) (xs ++ ys) ∧ Ch (fun k => v.ownBlock = some k) w w' ∧ (v'.ownBlock = v.ownBlock ∨ Fresh w.heap.size v') := by
  obtain ⟨i, hi, hz, hsz, hby⟩ := info_parts T.info
  obtain ⟨A, c, rfl, hle, hcm, hr⟩ := hy
  have go : ∀ ad, (∀ j u, ys[j]? = some u → w.cell? (ad.add j) = some u) → ∃ v' w', (Builtin.append_ #[t, t] ty #[v, .slice (some ad) m c]).run P w = .ok v' w' ∧
      w'.ownsRow 0 e 1 v' (n + m) (xs ++ ys) ∧ Ch (fun k => v.ownBlock = some k) w w' ∧ (v'.ownBlock = v.ownBlock ∨ Fresh w.heap.size v') := by
    intro ad hc
    obtain ⟨v', w', hr, k1, k2, _, k4⟩ := run_append_own_at (P := P) w 0 t ty e i z 1 bytes T.und hi hz hsz hby T.one (by decide) v n xs hown ad m c ys (by omega) hc h1 h63 hbytes (Nat.zero_le _)
    refine ⟨v', w', hr, k1, Ch.of_grown k2, k4.imp id fun e k hk => ?_⟩
    rw [e] at hk
    simp at hk
    omega
  by_cases h0 : 0 < ys.length
  · obtain ⟨ad, rfl, hc⟩ := hr h0
    exact go ad hc
  · have hm0 : m = 0 := by omega
    subst hm0
    obtain rfl : ys = [] := List.eq_nil_of_length_eq_zero (by omega)
    cases A with
    | none =>
      refine ⟨v, w, ?_, by simpa using hown, Ch.refl _ _, .inl rfl⟩
      rcases hown.2 with ⟨rfl, rfl⟩ | ⟨g, cap, cur, rfl, _, _, hnc, _⟩
      · simp [Builtin.append_, run_underlying T.und, sizeOf, typeInfo, hi, Builtin.lenOf, Builtin.firstCells]
      · simp [Builtin.append_, run_underlying T.und, sizeOf, typeInfo, hi, Builtin.lenOf, Builtin.firstCells, hnc, storeCells]
    | some ad => exact go ad (by simp)
end

section
variable {P : Program} {w w' : World} {v : Value} {n : Nat} {xs : List Value}
/-- len of a slice, as an equation for every world. -/
theorem Sl.len (h : Sl w v n xs) {t e : TypeId} (ht : P.underlying t = some (.slice e)) (ty : TypeId) (w' : World) : (Builtin.len_ #[t] ty #[v]).run P w' = .ok (.int .i64 n) w' := by
  obtain ⟨A, c, rfl, _⟩ := h
  simp [Builtin.len_, run_underlying ht, goInt]
/-- A cut of a slice. -/
theorem Sl.cut (h : Sl w v n xs) {t e : TypeId} {z : Value} {bytes : Nat} (T : Ty1 P t e z bytes) (hn : xs.length = n) (l : Nat) (hh : Nat) (hl : l ≤ hh) (hhn : hh ≤ n) :
    ∃ v', Sl w v' (hh - l) ((xs.take hh).drop l) ∧ v'.ownBlock = v.ownBlock ∧ (∀ w', (Instr.sliceAt t v (some (.int .i64 l)) (some (.int .i64 hh)) none).run P w' = .ok v' w') ∧
      (l = 0 → ∀ w', (Instr.sliceAt t v none (some (.int .i64 hh)) none).run P w' = .ok v' w') ∧ (hh = n → ∀ w', (Instr.sliceAt t v (some (.int .i64 l)) none none).run P w' = .ok v' w') := by
  obtain ⟨A, c, rfl, h1, h2, h3⟩ := h
  obtain ⟨i, hi, _, hsz, _⟩ := info_parts T.info
  have key : ∃ v', v' = Value.slice (if c = l then A else A.map (·.add (l * 1))) (hh - l) (c - l) ∧ Sl w v' (hh - l) ((xs.take hh).drop l) ∧ v'.ownBlock = (Value.slice A n c).ownBlock := by
    refine ⟨_, rfl, ⟨_, _, rfl, by omega, by omega, fun hp => ?_⟩, ?_⟩
    · have hlen : ((xs.take hh).drop l).length = hh - l := by simp; omega
      obtain ⟨ad, rfl, hc⟩ := h3 (by omega)
      rw [if_neg (by omega)]
      refine ⟨ad.add (l * 1), rfl, fun j u hu => ?_⟩
      rw [add_of_add]
      refine hc _ u ?_
      rw [List.getElem?_drop, List.getElem?_take] at hu
      split at hu
      · rw [Nat.mul_one]; exact hu
      · cases hu
    · cases A with
      | none => simp [Value.ownBlock]
      | some ad =>
        split
        · rfl
        · simp [Value.ownBlock, block_of_add]
  obtain ⟨v', hv, h4, h5⟩ := key
  have hc1 : hh ≤ c := by omega
  have hc1' : ¬ c < hh := by omega
  refine ⟨v', h4, h5, fun w' => ?_, fun hl0 w' => ?_, fun hhn' w' => ?_⟩
  · simp [Instr.sliceAt, Instr.slice, Instr.sliceBounds, Instr.sliceBound, asIntOf, run_underlying T.und, sizeOf, typeInfo, hi, hsz, hc1, hl, hv]
  · subst hl0
    simp [Instr.sliceAt, Instr.slice, Instr.sliceBounds, Instr.sliceBound, asIntOf, run_underlying T.und, sizeOf, typeInfo, hi, hc1, hv]
  · subst hhn'
    simp [Instr.sliceAt, Instr.slice, Instr.sliceBounds, Instr.sliceBound, asIntOf, run_underlying T.und, sizeOf, typeInfo, hi, hsz, hl, hv]
/-- The cut with three bounds. -/
theorem Sl.cut3 (h : Sl w v n xs) {t e : TypeId} {z : Value} {bytes : Nat} (T : Ty1 P t e z bytes) (hn : xs.length = n) (hh : Nat) (hhn : hh ≤ n) :
    ∃ v', Sl w v' hh (xs.take hh) ∧ v'.ownBlock = v.ownBlock ∧ (∀ w', (Instr.sliceAt t v none (some (.int .i64 hh)) (some (.int .i64 hh))).run P w' = .ok v' w') := by
  obtain ⟨A, c, rfl, h1, h2, h3⟩ := h
  obtain ⟨i, hi, _, hsz, _⟩ := info_parts T.info
  have hc1' : ¬ c < hh := by omega
  refine ⟨.slice (if hh = 0 then A else A.map (·.add (0 * 1))) hh hh, ⟨_, _, rfl, Nat.le_refl _, by omega, fun hp => ?_⟩, ?_, fun w' => ?_⟩
  · obtain ⟨ad, rfl, hc⟩ := h3 (by simp at hp; omega)
    refine ⟨ad, by split <;> simp [Addr.add], fun j u hu => hc j u ?_⟩
    rw [List.getElem?_take] at hu
    split at hu
    · exact hu
    · cases hu
  · cases A with
    | none => simp [Value.ownBlock]
    | some ad => split <;> simp [Value.ownBlock, Addr.add]
  · simp [Instr.sliceAt, Instr.slice, Instr.sliceBounds, Instr.sliceBound, asIntOf, run_underlying T.und, sizeOf, typeInfo, hi, hc1']
/-- An element. -/
theorem Sl.at (h : Sl w v n xs) {t e : TypeId} {z : Value} {bytes : Nat} (T : Ty1 P t e z bytes) (hn : xs.length = n) {i : Nat} {u : Value} (hi : xs[i]? = some u) :
    ∃ a, (∀ w', (Instr.indexAt t v (.int .i64 i)).run P w' = .ok (.pointer (some a)) w') ∧ w.cell? a = some u ∧ v.ownBlock = some a.block := by
  obtain ⟨A, c, rfl, h1, h2, h3⟩ := h
  obtain ⟨ti, hti, _, hsz, _⟩ := info_parts T.info
  have hlt : i < xs.length := (List.getElem?_eq_some_iff.1 hi).1
  obtain ⟨ad, rfl, hc⟩ := h3 (by omega)
  refine ⟨ad.add i, fun w' => ?_, hc i u hi, by simp [Value.ownBlock, block_of_add]⟩
  have h4 : ¬ n ≤ i := by omega
  simp [Instr.indexAt, asIntOf, run_underlying T.und, sizeOf, typeInfo, hti, hsz, h4]
end

section
variable {P : Program} {w : World} {v : Value} {n : Nat} {l : List UInt8}
def str (l : List UInt8) : Value := .string ⟨l.toArray⟩
/-- string(b) -/
theorem Sl.str (h : Sl w v n (bvs l)) (hn : l.length = n) {t e : TypeId} (ht : P.underlying t = some (.slice e)) (he : P.underlying e = some (.int .u8)) {d : TypeId} (hd : P.underlying d = some .string) :
    (convert t d v).run P w = .ok (.string ⟨l.toArray⟩) w := by
  subst hn
  obtain ⟨A, c, rfl, h1, h2, h3⟩ := h
  by_cases hp : 0 < l.length
  · obtain ⟨ad, rfl, hc⟩ := h3 (by rw [bvs_length]; exact hp)
    refine run_convert_bytes_back w t d e ad c l ht he hd fun j hj => hc j _ ?_
    simp [bvs, hj, bv]
  · obtain rfl : l = [] := List.eq_nil_of_length_eq_zero (by omega)
    cases A with
    | none => exact run_convert_bytes_nil w t e ht he 0 c d hd
    | some ad => exact run_convert_bytes_back w t d e ad c [] ht he hd fun j hj => absurd hj (by simp)
/-- bytes that the call has just laid -/
theorem Sl.lit (w : World) (e : TypeId) (l : List UInt8) (n : Nat) (hn : l.length = n) (hm : n ≤ maxLen) : (w.alloc (.cells (bvs l).toArray e)).ownsRow 0 e 1 (.slice (some ⟨w.heap.size, 0, none⟩) n n) n (bvs l) := by
  subst hn
  have := World.ownsRow_lit (size := 1) (e := e) w (bvs l).toArray l.length (base := 0) (Nat.zero_le _) hm (by simp [bvs_length])
  simpa using this
end
end Go.Kin

namespace Go.Kin
open Go Go.RowKit Go.WideShapes Go.ChangeShapes
section
variable {H : Type} {enc : TypeId × Value → H} {P : Program}
theorem post_of_below {f : Func} {s : ChangeSpec} {apart fresh handsOn again : Bool} {W W' : World} {args : Array Value} {v : Value} {ds gs : List (DataW H)} {before pa pv : List MemPlace}
    (hW : DataW.Whole enc P f.params.toList s.vars apart W args.toList ds gs before)
    (hres : ∀ (b : Nat) (sp : Nat → Bool) (hd : Bool), DataW.TrodAll enc P W' b sp hd f.resultTypes.toList (v.resultList f.resultTypes.size) (s.fn H (ds ++ gs)).results [])
    (hargs : ∀ sp : Nat → Bool, (∀ p ∈ before, sp p.block = true) → DataW.TrodAll enc P W' 0 sp true f.params.toList args.toList (s.fn H (ds ++ gs)).args pa)
    (hvars : ∀ sp : Nat → Bool, (∀ p ∈ before, sp p.block = true) → DataW.TrodVars enc P W' sp s.vars (s.fn H (ds ++ gs)).vars pv)
    (hps : before = pa ++ pv) (hb : Below W.heap.size W W')
    (hok : ∀ (j : Nat) (t : TypeId) (r : Value), f.resultTypes[j]? = some t → (v.resultList f.resultTypes.size)[j]? = some r → Value.okWide P W' .any 0 t r) :
    s.post enc P f apart fresh handsOn again W args v W' := by
  have hlt : ∀ p ∈ before, p.block < W.heap.size := fun p hp => hW.lt p hp
  have hold : ∀ p ∈ before, (fun b => decide (b < W.heap.size)) p.block = true := fun p hp => by simpa using hlt p hp
  refine ⟨ds, gs, before, [], pa, pv, hW, hres _ _ _, hargs _ hold, hvars _ hold, World.keptBut_mono (fun p hp => ⟨hp, ?_⟩) (hb.frame (· ∈ before)), fun _ => ?_⟩
  · rw [hps, List.mem_append] at hp
    exact Or.inr hp
  · obtain ⟨_, _, _, _, _, hz, hn⟩ := hW
    refine ⟨hok, _, _, ([] ++ pa) ++ pv, ⟨[] ++ pa, pv, trodAll_append (hargs _ (fun _ _ => rfl)) (hres _ _ _), hvars _ (fun _ _ => rfl), rfl, ?_, ?_⟩, ?_⟩
    · intro b off hp
      have hin : MemPlace.cell b off ∈ before := by rw [hps]; simpa using hp
      rw [hb.frozen (hlt _ hin)]
      exact hz b off hin
    · intro ha
      have := hn ha
      rw [hps] at this
      simpa using this
    · intro p hp _
      rw [hps]
      simpa using hp

/-- The arguments read behind the call as before it. -/
theorem trodAll_below (hl : laidOutB P = true) {W W' : World} (hb : Below W.heap.size W W') : ∀ (ts : List TypeId) (vs : List Value) (ds : List (DataW H)) (ps : List MemPlace),
    (ts.all fun t => P.readableRec t && decide (t < P.types.size)) = true → DataW.TrodAll enc P W 0 (fun _ => true) true ts vs ds ps → (∀ x ∈ ps, x.block < W.heap.size) →
    ∀ sp : Nat → Bool, (∀ p ∈ ps, sp p.block = true) → DataW.TrodAll enc P W' 0 sp true ts vs ds ps := by
  intro ts
  induction ts with
  | nil =>
    intro vs ds ps _ h _ sp _
    cases vs <;> cases ds <;> first | exact h | exact h.elim
  | cons t ts ih =>
    intro vs ds ps hr h hlt sp hsp
    simp only [List.all_cons, Bool.and_eq_true, decide_eq_true_eq] at hr
    cases vs with
    | nil => cases ds <;> exact h.elim
    | cons v vs =>
      cases ds with
      | nil => exact h.elim
      | cons d ds =>
        obtain ⟨p, q, h1, h2, rfl⟩ := h
        exact ⟨p, q, WideElems.Trod_stays hl hr.1.1 hr.1.2 h1 (fun x hx => hb.same (hlt x (by simp [hx]))) (fun x hx => hsp x (by simp [hx])),
          ih vs ds q hr.2 h2 (fun x hx => hlt x (by simp [hx])) sp (fun x hx => hsp x (by simp [hx])), rfl⟩

/-- A law's post: true, and the arguments as they were. -/
theorem post_law {f : Func} {s : ChangeSpec} {W W' : World} {args : Array Value} {ds : List (DataW H)} {before p : List MemPlace} (hl : laidOutB P = true)
    (hW : DataW.Whole enc P f.params.toList s.vars false W args.toList ds [] before) (hA : DataW.TrodAll enc P W 0 (fun _ => true) true f.params.toList args.toList ds p) (hp : before = p ++ [])
    (hr : (f.params.toList.all fun t => P.readableRec t && decide (t < P.types.size)) = true) {tb : TypeId} (hres : f.resultTypes = #[tb]) (htb : P.underlying tb = some .bool)
    (hs : s.fn H (ds ++ []) = { results := [.lit (.bool true)], args := ds }) (hv : s.vars = []) (hb : Below W.heap.size W W') :
    s.post enc P f false true false false W args (.bool true) W' := by
  have hlt : ∀ x ∈ p, x.block < W.heap.size := fun x hx => hW.lt x (by rw [hp]; simp [hx])
  refine post_of_below (pa := p) (pv := []) hW (fun b sp hd => ?_) (fun sp hsp => ?_) (fun sp _ => ?_) hp hb ?_
  · rw [hs, hres]
    exact trodAll_mk1 (shut_bool htb _)
  · rw [hs]
    exact trodAll_below hl hb _ _ _ _ hr hA hlt sp fun x hx => hsp x (by rw [hp]; simp [hx])
  · rw [hs, hv]
    rfl
  · exact ok_one hres rfl (okWide_bool_mk htb _)

theorem zsOf (zs : List Int) (h : ∀ n ∈ zs, (Lit.int .u8 n).wf = true) : ∃ l : List UInt8, zs.map (Value.int .u8) = bvs l ∧ l.length = zs.length := by
  refine ⟨zs.map fun n => UInt8.ofNat n.toNat, ?_, by simp⟩
  unfold bvs
  rw [List.map_map]
  refine List.map_congr_left fun n hn => ?_
  have := h n hn
  simp [Lit.wf, IntKind.min, IntKind.max, IntKind.signed, IntKind.bits] at this
  simp [bv]
  omega
/-- An argument that is a slice of bytes. -/
theorem open_bytes {W : World} {spare : Nat → Bool} {held : Bool} {t e : TypeId} {r : Reach} {b0 : Nat} {v : Value} {d : DataW H} {p : List MemPlace} (ht : P.underlying t = some (.slice e)) (he : P.underlying e = some (.int .u8)) (hc : P.cellsOf e = 1)
    (hv : Value.okWide P W r b0 t v) (h : DataW.Trod enc P W 0 spare held t v d p) : ∃ l : List UInt8, Sl W v l.length (bvs l) := by
  obtain ⟨fuel, hf⟩ := h
  rcases open_ints ht he hc hf with ⟨hcs, _⟩ | ⟨a, len, cap, zs, hcs, _, hle, hm, hz, _, hcell, hwf⟩
  · obtain ⟨a0, l0, c0, rfl⟩ := okWide_slice ht hv
    simp [Value.cells] at hcs
    obtain ⟨rfl, rfl, rfl⟩ := hcs
    exact ⟨[], Sl.nil W⟩
  · obtain ⟨a0, l0, c0, rfl⟩ := okWide_slice ht hv
    simp [Value.cells] at hcs
    obtain ⟨rfl, rfl, rfl⟩ := hcs
    have hlen : l0 ≤ zs.length := by rw [hz]; split <;> omega
    obtain ⟨l, hl1, hl2⟩ := zsOf (zs.take l0) fun n hn => hwf n (List.mem_of_mem_take hn)
    have hll : l.length = l0 := by rw [hl2]; simp; omega
    refine ⟨l, some a, c0, by rw [hll], by omega, hm, fun _ => ⟨a, rfl, fun j u hu => ?_⟩⟩
    have hj : j < l0 := by
      have := (List.getElem?_eq_some_iff.1 hu).1
      rw [bvs_length] at this
      omega
    rw [← hl1] at hu
    rw [hcell j (by omega)]
    simp [hj, show j < zs.length by omega] at hu
    simp [List.getD, show j < zs.length by omega, hu]
/-- An argument that is an unsigned number. -/
theorem open_u64 {W : World} {spare : Nat → Bool} {held : Bool} {t : TypeId} {r : Reach} {b0 : Nat} {v : Value} {d : DataW H} {p : List MemPlace} (ht : P.underlying t = some (.int .u64))
    (hv : Value.okWide P W r b0 t v) (h : DataW.Trod enc P W 0 spare held t v d p) : ∃ n : Nat, v = .int .u64 n ∧ n < 18446744073709551616 := by
  obtain ⟨a, rfl, _, _, wa⟩ := open_int ht hv h
  simp [Lit.wf, IntKind.min, IntKind.max, IntKind.signed, IntKind.bits] at wa
  exact ⟨a.toNat, by congr 1; omega, by omega⟩
/-- An argument's own block is one of the world's. -/
theorem own_lt {W : World} {t e : TypeId} {r : Reach} {b0 : Nat} {v : Value} (ht : P.underlying t = some (.slice e)) (hv : Value.okWide P W r b0 t v) : ∀ k, v.ownBlock = some k → k < W.heap.size := by
  obtain ⟨A, n, c, rfl⟩ := okWide_slice ht hv
  intro k hk
  cases A with
  | none => simp [Value.ownBlock] at hk
  | some a =>
    simp only [Value.ownBlock, Option.some.injEq] at hk
    subst hk
    simp only [Value.okWide, ht, Cell.okWide, Cell.ok, World.has, World.shape?] at hv
    obtain ⟨_, _, _, _, row, cells, hs, _⟩ := hv
    cases hg : W.heap[a.block]? with
    | none => simp [hg] at hs
    | some o => exact lt_of_block hg
/-- An argument that is a slice of pairs of whole numbers. -/
theorem open_pairs {W : World} {spare : Nat → Bool} {held : Bool} {t e : TypeId} {f0 f1 : Field} {k0 k1 : IntKind} {r : Reach} {b0 : Nat} {v : Value} {d : DataW H} {p : List MemPlace} (ht : P.underlying t = some (.slice e)) (he : P.underlying e = some (.struct #[f0, f1])) (hC : P.cellsOf e = 2)
    (hone : Go.Deep.oneCellFields P #[f0, f1] = true) (u0 : P.underlying f0.type = some (.int k0)) (u1 : P.underlying f1.type = some (.int k1))
    (hv : Value.okWide P W r b0 t v) (h : DataW.Trod enc P W 0 spare held t v d p) : ∃ (A : Option Addr) (n c : Nat) (D N : Nat → Int), v = .slice A n c ∧ n ≤ c ∧ c ≤ maxLen ∧
      (0 < n → ∃ ad, A = some ad ∧ ad.block < W.heap.size ∧ ∀ j, j < n → W.cell? (ad.add (j * 2)) = some (.int k0 (D j)) ∧ W.cell? (ad.add (j * 2 + 1)) = some (.int k1 (N j)) ∧ (Lit.int k0 (D j)).wf = true ∧ (Lit.int k1 (N j)).wf = true) := by
  have hlt := own_lt ht hv
  obtain ⟨fuel, hf⟩ := h
  obtain ⟨a0, l0, c0, rfl⟩ := okWide_slice ht hv
  rcases Go.Deep.open_slice ht hf with ⟨hcs, _⟩ | ⟨a, len, cap, m, n', DD, Pl, hcs, _, hl, hm, hmm, _, hi⟩
  · simp [Value.cells] at hcs
    obtain ⟨rfl, rfl, rfl⟩ := hcs
    exact ⟨none, 0, 0, fun _ => 0, fun _ => 0, rfl, Nat.le_refl _, Nat.zero_le _, fun h => absurd h (by omega)⟩
  · simp [Value.cells] at hcs
    obtain ⟨rfl, rfl, rfl⟩ := hcs
    have hlm : l0 ≤ m := by rw [hmm]; split <;> omega
    refine ⟨some a, l0, c0, fun j => intOf ((W.cell? (a.add (j * 2))).getD undef), fun j => intOf ((W.cell? (a.add (j * 2 + 1))).getD undef), rfl, hl, hm, fun _ => ⟨a, rfl, hlt _ rfl, fun j hj => ?_⟩⟩
    obtain ⟨cs', hc, ht'⟩ := hi j (by omega)
    rw [hC] at hc
    obtain ⟨ys, n2, _, _, hlen, hyl, hfld⟩ := DataW.trod_struct he ht'
    obtain ⟨_, hcl, hat⟩ := World.cells?_some hc
    match cs', hcl with
    | [c1, c2], _ =>
      obtain ⟨o0, s0⟩ := Go.Deep.hone_of hone 0 f0 rfl
      obtain ⟨o1, s1⟩ := Go.Deep.hone_of hone 1 f1 rfl
      have g0 := hfld 0 f0 rfl
      have g1 := hfld 1 f1 rfl
      rw [o0, s0] at g0
      rw [o1, s1] at g1
      have hy : ys.length = 2 := hyl
      have hy0 : ys[0]? = some (ys[0]'(by omega)) := List.getElem?_eq_getElem _
      have hy1 : ys[1]? = some (ys[1]'(by omega)) := List.getElem?_eq_getElem _
      rw [hy0] at g0
      rw [hy1] at g1
      obtain ⟨z0, q0, _, w0⟩ := DataW.trod_int u0 g0
      obtain ⟨z1, q1, _, w1⟩ := DataW.trod_int u1 g1
      simp at q0 q1
      have e0 := hat 0 (by omega)
      have e1 := hat 1 (by omega)
      rw [add_of_add] at e0 e1
      simp only [Nat.add_zero] at e0
      have e0 : W.cell? (a.add (j * 2)) = some (.int k0 z0) := by rw [e0]; simp [q0]
      have e1 : W.cell? (a.add (j * 2 + 1)) = some (.int k1 z1) := by rw [e1]; simp [q1]
      simp only [e0, e1, Option.getD_some]
      exact ⟨rfl, rfl, w0, w1⟩
end
end Go.Kin
