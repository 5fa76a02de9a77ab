/- Blocks of many cells: what is read and stored in them, slices over them, arrays of whole numbers held against one another. They speak of no program. No condition. -/
import Derived.Test.YtnefdmbdkljifaaGreatDoorVee
import Derived.Laws.Cover3
import Derived.Laws.StructEq
set_option linter.unusedSimpArgs false
set_option linter.unusedVariables false

namespace Go.Kin
open Go Go.RowKit

section
variable {w w' : World} {g k i : Nat} {cs : Array Value} {T : TypeId} {fr : Nat × Nat} {S : Nat → Prop}
@[simp ↓ high] theorem hp_alloc (w : World) (o : Obj) : (w.alloc o).heap[w.heap.size]? = some o := heap_alloc_new w o
@[simp ↓ high] theorem hp_alloc_eq (w : World) (o : Obj) (g : Nat) (h : g = w.heap.size) : (w.alloc o).heap[g]? = some o := by subst h; exact heap_alloc_new w o
@[simp ↓ high] theorem hp_alloc_lt (w : World) (o : Obj) (g : Nat) (h : g < w.heap.size) : (w.alloc o).heap[g]? = w.heap[g]? := Below.heap_alloc _ o g h
@[simp ↓ high] theorem hp_drew (w : World) (g : Nat) : w.drew.heap[g]? = w.heap[g]? := nr rfl
def rowOf (c : Array Value) : Option Obj → Option Obj
  | some (.cells _ T fr) => some (.cells c T fr)
  | o => o
@[simp] theorem rowOf_cells (c c' : Array Value) (T : TypeId) (fr : Nat × Nat) : rowOf c (some (.cells c' T fr)) = some (.cells c T fr) := nr rfl
def setOf (i : Nat) (v : Value) : Option Obj → Option Obj
  | some (.cells c T fr) => some (.cells (c.setIfInBounds i v) T fr)
  | o => o
@[simp] theorem setOf_cells (i : Nat) (v : Value) (c : Array Value) (T : TypeId) (fr : Nat × Nat) : setOf i v (some (.cells c T fr)) = some (.cells (c.setIfInBounds i v) T fr) := nr rfl
@[simp ↓ high] theorem hp_setRow (w : World) (g : Nat) (c : Array Value) : (w.setRow g c).heap[g]? = rowOf c (w.heap[g]?) := by
  simp [World.setRow, Array.getElem?_modify]
  cases w.heap[g]? with
  | none => rfl
  | some o => cases o <;> rfl
@[simp ↓ high] theorem hp_setRow_ne (w : World) (g k : Nat) (c : Array Value) (h : k ≠ g) : (w.setRow g c).heap[k]? = w.heap[k]? := by
  simp [World.setRow, Array.getElem?_modify, Ne.symm h]
@[simp ↓ high] theorem hp_setCell (w : World) (g i : Nat) (v : Value) : (w.setCell ⟨g, i, none⟩ v).heap[g]? = setOf i v (w.heap[g]?) := by
  simp [World.setCell, Array.getElem?_modify]
  cases w.heap[g]? with
  | none => rfl
  | some o => cases o <;> rfl
@[simp ↓ high] theorem hp_setCell_ne (w : World) (a : Addr) (k : Nat) (v : Value) (h : k ≠ a.block) : (w.setCell a v).heap[k]? = w.heap[k]? := by
  simp [World.setCell, Array.getElem?_modify, Ne.symm h]
theorem cell_blk (hb : w.heap[g]? = some (.cells cs T fr)) (i : Nat) : w.cell? ⟨g, i, none⟩ = cs[i]? := cell_of_row w g i cs T fr hb
theorem frz_blk (hb : w.heap[g]? = some (.cells cs T (0, 0))) (i : Nat) : w.frozen? ⟨g, i, none⟩ = false := frozen_of_row w g i cs T hb
theorem Ch.setRow (h : Ch S w w') (hp : S g ∨ w.heap.size ≤ g) (c : Array Value) : Ch S w (w'.setRow g c) :=
  ⟨h.os, h.tape, h.output, by simpa using h.size, fun k hk hn => (hp_setRow_ne _ _ _ _ (by
    rintro rfl
    rcases hp with hp | hp
    · exact hn hp
    · omega)).trans (h.block k hk hn)⟩
theorem Ch.hp (h : Ch S w w') (hb : w.heap[g]? = some (.cells cs T fr)) (hn : ¬ S g) : w'.heap[g]? = some (.cells cs T fr) := h.obj hb hn
/-- a slice over a part of a block -/
theorem Sl.of_blk (hb : w.heap[g]? = some (.cells cs T fr)) {n c off : Nat} {xs : List Value} (hnc : n ≤ c) (hc : c ≤ maxLen) (hx : xs = (cs.toList.drop off).take n) : Sl w (.slice (some ⟨g, off, none⟩) n c) n xs := by
  refine ⟨_, c, rfl, hnc, hc, fun _ => ⟨_, rfl, fun j u hu => ?_⟩⟩
  rw [Addr.add_lit, cell_of_row w g _ cs T fr hb]
  rw [hx, List.getElem?_take, List.getElem?_drop] at hu
  split at hu
  · simpa using hu
  · cases hu
/-- the block of a row of the call's own -/
theorem own_blk {e n : Nat} {v : Value} {xs : List Value} (h : w.ownsRow 0 e 1 v n xs) (hn : 0 < n) : ∃ g cap cur, v = .slice (some ⟨g, 0, none⟩) n cap ∧ w.heap[g]? = some (.cells cur e (0, 0)) ∧ n ≤ cap ∧ cap ≤ maxLen ∧ n ≤ cur.size ∧ cur.extract 0 n = xs.toArray := by
  rcases h.2 with ⟨_, h0⟩ | ⟨g, cap, cur, hv, _, hb, h1, h2, h3, h4⟩
  · omega
  · refine ⟨g, cap, cur, hv, hb, h1, h2, by omega, ?_⟩
    apply Array.ext'
    rw [Nat.mul_one] at h4
    simp [Array.toList_extract, List.extract_eq_take_drop, h4]
end

/-- arrays of whole numbers, held against one another -/
theorem run_equalIn_ints {P : Program} (w : World) (d : Nat) (t e len : Nat) (k : IntKind) (ht : P.underlying t = some (.array len e)) (he : P.underlying e = some (.int k)) (hs : ∀ w, (sizeOf e).run P w = .ok 1 w) (ha : ∀ w, (isAgg e).run P w = .ok false w)
    (xs ys : List Int) (hx : xs.length = len) (hy : ys.length = len) :
    (Op.equalIn (d + 2) t (.agg (xs.map (Value.int k)).toArray) (.agg (ys.map (Value.int k)).toArray)).run P w = .ok (decide (xs = ys)) w := by
  rw [Op.equalIn]
  simp only [Sem.run_bind, run_underlying ht, Result.andThen_ok, hs]
  rw [Std.Legacy.Range.forIn_eq_forIn_range']
  have key : ∀ (m s : Nat), s + m = len → (forIn (List.range' s m 1) ((none, ()) : Option Bool × Unit) (fun i _ => do
          let a ← part e (xs.map (Value.int k)).toArray (i * 1)
          let b ← part e (ys.map (Value.int k)).toArray (i * 1)
          let r ← Op.equalIn (d + 1) e a b
          if (!r) = true then pure (ForInStep.done (some false, ())) else pure (ForInStep.yield (none, ()))) : Sem (Option Bool × Unit)).run P w = .ok (if xs.drop s = ys.drop s then (none, ()) else (some false, ())) w := by
    intro m
    induction m with
    | zero =>
      intro s hsm
      have h1 : xs.drop s = [] := List.drop_eq_nil_iff.2 (by omega)
      have h2 : ys.drop s = [] := List.drop_eq_nil_iff.2 (by omega)
      simp [h1, h2]
    | succ m ih =>
      intro s hsm
      have hsx : s < xs.length := by omega
      have hsy : s < ys.length := by omega
      rw [List.range'_succ]
      have p1 : (part e (xs.map (Value.int k)).toArray (s * 1)).run P w = .ok (.int k xs[s]) w := by simp [part, ha, hsx]
      have p2 : (part e (ys.map (Value.int k)).toArray (s * 1)).run P w = .ok (.int k ys[s]) w := by simp [part, ha, hsy]
      simp only [List.forIn_cons, Sem.run_bind, p1, p2, Result.andThen_ok, run_equalIn_int w d e k k _ _ he]
      have e1 := List.drop_eq_getElem_cons hsx
      have e2 := List.drop_eq_getElem_cons hsy
      rw [e1, e2]
      by_cases hq : xs[s] = ys[s]
      · have := ih (s + 1) (by omega)
        simp only [hq, beq_self_eq_true, Bool.not_true, Bool.false_eq_true, if_false, Sem.run_pure, Result.andThen_ok, this, List.cons.injEq, true_and]
      · have hne : ¬ (xs[s] :: xs.drop (s + 1) = ys[s] :: ys.drop (s + 1)) := fun h => hq (List.cons.inj h).1
        simp only [if_neg hne]
        simp [hq]
  rw [show List.range' (Std.Legacy.Range.start [:len]) (Std.Legacy.Range.size [:len]) (Std.Legacy.Range.step [:len]) = List.range' 0 len 1 by simp [Std.Legacy.Range.size]]
  rw [key len 0 (by omega)]
  by_cases hq : xs = ys <;> simp [hq]
theorem bvs_ints (l : List UInt8) : bvs l = (l.map fun c => (c.toNat : Int)).map (Value.int .u8) := by simp [bvs, bv, Function.comp_def]
theorem run_equalIn_bvs {P : Program} (w : World) (d : Nat) (t e len : Nat) (ht : P.underlying t = some (.array len e)) (he : P.underlying e = some (.int .u8)) (hs : ∀ w, (sizeOf e).run P w = .ok 1 w) (ha : ∀ w, (isAgg e).run P w = .ok false w)
    (xs ys : List UInt8) (hx : xs.length = len) (hy : ys.length = len) :
    (Op.equalIn (d + 2) t (.agg (bvs xs).toArray) (.agg (bvs ys).toArray)).run P w = .ok (decide (xs = ys)) w := by
  rw [bvs_ints, bvs_ints, run_equalIn_ints w d t e len .u8 ht he hs ha _ _ (by simpa using hx) (by simpa using hy)]
  congr 1
  rw [decide_eq_decide]
  constructor
  · intro h
    have : ∀ (a b : List UInt8), (a.map fun c => (c.toNat : Int)) = (b.map fun c => (c.toNat : Int)) → a = b := by
      intro a
      induction a with
      | nil => intro b h; cases b <;> simp at h ⊢
      | cons x a ih =>
        intro b h
        cases b with
        | nil => simp at h
        | cons y b =>
          simp at h
          rw [UInt8.toNat_inj.1 (by omega : x.toNat = y.toNat), ih b (by simpa using h.2)]
    exact this _ _ h
  · rintro rfl; rfl
def u16v (n : Nat) : Value := .int .u16 n
def u16s (l : List Nat) : List Value := l.map u16v
theorem u16s_length (l : List Nat) : (u16s l).length = l.length := List.length_map ..
theorem u16s_ints (l : List Nat) : u16s l = (l.map fun c : Nat => (c : Int)).map (Value.int .u16) := by simp [u16s, u16v, Function.comp_def]
theorem u16s_one (l : List Nat) : ∀ u ∈ u16s l, u.oneCell' = true := by
  intro u hu
  obtain ⟨c, _, rfl⟩ := List.mem_map.1 hu
  rfl
theorem run_equalIn_u16s {P : Program} (w : World) (d : Nat) (t e len : Nat) (ht : P.underlying t = some (.array len e)) (he : P.underlying e = some (.int .u16)) (hs : ∀ w, (sizeOf e).run P w = .ok 1 w) (ha : ∀ w, (isAgg e).run P w = .ok false w)
    (xs ys : List Nat) (hx : xs.length = len) (hy : ys.length = len) :
    (Op.equalIn (d + 2) t (.agg (u16s xs).toArray) (.agg (u16s ys).toArray)).run P w = .ok (decide (xs = ys)) w := by
  rw [u16s_ints, u16s_ints, run_equalIn_ints w d t e len .u16 ht he hs ha _ _ (by simpa using hx) (by simpa using hy)]
  congr 1
  rw [decide_eq_decide]
  constructor
  · intro h
    have : ∀ (a b : List Nat), (a.map fun c : Nat => (c : Int)) = (b.map fun c : Nat => (c : Int)) → a = b := by
      intro a
      induction a with
      | nil => intro b h; cases b <;> simp at h ⊢
      | cons x a ih =>
        intro b h
        cases b with
        | nil => simp at h
        | cons y b =>
          simp at h
          rw [(by omega : x = y), ih b (by simpa using h.2)]
    exact this _ _ h
  · rintro rfl; rfl
/-- an element of an array value -/
theorem run_index_agg {P : Program} {t e len : Nat} {cs : Array Value} {kd : IntKind} {k : Nat} {u : Value} (ht : P.underlying t = some (.array len e)) (hs : ∀ w, (sizeOf e).run P w = .ok 1 w) (ha : ∀ w, (isAgg e).run P w = .ok false w) (hk : k < len) (hx : cs[k]? = some u) (w : World) :
    (Instr.index t (.agg cs) (.int kd k)).run P w = .ok u w := by
  simp [Instr.index, asIntOf, run_underlying ht, part, hs, ha, hk, hx]
/-- a field of a struct value, of one cell -/
theorem run_field_one {P : Program} {t : Nat} {fs : Array Field} {i : Nat} {f : Field} {cs : Array Value} {u : Value} (ht : P.underlying t = some (.struct fs)) (hf : fs[i]? = some f) (ha : ∀ w, (isAgg f.type).run P w = .ok false w) (hx : cs[f.offset]? = some u) (w : World) :
    (Instr.field t (.agg cs) i).run P w = .ok u w := by
  simp [Instr.field, run_underlying ht, hf, asAgg, part, ha, hx]
@[simp] theorem take_bvs (l : List UInt8) (n : Nat) (h : l.length ≤ n) : (bvs l).take n = bvs l := List.take_of_length_le (by rw [bvs_length]; exact h)
/-- one block -/
def one (g : Nat) : Nat → Prop := fun k => k = g
/-- a row of the call's own, made since w0; nothing that there was then has changed -/
structure Mine (e : Nat) (w0 : World) (v : Value) (n : Nat) (xs : List Value) (w : World) : Prop where
  own : w.ownsRow 0 e 1 v n xs
  ch : Ch Nw w0 w
  fresh : Fresh w0.heap.size v
section
variable {e : Nat} {w0 w w' : World} {v v' : Value} {n n' : Nat} {xs xs' : List Value}
theorem Mine.nil (e : Nat) (h : Ch Nw w0 w) : Mine e w0 (.slice none 0 0) 0 [] w := ⟨World.ownsRow_nil _ _ _ _, h, fun k hk => by simp [Value.ownBlock] at hk⟩
theorem Mine.of (h : w'.ownsRow 0 e 1 v n xs) (hc : Ch Nw w0 w) (hc' : Ch Nw w w') (hf : Fresh w.heap.size v) : Mine e w0 v n xs w' := ⟨h, hc.trans hc', hf.mono hc.size⟩
theorem Mine.grow (h : Mine e w0 v n xs w) (h1 : w'.ownsRow 0 e 1 v' n' xs') (h2 : Ch (fun k => v.ownBlock = some k) w w') (h3 : v'.ownBlock = v.ownBlock ∨ Fresh w.heap.size v') : Mine e w0 v' n' xs' w' := by
  refine ⟨h1, h.ch.trans' h2 fun j hj e => ?_, ?_⟩
  · have := h.fresh j e; omega
  · rcases h3 with h3 | h3
    · intro k hk; exact h.fresh k (by rw [← h3]; exact hk)
    · exact h3.mono h.ch.size
theorem Mine.drew (h : Mine e w0 v n xs w) : Mine e w0 v n xs w.drew := ⟨h.own, h.ch.drew, h.fresh⟩
theorem Mine.step (h : Mine e w0 v n xs w) (hc : Ch Nw w w') : Mine e w0 v n xs w' := ⟨own_ch h.own hc fun _ _ e => e, h.ch.trans hc, h.fresh⟩
theorem Mine.sl (h : Mine e w0 v n xs w) : Sl w v n xs := Sl.of_own h.own
theorem Mine.setCell (h : Mine e w0 v n xs w) {p : Addr} (hp : w0.heap.size ≤ p.block) (hn : v.ownBlock ≠ some p.block) (u : Value) : Mine e w0 v n xs (w.setCell p u) :=
  ⟨own_ch h.own ((Ch.refl (fun k => k = p.block) w).setCell (.inl rfl) u) fun k hk e => hn (by rw [hk, e]), h.ch.setCell (.inr hp) u, h.fresh⟩
end
theorem bvs_set (l : List UInt8) (k : Nat) (c : UInt8) : (bvs l).toArray.setIfInBounds k (bv c) = (bvs (l.set k c)).toArray := by
  apply Array.ext'
  simp [bvs, List.map_set]
theorem bvs_get {l : List UInt8} {k : Nat} {c : UInt8} (h : l[k]? = some c) : (bvs l)[k]? = some (bv c) := by simp [bvs, h]
/- A struct or an array value of many cells, built. -/
theorem blit_size {cs us : Array Value} {off : Nat} (h : off + us.size ≤ cs.size) : (blit cs off us).size = cs.size := by
  unfold blit
  simp
  omega
theorem blit_step (cs : Array Value) (off : Nat) (u : Value) (us : List Value) (h : off + 1 + us.length ≤ cs.size) : blit (cs.setIfInBounds off u) (off + 1) us.toArray = blit cs off (u :: us).toArray := by
  unfold blit
  apply Array.ext'
  have h1 : off < cs.toList.length := by simp; omega
  have e1 : (cs.toList.set off u).take (off + 1) = cs.toList.take off ++ [u] := by
    rw [List.take_add_one, List.take_set, List.set_eq_of_length_le (by simp; omega), List.getElem?_set_self h1]
    rfl
  have e2 : (cs.toList.set off u).drop (off + 1 + us.length) = cs.toList.drop (off + (us.length + 1)) := by
    rw [List.drop_set, if_pos (by omega), show off + 1 + us.length = off + (us.length + 1) by omega]
  simp only [Array.toList_setIfInBounds, List.size_toArray, List.length_cons, e1, e2, List.append_assoc, List.singleton_append]
theorem foldl_blit : ∀ (us : List Value) (cs : Array Value) (off : Nat) (s : Nat), off + s + us.length ≤ cs.size → ((us.zipIdx s).foldl (fun cs x => cs.setIfInBounds (off + x.2) x.1) cs) = blit cs (off + s) us.toArray
  | [], cs, off, s, h => by
    simp [blit]
  | u :: us, cs, off, s, h => by
    rw [List.zipIdx_cons, List.foldl_cons, foldl_blit us _ off (s + 1) (by simp at h ⊢; omega)]
    exact blit_step cs (off + s) u us (by simp at h; omega)
def fillB (place : Nat → Option (Nat × Nat)) (cells : Array Value) : List (Nat × Value) → Option (Array Value)
  | [] => some cells
  | (i, v) :: rest => match place i with
    | none => none
    | some (off, size) => if v.cells.size = size ∧ off + size ≤ cells.size then fillB place (blit cells off v.cells) rest else none
theorem fill_eq (place : Nat → Option (Nat × Nat)) : ∀ (parts : List (Nat × Value)) (cells : Array Value), Instr.fill place cells parts = fillB place cells parts
  | [], _ => rfl
  | (i, v) :: rest, cells => by
    unfold Instr.fill fillB
    cases place i with
    | none => rfl
    | some x =>
      obtain ⟨off, size⟩ := x
      simp only
      by_cases h : v.cells.size = size ∧ off + size ≤ cells.size
      · rw [if_pos h, if_neg (by
          obtain ⟨h1, h2⟩ := h
          simp [h1]
          omega)]
        rw [← fill_eq place rest]
        congr 1
        have := foldl_blit v.cells.toList cells off 0 (by simp; omega)
        simp only [Nat.add_zero, Array.toArray_toList] at this
        rw [← this, ← Array.foldl_toList]
        simp [Array.toList_zipIdx]
      · rw [if_neg h, if_pos]
        simp only [Bool.or_eq_true, decide_eq_true_eq]
        by_cases h1 : v.cells.size = size
        · right; rw [h1]; have : ¬ off + size ≤ cells.size := fun h2 => h ⟨h1, h2⟩; omega
        · left; exact h1
theorem VBld_struct {P : Program} {t : TypeId} {fs : Array Field} {places : Array (Nat × Nat)} {parts : List (Nat × Value)} {w : World} {K : Value → World → Prop} {cs : Array Value} (ht : P.underlying t = some (.struct fs)) (hz : (P.info? t).map (fun i => i.zero.isSome) = some true)
    (hp : (fs.mapM (fun f => do pure (f.offset, ← sizeOf f.type)) : Sem (Array (Nat × Nat))).run P w = .ok places w) (hf : fillB (places[·]?) (zc P t) parts = some cs) : VBld P t parts w K = K (.agg cs) w := by
  unfold VBld VR
  cases hq : P.info? t with
  | none => simp [hq] at hz
  | some i =>
    cases hi : i.zero with
    | none => simp [hq, hi] at hz
    | some v =>
      have hzc : zc P t = v.cells := by unfold zc; simp [hq, hi]
      simp only [hzc, ← fill_eq] at hf
      simp only [Instr.build, zeroValue, typeInfo, Sem.run_bind, run_program, Result.andThen_ok, hq, hi, Sem.run_pure, run_underlying ht, hp, hf]
@[simp ↓ high] theorem setRow_alloc (w : World) (cs cs' : Array Value) (T : TypeId) (fr : Nat × Nat) : (w.alloc (.cells cs T fr)).setRow w.heap.size cs' = w.alloc (.cells cs' T fr) := by
  unfold World.setRow World.alloc
  congr 1
  apply Array.ext_getElem?
  intro i
  simp [Array.getElem?_modify]
  split
  · rename_i h; subst h; simp
  · rw [Array.getElem?_push, Array.getElem?_push]
    split
    · rename_i h1 h2; exact absurd h2.symm h1
    · rfl
@[simp ↓ high] theorem setRow_drew (w : World) (g : Nat) (cs : Array Value) : w.drew.setRow g cs = (w.setRow g cs).drew := nr rfl
theorem al2_0 (w : World) (A B : Obj) : ((w.alloc A).alloc B).heap[w.heap.size]? = some A := by rw [hp_alloc_lt _ _ _ (by simp), hp_alloc]
theorem al2_1 (w : World) (A B : Obj) : ((w.alloc A).alloc B).heap[w.heap.size + 1]? = some B := hp_alloc_eq _ _ _ (by simp)
theorem al3_0 (w : World) (A B C : Obj) : (((w.alloc A).alloc B).alloc C).heap[w.heap.size]? = some A := by rw [hp_alloc_lt _ _ _ (by simp; omega), al2_0]
theorem al3_1 (w : World) (A B C : Obj) : (((w.alloc A).alloc B).alloc C).heap[w.heap.size + 1]? = some B := by rw [hp_alloc_lt _ _ _ (by simp), al2_1]
theorem al3_2 (w : World) (A B C : Obj) : (((w.alloc A).alloc B).alloc C).heap[w.heap.size + 2]? = some C := hp_alloc_eq _ _ _ (by simp)
/-- A slice's type whose elements are of several cells. -/
structure TyS (P : Program) (t e : TypeId) (z : Value) (size bytes : Nat) : Prop where
  und : P.underlying t = some (.slice e)
  info : (P.info? e).map (fun i => (i.zero, i.size, i.bytes)) = some (some z, size, bytes)
  cells : z.cells.size = size
  pos : 0 < size
section
variable {P : Program} {w : World} {t e ty : TypeId} {z : Value} {size bytes : Nat} {K : Value → World → Prop}
/-- append(v, y...), y m elements that lie at ad -/
theorem VB_appS (T : TyS P t e z size bytes) {v : Value} {n m c : Nat} {xs news : List Value} {ad : Addr} (hown : w.ownsRow 0 e size v n xs) (hl : news.length = m * size) (hsrc : ∀ j u, news[j]? = some u → w.cell? (ad.add j) = some u) (h1 : ∀ u ∈ news, u.oneCell' = true)
    (h63 : n + m ≤ maxLen) (hbytes : (n + m) * bytes ≤ 140737488355328)
    (h : ∀ v' w', w'.ownsRow 0 e size v' (n + m) (xs ++ news) → Ch (fun k => v.ownBlock = some k) w w' → (v'.ownBlock = v.ownBlock ∨ Fresh w.heap.size v') → K v' w') :
    VB P .append #[t, t] ty #[v, .slice (some ad) m c] w K := by
  obtain ⟨i, hi, hz, hsz, hby⟩ := info_parts T.info
  obtain ⟨v', w', hr, k1, k2, _, k4⟩ := run_append_own_at (P := P) w 0 t ty e i z size bytes T.und hi hz hsz hby T.cells T.pos v n xs hown ad m c news hl hsrc h1 h63 hbytes (Nat.zero_le _)
  refine VB_append hr (h v' w' k1 (Ch.of_grown k2) (k4.imp id fun e k hk => ?_))
  rw [e] at hk
  simp at hk
  omega
/-- append(v, x), x laid in a block of its own -/
theorem VB_app1S (T : TyS P t e z size bytes) {v : Value} {n : Nat} {xs us : List Value} (hown : w.ownsRow 0 e size v n xs) (hl : us.length = size) (h1 : ∀ u ∈ us, u.oneCell' = true) (h63 : n + 1 ≤ maxLen) (hbytes : (n + 1) * bytes ≤ 140737488355328)
    (h : ∀ v' w', w'.ownsRow 0 e size v' (n + 1) (xs ++ us) → Ch (fun k => v.ownBlock = some k) w w' → (v'.ownBlock = v.ownBlock ∨ Fresh w.heap.size v') → K v' w') :
    VB P .append #[t, t] ty #[v, .slice (some ⟨w.heap.size, 0, none⟩) 1 1] (w.alloc (.cells us.toArray e)) K := by
  refine VB_appS T (hown.alloc _) (news := us) (by omega) (fun j u hu => ?_) h1 h63 hbytes fun v' w' k1 k2 k3 => h v' w' k1 (((Ch.refl _ w).alloc _).trans k2) (k3.imp id fun h => h.mono (by simp))
  rw [Addr.add_lit, cell_of_row _ _ _ _ _ _ (heap_alloc_new w _)]
  simpa using hu
end
/-- a row of the call's own, of elements of several cells, made since w0; nothing that there was then has changed -/
structure MineS (e size : Nat) (w0 : World) (v : Value) (n : Nat) (xs : List Value) (w : World) : Prop where
  own : w.ownsRow 0 e size v n xs
  ch : Ch Nw w0 w
  fresh : Fresh w0.heap.size v
section
variable {e size : Nat} {w0 w w' : World} {v v' : Value} {n n' : Nat} {xs xs' : List Value}
theorem MineS.nil (e size : Nat) (h : Ch Nw w0 w) : MineS e size w0 (.slice none 0 0) 0 [] w := ⟨World.ownsRow_nil _ _ _ _, h, fun k hk => by simp [Value.ownBlock] at hk⟩
theorem MineS.grow (h : MineS e size w0 v n xs w) (h1 : w'.ownsRow 0 e size v' n' xs') (h2 : Ch (fun k => v.ownBlock = some k) w w') (h3 : v'.ownBlock = v.ownBlock ∨ Fresh w.heap.size v') : MineS e size w0 v' n' xs' w' := by
  refine ⟨h1, h.ch.trans' h2 fun j hj e => ?_, ?_⟩
  · have := h.fresh j e; omega
  · rcases h3 with h3 | h3
    · intro k hk; exact h.fresh k (by rw [← h3]; exact hk)
    · exact h3.mono h.ch.size
theorem MineS.drew (h : MineS e size w0 v n xs w) : MineS e size w0 v n xs w.drew := ⟨h.own, h.ch.drew, h.fresh⟩
theorem MineS.step (h : MineS e size w0 v n xs w) (hc : Ch Nw w w') : MineS e size w0 v n xs w' := ⟨own_ch h.own hc fun _ _ e => e, h.ch.trans hc, h.fresh⟩
end
/-- a row of the call's own, whose elements are of several cells: its block -/
theorem ownS_blk {w : World} {e size n : Nat} {v : Value} {xs : List Value} (h : w.ownsRow 0 e size v n xs) (hn : 0 < n) : ∃ g cap cur, v = .slice (some ⟨g, 0, none⟩) n cap ∧ n ≤ cap ∧ cap ≤ maxLen ∧ w.heap[g]? = some (.cells cur e (0, 0)) ∧ n * size ≤ cur.size ∧ ∀ (j : Nat) (u : Value), xs[j]? = some u → w.cell? ⟨g, j, none⟩ = some u := by
  rcases h.2 with ⟨_, h0⟩ | ⟨g, cap, cur, hv, _, hb, h1, h2, h3, h4⟩
  · omega
  · refine ⟨g, cap, cur, hv, h1, h2, hb, by rw [h3]; exact Nat.mul_le_mul_right _ h1, fun j u hu => ?_⟩
    have := h.cells (g := g) (by rw [hv]; rfl) j u hu
    rwa [Addr.add_lit, Nat.zero_add] at this
end Go.Kin
