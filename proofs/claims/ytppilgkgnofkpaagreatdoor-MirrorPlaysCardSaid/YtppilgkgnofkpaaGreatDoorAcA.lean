/- Acts that lie in a world, apart from some blocks. No condition. -/
import Derived.Test.YtppilgkgnofkpaaGreatDoorRow
import Derived.Test.YtppilgkgnofkpaaGreatDoorAgg
import Derived.OpenShut
import Derived.FnData
import Derived.LaidLaws
import Derived.Handed
import Derived.Test.YtppilgkgnofkpaaGreatDoorDkJ
set_option linter.unusedSimpArgs false
set_option linter.unusedVariables false

/- Arguments that are arrays of whole numbers, opened. They speak of no program. No condition. -/
namespace Go.Kin
open Go Go.RowKit Go.WideShapes Go.ChangeShapes
section
variable {H : Type} {enc : TypeId × Value → H} {P : Program} {W : World} {base : Nat} {spare : Nat → Bool} {held : Bool} {fuel : Nat} {t e n : Nat} {cs : List Value} {x : DataW H × List MemPlace}
/-- an array of whole numbers -/
theorem trod_ints {k : IntKind} (ht : P.underlying t = some (.array n e)) (he : P.underlying e = some (.int k)) (hc : P.cellsOf e = 1) (hn : P.cellsOf t = n) (h : DataW.trod enc P W base spare held fuel t cs = some x) :
    ∃ zs : List Int, zs.length = n ∧ cs = zs.map (Value.int k) ∧ ∀ z ∈ zs, (Lit.int k z).wf = true := by
  obtain ⟨xs, m, _, _, hl, hxl, hi⟩ := DataW.trod_array ht h
  rw [hn] at hl
  have key : ∀ i, i < n → ∃ z, cs[i]? = some (.int k z) ∧ (Lit.int k z).wf = true := fun i hin => by
    have := hi i hin
    rw [hc, Nat.mul_one] at this
    have hx : xs[i]? = some (xs[i]'(by omega)) := List.getElem?_eq_getElem _
    rw [hx] at this
    obtain ⟨z, hz, _, hw⟩ := DataW.trod_int he this
    refine ⟨z, ?_, hw⟩
    have h1 : ((cs.drop i).take 1)[0]? = some (.int k z) := by rw [hz]; rfl
    rw [List.getElem?_take, if_pos (by omega), List.getElem?_drop] at h1
    simpa using h1
  refine ⟨cs.map intOf, by simpa using hl, ?_, ?_⟩
  · apply List.ext_getElem?
    intro i
    by_cases hin : i < n
    · obtain ⟨z, hz, _⟩ := key i hin
      simp [hz, intOf]
    · rw [List.getElem?_eq_none (by omega), List.getElem?_eq_none (by simp; omega)]
  · intro z hz
    obtain ⟨v, hv, rfl⟩ := List.mem_map.1 hz
    obtain ⟨i, hi', hvi⟩ := List.mem_iff_getElem.1 hv
    obtain ⟨z, hz, hw⟩ := key i (by omega)
    rw [List.getElem?_eq_getElem hi', hvi] at hz
    obtain rfl := Option.some.inj hz
    simpa [intOf] using hw
/-- an array of bytes -/
theorem trod_bytesA (ht : P.underlying t = some (.array n e)) (he : P.underlying e = some (.int .u8)) (hc : P.cellsOf e = 1) (hn : P.cellsOf t = n) (h : DataW.trod enc P W base spare held fuel t cs = some x) :
    ∃ l : List UInt8, l.length = n ∧ cs = bvs l := by
  obtain ⟨zs, h1, rfl, h3⟩ := trod_ints ht he hc hn h
  obtain ⟨l, hl1, hl2⟩ := zsOf zs h3
  exact ⟨l, by omega, hl1⟩
/-- an array of numbers of 16 bits -/
theorem trod_u16A (ht : P.underlying t = some (.array n e)) (he : P.underlying e = some (.int .u16)) (hc : P.cellsOf e = 1) (hn : P.cellsOf t = n) (h : DataW.trod enc P W base spare held fuel t cs = some x) :
    ∃ l : List Nat, l.length = n ∧ cs = u16s l ∧ ∀ (i : Nat) (x : Nat), l[i]? = some x → x < 65536 := by
  obtain ⟨zs, h1, rfl, h3⟩ := trod_ints ht he hc hn h
  have hz : ∀ z ∈ zs, 0 ≤ z ∧ z < 65536 := fun z hz => by
    have := h3 z hz
    simp [Lit.wf, IntKind.min, IntKind.max, IntKind.signed, IntKind.bits] at this
    omega
  refine ⟨zs.map Int.toNat, by simpa using h1, ?_, fun i x hx => ?_⟩
  · rw [u16s, List.map_map]
    refine List.map_congr_left fun z h => ?_
    have := hz z h
    simp [u16v]
    omega
  · rw [List.getElem?_map, Option.map_eq_some_iff] at hx
    obtain ⟨z, hz1, rfl⟩ := hx
    have := hz z (List.mem_of_getElem? hz1)
    omega
/-- an unsigned number of 64 bits, of 16, of 8 -/
theorem trod_nat {k : IntKind} (he : P.underlying e = some (.int k)) (hk : k = .u64 ∨ k = .u32 ∨ k = .u16 ∨ k = .u8) (h : DataW.trod enc P W base spare held fuel e cs = some x) : ∃ z : Nat, cs = [.int k z] ∧ (k = .u64 → z < 18446744073709551616) ∧ (k = .u32 → z < 4294967296) ∧ (k = .u16 → z < 65536) ∧ (k = .u8 → z < 256) := by
  obtain ⟨z, rfl, _, hw⟩ := DataW.trod_int he h
  rcases hk with rfl | rfl | rfl | rfl <;> simp [Lit.wf, IntKind.min, IntKind.max, IntKind.signed, IntKind.bits] at hw <;> refine ⟨z.toNat, by congr 2; omega, ?_, ?_, ?_, ?_⟩ <;> intro hh <;> first | omega | cases hh
theorem cells_split {cs : List Value} {a b : Nat} (h : cs.length = a + b) : cs = cs.take a ++ cs.drop a := (List.take_append_drop a cs).symm
/-- an argument's cells -/
theorem open_agg {v : Value} {d : DataW H} {p : List MemPlace} {r : Reach} {b0 : Nat} (hv : Value.okWide P W r b0 t v) (ht : (∃ fs, P.underlying t = some (.struct fs)) ∨ ∃ n e, P.underlying t = some (.array n e)) (h : DataW.Trod enc P W base spare held t v d p) :
    ∃ (fuel : Nat) (cs : List Value), v = .agg cs.toArray ∧ DataW.trod enc P W base spare held fuel t cs = some (d, p) := by
  obtain ⟨fuel, hf⟩ := h
  have : ∃ cs : Array Value, v = .agg cs := by
    unfold Value.okWide at hv
    rcases ht with ⟨fs, ht⟩ | ⟨n, e, ht⟩
    · rw [ht] at hv
      obtain ⟨cs, hcs, _⟩ := hv
      exact ⟨cs, hcs⟩
    · rw [ht] at hv
      obtain ⟨cs, hcs, _⟩ := hv
      exact ⟨cs, hcs⟩
  obtain ⟨cs, rfl⟩ := this
  exact ⟨fuel, cs.toList, by simp, hf⟩
end
end Go.Kin

/- A listed package variable that is an array of whole numbers: its cells. -/
namespace Go.Kin
open Go Go.RowKit Go.WideShapes Go.ChangeShapes
theorem laid_ints {P : Program} {w : World} {nm : String} {g t e n : Nat} {k : IntKind} {zs : List Int} (hg : P.globalNamed nm = some g) (hT : (P.globals[g]?).map (·.type) = some t) (ht : P.underlying t = some (.array n e)) (he : P.underlying e = some (.int k)) (hc : P.cellsOf e = 1) (hn : P.cellsOf t = n) (hz : zs.length = n)
    (h : laidMet P [(nm, .agg (zs.map fun z => .lit (.int k z)))] w) : ∀ i z, zs[i]? = some z → w.cell? ⟨g, i, none⟩ = some (.int k z) := by
  obtain ⟨ps, ⟨g', t', cs, fuel, p, q, h1, h2, h3, h4, _⟩, _⟩ := h
  rw [hg] at h1
  obtain rfl := Option.some.inj h1
  rw [hT] at h2
  obtain rfl := Option.some.inj h2
  obtain ⟨xs, m, _, hx, hl, hxl, hi⟩ := DataW.trod_array ht h4
  have hxs := congrArg Prod.fst hx
  simp at hxs
  intro i z hzi
  have hin : i < n := by have := (List.getElem?_eq_some_iff.1 hzi).1; omega
  have := hi i hin
  rw [hc, Nat.mul_one] at this
  have hxi : xs[i]? = some (xs[i]'(by omega)) := List.getElem?_eq_getElem _
  rw [hxi] at this
  obtain ⟨z', hz', hd, _⟩ := DataW.trod_int he this
  have e1 : (xs.map (·.1))[i]? = some (.lit (.int k z')) := by rw [List.getElem?_map, hxi, hd]; rfl
  rw [← hxs, List.getElem?_map, hzi] at e1
  simp at e1
  subst e1
  rw [World.var?_cell hg h3 i]
  have h5 : ((cs.toList.drop i).take 1)[0]? = some (.int k z) := by rw [hz']; rfl
  rw [List.getElem?_take, if_pos (by omega), List.getElem?_drop] at h5
  simpa using h5
end Go.Kin

/- Arguments that are slices of structs, and their fields, opened. They speak of no program. No condition. -/
namespace Go.Kin
open Go Go.RowKit Go.WideShapes Go.ChangeShapes
section
variable {H : Type} {enc : TypeId × Value → H} {P : Program} {W : World} {base : Nat} {spare : Nat → Bool} {held : Bool} {fuel : Nat} {t e : Nat} {cs : List Value} {x : DataW H × List MemPlace}
/-- a slice of anything: the cells of each element -/
theorem open_rows {r : Reach} {b0 : Nat} {v : Value} {d : DataW H} {p : List MemPlace} {k : Nat} (ht : P.underlying t = some (.slice e)) (hC : P.cellsOf e = k) (hv : Value.okWide P W r b0 t v) (h : DataW.Trod enc P W base spare held t v d p) :
    ∃ (A : Option Addr) (n c : Nat), v = .slice A n c ∧ n ≤ c ∧ c ≤ maxLen ∧ (0 < n → ∃ ad, A = some ad ∧ ad.block < W.heap.size ∧ ∀ j, j < n → ∃ (cs : List Value) (fuel : Nat) (x : DataW H × List MemPlace), cs.length = k ∧ (∀ i, i < k → W.cell? (ad.add (j * k + i)) = cs[i]?) ∧ DataW.trod enc P W base spare held fuel e cs = some x) := by
  have hlt := own_lt ht hv
  obtain ⟨fuel, hf⟩ := h
  obtain ⟨a0, l0, c0, rfl⟩ := okWide_slice ht hv
  rcases Go.Deep.open_slice ht hf with ⟨hcs, _⟩ | ⟨a, len, cap, m, n', DD, Pl, hcs, _, hl, hm, hmm, _, hi⟩
  · simp [Value.cells] at hcs
    obtain ⟨rfl, rfl, rfl⟩ := hcs
    exact ⟨none, 0, 0, rfl, Nat.le_refl _, Nat.zero_le _, fun h => absurd h (by omega)⟩
  · simp [Value.cells] at hcs
    obtain ⟨rfl, rfl, rfl⟩ := hcs
    have hlm : l0 ≤ m := by rw [hmm]; split <;> omega
    refine ⟨some a, l0, c0, rfl, hl, hm, fun _ => ⟨a, rfl, hlt _ rfl, fun j hj => ?_⟩⟩
    obtain ⟨cs', hc, ht'⟩ := hi j (by omega)
    rw [hC] at hc
    obtain ⟨_, hcl, hat⟩ := World.cells?_some hc
    exact ⟨cs', _, _, hcl, fun i hi => by rw [← hat i hi, add_of_add], ht'⟩
/-- a slice value whose elements, of k cells, read as the list l -/
def Lst {α : Type} (w : World) (v : Value) (en : α → List Value) (k : Nat) (l : List α) : Prop := ∃ A c, v = .slice A l.length c ∧ l.length ≤ c ∧ c ≤ maxLen ∧
  (0 < l.length → ∃ b off, A = some ⟨b, off, none⟩ ∧ b < w.heap.size ∧ ∀ j a i u, l[j]? = some a → (en a)[i]? = some u → w.cell? ⟨b, off + j * k + i, none⟩ = some u)
theorem Lst.len {α : Type} {w : World} {v : Value} {en : α → List Value} {k : Nat} {l : List α} (h : Lst w v en k l) (ht : P.underlying t = some (.slice e)) (ty : TypeId) (w' : World) : (Builtin.len_ #[t] ty #[v]).run P w' = .ok (.int .i64 l.length) w' := by
  obtain ⟨A, c, rfl, _⟩ := h
  simp [Builtin.len_, run_underlying ht, goInt]
theorem Lst.ch {α : Type} {S : Nat → Prop} {w w' : World} {v : Value} {en : α → List Value} {k : Nat} {l : List α} (h : Lst w v en k l) (hc : Ch S w w') (hn : ∀ b, b < w.heap.size → v.ownBlock = some b → ¬ S b) : Lst w' v en k l := by
  obtain ⟨A, c, rfl, h1, h2, h3⟩ := h
  refine ⟨A, c, rfl, h1, h2, fun hp => ?_⟩
  obtain ⟨b, off, rfl, h4, h5⟩ := h3 hp
  exact ⟨b, off, rfl, Nat.lt_of_lt_of_le h4 hc.size, fun j a i u hj hi => hc.cell (h5 j a i u hj hi) (hn b h4 rfl)⟩
theorem open_list {α : Type} (good : α → Prop) (en : α → List Value) {k : Nat} (hk : 0 < k) {r : Reach} {b0 : Nat} {v : Value} {d : DataW H} {p : List MemPlace} (ht : P.underlying t = some (.slice e)) (hC : P.cellsOf e = k) (hv : Value.okWide P W r b0 t v) (h : DataW.Trod enc P W base spare held t v d p)
    (hel : ∀ cs fuel x, cs.length = k → DataW.trod enc P W base spare held fuel e cs = some x → ∃ a, good a ∧ cs = en a) : ∃ l : List α, (∀ a ∈ l, good a) ∧ Lst W v en k l := by
  obtain ⟨A, n, c, rfl, h1, h2, h3⟩ := open_rows ht hC hv h
  rcases Nat.eq_zero_or_pos n with rfl | hn
  · exact ⟨[], by simp, A, c, rfl, h1, h2, fun h => absurd h (by simp)⟩
  obtain ⟨ad, rfl, hlt, hj⟩ := h3 hn
  have pick : ∀ j : Fin n, ∃ a : α, good a ∧ ∀ i, i < k → W.cell? (ad.add (j.1 * k + i)) = (en a)[i]? := fun j => by
    obtain ⟨cs, fuel, x, hl, hc, htr⟩ := hj j.1 j.2
    obtain ⟨a, ha, rfl⟩ := hel cs fuel x hl htr
    exact ⟨a, ha, hc⟩
  have pickl : ∀ j : Fin n, ∃ a : α, good a ∧ (en a).length = k ∧ ∀ i, i < k → W.cell? (ad.add (j.1 * k + i)) = (en a)[i]? := fun j => by
    obtain ⟨cs, fuel, x, hl, hc, htr⟩ := hj j.1 j.2
    obtain ⟨a, ha, rfl⟩ := hel cs fuel x hl htr
    exact ⟨a, ha, hl, hc⟩
  obtain ⟨f, hf⟩ := Classical.axiomOfChoice pickl
  have hlen : (List.ofFn f).length = n := List.length_ofFn
  have hget : ∀ j a, (List.ofFn f)[j]? = some a → ∃ hj : j < n, a = f ⟨j, hj⟩ := fun j a ha => by
    have hjn : j < n := by have := (List.getElem?_eq_some_iff.1 ha).1; omega
    rw [List.getElem?_ofFn, dif_pos hjn] at ha
    exact ⟨hjn, (Option.some.inj ha).symm⟩
  have hrd : ∀ j a i u, (List.ofFn f)[j]? = some a → (en a)[i]? = some u → W.cell? (ad.add (j * k + i)) = some u := fun j a i u ha hu => by
    obtain ⟨hjn, rfl⟩ := hget j a ha
    obtain ⟨_, hl, hc⟩ := hf ⟨j, hjn⟩
    have hik : i < k := by have := (List.getElem?_eq_some_iff.1 hu).1; omega
    rw [hc i hik, hu]
  obtain ⟨b, off, spot⟩ := ad
  have hsp : spot = none := by
    obtain ⟨a, ha⟩ : ∃ a, (List.ofFn f)[0]? = some a := ⟨_, List.getElem?_eq_getElem (by omega)⟩
    obtain ⟨h0n, rfl⟩ := hget 0 a ha
    obtain ⟨_, hl, _⟩ := hf ⟨0, h0n⟩
    obtain ⟨u, hu⟩ : ∃ u, (en (f ⟨0, h0n⟩))[0]? = some u := ⟨_, List.getElem?_eq_getElem (by omega)⟩
    have h00 := hrd 0 _ 0 u ha hu
    simp only [Nat.zero_mul, Nat.add_zero, Addr.add, if_true, World.cell?] at h00
    split at h00
    · split at h00
      · cases h00
      · rename_i hs
        simpa using hs
    · cases h00
  subst hsp
  refine ⟨List.ofFn f, fun a ha => ?_, some ⟨b, off, none⟩, c, by rw [hlen], by omega, h2, fun _ => ⟨b, off, rfl, hlt, fun j a i u ha hu => ?_⟩⟩
  · obtain ⟨j, hj⟩ := List.mem_iff_getElem?.1 ha
    obtain ⟨hjn, rfl⟩ := hget j a hj
    exact (hf ⟨j, hjn⟩).1
  · have := hrd j a i u ha hu
    rwa [Addr.add_lit, ← Nat.add_assoc] at this
/-- a field that is a slice of whole numbers -/
theorem trod_nums {k : IntKind} (ht : P.underlying t = some (.slice e)) (he : P.underlying e = some (.int k)) (hc : P.cellsOf e = 1) (h : DataW.trod enc P W base spare held fuel t cs = some x) :
    ∃ (v : Value) (l : List Int), cs = [v] ∧ Sl W v l.length (l.map (Value.int k)) ∧ (∀ z ∈ l, (Lit.int k z).wf = true) ∧ (0 < l.length → ∃ b, v.ownBlock = some b ∧ b < W.heap.size) := by
  rcases open_ints ht he hc h with ⟨rfl, _⟩ | ⟨a, len, cap, zs, rfl, _, hle, hm, hz, _, hcell, hwf⟩
  · exact ⟨_, [], rfl, Sl.nil W, by simp, by simp⟩
  · have hlen : len ≤ zs.length := by rw [hz]; split <;> omega
    have hll : (zs.take len).length = len := by simp; omega
    have hrd : ∀ j u, ((zs.take len).map (Value.int k))[j]? = some u → W.cell? (a.add j) = some u := fun j u hu => by
      have hj : j < len := by
        have := (List.getElem?_eq_some_iff.1 hu).1
        simp at this
        omega
      rw [hcell j (by omega)]
      simp [hj, show j < zs.length by omega] at hu
      simp [List.getD, show j < zs.length by omega, hu]
    refine ⟨_, zs.take len, rfl, ⟨some a, cap, by rw [hll], by omega, hm, fun _ => ⟨a, rfl, hrd⟩⟩, fun z hz => hwf z (List.mem_of_mem_take hz), fun hp => ⟨a.block, rfl, ?_⟩⟩
    have h0 : ((zs.take len).map (Value.int k))[0]? = some (.int k ((zs.take len)[0]'hp)) := by rw [List.getElem?_map, List.getElem?_eq_getElem hp]; rfl
    have := World.block_lt_of_cell? W _ (hrd 0 _ h0)
    rwa [block_of_add] at this
/-- a field that is a slice of bytes -/
theorem trod_bytesF (ht : P.underlying t = some (.slice e)) (he : P.underlying e = some (.int .u8)) (hc : P.cellsOf e = 1) (h : DataW.trod enc P W base spare held fuel t cs = some x) :
    ∃ (v : Value) (l : List UInt8), cs = [v] ∧ Sl W v l.length (bvs l) ∧ (0 < l.length → ∃ b, v.ownBlock = some b ∧ b < W.heap.size) := by
  obtain ⟨v, zs, h1, h2, h3, h4⟩ := trod_nums ht he hc h
  obtain ⟨l, hl1, hl2⟩ := zsOf zs h3
  exact ⟨v, l, h1, by rw [hl2, ← hl1]; exact h2, by rw [hl2]; exact h4⟩
/-- a number of 16 bits, of 8, of 32 -/
theorem trod_u16 (he : P.underlying e = some (.int .u16)) (h : DataW.trod enc P W base spare held fuel e cs = some x) : ∃ z : Nat, cs = [.int .u16 z] ∧ z < 65536 := by
  obtain ⟨z, h1, _, _, h2, _⟩ := trod_nat he (by simp) h
  exact ⟨z, h1, h2 rfl⟩
theorem trod_u8 (he : P.underlying e = some (.int .u8)) (h : DataW.trod enc P W base spare held fuel e cs = some x) : ∃ z : Nat, cs = [.int .u8 z] ∧ z < 256 := by
  obtain ⟨z, h1, _, _, _, h2⟩ := trod_nat he (by simp) h
  exact ⟨z, h1, h2 rfl⟩
theorem trod_u32 (he : P.underlying e = some (.int .u32)) (h : DataW.trod enc P W base spare held fuel e cs = some x) : ∃ z : Nat, cs = [.int .u32 z] ∧ z < 4294967296 := by
  obtain ⟨z, h1, _, h2, _, _⟩ := trod_nat he (by simp) h
  exact ⟨z, h1, h2 rfl⟩
theorem trod_i64 (he : P.underlying e = some (.int .i64)) (h : DataW.trod enc P W base spare held fuel e cs = some x) : ∃ z : Int, cs = [.int .i64 z] ∧ -9223372036854775808 ≤ z ∧ z ≤ 9223372036854775807 := by
  obtain ⟨z, rfl, _, hw⟩ := DataW.trod_int he h
  simp [Lit.wf, IntKind.min, IntKind.max, IntKind.signed, IntKind.bits] at hw
  exact ⟨z, rfl, by omega, by omega⟩
theorem trod_b (he : P.underlying e = some .bool) (h : DataW.trod enc P W base spare held fuel e cs = some x) : ∃ b : Bool, cs = [.bool b] := by
  obtain ⟨b, h1, _⟩ := DataW.trod_bool he h
  exact ⟨b, h1⟩
/-- the cells of a struct from those of its fields -/
theorem cut_cell {cs us : List Value} {off m i : Nat} {u : Value} (h : (cs.drop off).take m = us) (hu : us[i]? = some u) : cs[off + i]? = some u := by
  rw [← h, List.getElem?_take] at hu
  split at hu
  · rwa [List.getElem?_drop] at hu
  · cases hu
end
end Go.Kin

/- The disk's laws: their own functions. No condition but on sizes. -/
namespace Go.Proofs.YtppilgkgnofkpaaGreatDoor
open Go.RowKit Go.Kin

/-- bytes, again and again, to so many -/
def fullN (b : Byts) (n : Nat) : Byts := (List.range n).map fun i => b.getD (i % b.length) 0
def fullB (b : Byts) : Byts := fullN b 512
theorem fullN_len (b : Byts) (n : Nat) : (fullN b n).length = n := by simp [fullN]
theorem fullB_len (b : Byts) : (fullB b).length = 512 := fullN_len b 512
theorem fullN_succ (b : Byts) (n : Nat) : fullN b (n + 1) = fullN b n ++ [b.getD (n % b.length) 0] := by
  unfold fullN
  rw [List.range_succ, List.map_append]
  rfl
theorem full_any (v : Value) (b : Byts) (w : World) (hs : Sl w v b.length (bvs b)) (hlen : b.length ≤ 1000000) :
    Ret Tryz.prog 32 #[v] w fun v' w' => Mine 5 w v' 512 (bvs (fullB b)) w' := by
  refine v_enter Tryz.func32 Tryz.ntmps32 rfl (by simp) fun R' hR => ?_
  have hone : ∀ {u : World} {v : Value} {n : Nat} {l : List UInt8} (c : UInt8) {K : Value → World → Prop} {ty : TypeId}, Mine 5 w v n (bvs l) u → n ≤ 2000000 → (∀ v' u', Mine 5 w v' (n + 1) (bvs (l ++ [c])) u' → K v' u') → VB Tryz.prog .append #[59, 59] ty #[v, .slice (some ⟨u.heap.size, 0, none⟩) 1 1] (u.alloc (.cells #[.int .u8 c.toNat] 5)) K := by
    intro u v n l c K ty h1 h3 h4
    refine VB_app1 tyB h1.own rfl (by unfold maxLen; omega) (by omega) fun v' u' d4 d5 d6 => ?_
    have h5 := h1.grow d4 d5 d6
    exact h4 _ _ (by rw [bvs_append]; exact h5)
  simp [go_sem]
  refine v_loop (fun r f u => ∃ j, j ≤ 512 ∧ r = 512 - j ∧ f 0 = v ∧ Mine 5 w (f 3) j (bvs (fullN b j)) u) 512
    ⟨0, by omega, rfl, by simp, by simpa [fullN, bvs] using Mine.nil _ (Ch.refl Nw w)⟩ ?_
  rintro J hJ _ f u ⟨j, hj, rfl, f0, hm⟩
  have hlm := hm.sl.len Tryz.underlying59 3
  by_cases hj5 : j < 512
  · have hji : (j : Int) < 512 := by omega
    have hln := (hs.ch hm.ch fun _ _ e => e).len Tryz.underlying59 3
    have hnx := fullN_succ b j
    by_cases hb : b = []
    · subst hb
      simp at hnx
      simp [go_sem, hlm, hji, f0, hln]
      refine hone 0 hm (by omega) fun v' u' hm' => ?_
      simp [go_sem]
      exact Rnd.intro (512 - (j + 1)) (by omega) (hJ _ _ _ ⟨j + 1, by omega, rfl, by simp [f0], by rw [hnx]; simpa using hm'⟩)
    · have hbl : 0 < b.length := List.length_pos_iff.2 hb
      have hb0 : ((b.length : Int) == 0) = false := beq_false_of_ne (by omega)
      obtain ⟨i, hi⟩ : ∃ i, j % b.length = i := ⟨_, rfl⟩
      have hrem : (j : Int) % (b.length : Int) = (i : Int) := by rw [← hi]; omega
      have hrem2 : (j : Int).tmod (b.length : Int) = (i : Int) := by rw [Int.tmod_eq_emod_of_nonneg (by omega)]; exact hrem
      have hml : i < b.length := by rw [← hi]; exact Nat.mod_lt _ hbl
      rw [hi] at hnx
      obtain ⟨c, hc⟩ : ∃ c, b.getD i 0 = c := ⟨_, rfl⟩
      rw [hc] at hnx
      have hget : (bvs b)[i]? = some (.int .u8 c.toNat) := by
        unfold bvs
        rw [List.getElem?_map, List.getElem?_eq_getElem hml, ← hc, List.getD_eq_getElem?_getD, List.getElem?_eq_getElem hml]
        rfl
      obtain ⟨ad, hat, hcl, _⟩ := (hs.ch hm.ch fun _ _ e => e).at tyB (bvs_length b) hget
      simp [go_sem, hlm, hji, f0, hln, hb0, hb, hrem, hrem2, hat, hcl]
      refine hone c hm (by omega) fun v' u' hm' => ?_
      simp [go_sem]
      exact Rnd.intro (512 - (j + 1)) (by omega) (hJ _ _ _ ⟨j + 1, by omega, rfl, by simp [f0], by rw [hnx]; simpa using hm'⟩)
  · obtain rfl : j = 512 := by omega
    simp [go_sem, hlm]
    exact hR _ _ hm
/-- an act -/
structure Ac where
  d : Nat
  k : Nat
  addr : Nat
  v : Value
  b : Byts
  short : Bool
  n : Int
  pv : Value
  ps : List Int
def acv (a : Ac) : List Value := [.int .u8 a.d, .int .u8 a.k, .int .u16 a.addr, a.v, .bool a.short, .int .i64 a.n, a.pv]
def Ac.bytes (a : Ac) : Byts := if a.short then a.b else fullB a.b
/-- an act that lies in a world -/
structure Ac.In (w : World) (a : Ac) : Prop where
  addr : a.addr < 65536
  d : a.d < 256
  k : a.k < 256
  n : -9223372036854775808 ≤ a.n ∧ a.n ≤ 9223372036854775807
  sl : Sl w a.v a.b.length (bvs a.b)
  lt : ∀ k, 0 < a.b.length → a.v.ownBlock = some k → k < w.heap.size
  ps : Sl w a.pv a.ps.length (a.ps.map (Value.int .i64))
  plt : ∀ k, 0 < a.ps.length → a.pv.ownBlock = some k → k < w.heap.size
  pr : ∀ x ∈ a.ps, -9223372036854775808 ≤ x ∧ x ≤ 9223372036854775807
theorem great_any (v : Value) (L : List Ac) (w : World) (hL : Lst w v acv 7 L) (hin : ∀ a ∈ L, a.In w) :
    Ret Tryz.prog 30 #[v] w fun v' w' => ∃ g, v' = .bool g ∧ (g = false → L.length ≤ 100 ∧ ∀ a ∈ L, a.b.length ≤ 600 ∧ a.ps.length ≤ 200) ∧ w' = w := by
  refine v_enter Tryz.func30 Tryz.ntmps30 rfl (by simp) fun R' hR => ?_
  have hlen := hL.len Tryz.underlying90 3
  by_cases h100 : (100 : Int) < (L.length : Int)
  · simp [go_sem, hlen, h100]
    exact hR _ _ ⟨true, rfl, by simp, rfl⟩
  simp [go_sem, hlen, h100]
  obtain ⟨A0, c0, rfl, _, _, hrd⟩ := id hL
  refine v_loop (fun r f u => ∃ (i : Nat), r = L.length - i ∧ i ≤ L.length ∧ f 0 = .slice A0 L.length c0 ∧ f 3 = .int .i64 i ∧ (∀ j a, j < i → L[j]? = some a → a.b.length ≤ 600 ∧ a.ps.length ≤ 200) ∧ u = w) L.length
    ⟨0, rfl, by omega, by simp, by simp, fun j a h => absurd h (by omega), rfl⟩ ?_
  rintro J hJ _ f u ⟨i, rfl, hi, f0, f3, hall, rfl⟩
  by_cases hlt : i < L.length
  · obtain ⟨a, ha⟩ : ∃ a, L[i]? = some a := ⟨_, List.getElem?_eq_getElem hlt⟩
    obtain ⟨b, off, rfl, hblt, hrd⟩ := hrd (by omega)
    have q3 := hrd i a 3 _ ha rfl
    have q6 := hrd i a 6 _ ha rfl
    have hai := hin a (List.mem_of_getElem? ha)
    obtain ⟨A1, c1, hav, _⟩ := hai.sl
    obtain ⟨A2, c2, hap, _⟩ := hai.ps
    rw [hav] at q3
    rw [hap] at q6
    have hii : (i : Int) < L.length := by omega
    have hwi : IntKind.i64.wrap ((i : Int) + 1) = ((i + 1 : Nat) : Int) := by rw [IntKind.wrap_i64]; omega
    by_cases h6 : (600 : Int) < (a.b.length : Int)
    · simp [go_sem, f0, f3, hii, hlt, q3, h6]
      exact hR _ _ ⟨true, rfl, by simp, rfl⟩
    · by_cases h2 : (200 : Int) < (a.ps.length : Int)
      · simp [go_sem, f0, f3, hii, hlt, q3, q6, h6, h2]
        exact hR _ _ ⟨true, rfl, by simp, rfl⟩
      · simp [go_sem, f0, f3, hii, hlt, q3, q6, h6, h2, hwi]
        refine Rnd.intro (L.length - (i + 1)) (by omega) (hJ _ _ _ ⟨i + 1, rfl, by omega, by simp [f0], by simp, fun j a' hj ha' => ?_, rfl⟩)
        by_cases hji : j = i
        · subst hji
          rw [ha] at ha'
          cases ha'
          omega
        · exact hall j a' (by omega) ha'
  · obtain rfl : i = L.length := by omega
    simp [go_sem, f0, f3]
    refine hR _ _ ⟨false, rfl, fun _ => ⟨by omega, fun a ha => ?_⟩, rfl⟩
    obtain ⟨j, hj⟩ := List.mem_iff_getElem?.1 ha
    exact hall j a (List.getElem?_eq_some_iff.1 hj).1 hj
end Go.Proofs.YtppilgkgnofkpaaGreatDoor

namespace Go.Proofs.YtppilgkgnofkpaaGreatDoor
open Go.RowKit Go.Kin

/-- an act that lies in a world, its bytes and picks apart from X -/
structure Ac.At (w : World) (a : Ac) (X : Nat → Prop) : Prop where
  addr : a.addr < 65536
  d : a.d < 256
  n : -9223372036854775808 ≤ a.n ∧ a.n ≤ 9223372036854775807
  sl : Sl w a.v a.b.length (bvs a.b)
  vX : 0 < a.b.length → ∀ k, a.v.ownBlock = some k → ¬ X k ∧ k < w.heap.size
  bl : a.b.length ≤ 1000000
  ps : Sl w a.pv a.ps.length (a.ps.map (Value.int .i64))
  pX : 0 < a.ps.length → ∀ k, a.pv.ownBlock = some k → ¬ X k ∧ k < w.heap.size
  pl : a.ps.length ≤ 1000000
  pr : ∀ x ∈ a.ps, -9223372036854775808 ≤ x ∧ x ≤ 9223372036854775807
section
variable {w w1 w' : World} {S X : Nat → Prop}
theorem Ac.At.ch {a : Ac} (h : Ac.At w a X) (hc : Ch Nw w w') : Ac.At w' a X := ⟨h.addr, h.d, h.n, h.sl.ch hc fun _ _ e => e, fun h0 k hk => ⟨(h.vX h0 k hk).1, Nat.lt_of_lt_of_le (h.vX h0 k hk).2 hc.size⟩, h.bl, h.ps.ch hc fun _ _ e => e, fun h0 k hk => ⟨(h.pX h0 k hk).1, Nat.lt_of_lt_of_le (h.pX h0 k hk).2 hc.size⟩, h.pl, h.pr⟩
theorem Ac.At.bytes {a : Ac} (h : Ac.At w a X) {v : Value} {B : Nat} (hb : w.heap.size ≤ B) (hv : a.short = true ∧ v = a.v ∨ Fresh B v) (hX : ∀ k, X k → k < w.heap.size) (h0 : 0 < a.bytes.length) : ∀ k, v.ownBlock = some k → ¬ X k := by
  intro k hk
  rcases hv with ⟨hs, rfl⟩ | hf
  · have e : a.bytes = a.b := by unfold Ac.bytes; rw [if_pos hs]
    rw [e] at h0
    exact (h.vX h0 k hk).1
  · have := hf k hk
    exact fun e => by have := hX k e; omega
end
end Go.Proofs.YtppilgkgnofkpaaGreatDoor
