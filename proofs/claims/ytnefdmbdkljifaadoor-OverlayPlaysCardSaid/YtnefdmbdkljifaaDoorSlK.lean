/- The library's sort of structs, in this family's words: what it changes, and what the row then reads. They speak of no program. No condition. -/
import Derived.Test.YtnefdmbdkljifaaDoorLaid
import Derived.Shelf.SlSortCmp.WholeK
set_option linter.unusedSimpArgs false
set_option linter.unusedVariables false

/- Arguments that are slices of structs, and their fields, opened. They speak of no program. No condition. -/
namespace Go.Kin
open Go Go.RowKit Go.WideShapes Go.ChangeShapes
section
variable {H : Type} {enc : TypeId × Value → H} {P : Program} {W : World} {base : Nat} {spare : Nat → Bool} {held : Bool} {fuel : Nat} {t e : Nat} {cs : List Value} {x : DataW H × List MemPlace}
/-- a slice of anything: the cells of each element -/
theorem open_rows {r : Reach} {b0 : Nat} {v : Value} {d : DataW H} {p : List MemPlace} {k : Nat} (ht : P.underlying t = some (.slice e)) (hC : P.cellsOf e = k) (hv : Value.okWide P W r b0 t v) (h : DataW.Trod enc P W base spare held t v d p) :
    ∃ (A : Option Addr) (n c : Nat), v = .slice A n c ∧ n ≤ c ∧ c ≤ maxLen ∧ (0 < n → ∃ ad, A = some ad ∧ ad.block < W.heap.size ∧ ∀ j, j < n → ∃ (cs : List Value) (fuel : Nat) (x : DataW H × List MemPlace), cs.length = k ∧ (∀ i, i < k → W.cell? (ad.add (j * k + i)) = cs[i]?) ∧ DataW.trod enc P W base spare held fuel e cs = some x) := by
  have hlt := own_lt ht hv
  obtain ⟨fuel, hf⟩ := h
  obtain ⟨a0, l0, c0, rfl⟩ := okWide_slice ht hv
  rcases Go.Deep.open_slice ht hf with ⟨hcs, _⟩ | ⟨a, len, cap, m, n', DD, Pl, hcs, _, hl, hm, hmm, _, hi⟩
  · simp [Value.cells] at hcs
    obtain ⟨rfl, rfl, rfl⟩ := hcs
    exact ⟨none, 0, 0, rfl, Nat.le_refl _, Nat.zero_le _, fun h => absurd h (by omega)⟩
  · simp [Value.cells] at hcs
    obtain ⟨rfl, rfl, rfl⟩ := hcs
    have hlm : l0 ≤ m := by rw [hmm]; split <;> omega
    refine ⟨some a, l0, c0, rfl, hl, hm, fun _ => ⟨a, rfl, hlt _ rfl, fun j hj => ?_⟩⟩
    obtain ⟨cs', hc, ht'⟩ := hi j (by omega)
    rw [hC] at hc
    obtain ⟨_, hcl, hat⟩ := World.cells?_some hc
    exact ⟨cs', _, _, hcl, fun i hi => by rw [← hat i hi, add_of_add], ht'⟩
/-- a slice value whose elements, of k cells, read as the list l -/
def Lst {α : Type} (w : World) (v : Value) (en : α → List Value) (k : Nat) (l : List α) : Prop := ∃ A c, v = .slice A l.length c ∧ l.length ≤ c ∧ c ≤ maxLen ∧
  (0 < l.length → ∃ b off, A = some ⟨b, off, none⟩ ∧ b < w.heap.size ∧ ∀ j a i u, l[j]? = some a → (en a)[i]? = some u → w.cell? ⟨b, off + j * k + i, none⟩ = some u)
theorem Lst.len {α : Type} {w : World} {v : Value} {en : α → List Value} {k : Nat} {l : List α} (h : Lst w v en k l) (ht : P.underlying t = some (.slice e)) (ty : TypeId) (w' : World) : (Builtin.len_ #[t] ty #[v]).run P w' = .ok (.int .i64 l.length) w' := by
  obtain ⟨A, c, rfl, _⟩ := h
  simp [Builtin.len_, run_underlying ht, goInt]
theorem Lst.ch {α : Type} {S : Nat → Prop} {w w' : World} {v : Value} {en : α → List Value} {k : Nat} {l : List α} (h : Lst w v en k l) (hc : Ch S w w') (hn : ∀ b, b < w.heap.size → v.ownBlock = some b → ¬ S b) : Lst w' v en k l := by
  obtain ⟨A, c, rfl, h1, h2, h3⟩ := h
  refine ⟨A, c, rfl, h1, h2, fun hp => ?_⟩
  obtain ⟨b, off, rfl, h4, h5⟩ := h3 hp
  exact ⟨b, off, rfl, Nat.lt_of_lt_of_le h4 hc.size, fun j a i u hj hi => hc.cell (h5 j a i u hj hi) (hn b h4 rfl)⟩
theorem open_list {α : Type} (good : α → Prop) (en : α → List Value) {k : Nat} (hk : 0 < k) {r : Reach} {b0 : Nat} {v : Value} {d : DataW H} {p : List MemPlace} (ht : P.underlying t = some (.slice e)) (hC : P.cellsOf e = k) (hv : Value.okWide P W r b0 t v) (h : DataW.Trod enc P W base spare held t v d p)
    (hel : ∀ cs fuel x, cs.length = k → DataW.trod enc P W base spare held fuel e cs = some x → ∃ a, good a ∧ cs = en a) : ∃ l : List α, (∀ a ∈ l, good a) ∧ Lst W v en k l := by
  obtain ⟨A, n, c, rfl, h1, h2, h3⟩ := open_rows ht hC hv h
  rcases Nat.eq_zero_or_pos n with rfl | hn
  · exact ⟨[], by simp, A, c, rfl, h1, h2, fun h => absurd h (by simp)⟩
  obtain ⟨ad, rfl, hlt, hj⟩ := h3 hn
  have pick : ∀ j : Fin n, ∃ a : α, good a ∧ ∀ i, i < k → W.cell? (ad.add (j.1 * k + i)) = (en a)[i]? := fun j => by
    obtain ⟨cs, fuel, x, hl, hc, htr⟩ := hj j.1 j.2
    obtain ⟨a, ha, rfl⟩ := hel cs fuel x hl htr
    exact ⟨a, ha, hc⟩
  have pickl : ∀ j : Fin n, ∃ a : α, good a ∧ (en a).length = k ∧ ∀ i, i < k → W.cell? (ad.add (j.1 * k + i)) = (en a)[i]? := fun j => by
    obtain ⟨cs, fuel, x, hl, hc, htr⟩ := hj j.1 j.2
    obtain ⟨a, ha, rfl⟩ := hel cs fuel x hl htr
    exact ⟨a, ha, hl, hc⟩
  obtain ⟨f, hf⟩ := Classical.axiomOfChoice pickl
  have hlen : (List.ofFn f).length = n := List.length_ofFn
  have hget : ∀ j a, (List.ofFn f)[j]? = some a → ∃ hj : j < n, a = f ⟨j, hj⟩ := fun j a ha => by
    have hjn : j < n := by have := (List.getElem?_eq_some_iff.1 ha).1; omega
    rw [List.getElem?_ofFn, dif_pos hjn] at ha
    exact ⟨hjn, (Option.some.inj ha).symm⟩
  have hrd : ∀ j a i u, (List.ofFn f)[j]? = some a → (en a)[i]? = some u → W.cell? (ad.add (j * k + i)) = some u := fun j a i u ha hu => by
    obtain ⟨hjn, rfl⟩ := hget j a ha
    obtain ⟨_, hl, hc⟩ := hf ⟨j, hjn⟩
    have hik : i < k := by have := (List.getElem?_eq_some_iff.1 hu).1; omega
    rw [hc i hik, hu]
  obtain ⟨b, off, spot⟩ := ad
  have hsp : spot = none := by
    obtain ⟨a, ha⟩ : ∃ a, (List.ofFn f)[0]? = some a := ⟨_, List.getElem?_eq_getElem (by omega)⟩
    obtain ⟨h0n, rfl⟩ := hget 0 a ha
    obtain ⟨_, hl, _⟩ := hf ⟨0, h0n⟩
    obtain ⟨u, hu⟩ : ∃ u, (en (f ⟨0, h0n⟩))[0]? = some u := ⟨_, List.getElem?_eq_getElem (by omega)⟩
    have h00 := hrd 0 _ 0 u ha hu
    simp only [Nat.zero_mul, Nat.add_zero, Addr.add, if_true, World.cell?] at h00
    split at h00
    · split at h00
      · cases h00
      · rename_i hs
        simpa using hs
    · cases h00
  subst hsp
  refine ⟨List.ofFn f, fun a ha => ?_, some ⟨b, off, none⟩, c, by rw [hlen], by omega, h2, fun _ => ⟨b, off, rfl, hlt, fun j a i u ha hu => ?_⟩⟩
  · obtain ⟨j, hj⟩ := List.mem_iff_getElem?.1 ha
    obtain ⟨hjn, rfl⟩ := hget j a hj
    exact (hf ⟨j, hjn⟩).1
  · have := hrd j a i u ha hu
    rwa [Addr.add_lit, ← Nat.add_assoc] at this
/-- a field that is a slice of whole numbers -/
theorem trod_nums {k : IntKind} (ht : P.underlying t = some (.slice e)) (he : P.underlying e = some (.int k)) (hc : P.cellsOf e = 1) (h : DataW.trod enc P W base spare held fuel t cs = some x) :
    ∃ (v : Value) (l : List Int), cs = [v] ∧ Sl W v l.length (l.map (Value.int k)) ∧ (∀ z ∈ l, (Lit.int k z).wf = true) ∧ (0 < l.length → ∃ b, v.ownBlock = some b ∧ b < W.heap.size) := by
  rcases open_ints ht he hc h with ⟨rfl, _⟩ | ⟨a, len, cap, zs, rfl, _, hle, hm, hz, _, hcell, hwf⟩
  · exact ⟨_, [], rfl, Sl.nil W, by simp, by simp⟩
  · have hlen : len ≤ zs.length := by rw [hz]; split <;> omega
    have hll : (zs.take len).length = len := by simp; omega
    have hrd : ∀ j u, ((zs.take len).map (Value.int k))[j]? = some u → W.cell? (a.add j) = some u := fun j u hu => by
      have hj : j < len := by
        have := (List.getElem?_eq_some_iff.1 hu).1
        simp at this
        omega
      rw [hcell j (by omega)]
      simp [hj, show j < zs.length by omega] at hu
      simp [List.getD, show j < zs.length by omega, hu]
    refine ⟨_, zs.take len, rfl, ⟨some a, cap, by rw [hll], by omega, hm, fun _ => ⟨a, rfl, hrd⟩⟩, fun z hz => hwf z (List.mem_of_mem_take hz), fun hp => ⟨a.block, rfl, ?_⟩⟩
    have h0 : ((zs.take len).map (Value.int k))[0]? = some (.int k ((zs.take len)[0]'hp)) := by rw [List.getElem?_map, List.getElem?_eq_getElem hp]; rfl
    have := World.block_lt_of_cell? W _ (hrd 0 _ h0)
    rwa [block_of_add] at this
/-- a field that is a slice of bytes -/
theorem trod_bytesF (ht : P.underlying t = some (.slice e)) (he : P.underlying e = some (.int .u8)) (hc : P.cellsOf e = 1) (h : DataW.trod enc P W base spare held fuel t cs = some x) :
    ∃ (v : Value) (l : List UInt8), cs = [v] ∧ Sl W v l.length (bvs l) ∧ (0 < l.length → ∃ b, v.ownBlock = some b ∧ b < W.heap.size) := by
  obtain ⟨v, zs, h1, h2, h3, h4⟩ := trod_nums ht he hc h
  obtain ⟨l, hl1, hl2⟩ := zsOf zs h3
  exact ⟨v, l, h1, by rw [hl2, ← hl1]; exact h2, by rw [hl2]; exact h4⟩
/-- a number of 16 bits, of 8, of 32 -/
theorem trod_u16 (he : P.underlying e = some (.int .u16)) (h : DataW.trod enc P W base spare held fuel e cs = some x) : ∃ z : Nat, cs = [.int .u16 z] ∧ z < 65536 := by
  obtain ⟨z, h1, _, _, h2, _⟩ := trod_nat he (by simp) h
  exact ⟨z, h1, h2 rfl⟩
theorem trod_u8 (he : P.underlying e = some (.int .u8)) (h : DataW.trod enc P W base spare held fuel e cs = some x) : ∃ z : Nat, cs = [.int .u8 z] ∧ z < 256 := by
  obtain ⟨z, h1, _, _, _, h2⟩ := trod_nat he (by simp) h
  exact ⟨z, h1, h2 rfl⟩
theorem trod_u32 (he : P.underlying e = some (.int .u32)) (h : DataW.trod enc P W base spare held fuel e cs = some x) : ∃ z : Nat, cs = [.int .u32 z] ∧ z < 4294967296 := by
  obtain ⟨z, h1, _, h2, _, _⟩ := trod_nat he (by simp) h
  exact ⟨z, h1, h2 rfl⟩
theorem trod_i64 (he : P.underlying e = some (.int .i64)) (h : DataW.trod enc P W base spare held fuel e cs = some x) : ∃ z : Int, cs = [.int .i64 z] ∧ -9223372036854775808 ≤ z ∧ z ≤ 9223372036854775807 := by
  obtain ⟨z, rfl, _, hw⟩ := DataW.trod_int he h
  simp [Lit.wf, IntKind.min, IntKind.max, IntKind.signed, IntKind.bits] at hw
  exact ⟨z, rfl, by omega, by omega⟩
theorem trod_b (he : P.underlying e = some .bool) (h : DataW.trod enc P W base spare held fuel e cs = some x) : ∃ b : Bool, cs = [.bool b] := by
  obtain ⟨b, h1, _⟩ := DataW.trod_bool he h
  exact ⟨b, h1⟩
/-- the cells of a struct from those of its fields -/
theorem cut_cell {cs us : List Value} {off m i : Nat} {u : Value} (h : (cs.drop off).take m = us) (hu : us[i]? = some u) : cs[off + i]? = some u := by
  rw [← h, List.getElem?_take] at hu
  split at hu
  · rwa [List.getElem?_drop] at hu
  · cases hu
end
end Go.Kin

namespace Go.Kin
open Go Go.RowKit Go.Sort Go.Proofs

section
variable {α : Type} [Inhabited α] {enc : α → List Value} {k : Nat} {w : World} {b : Nat}
theorem Ch.sortK (blk off n : Nat) (d : Array α) (os : Array Obj) : Ch (Kin.one blk) w (sortWorldK enc k w blk off n d os) := by
  refine ⟨rfl, rfl, rfl, ?_, fun j hj hn => ?_⟩
  · exact size_sortWorldK_c enc k w blk off n d os
  · show ((putRowK enc k (Sort.ahead w n) blk off d).heap ++ os)[j]? = _
    have hs : (putRowK enc k (Sort.ahead w n) blk off d).heap.size = w.heap.size := size_putRowK _ _ _ _ _ _
    rw [Array.getElem?_append_left (by rw [hs]; exact hj)]
    show (mapBlock (Sort.ahead w n) blk _).heap[j]? = _
    have hne : ¬ blk = j := fun e => hn e.symm
    simp [mapBlock, Sort.ahead, Array.getElem?_modify, hne]
theorem holds_own {e n cap : Nat} {xs : List Value} (hk : 0 < k) (hl : ∀ x, (enc x).length = k) (d : Array α) (h : w.ownsRow 0 e k (.slice (some ⟨b, 0, none⟩) n cap) n xs) (hx : xs = d.toList.flatMap enc) (hn : n = d.size) : HoldsK enc k w b 0 d := by
  rcases h.2 with ⟨hv, _⟩ | ⟨g', cap', cur, hv, _, hb, h1, h2, h3, h4⟩
  · cases hv
  · cases hv
    intro j hj
    rw [size_flatK] at hj
    refine ⟨?_, frz_blk hb _⟩
    rw [Nat.zero_add, cell_blk hb, get_flatK _ _ _ _ hj]
    have hjd : j / k < d.size := Nat.div_lt_of_lt_mul (by rw [Nat.mul_comm]; exact hj)
    have hjk : j % k < k := Nat.mod_lt _ hk
    have key : ∀ (l : List α) (j : Nat), j < l.length * k → (l.flatMap enc)[j]? = (l[j / k]?).bind fun x => (enc x)[j % k]? := by
      intro l
      induction l with
      | nil => intro j hj; simp at hj
      | cons x l ih =>
        intro j hj
        rw [List.flatMap_cons]
        by_cases hlt : j < k
        · rw [List.getElem?_append_left (by rw [hl]; exact hlt), Nat.div_eq_of_lt hlt, Nat.mod_eq_of_lt hlt]
          rfl
        · rw [List.getElem?_append_right (by rw [hl]; omega), hl, ih (j - k) (by
            rw [List.length_cons, Nat.add_mul] at hj
            omega)]
          have e1 : j / k = (j - k) / k + 1 := by rw [Nat.div_eq_sub_div hk (by omega)]
          have e2 : j % k = (j - k) % k := by rw [Nat.mod_eq_sub_mod (by omega)]
          rw [e1, e2, List.getElem?_cons_succ]
    have h5 := key d.toList j (by simpa using hj)
    rw [← hx] at h5
    have e5 : d.toList[j / k]? = some d[j / k] := by rw [Array.getElem?_toList, Array.getElem?_eq_getElem hjd]
    rw [e5] at h5
    have h6 : (enc d[j / k]!)[j % k]! = (enc d[j / k])[j % k]'(by rw [hl]; exact hjk) := by
      rw [getElem!_pos d (j / k) hjd, getElem!_pos _ (j % k) (by rw [hl]; exact hjk)]
    rw [h6]
    have h7 : xs[j]? = some ((enc d[j / k])[j % k]'(by rw [hl]; exact hjk)) := by
      rw [h5]
      show (enc d[j / k])[j % k]? = _
      exact List.getElem?_eq_getElem _
    rw [← h4, List.getElem?_take] at h7
    split at h7
    · rw [Array.getElem?_toList] at h7
      exact h7
    · cases h7
theorem lst_holds {n cap : Nat} (hk : 0 < k) (hl : ∀ x, (enc x).length = k) {d : Array α} (hb : b < w.heap.size) (h : HoldsK enc k w b 0 d) (hn : n = d.size) (hc : n ≤ cap) (hm : cap ≤ maxLen) : Lst w (.slice (some ⟨b, 0, none⟩) n cap) enc k d.toList := by
  subst hn
  refine ⟨_, cap, by simp, by simpa using hc, hm, fun _ => ⟨b, 0, rfl, hb, fun j a i u hj hi => ?_⟩⟩
  have hjl : j < d.size := by
    have := (List.getElem?_eq_some_iff.1 hj).1
    simpa using this
  have hik : i < k := by
    have := (List.getElem?_eq_some_iff.1 hi).1
    rw [hl] at this
    exact this
  have hlt : j * k + i < d.size * k := by
    have : (j + 1) * k ≤ d.size * k := Nat.mul_le_mul_right _ hjl
    rw [Nat.add_mul] at this
    omega
  have h1 := (h (j * k + i) (by rw [size_flatK]; exact hlt)).1
  rw [get_flatK _ _ _ _ hlt] at h1
  have e1 : (j * k + i) / k = j := by rw [Nat.add_comm, Nat.add_mul_div_right _ _ hk, Nat.div_eq_of_lt hik, Nat.zero_add]
  have e2 : (j * k + i) % k = i := by rw [Nat.add_comm, Nat.add_mul_mod_self_right, Nat.mod_eq_of_lt hik]
  rw [e1, e2] at h1
  have e3 : d[j]! = a := by
    rw [Array.getElem?_toList] at hj
    rw [getElem!_pos d j hjl]
    rw [Array.getElem?_eq_getElem hjl] at hj
    exact Option.some.inj hj
  rw [e3] at h1
  have e4 : (enc a)[i]! = u := by
    rw [getElem!_pos _ i (by rw [hl]; exact hik)]
    rw [List.getElem?_eq_getElem (by rw [hl]; exact hik)] at hi
    exact Option.some.inj hi
  rw [e4] at h1
  rw [show 0 + j * k + i = 0 + (j * k + i) by omega]
  exact h1
end
end Go.Kin
