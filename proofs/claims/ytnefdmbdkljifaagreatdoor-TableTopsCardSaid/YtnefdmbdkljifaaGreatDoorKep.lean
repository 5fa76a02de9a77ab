/- A thing of one's own, and blocks beside it that stay: more laws. They speak of no program. No condition. -/
import Derived.Test.YtnefdmbdkljifaaGreatDoorPtO
import Derived.Test.YtnefdmbdkljifaaGreatDoorVee
import Derived.Test.YtnefdmbdkljifaaGreatDoorAgg
set_option linter.unusedSimpArgs false
set_option linter.unusedVariables false

/- Arguments that are slices of structs, and their fields, opened. They speak of no program. No condition. -/
namespace Go.Kin
open Go Go.RowKit Go.WideShapes Go.ChangeShapes
section
variable {H : Type} {enc : TypeId × Value → H} {P : Program} {W : World} {base : Nat} {spare : Nat → Bool} {held : Bool} {fuel : Nat} {t e : Nat} {cs : List Value} {x : DataW H × List MemPlace}
/-- a slice of anything: the cells of each element -/
theorem open_rows {r : Reach} {b0 : Nat} {v : Value} {d : DataW H} {p : List MemPlace} {k : Nat} (ht : P.underlying t = some (.slice e)) (hC : P.cellsOf e = k) (hv : Value.okWide P W r b0 t v) (h : DataW.Trod enc P W base spare held t v d p) :
    ∃ (A : Option Addr) (n c : Nat), v = .slice A n c ∧ n ≤ c ∧ c ≤ maxLen ∧ (0 < n → ∃ ad, A = some ad ∧ ad.block < W.heap.size ∧ ∀ j, j < n → ∃ (cs : List Value) (fuel : Nat) (x : DataW H × List MemPlace), cs.length = k ∧ (∀ i, i < k → W.cell? (ad.add (j * k + i)) = cs[i]?) ∧ DataW.trod enc P W base spare held fuel e cs = some x) := by
  have hlt := own_lt ht hv
  obtain ⟨fuel, hf⟩ := h
  obtain ⟨a0, l0, c0, rfl⟩ := okWide_slice ht hv
  rcases Go.Deep.open_slice ht hf with ⟨hcs, _⟩ | ⟨a, len, cap, m, n', DD, Pl, hcs, _, hl, hm, hmm, _, hi⟩
  · simp [Value.cells] at hcs
    obtain ⟨rfl, rfl, rfl⟩ := hcs
    exact ⟨none, 0, 0, rfl, Nat.le_refl _, Nat.zero_le _, fun h => absurd h (by omega)⟩
  · simp [Value.cells] at hcs
    obtain ⟨rfl, rfl, rfl⟩ := hcs
    have hlm : l0 ≤ m := by rw [hmm]; split <;> omega
    refine ⟨some a, l0, c0, rfl, hl, hm, fun _ => ⟨a, rfl, hlt _ rfl, fun j hj => ?_⟩⟩
    obtain ⟨cs', hc, ht'⟩ := hi j (by omega)
    rw [hC] at hc
    obtain ⟨_, hcl, hat⟩ := World.cells?_some hc
    exact ⟨cs', _, _, hcl, fun i hi => by rw [← hat i hi, add_of_add], ht'⟩
/-- a slice value whose elements, of k cells, read as the list l -/
def Lst {α : Type} (w : World) (v : Value) (en : α → List Value) (k : Nat) (l : List α) : Prop := ∃ A c, v = .slice A l.length c ∧ l.length ≤ c ∧ c ≤ maxLen ∧
  (0 < l.length → ∃ b off, A = some ⟨b, off, none⟩ ∧ b < w.heap.size ∧ ∀ j a i u, l[j]? = some a → (en a)[i]? = some u → w.cell? ⟨b, off + j * k + i, none⟩ = some u)
theorem Lst.len {α : Type} {w : World} {v : Value} {en : α → List Value} {k : Nat} {l : List α} (h : Lst w v en k l) (ht : P.underlying t = some (.slice e)) (ty : TypeId) (w' : World) : (Builtin.len_ #[t] ty #[v]).run P w' = .ok (.int .i64 l.length) w' := by
  obtain ⟨A, c, rfl, _⟩ := h
  simp [Builtin.len_, run_underlying ht, goInt]
theorem Lst.ch {α : Type} {S : Nat → Prop} {w w' : World} {v : Value} {en : α → List Value} {k : Nat} {l : List α} (h : Lst w v en k l) (hc : Ch S w w') (hn : ∀ b, b < w.heap.size → v.ownBlock = some b → ¬ S b) : Lst w' v en k l := by
  obtain ⟨A, c, rfl, h1, h2, h3⟩ := h
  refine ⟨A, c, rfl, h1, h2, fun hp => ?_⟩
  obtain ⟨b, off, rfl, h4, h5⟩ := h3 hp
  exact ⟨b, off, rfl, Nat.lt_of_lt_of_le h4 hc.size, fun j a i u hj hi => hc.cell (h5 j a i u hj hi) (hn b h4 rfl)⟩
theorem open_list {α : Type} (good : α → Prop) (en : α → List Value) {k : Nat} (hk : 0 < k) {r : Reach} {b0 : Nat} {v : Value} {d : DataW H} {p : List MemPlace} (ht : P.underlying t = some (.slice e)) (hC : P.cellsOf e = k) (hv : Value.okWide P W r b0 t v) (h : DataW.Trod enc P W base spare held t v d p)
    (hel : ∀ cs fuel x, cs.length = k → DataW.trod enc P W base spare held fuel e cs = some x → ∃ a, good a ∧ cs = en a) : ∃ l : List α, (∀ a ∈ l, good a) ∧ Lst W v en k l := by
  obtain ⟨A, n, c, rfl, h1, h2, h3⟩ := open_rows ht hC hv h
  rcases Nat.eq_zero_or_pos n with rfl | hn
  · exact ⟨[], by simp, A, c, rfl, h1, h2, fun h => absurd h (by simp)⟩
  obtain ⟨ad, rfl, hlt, hj⟩ := h3 hn
  have pick : ∀ j : Fin n, ∃ a : α, good a ∧ ∀ i, i < k → W.cell? (ad.add (j.1 * k + i)) = (en a)[i]? := fun j => by
    obtain ⟨cs, fuel, x, hl, hc, htr⟩ := hj j.1 j.2
    obtain ⟨a, ha, rfl⟩ := hel cs fuel x hl htr
    exact ⟨a, ha, hc⟩
  have pickl : ∀ j : Fin n, ∃ a : α, good a ∧ (en a).length = k ∧ ∀ i, i < k → W.cell? (ad.add (j.1 * k + i)) = (en a)[i]? := fun j => by
    obtain ⟨cs, fuel, x, hl, hc, htr⟩ := hj j.1 j.2
    obtain ⟨a, ha, rfl⟩ := hel cs fuel x hl htr
    exact ⟨a, ha, hl, hc⟩
  obtain ⟨f, hf⟩ := Classical.axiomOfChoice pickl
  have hlen : (List.ofFn f).length = n := List.length_ofFn
  have hget : ∀ j a, (List.ofFn f)[j]? = some a → ∃ hj : j < n, a = f ⟨j, hj⟩ := fun j a ha => by
    have hjn : j < n := by have := (List.getElem?_eq_some_iff.1 ha).1; omega
    rw [List.getElem?_ofFn, dif_pos hjn] at ha
    exact ⟨hjn, (Option.some.inj ha).symm⟩
  have hrd : ∀ j a i u, (List.ofFn f)[j]? = some a → (en a)[i]? = some u → W.cell? (ad.add (j * k + i)) = some u := fun j a i u ha hu => by
    obtain ⟨hjn, rfl⟩ := hget j a ha
    obtain ⟨_, hl, hc⟩ := hf ⟨j, hjn⟩
    have hik : i < k := by have := (List.getElem?_eq_some_iff.1 hu).1; omega
    rw [hc i hik, hu]
  obtain ⟨b, off, spot⟩ := ad
  have hsp : spot = none := by
    obtain ⟨a, ha⟩ : ∃ a, (List.ofFn f)[0]? = some a := ⟨_, List.getElem?_eq_getElem (by omega)⟩
    obtain ⟨h0n, rfl⟩ := hget 0 a ha
    obtain ⟨_, hl, _⟩ := hf ⟨0, h0n⟩
    obtain ⟨u, hu⟩ : ∃ u, (en (f ⟨0, h0n⟩))[0]? = some u := ⟨_, List.getElem?_eq_getElem (by omega)⟩
    have h00 := hrd 0 _ 0 u ha hu
    simp only [Nat.zero_mul, Nat.add_zero, Addr.add, if_true, World.cell?] at h00
    split at h00
    · split at h00
      · cases h00
      · rename_i hs
        simpa using hs
    · cases h00
  subst hsp
  refine ⟨List.ofFn f, fun a ha => ?_, some ⟨b, off, none⟩, c, by rw [hlen], by omega, h2, fun _ => ⟨b, off, rfl, hlt, fun j a i u ha hu => ?_⟩⟩
  · obtain ⟨j, hj⟩ := List.mem_iff_getElem?.1 ha
    obtain ⟨hjn, rfl⟩ := hget j a hj
    exact (hf ⟨j, hjn⟩).1
  · have := hrd j a i u ha hu
    rwa [Addr.add_lit, ← Nat.add_assoc] at this
/-- a field that is a slice of whole numbers -/
theorem trod_nums {k : IntKind} (ht : P.underlying t = some (.slice e)) (he : P.underlying e = some (.int k)) (hc : P.cellsOf e = 1) (h : DataW.trod enc P W base spare held fuel t cs = some x) :
    ∃ (v : Value) (l : List Int), cs = [v] ∧ Sl W v l.length (l.map (Value.int k)) ∧ (∀ z ∈ l, (Lit.int k z).wf = true) ∧ (0 < l.length → ∃ b, v.ownBlock = some b ∧ b < W.heap.size) := by
  rcases open_ints ht he hc h with ⟨rfl, _⟩ | ⟨a, len, cap, zs, rfl, _, hle, hm, hz, _, hcell, hwf⟩
  · exact ⟨_, [], rfl, Sl.nil W, by simp, by simp⟩
  · have hlen : len ≤ zs.length := by rw [hz]; split <;> omega
    have hll : (zs.take len).length = len := by simp; omega
    have hrd : ∀ j u, ((zs.take len).map (Value.int k))[j]? = some u → W.cell? (a.add j) = some u := fun j u hu => by
      have hj : j < len := by
        have := (List.getElem?_eq_some_iff.1 hu).1
        simp at this
        omega
      rw [hcell j (by omega)]
      simp [hj, show j < zs.length by omega] at hu
      simp [List.getD, show j < zs.length by omega, hu]
    refine ⟨_, zs.take len, rfl, ⟨some a, cap, by rw [hll], by omega, hm, fun _ => ⟨a, rfl, hrd⟩⟩, fun z hz => hwf z (List.mem_of_mem_take hz), fun hp => ⟨a.block, rfl, ?_⟩⟩
    have h0 : ((zs.take len).map (Value.int k))[0]? = some (.int k ((zs.take len)[0]'hp)) := by rw [List.getElem?_map, List.getElem?_eq_getElem hp]; rfl
    have := World.block_lt_of_cell? W _ (hrd 0 _ h0)
    rwa [block_of_add] at this
/-- a field that is a slice of bytes -/
theorem trod_bytesF (ht : P.underlying t = some (.slice e)) (he : P.underlying e = some (.int .u8)) (hc : P.cellsOf e = 1) (h : DataW.trod enc P W base spare held fuel t cs = some x) :
    ∃ (v : Value) (l : List UInt8), cs = [v] ∧ Sl W v l.length (bvs l) ∧ (0 < l.length → ∃ b, v.ownBlock = some b ∧ b < W.heap.size) := by
  obtain ⟨v, zs, h1, h2, h3, h4⟩ := trod_nums ht he hc h
  obtain ⟨l, hl1, hl2⟩ := zsOf zs h3
  exact ⟨v, l, h1, by rw [hl2, ← hl1]; exact h2, by rw [hl2]; exact h4⟩
/-- a number of 16 bits, of 8, of 32 -/
theorem trod_u16 (he : P.underlying e = some (.int .u16)) (h : DataW.trod enc P W base spare held fuel e cs = some x) : ∃ z : Nat, cs = [.int .u16 z] ∧ z < 65536 := by
  obtain ⟨z, h1, _, _, h2, _⟩ := trod_nat he (by simp) h
  exact ⟨z, h1, h2 rfl⟩
theorem trod_u8 (he : P.underlying e = some (.int .u8)) (h : DataW.trod enc P W base spare held fuel e cs = some x) : ∃ z : Nat, cs = [.int .u8 z] ∧ z < 256 := by
  obtain ⟨z, h1, _, _, _, h2⟩ := trod_nat he (by simp) h
  exact ⟨z, h1, h2 rfl⟩
theorem trod_u32 (he : P.underlying e = some (.int .u32)) (h : DataW.trod enc P W base spare held fuel e cs = some x) : ∃ z : Nat, cs = [.int .u32 z] ∧ z < 4294967296 := by
  obtain ⟨z, h1, _, h2, _, _⟩ := trod_nat he (by simp) h
  exact ⟨z, h1, h2 rfl⟩
theorem trod_i64 (he : P.underlying e = some (.int .i64)) (h : DataW.trod enc P W base spare held fuel e cs = some x) : ∃ z : Int, cs = [.int .i64 z] ∧ -9223372036854775808 ≤ z ∧ z ≤ 9223372036854775807 := by
  obtain ⟨z, rfl, _, hw⟩ := DataW.trod_int he h
  simp [Lit.wf, IntKind.min, IntKind.max, IntKind.signed, IntKind.bits] at hw
  exact ⟨z, rfl, by omega, by omega⟩
theorem trod_b (he : P.underlying e = some .bool) (h : DataW.trod enc P W base spare held fuel e cs = some x) : ∃ b : Bool, cs = [.bool b] := by
  obtain ⟨b, h1, _⟩ := DataW.trod_bool he h
  exact ⟨b, h1⟩
/-- the cells of a struct from those of its fields -/
theorem cut_cell {cs us : List Value} {off m i : Nat} {u : Value} (h : (cs.drop off).take m = us) (hu : us[i]? = some u) : cs[off + i]? = some u := by
  rw [← h, List.getElem?_take] at hu
  split at hu
  · rwa [List.getElem?_drop] at hu
  · cases hu
end
end Go.Kin

/- Things that lie side by side in memory, each in blocks of its own; a step of one leaves the others. They speak of no program. No condition. -/
namespace Go.Kin
open Go Go.RowKit

/-- blocks of O, and new ones -/
def Gr (O : Nat → Prop) (w w' : World) : Nat → Prop := fun k => O k ∨ (w.heap.size ≤ k ∧ k < w'.heap.size)
theorem Gr.refl {O : Nat → Prop} {w : World} {k : Nat} (h : Gr O w w k) : O k := h.elim id fun h => by omega
theorem Gr.lt {O : Nat → Prop} {w w' : World} (h : ∀ k, O k → k < w.heap.size) (hs : w.heap.size ≤ w'.heap.size) : ∀ k, Gr O w w' k → k < w'.heap.size := fun k hk => hk.elim (fun e => Nat.lt_of_lt_of_le (h k e) hs) fun e => e.2
/-- a thing that lies in some blocks -/
abbrev HP := World → (Nat → Prop) → Prop
structure HOk (H : HP) : Prop where
  lt : ∀ {w O}, H w O → ∀ k, O k → k < w.heap.size
  ch : ∀ {w w' O S}, H w O → Ch S w w' → (∀ k, O k → ¬ S k) → H w' O
  weak : ∀ {w O O'}, H w O → (∀ k, O k → O' k) → (∀ k, O' k → k < w.heap.size) → H w O'
/-- two -/
def Star (H1 H2 : HP) : HP := fun w O => ∃ O1 O2, H1 w O1 ∧ H2 w O2 ∧ (∀ k, O1 k → ¬ O2 k) ∧ (∀ k, O1 k ∨ O2 k → O k) ∧ ∀ k, O k → k < w.heap.size
def Emp : HP := fun w O => ∀ k, O k → k < w.heap.size
/-- many -/
def SepL : List HP → HP
  | [] => Emp
  | H :: l => Star H (SepL l)
theorem Emp.ok : HOk Emp := ⟨fun h => h, fun h hc _ k hk => Nat.lt_of_lt_of_le (h k hk) hc.size, fun _ _ h => h⟩
theorem Star.ok {H1 H2 : HP} (h1 : HOk H1) (h2 : HOk H2) : HOk (Star H1 H2) := by
  refine ⟨fun ⟨_, _, _, _, _, _, h⟩ => h, ?_, ?_⟩
  · rintro w w' O S ⟨O1, O2, a, b, c, d, e⟩ hc hS
    exact ⟨O1, O2, h1.ch a hc fun k hk => hS k (d k (.inl hk)), h2.ch b hc fun k hk => hS k (d k (.inr hk)), c, d, fun k hk => Nat.lt_of_lt_of_le (e k hk) hc.size⟩
  · rintro w O O' ⟨O1, O2, a, b, c, d, e⟩ h h'
    exact ⟨O1, O2, a, b, c, fun k hk => h k (d k hk), h'⟩
theorem SepL.ok : ∀ {l : List HP}, (∀ H ∈ l, HOk H) → HOk (SepL l)
  | [], _ => Emp.ok
  | H :: l, h => Star.ok (h H (by simp)) (SepL.ok fun H hH => h H (by simp [hH]))
section
variable {P : Program} {f : FuncId} {args : Array Value} {R : Value → World → Prop} {H1 H2 H H' : HP} {w w' : World} {O : Nat → Prop}
/-- a step of the first one, a contract -/
theorem Star.step1 (h : Star H1 H2 w O) (h1 : HOk H1) (h2 : HOk H2) (h1' : HOk H') (hf : ∀ O1, H1 w O1 → (∀ k, O1 k → O k) → Ret P f args w fun v w' => R v w' ∧ H' w' (Gr O1 w w') ∧ Ch O1 w w') :
    Ret P f args w fun v w' => R v w' ∧ Star H' H2 w' (Gr O w w') ∧ Ch O w w' := by
  obtain ⟨O1, O2, a, b, c, d, e⟩ := h
  refine (hf O1 a fun k hk => d k (.inl hk)).mono ?_
  rintro v w' ⟨x, y, z⟩
  refine ⟨x, ⟨_, _, y, h2.ch b z fun k hk e => c k e hk, fun k hk hb => ?_, fun k hk => ?_, Gr.lt e z.size⟩, z.mono fun k _ hk => d k (.inl hk)⟩
  · rcases hk with hk | hk
    · exact c k hk hb
    · have := h2.lt b k hb; omega
  · rcases hk with (hk | hk) | hk
    · exact .inl (d k (.inl hk))
    · exact .inr hk
    · exact .inl (d k (.inr hk))
theorem Star.step2 (h : Star H1 H2 w O) (h1 : HOk H1) (h2 : HOk H2) (hf : ∀ O1, H2 w O1 → (∀ k, O1 k → O k) → Ret P f args w fun v w' => R v w' ∧ H' w' (Gr O1 w w') ∧ Ch O1 w w') :
    Ret P f args w fun v w' => R v w' ∧ Star H1 H' w' (Gr O w w') ∧ Ch O w w' := by
  obtain ⟨O1, O2, a, b, c, d, e⟩ := h
  refine (hf O2 b fun k hk => d k (.inr hk)).mono ?_
  rintro v w' ⟨x, y, z⟩
  refine ⟨x, ⟨_, _, h1.ch a z fun k hk e => c k hk e, y, fun k hk hb => ?_, fun k hk => ?_, Gr.lt e z.size⟩, z.mono fun k _ hk => d k (.inr hk)⟩
  · rcases hb with hb | hb
    · exact c k hk hb
    · have := h1.lt a k hk; omega
  · rcases hk with hk | hk | hk
    · exact .inl (d k (.inl hk))
    · exact .inl (d k (.inr hk))
    · exact .inr hk
/-- a step of one of many -/
theorem SepL.step : ∀ {l : List HP} {O : Nat → Prop} {i : Nat}, SepL l w O → (∀ H ∈ l, HOk H) → l[i]? = some H → HOk H' → (∀ O1, H w O1 → (∀ k, O1 k → O k) → Ret P f args w fun v w' => R v w' ∧ H' w' (Gr O1 w w') ∧ Ch O1 w w') →
    Ret P f args w fun v w' => R v w' ∧ SepL (l.set i H') w' (Gr O w w') ∧ Ch O w w'
  | [], _, _, _, _, hi, _, _ => by simp at hi
  | H0 :: l, O, 0, h, hl, hi, h', hf => by
    simp at hi
    subst hi
    exact Star.step1 h (hl _ (by simp)) (SepL.ok fun H hH => hl H (by simp [hH])) h' hf
  | H0 :: l, O, i + 1, h, hl, hi, h', hf => by
    simp at hi
    refine Star.step2 h (hl _ (by simp)) (SepL.ok fun H hH => hl H (by simp [hH])) fun O1 h1 hO => ?_
    exact SepL.step h1 (fun H hH => hl H (by simp [hH])) hi h' fun O2 h2 hO2 => hf O2 h2 fun k hk => hO k (hO2 k hk)
/-- one of many -/
theorem SepL.get : ∀ {l : List HP} {O : Nat → Prop} {i : Nat}, SepL l w O → l[i]? = some H → ∃ O1, H w O1 ∧ ∀ k, O1 k → O k
  | [], _, _, _, hi => by simp at hi
  | H0 :: l, O, 0, ⟨O1, O2, a, _, _, d, _⟩, hi => by
    simp at hi
    subst hi
    exact ⟨O1, a, fun k hk => d k (.inl hk)⟩
  | H0 :: l, O, i + 1, ⟨O1, O2, _, b, _, d, _⟩, hi => by
    simp at hi
    obtain ⟨O3, x, y⟩ := SepL.get b hi
    exact ⟨O3, x, fun k hk => d k (.inr (y k hk))⟩
/-- two of many -/
theorem SepL.lt {l : List HP} (h : SepL l w O) : ∀ k, O k → k < w.heap.size := by
  cases l with
  | nil => exact h
  | cons H l => obtain ⟨_, _, _, _, _, _, e⟩ := h; exact e
/-- one more -/
theorem SepL.cons {l : List HP} {O1 : Nat → Prop} (h : SepL l w O) (h1 : H w O1) (hH : HOk H) (hd : ∀ k, O1 k → ¬ O k) : SepL (H :: l) w fun k => O1 k ∨ O k :=
  ⟨O1, O, h1, h, hd, fun _ hk => hk, fun k hk => hk.elim (hH.lt h1 k) (h.lt k)⟩
/-- a new one, made in a step that changed nothing -/
theorem SepL.born {l : List HP} (h : SepL l w O) (hl : ∀ H ∈ l, HOk H) (hc : Ch Nw w w') (h1 : H w' fun k => w.heap.size ≤ k ∧ k < w'.heap.size) (hH : HOk H) : SepL (H :: l) w' (Gr O w w') := by
  have h2 : SepL l w' O := (SepL.ok hl).ch h hc fun _ _ e => e
  refine ⟨_, O, h1, h2, fun k hk e => ?_, fun k hk => hk.elim .inr .inl, Gr.lt h.lt hc.size⟩
  have := h.lt k e
  omega
end
/-- what was made since W -/
def Own (W u : World) (H : HP) : Prop := ∃ O, H u O ∧ (∀ k, O k → W.heap.size ≤ k) ∧ Ch Nw W u
section
variable {P : Program} {f : FuncId} {args : Array Value} {R : Value → World → Prop} {H H' : HP} {W w w' : World} {l : List HP}
theorem Own.ch (h : Own W w H) : Ch Nw W w := by
  obtain ⟨_, _, _, h⟩ := h
  exact h
theorem Own.begin (W : World) : Own W W (SepL []) := ⟨fun _ => False, fun _ h => h.elim, fun _ h => h.elim, Ch.refl _ _⟩
theorem Own.stay (h : Own W w H) (hH : HOk H) (hc : Ch Nw w w') : Own W w' H := by
  obtain ⟨O, a, b, c⟩ := h
  exact ⟨O, hH.ch a hc fun _ _ e => e, b, c.trans hc⟩
/-- what changes other blocks -/
theorem Own.other {S : Nat → Prop} (h : Own W w H) (hH : HOk H) (hc : Ch S w w') (hS : ∀ O, H w O → ∀ k, S k → ¬ O k ∧ W.heap.size ≤ k) : Own W w' H := by
  obtain ⟨O, a, b, c⟩ := h
  exact ⟨O, hH.ch a hc fun k hk e => (hS O a k e).1 hk, b, c.trans' hc fun k hk e => by have := (hS O a k e).2; omega⟩
theorem Own.all {h1 : HP} (h : Own W w H) (hf : ∀ O, H w O → (∀ k, O k → W.heap.size ≤ k) → Ret P f args w fun v w' => R v w' ∧ h1 w' (Gr O w w') ∧ Ch O w w') : Ret P f args w fun v w' => R v w' ∧ Own W w' h1 := by
  obtain ⟨O, a, b, c⟩ := h
  refine (hf O a b).mono ?_
  rintro v w' ⟨x, y, z⟩
  have hs := c.size
  exact ⟨x, _, y, fun k hk => hk.elim (b k) fun e => by omega, c.trans' z fun k hk e => by have := b k e; omega⟩
/-- a step of one -/
theorem Own.step {i : Nat} (h : Own W w (SepL l)) (hl : ∀ H ∈ l, HOk H) (hi : l[i]? = some H) (hH : HOk H') (hf : ∀ O1, H w O1 → (∀ k, O1 k → W.heap.size ≤ k) → Ret P f args w fun v w' => R v w' ∧ H' w' (Gr O1 w w') ∧ Ch O1 w w') :
    Ret P f args w fun v w' => R v w' ∧ Own W w' (SepL (l.set i H')) :=
  h.all fun _ a b => a.step hl hi hH fun O1 h1 hO => hf O1 h1 fun k hk => b k (hO k hk)
theorem Own.get {i : Nat} (h : Own W w (SepL l)) (hi : l[i]? = some H) : ∃ O, H w O ∧ ∀ k, O k → W.heap.size ≤ k := by
  obtain ⟨O, a, b, _⟩ := h
  obtain ⟨O1, c, d⟩ := a.get hi
  exact ⟨O1, c, fun k hk => b k (d k hk)⟩
/-- one that was made -/
theorem Own.born (h : Own W w (SepL l)) (hl : ∀ H ∈ l, HOk H) (hc : Ch Nw w w') (h1 : H w' fun k => w.heap.size ≤ k ∧ k < w'.heap.size) (hH : HOk H) : Own W w' (SepL (H :: l)) := by
  obtain ⟨O, a, b, c⟩ := h
  have hs := c.size
  exact ⟨_, a.born hl hc h1 hH, fun k hk => hk.elim (b k) fun e => by omega, c.trans hc⟩
theorem Own.imp (h : Own W w H) (hi : ∀ O, H w O → H' w O) : Own W w H' := by
  obtain ⟨O, a, b, c⟩ := h
  exact ⟨O, hi O a, b, c⟩
end
/-- a block of cells -/
def Blk (g : Nat) (cs : Array Value) (T : TypeId) : HP := fun w O => w.heap[g]? = some (.cells cs T (0, 0)) ∧ O g ∧ ∀ k, O k → k < w.heap.size
theorem Blk.ok (g : Nat) (cs : Array Value) (T : TypeId) : HOk (Blk g cs T) :=
  ⟨fun h => h.2.2, fun h hc hS => ⟨hc.obj h.1 (hS g h.2.1), h.2.1, fun k hk => Nat.lt_of_lt_of_le (h.2.2 k hk) hc.size⟩, fun h a b => ⟨h.1, a _ h.2.1, b⟩⟩
/-- a slice that reads as a list -/
def SlH (v : Value) (n : Nat) (xs : List Value) : HP := fun w O => Sl w v n xs ∧ (∀ k, v.ownBlock = some k → O k) ∧ ∀ k, O k → k < w.heap.size
theorem SlH.ok (v : Value) (n : Nat) (xs : List Value) : HOk (SlH v n xs) :=
  ⟨fun h => h.2.2, fun h hc hS => ⟨h.1.ch hc fun k hk => hS k (h.2.1 k hk), h.2.1, fun k hk => Nat.lt_of_lt_of_le (h.2.2 k hk) hc.size⟩, fun h a b => ⟨h.1, fun k hk => a k (h.2.1 k hk), b⟩⟩
/-- a row -/
def RowH (e size : Nat) (v : Value) (n : Nat) (xs : List Value) : HP := fun w O => w.ownsRow 0 e size v n xs ∧ (∀ k, v.ownBlock = some k → O k) ∧ ∀ k, O k → k < w.heap.size
theorem RowH.ok (e size : Nat) (v : Value) (n : Nat) (xs : List Value) : HOk (RowH e size v n xs) :=
  ⟨fun h => h.2.2, fun h hc hS => ⟨own_ch h.1 hc fun k hk => hS k (h.2.1 k hk), h.2.1, fun k hk => Nat.lt_of_lt_of_le (h.2.2 k hk) hc.size⟩, fun h a b => ⟨h.1, fun k hk => a k (h.2.1 k hk), b⟩⟩
end Go.Kin

/- Things side by side: one of them moves. They speak of no program. No condition. -/
namespace Go.Kin
open Go Go.RowKit

section
variable {H H' : HP} {w w' : World}
theorem SepL.move : ∀ {l : List HP} {O : Nat → Prop} {i : Nat}, SepL l w O → (∀ H ∈ l, HOk H) → l[i]? = some H → (∀ O1, H w O1 → (∀ k, O1 k → O k) → H' w' (Gr O1 w w') ∧ Ch O1 w w') → SepL (l.set i H') w' (Gr O w w') ∧ Ch O w w'
  | [], _, _, _, _, hi, _ => by simp at hi
  | H0 :: l, O, 0, ⟨O1, O2, a, b, c, d, e⟩, hl, hi, hf => by
    simp at hi
    subst hi
    obtain ⟨y, z⟩ := hf O1 a fun k hk => d k (.inl hk)
    have h2 : HOk (SepL l) := SepL.ok fun H hH => hl H (by simp [hH])
    refine ⟨⟨_, _, y, h2.ch b z fun k hk e => c k e hk, fun k hk hb => ?_, fun k hk => ?_, Gr.lt e z.size⟩, z.mono fun k _ hk => d k (.inl hk)⟩
    · rcases hk with hk | hk
      · exact c k hk hb
      · have := h2.lt b k hb; omega
    · rcases hk with (hk | hk) | hk
      · exact .inl (d k (.inl hk))
      · exact .inr hk
      · exact .inl (d k (.inr hk))
  | H0 :: l, O, i + 1, ⟨O1, O2, a, b, c, d, e⟩, hl, hi, hf => by
    simp at hi
    have h1 := hl H0 (by simp)
    obtain ⟨y, z⟩ := SepL.move b (fun H hH => hl H (by simp [hH])) hi fun O3 h3 hO => hf O3 h3 fun k hk => d k (.inr (hO k hk))
    refine ⟨⟨_, _, h1.ch a z fun k hk e => c k hk e, y, fun k hk hb => ?_, fun k hk => ?_, Gr.lt e z.size⟩, z.mono fun k _ hk => d k (.inr hk)⟩
    · rcases hb with hb | hb
      · exact c k hk hb
      · have := h1.lt a k hk; omega
    · rcases hk with hk | hk | hk
      · exact .inl (d k (.inl hk))
      · exact .inl (d k (.inr hk))
      · exact .inr hk
theorem Blk.set {g : Nat} {cs : Array Value} {T : TypeId} {O : Nat → Prop} (h : Blk g cs T w O) (i : Nat) (v : Value) : Blk g (cs.setIfInBounds i v) T (w.setCell ⟨g, i, none⟩ v) (Gr O w (w.setCell ⟨g, i, none⟩ v)) ∧ Ch O w (w.setCell ⟨g, i, none⟩ v) := by
  have cs' : Ch O w (w.setCell ⟨g, i, none⟩ v) := (Ch.refl O w).setCell (p := ⟨g, i, none⟩) (.inl h.2.1) v
  exact ⟨⟨by rw [hp_setCell, h.1, setOf_cells], .inl h.2.1, Gr.lt h.2.2 cs'.size⟩, cs'⟩
end
end Go.Kin

/- A thing of one's own, and blocks beside it that stay. They speak of no program. No condition. -/
namespace Go.Kin
open Go Go.RowKit

/-- a thing made since W; blocks that stay as they were in w0 -/
structure Keep (W w0 w : World) (K : Nat → Prop) (H : HP) : Prop where
  ex : ∃ O, H w O ∧ (∀ k, O k → W.heap.size ≤ k) ∧ ∀ k, K k → ¬ O k
  lt : ∀ k, K k → k < w0.heap.size
  ck : Ch (fun k => ¬ K k) w0 w
  ch : Ch Nw W w
section
variable {P : Program} {f : FuncId} {args : Array Value} {R : Value → World → Prop} {H H' : HP} {W w0 w w' : World} {K : Nat → Prop}
theorem Keep.of {O : Nat → Prop} (h : H w O) (hO : ∀ k, O k → W.heap.size ≤ k) (hc : Ch Nw W w) : Keep W w w (fun k => k < w.heap.size ∧ ¬ O k) H := ⟨⟨O, h, hO, fun _ hk => hk.2⟩, fun _ hk => hk.1, Ch.refl _ _, hc⟩
theorem Keep.step (h : Keep W w0 w K H) (hf : ∀ O, H w O → (∀ k, O k → W.heap.size ≤ k) → (∀ k, K k → ¬ O k) → Ret P f args w fun v w' => R v w' ∧ H' w' (Gr O w w') ∧ Ch O w w') :
    Ret P f args w fun v w' => R v w' ∧ Keep W w0 w' K H' := by
  obtain ⟨O, a, b, c⟩ := h.ex
  refine (hf O a b c).mono ?_
  rintro v w' ⟨x, y, z⟩
  have hs := h.ch.size
  have hs0 := h.ck.size
  exact ⟨x, ⟨_, y, fun k hk => hk.elim (b k) fun e => by omega, fun k hk e => e.elim (c k hk) fun e => by have := h.lt k hk; omega⟩, h.lt, h.ck.trans' z fun k hk e hK => c k hK e, h.ch.trans' z fun k hk e => by have := b k e; omega⟩
theorem Keep.stay (h : Keep W w0 w K H) (hH : HOk H) (hc : Ch Nw w w') : Keep W w0 w' K H := by
  obtain ⟨O, a, b, c⟩ := h.ex
  exact ⟨⟨O, hH.ch a hc fun _ _ e => e, b, c⟩, h.lt, h.ck.trans' hc fun _ _ e => e.elim, h.ch.trans hc⟩
/-- what was made since is kept, too -/
theorem Keep.more (h : Keep W w0 w K H) (hH : HOk H) (hc : Ch Nw w w') : Keep W w' w' (fun k => K k ∨ (w.heap.size ≤ k ∧ k < w'.heap.size)) H := by
  obtain ⟨O, a, b, c⟩ := h.ex
  have hs0 := h.ck.size
  have hs := hc.size
  refine ⟨⟨O, hH.ch a hc fun _ _ e => e, b, fun k hk e => hk.elim (fun hk => c k hk e) fun hk => by have := hH.lt a k e; omega⟩, fun k hk => hk.elim (fun hk => by have := h.lt k hk; omega) fun hk => hk.2, Ch.refl _ _, h.ch.trans hc⟩
theorem Keep.stepO {R : Value → World → (Nat → Prop) → Prop} (h : Keep W w0 w K H) (hf : ∀ O, H w O → (∀ k, O k → W.heap.size ≤ k) → (∀ k, K k → ¬ O k) → Ret P f args w fun v w' => ∃ O', R v w' O' ∧ H' w' O' ∧ (∀ k, O' k → Gr O w w' k) ∧ Ch O w w') :
    Ret P f args w fun v w' => ∃ O', R v w' O' ∧ (∀ K' : Nat → Prop, (∀ k, K' k → ¬ O' k ∧ k < w'.heap.size) → Keep W w' w' K' H') ∧ (∀ k, K k → ¬ O' k ∧ k < w'.heap.size) ∧ Ch (fun k => ¬ K k) w0 w' := by
  obtain ⟨O, a, b, c⟩ := h.ex
  refine (hf O a b c).mono ?_
  rintro v w' ⟨O', x, y, y2, z⟩
  have hs := h.ch.size
  have hs0 := h.ck.size
  have hz := z.size
  refine ⟨O', x, fun K' hK' => ⟨⟨O', y, fun k hk => (y2 k hk).elim (b k) fun e => by omega, fun k hk => (hK' k hk).1⟩, fun k hk => (hK' k hk).2, Ch.refl _ _, h.ch.trans' z fun k hk e => by have := b k e; omega⟩, fun k hk => ⟨fun e => (y2 k e).elim (c k hk) fun e => by have := h.lt k hk; omega, by have := h.lt k hk; omega⟩, h.ck.trans' z fun k hk e hK => c k hK e⟩
theorem Keep.back {w1 : World} {K' : Nat → Prop} (h : Keep W w1 w K' H) (hc : Ch (fun k => ¬ K k) w0 w1) (hK : ∀ k, K k → K' k) (hl : ∀ k, K k → k < w0.heap.size) : Keep W w0 w K H := by
  obtain ⟨O, a, b, c⟩ := h.ex
  exact ⟨⟨O, a, b, fun k hk => c k (hK k hk)⟩, hl, hc.trans' h.ck fun k _ e e2 => e (hK k e2), h.ch⟩
theorem Keep.blk (h : Keep W w0 w K H) {g : Nat} (hg : K g) {o : Obj} (hb : w0.heap[g]? = some o) : w.heap[g]? = some o := h.ck.obj hb fun e => e hg
theorem Keep.sl (h : Keep W w0 w K H) {v : Value} {n : Nat} {xs : List Value} (hs : Sl w0 v n xs) (hv : ∀ k, v.ownBlock = some k → K k) : Sl w v n xs := hs.ch h.ck fun k hk e => e (hv k hk)
theorem Keep.own (h : Keep W w0 w K H) {e s n : Nat} {v : Value} {xs : List Value} (hs : w0.ownsRow 0 e s v n xs) (hv : ∀ k, v.ownBlock = some k → K k) : w.ownsRow 0 e s v n xs := own_ch hs h.ck fun k hk e => e (hv k hk)
end
end Go.Kin

/- A variable that holds a row of one's own. It speaks of no program. No condition. -/
namespace Go.Kin
open Go Go.RowKit

/-- a box with a row -/
def BoxRow (g : Nat) (T e size : Nat) (n : Nat) (xs : List Value) : HP := fun w O => ∃ v, w.heap[g]? = some (.cells #[v] T (0, 0)) ∧ w.ownsRow 0 e size v n xs ∧ (∀ k, v.ownBlock = some k → g < k) ∧ O g ∧ (∀ k, v.ownBlock = some k → O k) ∧ ∀ k, O k → k < w.heap.size
theorem BoxRow.ok (g T e size n : Nat) (xs : List Value) : HOk (BoxRow g T e size n xs) :=
  ⟨fun ⟨_, _, _, _, _, _, h⟩ => h, fun ⟨v, a, b, c, d, e, f⟩ hc hS => ⟨v, hc.obj a (hS g d), own_ch b hc fun k hk => hS k (e k hk), c, d, e, fun k hk => Nat.lt_of_lt_of_le (f k hk) hc.size⟩, fun ⟨v, a, b, c, d, e, _⟩ h h' => ⟨v, a, b, c, h g d, fun k hk => h k (e k hk), h'⟩⟩
theorem BoxRow.begin {w : World} {g T e size : Nat} {O : Nat → Prop} (hb : w.heap[g]? = some (.cells #[.slice none 0 0] T (0, 0))) (hO : O g) (hl : ∀ k, O k → k < w.heap.size) : BoxRow g T e size 0 [] w O :=
  ⟨_, hb, World.ownsRow_nil _ _ _ _, fun k hk => by simp [Value.ownBlock] at hk, hO, fun k hk => by simp [Value.ownBlock] at hk, hl⟩
/-- behind a growth of the row, and the box set -/
theorem BoxRow.grown {w w1 : World} {g T e size n' : Nat} {xs' : List Value} {v v' : Value} {O : Nat → Prop} (hb : w.heap[g]? = some (.cells #[v] T (0, 0))) (hn : ∀ k, v.ownBlock = some k → g < k) (hO : O g) (hvO : ∀ k, v.ownBlock = some k → O k) (hl : ∀ k, O k → k < w.heap.size)
    (own : w1.ownsRow 0 e size v' n' xs') (hc : Ch (fun k => v.ownBlock = some k) w w1) (hf : v'.ownBlock = v.ownBlock ∨ Fresh w.heap.size v') (hlt : ∀ k, v'.ownBlock = some k → k < w1.heap.size) :
    BoxRow g T e size n' xs' (w1.setCell ⟨g, 0, none⟩ v') (Gr O w (w1.setCell ⟨g, 0, none⟩ v')) ∧ Ch O w (w1.setCell ⟨g, 0, none⟩ v') := by
  have hgl := hl g hO
  have hg1 : ∀ k, v'.ownBlock = some k → g < k := by
    intro k h
    rcases hf with hf | hf
    · rw [hf] at h; exact hn k h
    · have := hf k h; omega
  have c1 : Ch (one g) w1 (w1.setCell ⟨g, 0, none⟩ v') := (Ch.refl (one g) w1).setCell (p := ⟨g, 0, none⟩) (.inl rfl) v'
  have hcO : Ch O w w1 := hc.mono fun k _ hk => hvO k hk
  have hcO' : Ch O w (w1.setCell ⟨g, 0, none⟩ v') := hcO.setCell (p := ⟨g, 0, none⟩) (.inl hO) v'
  refine ⟨⟨v', ?_, own_ch own c1 fun k hk e => ?_, hg1, .inl hO, fun k hk => ?_, Gr.lt hl hcO'.size⟩, hcO'⟩
  · rw [hp_setCell, hc.obj hb (fun e => Nat.lt_irrefl _ (hn _ e)), setOf_cells]
    rfl
  · simp only [one] at e
    subst e
    exact Nat.lt_irrefl _ (hg1 _ hk)
  · rcases hf with hf | hf
    · rw [hf] at hk; exact .inl (hvO k hk)
    · exact .inr ⟨hf k hk, by have := hlt k hk; have := c1.size; omega⟩
end Go.Kin

namespace Go.Kin
open Go Go.RowKit
section
variable {P : Program} {f : FuncId} {args : Array Value} {R : Value → World → Prop} {H H' : HP} {W w0 w w' : World} {K : Nat → Prop}
theorem Keep.move (h : Keep W w0 w K H) (hf : ∀ O, H w O → (∀ k, O k → W.heap.size ≤ k) → (∀ k, K k → ¬ O k) → H' w' (Gr O w w') ∧ Ch O w w') : Keep W w0 w' K H' := by
  obtain ⟨O, a, b, c⟩ := h.ex
  obtain ⟨y, z⟩ := hf O a b c
  have hs := h.ch.size
  have hs0 := h.ck.size
  exact ⟨⟨_, y, fun k hk => hk.elim (b k) fun e => by omega, fun k hk e => e.elim (c k hk) fun e => by have := h.lt k hk; omega⟩, h.lt, h.ck.trans' z fun k hk e hK => c k hK e, h.ch.trans' z fun k hk e => by have := b k e; omega⟩
/-- what changes neither what is kept nor what is one's own -/
theorem Keep.other {S : Nat → Prop} (h : Keep W w0 w K H) (hH : HOk H) (hc : Ch S w w') (hS : ∀ O, H w O → ∀ k, S k → ¬ O k ∧ ¬ K k ∧ W.heap.size ≤ k) : Keep W w0 w' K H := by
  obtain ⟨O, a, b, c⟩ := h.ex
  exact ⟨⟨O, hH.ch a hc fun k hk e => (hS O a k e).1 hk, b, c⟩, h.lt, h.ck.trans' hc fun k hk e => (hS O a k e).2.1, h.ch.trans' hc fun k hk e => by have := (hS O a k e).2.2; omega⟩
theorem Keep.base (h : Keep W w0 w K H) : Keep W w w K H := ⟨h.ex, fun k hk => Nat.lt_of_lt_of_le (h.lt k hk) h.ck.size, Ch.refl _ _, h.ch⟩
theorem Keep.less {K' : Nat → Prop} (h : Keep W w w K H) (hK : ∀ k, K' k → K k) : Keep W w w K' H := ⟨by
  obtain ⟨O, a, b, c⟩ := h.ex
  exact ⟨O, a, b, fun k hk => c k (hK k hk)⟩, fun k hk => h.lt k (hK k hk), Ch.refl _ _, h.ch⟩
theorem Keep.lst {α : Type} {en : α → List Value} {n : Nat} {v : Value} {l : List α} (h : Keep W w0 w K H) (hl : Lst w0 v en n l) (hv : ∀ k, v.ownBlock = some k → K k) : Lst w v en n l := hl.ch h.ck fun b _ hb e => e (hv b hb)
end
end Go.Kin
