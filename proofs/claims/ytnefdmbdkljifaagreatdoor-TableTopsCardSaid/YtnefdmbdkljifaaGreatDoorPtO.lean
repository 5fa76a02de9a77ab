/- Arguments that are pointers, opened; the variable ptr.wide as the text lays it. No condition. -/
import Derived.Test.YtnefdmbdkljifaaGreatDoorBase
import Derived.ProofKit
import Derived.Deep.Slices
import Derived.Deep.Fields
import Derived.Test.YtnefdmbdkljifaaGreatDoorAgg
import Derived.OpenShut
import Derived.FnData
import Derived.LaidLaws
import Derived.Handed
import Derived.Test.YtnefdmbdkljifaaGreatDoorRows
import Derived.Test.YtnefdmbdkljifaaGreatDoorCards
import Derived.Test.YtnefdmbdkljifaaGreatDoorTie
import Derived.Test.YtnefdmbdkljifaaGreatDoorPtB
import Derived.Test.YtnefdmbdkljifaaGreatDoorShaB
import Derived.Test.YtnefdmbdkljifaaGreatDoorBsl
import Derived.LaidSub
import Derived.LaidHandle
import Derived.SevenTiedAt
set_option linter.unusedSimpArgs false
set_option linter.unusedVariables false

/- The last step of a law's row: a call that answers true and changes nothing that there was. It speaks of no program. No condition. -/
namespace Go.Kin
open Go Go.RowKit Go.WideShapes Go.ChangeShapes
section
variable {H : Type} {enc : TypeId × Value → H} {P : Program}
theorem post_of_below {f : Func} {s : ChangeSpec} {apart fresh handsOn again : Bool} {W W' : World} {args : Array Value} {v : Value} {ds gs : List (DataW H)} {before pa pv : List MemPlace}
    (hW : DataW.Whole enc P f.params.toList s.vars apart W args.toList ds gs before)
    (hres : ∀ (b : Nat) (sp : Nat → Bool) (hd : Bool), DataW.TrodAll enc P W' b sp hd f.resultTypes.toList (v.resultList f.resultTypes.size) (s.fn H (ds ++ gs)).results [])
    (hargs : ∀ sp : Nat → Bool, (∀ p ∈ before, sp p.block = true) → DataW.TrodAll enc P W' 0 sp true f.params.toList args.toList (s.fn H (ds ++ gs)).args pa)
    (hvars : ∀ sp : Nat → Bool, (∀ p ∈ before, sp p.block = true) → DataW.TrodVars enc P W' sp s.vars (s.fn H (ds ++ gs)).vars pv)
    (hps : before = pa ++ pv) (hb : Below W.heap.size W W')
    (hok : ∀ (j : Nat) (t : TypeId) (r : Value), f.resultTypes[j]? = some t → (v.resultList f.resultTypes.size)[j]? = some r → Value.okWide P W' .any 0 t r) :
    s.post enc P f apart fresh handsOn again W args v W' := by
  have hlt : ∀ p ∈ before, p.block < W.heap.size := fun p hp => hW.lt p hp
  have hold : ∀ p ∈ before, (fun b => decide (b < W.heap.size)) p.block = true := fun p hp => by simpa using hlt p hp
  refine ⟨ds, gs, before, [], pa, pv, hW, hres _ _ _, hargs _ hold, hvars _ hold, World.keptBut_mono (fun p hp => ⟨hp, ?_⟩) (hb.frame (· ∈ before)), fun _ => ?_⟩
  · rw [hps, List.mem_append] at hp
    exact Or.inr hp
  · obtain ⟨_, _, _, _, _, hz, hn⟩ := hW
    refine ⟨hok, _, _, ([] ++ pa) ++ pv, ⟨[] ++ pa, pv, trodAll_append (hargs _ (fun _ _ => rfl)) (hres _ _ _), hvars _ (fun _ _ => rfl), rfl, ?_, ?_⟩, ?_⟩
    · intro b off hp
      have hin : MemPlace.cell b off ∈ before := by rw [hps]; simpa using hp
      rw [hb.frozen (hlt _ hin)]
      exact hz b off hin
    · intro ha
      have := hn ha
      rw [hps] at this
      simpa using this
    · intro p hp _
      rw [hps]
      simpa using hp

/-- The arguments read behind the call as before it. -/
theorem trodAll_below (hl : laidOutB P = true) {W W' : World} (hb : Below W.heap.size W W') : ∀ (ts : List TypeId) (vs : List Value) (ds : List (DataW H)) (ps : List MemPlace),
    (ts.all fun t => P.readableRec t && decide (t < P.types.size)) = true → DataW.TrodAll enc P W 0 (fun _ => true) true ts vs ds ps → (∀ x ∈ ps, x.block < W.heap.size) →
    ∀ sp : Nat → Bool, (∀ p ∈ ps, sp p.block = true) → DataW.TrodAll enc P W' 0 sp true ts vs ds ps := by
  intro ts
  induction ts with
  | nil =>
    intro vs ds ps _ h _ sp _
    cases vs <;> cases ds <;> first | exact h | exact h.elim
  | cons t ts ih =>
    intro vs ds ps hr h hlt sp hsp
    simp only [List.all_cons, Bool.and_eq_true, decide_eq_true_eq] at hr
    cases vs with
    | nil => cases ds <;> exact h.elim
    | cons v vs =>
      cases ds with
      | nil => exact h.elim
      | cons d ds =>
        obtain ⟨p, q, h1, h2, rfl⟩ := h
        exact ⟨p, q, WideElems.Trod_stays hl hr.1.1 hr.1.2 h1 (fun x hx => hb.same (hlt x (by simp [hx]))) (fun x hx => hsp x (by simp [hx])),
          ih vs ds q hr.2 h2 (fun x hx => hlt x (by simp [hx])) sp (fun x hx => hsp x (by simp [hx])), rfl⟩

/-- A law's post: true, and the arguments as they were. -/
theorem post_law {f : Func} {s : ChangeSpec} {W W' : World} {args : Array Value} {ds : List (DataW H)} {before p : List MemPlace} (hl : laidOutB P = true)
    (hW : DataW.Whole enc P f.params.toList s.vars false W args.toList ds [] before) (hA : DataW.TrodAll enc P W 0 (fun _ => true) true f.params.toList args.toList ds p) (hp : before = p ++ [])
    (hr : (f.params.toList.all fun t => P.readableRec t && decide (t < P.types.size)) = true) {tb : TypeId} (hres : f.resultTypes = #[tb]) (htb : P.underlying tb = some .bool)
    (hs : s.fn H (ds ++ []) = { results := [.lit (.bool true)], args := ds }) (hv : s.vars = []) (hb : Below W.heap.size W W') :
    s.post enc P f false true false false W args (.bool true) W' := by
  have hlt : ∀ x ∈ p, x.block < W.heap.size := fun x hx => hW.lt x (by rw [hp]; simp [hx])
  refine post_of_below (pa := p) (pv := []) hW (fun b sp hd => ?_) (fun sp hsp => ?_) (fun sp _ => ?_) hp hb ?_
  · rw [hs, hres]
    exact trodAll_mk1 (shut_bool htb _)
  · rw [hs]
    exact trodAll_below hl hb _ _ _ _ hr hA hlt sp fun x hx => hsp x (by rw [hp]; simp [hx])
  · rw [hs, hv]
    rfl
  · exact ok_one hres rfl (okWide_bool_mk htb _)

theorem zsOf (zs : List Int) (h : ∀ n ∈ zs, (Lit.int .u8 n).wf = true) : ∃ l : List UInt8, zs.map (Value.int .u8) = bvs l ∧ l.length = zs.length := by
  refine ⟨zs.map fun n => UInt8.ofNat n.toNat, ?_, by simp⟩
  unfold bvs
  rw [List.map_map]
  refine List.map_congr_left fun n hn => ?_
  have := h n hn
  simp [Lit.wf, IntKind.min, IntKind.max, IntKind.signed, IntKind.bits] at this
  simp [bv]
  omega
/-- An argument that is a slice of bytes. -/
theorem open_bytes {W : World} {spare : Nat → Bool} {held : Bool} {t e : TypeId} {r : Reach} {b0 : Nat} {v : Value} {d : DataW H} {p : List MemPlace} (ht : P.underlying t = some (.slice e)) (he : P.underlying e = some (.int .u8)) (hc : P.cellsOf e = 1)
    (hv : Value.okWide P W r b0 t v) (h : DataW.Trod enc P W 0 spare held t v d p) : ∃ l : List UInt8, Sl W v l.length (bvs l) := by
  obtain ⟨fuel, hf⟩ := h
  rcases open_ints ht he hc hf with ⟨hcs, _⟩ | ⟨a, len, cap, zs, hcs, _, hle, hm, hz, _, hcell, hwf⟩
  · obtain ⟨a0, l0, c0, rfl⟩ := okWide_slice ht hv
    simp [Value.cells] at hcs
    obtain ⟨rfl, rfl, rfl⟩ := hcs
    exact ⟨[], Sl.nil W⟩
  · obtain ⟨a0, l0, c0, rfl⟩ := okWide_slice ht hv
    simp [Value.cells] at hcs
    obtain ⟨rfl, rfl, rfl⟩ := hcs
    have hlen : l0 ≤ zs.length := by rw [hz]; split <;> omega
    obtain ⟨l, hl1, hl2⟩ := zsOf (zs.take l0) fun n hn => hwf n (List.mem_of_mem_take hn)
    have hll : l.length = l0 := by rw [hl2]; simp; omega
    refine ⟨l, some a, c0, by rw [hll], by omega, hm, fun _ => ⟨a, rfl, fun j u hu => ?_⟩⟩
    have hj : j < l0 := by
      have := (List.getElem?_eq_some_iff.1 hu).1
      rw [bvs_length] at this
      omega
    rw [← hl1] at hu
    rw [hcell j (by omega)]
    simp [hj, show j < zs.length by omega] at hu
    simp [List.getD, show j < zs.length by omega, hu]
/-- An argument that is an unsigned number. -/
theorem open_u64 {W : World} {spare : Nat → Bool} {held : Bool} {t : TypeId} {r : Reach} {b0 : Nat} {v : Value} {d : DataW H} {p : List MemPlace} (ht : P.underlying t = some (.int .u64))
    (hv : Value.okWide P W r b0 t v) (h : DataW.Trod enc P W 0 spare held t v d p) : ∃ n : Nat, v = .int .u64 n ∧ n < 18446744073709551616 := by
  obtain ⟨a, rfl, _, _, wa⟩ := open_int ht hv h
  simp [Lit.wf, IntKind.min, IntKind.max, IntKind.signed, IntKind.bits] at wa
  exact ⟨a.toNat, by congr 1; omega, by omega⟩
/-- An argument's own block is one of the world's. -/
theorem own_lt {W : World} {t e : TypeId} {r : Reach} {b0 : Nat} {v : Value} (ht : P.underlying t = some (.slice e)) (hv : Value.okWide P W r b0 t v) : ∀ k, v.ownBlock = some k → k < W.heap.size := by
  obtain ⟨A, n, c, rfl⟩ := okWide_slice ht hv
  intro k hk
  cases A with
  | none => simp [Value.ownBlock] at hk
  | some a =>
    simp only [Value.ownBlock, Option.some.injEq] at hk
    subst hk
    simp only [Value.okWide, ht, Cell.okWide, Cell.ok, World.has, World.shape?] at hv
    obtain ⟨_, _, _, _, row, cells, hs, _⟩ := hv
    cases hg : W.heap[a.block]? with
    | none => simp [hg] at hs
    | some o => exact lt_of_block hg
/-- An argument that is a slice of pairs of whole numbers. -/
theorem open_pairs {W : World} {spare : Nat → Bool} {held : Bool} {t e : TypeId} {f0 f1 : Field} {k0 k1 : IntKind} {r : Reach} {b0 : Nat} {v : Value} {d : DataW H} {p : List MemPlace} (ht : P.underlying t = some (.slice e)) (he : P.underlying e = some (.struct #[f0, f1])) (hC : P.cellsOf e = 2)
    (hone : Go.Deep.oneCellFields P #[f0, f1] = true) (u0 : P.underlying f0.type = some (.int k0)) (u1 : P.underlying f1.type = some (.int k1))
    (hv : Value.okWide P W r b0 t v) (h : DataW.Trod enc P W 0 spare held t v d p) : ∃ (A : Option Addr) (n c : Nat) (D N : Nat → Int), v = .slice A n c ∧ n ≤ c ∧ c ≤ maxLen ∧
      (0 < n → ∃ ad, A = some ad ∧ ad.block < W.heap.size ∧ ∀ j, j < n → W.cell? (ad.add (j * 2)) = some (.int k0 (D j)) ∧ W.cell? (ad.add (j * 2 + 1)) = some (.int k1 (N j)) ∧ (Lit.int k0 (D j)).wf = true ∧ (Lit.int k1 (N j)).wf = true) := by
  have hlt := own_lt ht hv
  obtain ⟨fuel, hf⟩ := h
  obtain ⟨a0, l0, c0, rfl⟩ := okWide_slice ht hv
  rcases Go.Deep.open_slice ht hf with ⟨hcs, _⟩ | ⟨a, len, cap, m, n', DD, Pl, hcs, _, hl, hm, hmm, _, hi⟩
  · simp [Value.cells] at hcs
    obtain ⟨rfl, rfl, rfl⟩ := hcs
    exact ⟨none, 0, 0, fun _ => 0, fun _ => 0, rfl, Nat.le_refl _, Nat.zero_le _, fun h => absurd h (by omega)⟩
  · simp [Value.cells] at hcs
    obtain ⟨rfl, rfl, rfl⟩ := hcs
    have hlm : l0 ≤ m := by rw [hmm]; split <;> omega
    refine ⟨some a, l0, c0, fun j => intOf ((W.cell? (a.add (j * 2))).getD undef), fun j => intOf ((W.cell? (a.add (j * 2 + 1))).getD undef), rfl, hl, hm, fun _ => ⟨a, rfl, hlt _ rfl, fun j hj => ?_⟩⟩
    obtain ⟨cs', hc, ht'⟩ := hi j (by omega)
    rw [hC] at hc
    obtain ⟨ys, n2, _, _, hlen, hyl, hfld⟩ := DataW.trod_struct he ht'
    obtain ⟨_, hcl, hat⟩ := World.cells?_some hc
    match cs', hcl with
    | [c1, c2], _ =>
      obtain ⟨o0, s0⟩ := Go.Deep.hone_of hone 0 f0 rfl
      obtain ⟨o1, s1⟩ := Go.Deep.hone_of hone 1 f1 rfl
      have g0 := hfld 0 f0 rfl
      have g1 := hfld 1 f1 rfl
      rw [o0, s0] at g0
      rw [o1, s1] at g1
      have hy : ys.length = 2 := hyl
      have hy0 : ys[0]? = some (ys[0]'(by omega)) := List.getElem?_eq_getElem _
      have hy1 : ys[1]? = some (ys[1]'(by omega)) := List.getElem?_eq_getElem _
      rw [hy0] at g0
      rw [hy1] at g1
      obtain ⟨z0, q0, _, w0⟩ := DataW.trod_int u0 g0
      obtain ⟨z1, q1, _, w1⟩ := DataW.trod_int u1 g1
      simp at q0 q1
      have e0 := hat 0 (by omega)
      have e1 := hat 1 (by omega)
      rw [add_of_add] at e0 e1
      simp only [Nat.add_zero] at e0
      have e0 : W.cell? (a.add (j * 2)) = some (.int k0 z0) := by rw [e0]; simp [q0]
      have e1 : W.cell? (a.add (j * 2 + 1)) = some (.int k1 z1) := by rw [e1]; simp [q1]
      simp only [e0, e1, Option.getD_some]
      exact ⟨rfl, rfl, w0, w1⟩
end
end Go.Kin

/- Arguments that are arrays of whole numbers, opened. They speak of no program. No condition. -/
namespace Go.Kin
open Go Go.RowKit Go.WideShapes Go.ChangeShapes
section
variable {H : Type} {enc : TypeId × Value → H} {P : Program} {W : World} {base : Nat} {spare : Nat → Bool} {held : Bool} {fuel : Nat} {t e n : Nat} {cs : List Value} {x : DataW H × List MemPlace}
/-- an array of whole numbers -/
theorem trod_ints {k : IntKind} (ht : P.underlying t = some (.array n e)) (he : P.underlying e = some (.int k)) (hc : P.cellsOf e = 1) (hn : P.cellsOf t = n) (h : DataW.trod enc P W base spare held fuel t cs = some x) :
    ∃ zs : List Int, zs.length = n ∧ cs = zs.map (Value.int k) ∧ ∀ z ∈ zs, (Lit.int k z).wf = true := by
  obtain ⟨xs, m, _, _, hl, hxl, hi⟩ := DataW.trod_array ht h
  rw [hn] at hl
  have key : ∀ i, i < n → ∃ z, cs[i]? = some (.int k z) ∧ (Lit.int k z).wf = true := fun i hin => by
    have := hi i hin
    rw [hc, Nat.mul_one] at this
    have hx : xs[i]? = some (xs[i]'(by omega)) := List.getElem?_eq_getElem _
    rw [hx] at this
    obtain ⟨z, hz, _, hw⟩ := DataW.trod_int he this
    refine ⟨z, ?_, hw⟩
    have h1 : ((cs.drop i).take 1)[0]? = some (.int k z) := by rw [hz]; rfl
    rw [List.getElem?_take, if_pos (by omega), List.getElem?_drop] at h1
    simpa using h1
  refine ⟨cs.map intOf, by simpa using hl, ?_, ?_⟩
  · apply List.ext_getElem?
    intro i
    by_cases hin : i < n
    · obtain ⟨z, hz, _⟩ := key i hin
      simp [hz, intOf]
    · rw [List.getElem?_eq_none (by omega), List.getElem?_eq_none (by simp; omega)]
  · intro z hz
    obtain ⟨v, hv, rfl⟩ := List.mem_map.1 hz
    obtain ⟨i, hi', hvi⟩ := List.mem_iff_getElem.1 hv
    obtain ⟨z, hz, hw⟩ := key i (by omega)
    rw [List.getElem?_eq_getElem hi', hvi] at hz
    obtain rfl := Option.some.inj hz
    simpa [intOf] using hw
/-- an array of bytes -/
theorem trod_bytesA (ht : P.underlying t = some (.array n e)) (he : P.underlying e = some (.int .u8)) (hc : P.cellsOf e = 1) (hn : P.cellsOf t = n) (h : DataW.trod enc P W base spare held fuel t cs = some x) :
    ∃ l : List UInt8, l.length = n ∧ cs = bvs l := by
  obtain ⟨zs, h1, rfl, h3⟩ := trod_ints ht he hc hn h
  obtain ⟨l, hl1, hl2⟩ := zsOf zs h3
  exact ⟨l, by omega, hl1⟩
/-- an array of numbers of 16 bits -/
theorem trod_u16A (ht : P.underlying t = some (.array n e)) (he : P.underlying e = some (.int .u16)) (hc : P.cellsOf e = 1) (hn : P.cellsOf t = n) (h : DataW.trod enc P W base spare held fuel t cs = some x) :
    ∃ l : List Nat, l.length = n ∧ cs = u16s l ∧ ∀ (i : Nat) (x : Nat), l[i]? = some x → x < 65536 := by
  obtain ⟨zs, h1, rfl, h3⟩ := trod_ints ht he hc hn h
  have hz : ∀ z ∈ zs, 0 ≤ z ∧ z < 65536 := fun z hz => by
    have := h3 z hz
    simp [Lit.wf, IntKind.min, IntKind.max, IntKind.signed, IntKind.bits] at this
    omega
  refine ⟨zs.map Int.toNat, by simpa using h1, ?_, fun i x hx => ?_⟩
  · rw [u16s, List.map_map]
    refine List.map_congr_left fun z h => ?_
    have := hz z h
    simp [u16v]
    omega
  · rw [List.getElem?_map, Option.map_eq_some_iff] at hx
    obtain ⟨z, hz1, rfl⟩ := hx
    have := hz z (List.mem_of_getElem? hz1)
    omega
/-- an unsigned number of 64 bits, of 16, of 8 -/
theorem trod_nat {k : IntKind} (he : P.underlying e = some (.int k)) (hk : k = .u64 ∨ k = .u32 ∨ k = .u16 ∨ k = .u8) (h : DataW.trod enc P W base spare held fuel e cs = some x) : ∃ z : Nat, cs = [.int k z] ∧ (k = .u64 → z < 18446744073709551616) ∧ (k = .u32 → z < 4294967296) ∧ (k = .u16 → z < 65536) ∧ (k = .u8 → z < 256) := by
  obtain ⟨z, rfl, _, hw⟩ := DataW.trod_int he h
  rcases hk with rfl | rfl | rfl | rfl <;> simp [Lit.wf, IntKind.min, IntKind.max, IntKind.signed, IntKind.bits] at hw <;> refine ⟨z.toNat, by congr 2; omega, ?_, ?_, ?_, ?_⟩ <;> intro hh <;> first | omega | cases hh
theorem cells_split {cs : List Value} {a b : Nat} (h : cs.length = a + b) : cs = cs.take a ++ cs.drop a := (List.take_append_drop a cs).symm
/-- an argument's cells -/
theorem open_agg {v : Value} {d : DataW H} {p : List MemPlace} {r : Reach} {b0 : Nat} (hv : Value.okWide P W r b0 t v) (ht : (∃ fs, P.underlying t = some (.struct fs)) ∨ ∃ n e, P.underlying t = some (.array n e)) (h : DataW.Trod enc P W base spare held t v d p) :
    ∃ (fuel : Nat) (cs : List Value), v = .agg cs.toArray ∧ DataW.trod enc P W base spare held fuel t cs = some (d, p) := by
  obtain ⟨fuel, hf⟩ := h
  have : ∃ cs : Array Value, v = .agg cs := by
    unfold Value.okWide at hv
    rcases ht with ⟨fs, ht⟩ | ⟨n, e, ht⟩
    · rw [ht] at hv
      obtain ⟨cs, hcs, _⟩ := hv
      exact ⟨cs, hcs⟩
    · rw [ht] at hv
      obtain ⟨cs, hcs, _⟩ := hv
      exact ⟨cs, hcs⟩
  obtain ⟨cs, rfl⟩ := this
  exact ⟨fuel, cs.toList, by simp, hf⟩
end
end Go.Kin

/- A listed package variable that is an array of whole numbers: its cells. -/
namespace Go.Kin
open Go Go.RowKit Go.WideShapes Go.ChangeShapes
theorem laid_ints {P : Program} {w : World} {nm : String} {g t e n : Nat} {k : IntKind} {zs : List Int} (hg : P.globalNamed nm = some g) (hT : (P.globals[g]?).map (·.type) = some t) (ht : P.underlying t = some (.array n e)) (he : P.underlying e = some (.int k)) (hc : P.cellsOf e = 1) (hn : P.cellsOf t = n) (hz : zs.length = n)
    (h : laidMet P [(nm, .agg (zs.map fun z => .lit (.int k z)))] w) : ∀ i z, zs[i]? = some z → w.cell? ⟨g, i, none⟩ = some (.int k z) := by
  obtain ⟨ps, ⟨g', t', cs, fuel, p, q, h1, h2, h3, h4, _⟩, _⟩ := h
  rw [hg] at h1
  obtain rfl := Option.some.inj h1
  rw [hT] at h2
  obtain rfl := Option.some.inj h2
  obtain ⟨xs, m, _, hx, hl, hxl, hi⟩ := DataW.trod_array ht h4
  have hxs := congrArg Prod.fst hx
  simp at hxs
  intro i z hzi
  have hin : i < n := by have := (List.getElem?_eq_some_iff.1 hzi).1; omega
  have := hi i hin
  rw [hc, Nat.mul_one] at this
  have hxi : xs[i]? = some (xs[i]'(by omega)) := List.getElem?_eq_getElem _
  rw [hxi] at this
  obtain ⟨z', hz', hd, _⟩ := DataW.trod_int he this
  have e1 : (xs.map (·.1))[i]? = some (.lit (.int k z')) := by rw [List.getElem?_map, hxi, hd]; rfl
  rw [← hxs, List.getElem?_map, hzi] at e1
  simp at e1
  subst e1
  rw [World.var?_cell hg h3 i]
  have h5 : ((cs.toList.drop i).take 1)[0]? = some (.int k z) := by rw [hz']; rfl
  rw [List.getElem?_take, if_pos (by omega), List.getElem?_drop] at h5
  simpa using h5
end Go.Kin

namespace Go.Proofs.YtnefdmbdkljifaaGreatDoor
open Go.ChangeShapes Go.WideShapes Go.ChangeAt Go.RowKit Go.Kin

theorem own : ownKnob Tryz.prog.godebug = none := by kernel_rfl
theorem laidOut : laidOutB Tryz.prog = true := by kernel_rfl
theorem wide_g : Tryz.prog.globalNamed "kintsugi/ptr.wide" = some 1 := by kernel_rfl
theorem wide_T : (Tryz.prog.globals[(1 : Nat)]?).map (·.type) = some 170 := by kernel_rfl
theorem lw_of_laid1 {w : World} (h' : laidMet Tryz.prog [("kintsugi/ptr.wide", .agg (([0, 1, 2, 2, 2, 2] : List Int).map fun z => .lit (.int .i64 z)))] w) : Lw w := by
  have := laid_ints wide_g wide_T Tryz.underlying170 Tryz.underlying3 (by kernel_rfl) (by kernel_rfl) rfl h'
  exact this
theorem no_stand {P : Program} {ps : Array TypeId} (h : (ps.toList.all fun t => !P.wantsStandIn t) = true) (j : Nat) (t : TypeId) (ht : ps[j]? = some t) : P.wantsStandIn t = false := by
  rw [List.all_eq_true] at h
  have := h t (List.mem_of_getElem? (i := j) (by rw [Array.getElem?_toList]; exact ht))
  simpa using this
section
variable {H : Type} {enc : TypeId × Value → H} {P : Program} {W : World} {base : Nat} {spare : Nat → Bool} {held : Bool} {fuel : Nat} {cs : List Value} {x : DataW H × List MemPlace}
theorem open_u8 {t : TypeId} {r : Reach} {b0 : Nat} {v : Value} {d : DataW H} {p : List MemPlace} (ht : P.underlying t = some (.int .u8))
    (hv : Value.okWide P W r b0 t v) (h : DataW.Trod enc P W 0 spare held t v d p) : ∃ n : Nat, v = .int .u8 n ∧ n < 256 := by
  obtain ⟨a, rfl, _, _, wa⟩ := open_int ht hv h
  simp [Lit.wf, IntKind.min, IntKind.max, IntKind.signed, IntKind.bits] at wa
  exact ⟨a.toNat, by congr 1; omega, by omega⟩
theorem open_u32 {t : TypeId} {r : Reach} {b0 : Nat} {v : Value} {d : DataW H} {p : List MemPlace} (ht : P.underlying t = some (.int .u32))
    (hv : Value.okWide P W r b0 t v) (h : DataW.Trod enc P W 0 spare held t v d p) : ∃ n : Nat, v = .int .u32 n ∧ n < 4294967296 := by
  obtain ⟨a, rfl, _, _, wa⟩ := open_int ht hv h
  simp [Lit.wf, IntKind.min, IntKind.max, IntKind.signed, IntKind.bits] at wa
  exact ⟨a.toNat, by congr 1; omega, by omega⟩
theorem open_i64 {t : TypeId} {r : Reach} {b0 : Nat} {v : Value} {d : DataW H} {p : List MemPlace} (ht : P.underlying t = some (.int .i64))
    (hv : Value.okWide P W r b0 t v) (h : DataW.Trod enc P W 0 spare held t v d p) : ∃ n : Int, v = .int .i64 n ∧ -9223372036854775808 ≤ n ∧ n ≤ 9223372036854775807 := by
  obtain ⟨a, rfl, _, _, wa⟩ := open_int ht hv h
  simp [Lit.wf, IntKind.min, IntKind.max, IntKind.signed, IntKind.bits] at wa
  exact ⟨a, rfl, by omega, by omega⟩
set_option maxRecDepth 100000 in
/-- a pointer's cells, read -/
theorem trod_pt (h : DataW.trod enc Tryz.prog W base spare held fuel 37 cs = some x) : ∃ p, PtOk p ∧ cs = (pt p).toList := by
  obtain ⟨xs, m, _, _, hl, hxl, hf⟩ := DataW.trod_struct Tryz.underlying37 h
  have hc : Tryz.prog.cellsOf 37 = 41 := by kernel_rfl
  rw [hc] at hl
  match xs, hxl with
  | [y0, y1, y2, y3, y4, y5, y6], _ =>
    have f0 := hf 0 _ rfl
    have f1 := hf 1 _ rfl
    have f2 := hf 2 _ rfl
    have f3 := hf 3 _ rfl
    have f4 := hf 4 _ rfl
    have f5 := hf 5 _ rfl
    have f6 := hf 6 _ rfl
    obtain ⟨k, hk, _, _, _, hk8⟩ := trod_nat Tryz.underlying5 (.inr (.inr (.inr rfl))) f0
    obtain ⟨lv, hlv, _, _, _, hl8⟩ := trod_nat Tryz.underlying5 (.inr (.inr (.inr rfl))) f1
    obtain ⟨o, ho, _, _, ho16, _⟩ := trod_nat Tryz.underlying31 (.inr (.inr (.inl rfl))) f2
    obtain ⟨f, hff, _, hf32, _, _⟩ := trod_nat Tryz.underlying32 (.inr (.inl rfl)) f3
    obtain ⟨b, hb, hb64, _⟩ := trod_nat Tryz.underlying33 (.inl rfl) f4
    obtain ⟨l, hll, hlc⟩ := trod_bytesA Tryz.underlying34 Tryz.underlying5 (by kernel_rfl) (by kernel_rfl) f5
    obtain ⟨a, hal, hac, halt⟩ := trod_u16A Tryz.underlying35 Tryz.underlying31 (by kernel_rfl) (by kernel_rfl) f6
    have c8 : Tryz.prog.cellsOf 5 = 1 := by kernel_rfl
    have c16 : Tryz.prog.cellsOf 31 = 1 := by kernel_rfl
    have c32 : Tryz.prog.cellsOf 32 = 1 := by kernel_rfl
    have c64 : Tryz.prog.cellsOf 33 = 1 := by kernel_rfl
    have cA : Tryz.prog.cellsOf 34 = 32 := by kernel_rfl
    have cB : Tryz.prog.cellsOf 35 = 4 := by kernel_rfl
    have hk : (cs.drop 0).take (Tryz.prog.cellsOf 5) = [.int .u8 k] := hk
    have hlv : (cs.drop 1).take (Tryz.prog.cellsOf 5) = [.int .u8 lv] := hlv
    have ho : (cs.drop 2).take (Tryz.prog.cellsOf 31) = [.int .u16 o] := ho
    have hff : (cs.drop 3).take (Tryz.prog.cellsOf 32) = [.int .u32 f] := hff
    have hb : (cs.drop 4).take (Tryz.prog.cellsOf 33) = [.int .u64 b] := hb
    have hlc : (cs.drop 5).take (Tryz.prog.cellsOf 34) = bvs l := hlc
    have hac : (cs.drop 37).take (Tryz.prog.cellsOf 35) = u16s a := hac
    rw [c8] at hk hlv
    rw [c16] at ho
    rw [c32] at hff
    rw [c64] at hb
    rw [cA] at hlc
    rw [cB] at hac
    refine ⟨⟨k, lv, o, f, b, l, a⟩, ⟨hk8 rfl, hl8 rfl, ho16 rfl, hf32 rfl, hb64 rfl, hll, hal, fun x hx => ?_⟩, ?_⟩
    · obtain ⟨i, hi⟩ := List.mem_iff_getElem?.1 hx
      exact halt i x hi
    have st : ∀ i j, (cs.drop i).take j ++ cs.drop (i + j) = cs.drop i := fun i j => by rw [← List.drop_drop, List.take_append_drop]
    have e1 : cs = (cs.drop 0).take 1 ++ ((cs.drop 1).take 1 ++ ((cs.drop 2).take 1 ++ ((cs.drop 3).take 1 ++ ((cs.drop 4).take 1 ++ ((cs.drop 5).take 32 ++ (cs.drop 37).take 4))))) := by
      rw [List.take_of_length_le (i := 4) (by simp; omega), st 5 32, st 4 1, st 3 1, st 2 1, st 1 1, st 0 1, List.drop_zero]
    rw [e1, hk, hlv, ho, hff, hb, hlc, hac]
    simp [pt]
/-- cells that lie behind one another, read -/
theorem rows_of {α : Type} {f : α → Array Value} {m : Nat} (Y : Nat → α) : ∀ (n : Nat) (cs : List Value), cs.length = n * m → (∀ i, i < n → (cs.drop (i * m)).take m = (f (Y i)).toList) → ∀ k, k ≤ n → cs.take (k * m) = rowsL f ((List.range k).map Y) := by
  intro n cs hl h k
  induction k with
  | zero => intro _; simp [rowsL]
  | succ k ih =>
    intro hk
    rw [Nat.add_mul, Nat.one_mul, List.take_add, ih (by omega), h k (by omega), List.range_succ, List.map_append, rowsL_append]
    simp [rowsL]
end
end Go.Proofs.YtnefdmbdkljifaaGreatDoor
