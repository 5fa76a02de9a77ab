/- The last step of a law's row: a call that answers true and changes nothing that there was. It speaks of no program. No condition. -/
import Derived.Test.YtnefdmbdkljifaaDoorBase
import Derived.ProofKit
import Derived.Deep.Slices
import Derived.Deep.Fields
set_option linter.unusedSimpArgs false
set_option linter.unusedVariables false

namespace Go.Kin
open Go Go.RowKit Go.WideShapes Go.ChangeShapes
section
variable {H : Type} {enc : TypeId × Value → H} {P : Program}
theorem post_of_below {f : Func} {s : ChangeSpec} {apart fresh handsOn again : Bool} {W W' : World} {args : Array Value} {v : Value} {ds gs : List (DataW H)} {before pa pv : List MemPlace}
    (hW : DataW.Whole enc P f.params.toList s.vars apart W args.toList ds gs before)
    (hres : ∀ (b : Nat) (sp : Nat → Bool) (hd : Bool), DataW.TrodAll enc P W' b sp hd f.resultTypes.toList (v.resultList f.resultTypes.size) (s.fn H (ds ++ gs)).results [])
    (hargs : ∀ sp : Nat → Bool, (∀ p ∈ before, sp p.block = true) → DataW.TrodAll enc P W' 0 sp true f.params.toList args.toList (s.fn H (ds ++ gs)).args pa)
    (hvars : ∀ sp : Nat → Bool, (∀ p ∈ before, sp p.block = true) → DataW.TrodVars enc P W' sp s.vars (s.fn H (ds ++ gs)).vars pv)
    (hps : before = pa ++ pv) (hb : Below W.heap.size W W')
    (hok : ∀ (j : Nat) (t : TypeId) (r : Value), f.resultTypes[j]? = some t → (v.resultList f.resultTypes.size)[j]? = some r → Value.okWide P W' .any 0 t r) :
    s.post enc P f apart fresh handsOn again W args v W' := by
  have hlt : ∀ p ∈ before, p.block < W.heap.size := fun p hp => hW.lt p hp
  have hold : ∀ p ∈ before, (fun b => decide (b < W.heap.size)) p.block = true := fun p hp => by simpa using hlt p hp
  refine ⟨ds, gs, before, [], pa, pv, hW, hres _ _ _, hargs _ hold, hvars _ hold, World.keptBut_mono (fun p hp => ⟨hp, ?_⟩) (hb.frame (· ∈ before)), fun _ => ?_⟩
  · rw [hps, List.mem_append] at hp
    exact Or.inr hp
  · obtain ⟨_, _, _, _, _, hz, hn⟩ := hW
    refine ⟨hok, _, _, ([] ++ pa) ++ pv, ⟨[] ++ pa, pv, trodAll_append (hargs _ (fun _ _ => rfl)) (hres _ _ _), hvars _ (fun _ _ => rfl), rfl, ?_, ?_⟩, ?_⟩
    · intro b off hp
      have hin : MemPlace.cell b off ∈ before := by rw [hps]; simpa using hp
      rw [hb.frozen (hlt _ hin)]
      exact hz b off hin
    · intro ha
      have := hn ha
      rw [hps] at this
      simpa using this
    · intro p hp _
      rw [hps]
      simpa using hp

/-- The arguments read behind the call as before it. -/
theorem trodAll_below (hl : laidOutB P = true) {W W' : World} (hb : Below W.heap.size W W') : ∀ (ts : List TypeId) (vs : List Value) (ds : List (DataW H)) (ps : List MemPlace),
    (ts.all fun t => P.readableRec t && decide (t < P.types.size)) = true → DataW.TrodAll enc P W 0 (fun _ => true) true ts vs ds ps → (∀ x ∈ ps, x.block < W.heap.size) →
    ∀ sp : Nat → Bool, (∀ p ∈ ps, sp p.block = true) → DataW.TrodAll enc P W' 0 sp true ts vs ds ps := by
  intro ts
  induction ts with
  | nil =>
    intro vs ds ps _ h _ sp _
    cases vs <;> cases ds <;> first | exact h | exact h.elim
  | cons t ts ih =>
    intro vs ds ps hr h hlt sp hsp
    simp only [List.all_cons, Bool.and_eq_true, decide_eq_true_eq] at hr
    cases vs with
    | nil => cases ds <;> exact h.elim
    | cons v vs =>
      cases ds with
      | nil => exact h.elim
      | cons d ds =>
        obtain ⟨p, q, h1, h2, rfl⟩ := h
        exact ⟨p, q, WideElems.Trod_stays hl hr.1.1 hr.1.2 h1 (fun x hx => hb.same (hlt x (by simp [hx]))) (fun x hx => hsp x (by simp [hx])),
          ih vs ds q hr.2 h2 (fun x hx => hlt x (by simp [hx])) sp (fun x hx => hsp x (by simp [hx])), rfl⟩

/-- A law's post: true, and the arguments as they were. -/
theorem post_law {f : Func} {s : ChangeSpec} {W W' : World} {args : Array Value} {ds : List (DataW H)} {before p : List MemPlace} (hl : laidOutB P = true)
    (hW : DataW.Whole enc P f.params.toList s.vars false W args.toList ds [] before) (hA : DataW.TrodAll enc P W 0 (fun _ => true) true f.params.toList args.toList ds p) (hp : before = p ++ [])
    (hr : (f.params.toList.all fun t => P.readableRec t && decide (t < P.types.size)) = true) {tb : TypeId} (hres : f.resultTypes = #[tb]) (htb : P.underlying tb = some .bool)
    (hs : s.fn H (ds ++ []) = { results := [.lit (.bool true)], args := ds }) (hv : s.vars = []) (hb : Below W.heap.size W W') :
    s.post enc P f false true false false W args (.bool true) W' := by
  have hlt : ∀ x ∈ p, x.block < W.heap.size := fun x hx => hW.lt x (by rw [hp]; simp [hx])
  refine post_of_below (pa := p) (pv := []) hW (fun b sp hd => ?_) (fun sp hsp => ?_) (fun sp _ => ?_) hp hb ?_
  · rw [hs, hres]
    exact trodAll_mk1 (shut_bool htb _)
  · rw [hs]
    exact trodAll_below hl hb _ _ _ _ hr hA hlt sp fun x hx => hsp x (by rw [hp]; simp [hx])
  · rw [hs, hv]
    rfl
  · exact ok_one hres rfl (okWide_bool_mk htb _)

theorem zsOf (zs : List Int) (h : ∀ n ∈ zs, (Lit.int .u8 n).wf = true) : ∃ l : List UInt8, zs.map (Value.int .u8) = bvs l ∧ l.length = zs.length := by
  refine ⟨zs.map fun n => UInt8.ofNat n.toNat, ?_, by simp⟩
  unfold bvs
  rw [List.map_map]
  refine List.map_congr_left fun n hn => ?_
  have := h n hn
  simp [Lit.wf, IntKind.min, IntKind.max, IntKind.signed, IntKind.bits] at this
  simp [bv]
  omega
/-- An argument that is a slice of bytes. -/
theorem open_bytes {W : World} {spare : Nat → Bool} {held : Bool} {t e : TypeId} {r : Reach} {b0 : Nat} {v : Value} {d : DataW H} {p : List MemPlace} (ht : P.underlying t = some (.slice e)) (he : P.underlying e = some (.int .u8)) (hc : P.cellsOf e = 1)
    (hv : Value.okWide P W r b0 t v) (h : DataW.Trod enc P W 0 spare held t v d p) : ∃ l : List UInt8, Sl W v l.length (bvs l) := by
  obtain ⟨fuel, hf⟩ := h
  rcases open_ints ht he hc hf with ⟨hcs, _⟩ | ⟨a, len, cap, zs, hcs, _, hle, hm, hz, _, hcell, hwf⟩
  · obtain ⟨a0, l0, c0, rfl⟩ := okWide_slice ht hv
    simp [Value.cells] at hcs
    obtain ⟨rfl, rfl, rfl⟩ := hcs
    exact ⟨[], Sl.nil W⟩
  · obtain ⟨a0, l0, c0, rfl⟩ := okWide_slice ht hv
    simp [Value.cells] at hcs
    obtain ⟨rfl, rfl, rfl⟩ := hcs
    have hlen : l0 ≤ zs.length := by rw [hz]; split <;> omega
    obtain ⟨l, hl1, hl2⟩ := zsOf (zs.take l0) fun n hn => hwf n (List.mem_of_mem_take hn)
    have hll : l.length = l0 := by rw [hl2]; simp; omega
    refine ⟨l, some a, c0, by rw [hll], by omega, hm, fun _ => ⟨a, rfl, fun j u hu => ?_⟩⟩
    have hj : j < l0 := by
      have := (List.getElem?_eq_some_iff.1 hu).1
      rw [bvs_length] at this
      omega
    rw [← hl1] at hu
    rw [hcell j (by omega)]
    simp [hj, show j < zs.length by omega] at hu
    simp [List.getD, show j < zs.length by omega, hu]
/-- An argument that is an unsigned number. -/
theorem open_u64 {W : World} {spare : Nat → Bool} {held : Bool} {t : TypeId} {r : Reach} {b0 : Nat} {v : Value} {d : DataW H} {p : List MemPlace} (ht : P.underlying t = some (.int .u64))
    (hv : Value.okWide P W r b0 t v) (h : DataW.Trod enc P W 0 spare held t v d p) : ∃ n : Nat, v = .int .u64 n ∧ n < 18446744073709551616 := by
  obtain ⟨a, rfl, _, _, wa⟩ := open_int ht hv h
  simp [Lit.wf, IntKind.min, IntKind.max, IntKind.signed, IntKind.bits] at wa
  exact ⟨a.toNat, by congr 1; omega, by omega⟩
/-- An argument's own block is one of the world's. -/
theorem own_lt {W : World} {t e : TypeId} {r : Reach} {b0 : Nat} {v : Value} (ht : P.underlying t = some (.slice e)) (hv : Value.okWide P W r b0 t v) : ∀ k, v.ownBlock = some k → k < W.heap.size := by
  obtain ⟨A, n, c, rfl⟩ := okWide_slice ht hv
  intro k hk
  cases A with
  | none => simp [Value.ownBlock] at hk
  | some a =>
    simp only [Value.ownBlock, Option.some.injEq] at hk
    subst hk
    simp only [Value.okWide, ht, Cell.okWide, Cell.ok, World.has, World.shape?] at hv
    obtain ⟨_, _, _, _, row, cells, hs, _⟩ := hv
    cases hg : W.heap[a.block]? with
    | none => simp [hg] at hs
    | some o => exact lt_of_block hg
/-- An argument that is a slice of pairs of whole numbers. -/
theorem open_pairs {W : World} {spare : Nat → Bool} {held : Bool} {t e : TypeId} {f0 f1 : Field} {k0 k1 : IntKind} {r : Reach} {b0 : Nat} {v : Value} {d : DataW H} {p : List MemPlace} (ht : P.underlying t = some (.slice e)) (he : P.underlying e = some (.struct #[f0, f1])) (hC : P.cellsOf e = 2)
    (hone : Go.Deep.oneCellFields P #[f0, f1] = true) (u0 : P.underlying f0.type = some (.int k0)) (u1 : P.underlying f1.type = some (.int k1))
    (hv : Value.okWide P W r b0 t v) (h : DataW.Trod enc P W 0 spare held t v d p) : ∃ (A : Option Addr) (n c : Nat) (D N : Nat → Int), v = .slice A n c ∧ n ≤ c ∧ c ≤ maxLen ∧
      (0 < n → ∃ ad, A = some ad ∧ ad.block < W.heap.size ∧ ∀ j, j < n → W.cell? (ad.add (j * 2)) = some (.int k0 (D j)) ∧ W.cell? (ad.add (j * 2 + 1)) = some (.int k1 (N j)) ∧ (Lit.int k0 (D j)).wf = true ∧ (Lit.int k1 (N j)).wf = true) := by
  have hlt := own_lt ht hv
  obtain ⟨fuel, hf⟩ := h
  obtain ⟨a0, l0, c0, rfl⟩ := okWide_slice ht hv
  rcases Go.Deep.open_slice ht hf with ⟨hcs, _⟩ | ⟨a, len, cap, m, n', DD, Pl, hcs, _, hl, hm, hmm, _, hi⟩
  · simp [Value.cells] at hcs
    obtain ⟨rfl, rfl, rfl⟩ := hcs
    exact ⟨none, 0, 0, fun _ => 0, fun _ => 0, rfl, Nat.le_refl _, Nat.zero_le _, fun h => absurd h (by omega)⟩
  · simp [Value.cells] at hcs
    obtain ⟨rfl, rfl, rfl⟩ := hcs
    have hlm : l0 ≤ m := by rw [hmm]; split <;> omega
    refine ⟨some a, l0, c0, fun j => intOf ((W.cell? (a.add (j * 2))).getD undef), fun j => intOf ((W.cell? (a.add (j * 2 + 1))).getD undef), rfl, hl, hm, fun _ => ⟨a, rfl, hlt _ rfl, fun j hj => ?_⟩⟩
    obtain ⟨cs', hc, ht'⟩ := hi j (by omega)
    rw [hC] at hc
    obtain ⟨ys, n2, _, _, hlen, hyl, hfld⟩ := DataW.trod_struct he ht'
    obtain ⟨_, hcl, hat⟩ := World.cells?_some hc
    match cs', hcl with
    | [c1, c2], _ =>
      obtain ⟨o0, s0⟩ := Go.Deep.hone_of hone 0 f0 rfl
      obtain ⟨o1, s1⟩ := Go.Deep.hone_of hone 1 f1 rfl
      have g0 := hfld 0 f0 rfl
      have g1 := hfld 1 f1 rfl
      rw [o0, s0] at g0
      rw [o1, s1] at g1
      have hy : ys.length = 2 := hyl
      have hy0 : ys[0]? = some (ys[0]'(by omega)) := List.getElem?_eq_getElem _
      have hy1 : ys[1]? = some (ys[1]'(by omega)) := List.getElem?_eq_getElem _
      rw [hy0] at g0
      rw [hy1] at g1
      obtain ⟨z0, q0, _, w0⟩ := DataW.trod_int u0 g0
      obtain ⟨z1, q1, _, w1⟩ := DataW.trod_int u1 g1
      simp at q0 q1
      have e0 := hat 0 (by omega)
      have e1 := hat 1 (by omega)
      rw [add_of_add] at e0 e1
      simp only [Nat.add_zero] at e0
      have e0 : W.cell? (a.add (j * 2)) = some (.int k0 z0) := by rw [e0]; simp [q0]
      have e1 : W.cell? (a.add (j * 2 + 1)) = some (.int k1 z1) := by rw [e1]; simp [q1]
      simp only [e0, e1, Option.getD_some]
      exact ⟨rfl, rfl, w0, w1⟩
end
end Go.Kin
