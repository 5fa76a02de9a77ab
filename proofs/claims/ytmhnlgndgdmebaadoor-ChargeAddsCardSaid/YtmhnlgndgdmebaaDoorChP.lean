/- ChargeAdds and ChargeBounds answer true for every input. -/
import Derived.Test.YtmhnlgndgdmebaaDoorRows
import Derived.Test.YtmhnlgndgdmebaaDoorCards
import Derived.Test.YtmhnlgndgdmebaaDoorTie
import Derived.Test.YtmhnlgndgdmebaaDoorLaid
import Derived.Test.YtmhnlgndgdmebaaDoorChI
import Derived.ProofKit
import Derived.LaidHandle
import Derived.SevenTiedAt
namespace Go.Proofs.YtmhnlgndgdmebaaDoor
open Go.ChangeShapes Go.WideShapes Go.ChangeAt Go.RowKit Go.Kin

theorem own : ownKnob Tryd.prog.godebug = none := by kernel_rfl
theorem laidOut : laidOutB Tryd.prog = true := by kernel_rfl
theorem leaves_g : Tryd.prog.globalNamed "kintsugi/inode.leaves" = some 0 := by kernel_rfl
theorem leaves_T : (Tryd.prog.globals[(0 : Nat)]?).map (·.type) = some 97 := by kernel_rfl
theorem lv_of_laid {w : World} (h : laidMetH Tryd.prog Rows.chargeAddsRow.laid w) : Lv w := by
  have h' : laidMet Tryd.prog [("kintsugi/inode.leaves", .agg (([0, 1, 2, 2] : List Int).map fun z => .lit (.int .u8 z)))] w := h
  have := laid_ints leaves_g leaves_T Tryd.underlying97 Tryd.underlying5 (by kernel_rfl) (by kernel_rfl) rfl h'
  exact ⟨this 0 _ rfl, this 1 _ rfl, this 2 _ rfl, this 3 _ rfl⟩

/-- A world that meets the condition. -/
noncomputable def laidWorld (os : Os) : World :=
  let w0 := World.holding Tryd.prog os ⟨#[], #[], []⟩
  { w0 with heap := w0.heap.modify 0 fun
      | .cells _ t frozen => .cells #[.int .u8 0, .int .u8 1, .int .u8 2, .int .u8 2] t frozen
      | o => o }
theorem laidWorld_met (os : Os) (args : Array Value) : laidMetH Tryd.prog Rows.chargeAddsRow.laid ((laidWorld os).forCall (fun _ _ => 0) ⟨#[], args, []⟩).memory :=
  laidMetH_of_parts (laidMet_of_run' 8 (by kernel_rfl) (by kernel_rfl)) (by kernel_rfl)

theorem open_i32 {H : Type} {enc : TypeId × Value → H} {P : Program} {W : World} {spare : Nat → Bool} {held : Bool} {t : TypeId} {r : Reach} {b0 : Nat} {v : Value} {d : DataW H} {p : List MemPlace} (ht : P.underlying t = some (.int .i32))
    (hv : Value.okWide P W r b0 t v) (h : DataW.Trod enc P W 0 spare held t v d p) : ∃ n : Int, v = .int .i32 n ∧ i32 n := by
  obtain ⟨a, rfl, _, _, wa⟩ := open_int ht hv h
  simp [Lit.wf, IntKind.min, IntKind.max, IntKind.signed, IntKind.bits] at wa
  exact ⟨a, rfl, by unfold i32; omega⟩
theorem open_u8 {H : Type} {enc : TypeId × Value → H} {P : Program} {W : World} {spare : Nat → Bool} {held : Bool} {t : TypeId} {r : Reach} {b0 : Nat} {v : Value} {d : DataW H} {p : List MemPlace} (ht : P.underlying t = some (.int .u8))
    (hv : Value.okWide P W r b0 t v) (h : DataW.Trod enc P W 0 spare held t v d p) : ∃ n : Nat, v = .int .u8 n ∧ n < 256 := by
  obtain ⟨a, rfl, _, _, wa⟩ := open_int ht hv h
  simp [Lit.wf, IntKind.min, IntKind.max, IntKind.signed, IntKind.bits] at wa
  exact ⟨a.toNat, by congr 1; omega, by omega⟩

set_option maxRecDepth 100000 in
theorem cadds_lifted (os : Os) (started : os.Started) (H : Type) (enc : TypeId × Value → H) :
    ReturnsInHanded {} Tryd.checked os 3 .any (fun w args => (Rows.chargeAddsSpec.pre enc Tryd.prog Tryd.f3 [] false w args ∧ laidMetH Tryd.prog Rows.chargeAddsRow.laid w) ∧ sizedMet enc Tryd.prog Tryd.f3 (OpenSpec.ofChange Rows.chargeAddsSpec) false w args)
      (Rows.chargeAddsSpec.post enc Tryd.prog Tryd.f3 false true false false) := by
  refine returnsInHanded_of_change_and (C := Tryd.checked) (X := fun w _ => laidMetH Tryd.prog Rows.chargeAddsRow.laid w) (fun _ _ _ hh h => h.of_heap hh) own started (by kernel_rfl) Tryd.func3
    (ChangeSpec.witness_at (enc := enc) (C := Tryd.checked) (os := os) (X := fun w _ => laidMetH Tryd.prog Rows.chargeAddsRow.laid w) false (laidWorld os) #[.int .i32 0, .int .i32 0, .int .i32 0, .int .u8 0, .int .i32 0, .int .i32 0, .int .i32 0] 8 rfl (by kernel_rfl) (by kernel_rfl) (by kernel_rfl) (by kernel_rfl) (by kernel_rfl) (laidWorld_met os _)) ?_
  intro W base args ds gs before hval0 hW _ _ hL _
  have hval : ∀ (j : Nat) t v, Tryd.f3.params[j]? = some t → args[j]? = some v → Value.okWide Tryd.prog W .any base t v := hval0
  have hW' := hW
  obtain ⟨p, q, hA0, hV, rfl, hfz, hnd⟩ := hW
  have hA : DataW.TrodAll enc Tryd.prog W 0 (fun _ => true) true Tryd.f3.params.toList args.toList ds p := hA0
  have hAk := hA
  rw [Tryd.params3] at hA hval
  obtain ⟨v0, vs0, d0, ds0, p0, q0, hargs, rfl, rfl, h0, hA⟩ := trodAll_cons hA
  obtain ⟨v1, vs1, d1, ds1, p1, q1, rfl, rfl, rfl, h1, hA⟩ := trodAll_cons hA
  obtain ⟨v2, vs2, d2, ds2, p2, q2, rfl, rfl, rfl, h2, hA⟩ := trodAll_cons hA
  obtain ⟨v3, vs3, d3, ds3, p3, q3, rfl, rfl, rfl, h3, hA⟩ := trodAll_cons hA
  obtain ⟨v4, vs4, d4, ds4, p4, q4, rfl, rfl, rfl, h4, hA⟩ := trodAll_cons hA
  obtain ⟨v5, vs5, d5, ds5, p5, q5, rfl, rfl, rfl, h5, hA⟩ := trodAll_cons hA
  obtain ⟨v6, vs6, d6, ds6, p6, q6, rfl, rfl, rfl, h6, hA⟩ := trodAll_cons hA
  obtain ⟨rfl, rfl, rfl⟩ := trodAll_nil hA
  obtain rfl : args = #[v0, v1, v2, v3, v4, v5, v6] := Array.ext' hargs
  obtain ⟨rfl, rfl⟩ := trodVars_none hV
  obtain ⟨f, rfl, hf⟩ := open_i32 Tryd.underlying21 (hval 0 21 v0 rfl rfl) h0
  obtain ⟨m, rfl, hm⟩ := open_i32 Tryd.underlying21 (hval 1 21 v1 rfl rfl) h1
  obtain ⟨o, rfl, ho⟩ := open_i32 Tryd.underlying21 (hval 2 21 v2 rfl rfl) h2
  obtain ⟨k, rfl, hk⟩ := open_u8 Tryd.underlying5 (hval 3 5 v3 rfl rfl) h3
  obtain ⟨l, rfl, hl⟩ := open_i32 Tryd.underlying21 (hval 4 21 v4 rfl rfl) h4
  obtain ⟨n, rfl, hn⟩ := open_i32 Tryd.underlying21 (hval 5 21 v5 rfl rfl) h5
  obtain ⟨b, rfl, hb⟩ := open_i32 Tryd.underlying21 (hval 6 21 v6 rfl rfl) h6
  refine (cadds_any f m o k l n b W hf hm ho hk hl hn hb (lv_of_laid hL)).calls.mono fun e W' ⟨v, he, hv, hc⟩ => ?_
  subst he; subst hv
  exact ⟨_, rfl, post_law laidOut hW' hAk rfl (by kernel_rfl) (by kernel_rfl) Tryd.underlying4 rfl rfl hc.below⟩

theorem chargeAdds_row : Rows.ChargeAddsSaid :=
  OpenClaim.holds_of_wide 3 Tryd.f3 rfl rfl rfl rfl rfl rfl rfl ⟨rfl, rfl, rfl, rfl, rfl⟩ rfl rfl rfl rfl rfl (by kernel_rfl) Tryd.func3 (by kernel_rfl)
    (of_decide_eq_true (by kernel_rfl)) (by unfold Func.isWrapper; first | (rw [if_pos (by decide +kernel)]; kernel_rfl) | (rw [if_neg (by decide +kernel)]; exact ⟨rfl, rfl⟩))
    (fun os started H enc _ => cadds_lifted os started H enc)
#print axioms chargeAdds_row

theorem no_stand {P : Program} {ps : Array TypeId} (h : (ps.toList.all fun t => !P.wantsStandIn t) = true) (j : Nat) (t : TypeId) (ht : ps[j]? = some t) : P.wantsStandIn t = false := by
  rw [List.all_eq_true] at h
  have := h t (List.mem_of_getElem? (i := j) (by rw [Array.getElem?_toList]; exact ht))
  simpa using this
theorem chargeAdds_holds : Rows.ChargeAddsCardSaid :=
  Claim7.holds_tied_plain_at .later [] [.data] true (true, "979eb0d8ec760616091989d544cfca71e3e4cc8d4b8dddce661705d0de2f5231") false
    chargeAdds_row (fun _ h => by cases h) (by kernel_rfl) (fun _ h => by cases h) chargeAdds_row_tie rfl ⟨rfl, rfl⟩ (by kernel_rfl) rfl
    (fun f fn hf hfn => by
      obtain rfl : f = 3 := Option.some.inj ((show Tryd.prog.funcNamed "kintsugi/kintsugilaw16.ChargeAdds" = some 3 by kernel_rfl).symm.trans hf) |>.symm
      obtain rfl : fn = Tryd.f3 := (Option.some.inj (Tryd.func3.symm.trans hfn)).symm
      exact ⟨by kernel_rfl, fun j t ht => no_stand (by kernel_rfl) j t ht⟩)
    (by kernel_rfl)
#print axioms chargeAdds_holds

section
variable {H : Type} {enc : TypeId × Value → H} {W : World} {base : Nat} {spare : Nat → Bool} {held : Bool} {fuel : Nat} {cs : List Value} {x : DataW H × List MemPlace}
set_option maxRecDepth 100000 in
/-- an object's cells, read -/
theorem trod_obj (h : DataW.trod enc Tryd.prog W base spare held fuel 33 cs = some x) :
    ∃ (y : Ob) (A : Option Addr) (c : Nat), (y.1 < 65536 ∧ y.2.1 < 256 ∧ ∀ n ∈ y.2.2, n < 4294967296) ∧ cs = [.int .u16 y.1, .int .u8 y.2.1, .slice A y.2.2.length c] ∧ Sl W (.slice A y.2.2.length c) y.2.2.length (u32s y.2.2) := by
  obtain ⟨xs, m, _, _, hl, hxl, hf⟩ := DataW.trod_struct Tryd.underlying33 h
  have hc : Tryd.prog.cellsOf 33 = 3 := by kernel_rfl
  rw [hc] at hl
  match xs, hxl with
  | [y0, y1, y2], _ =>
    have f0 := hf 0 _ rfl
    have f1 := hf 1 _ rfl
    have f2 := hf 2 _ rfl
    obtain ⟨n, hn, _, _, hn16, _⟩ := trod_nat Tryd.underlying30 (.inr (.inr (.inl rfl))) f0
    obtain ⟨k, hk, _, _, _, hk8⟩ := trod_nat Tryd.underlying5 (.inr (.inr (.inr rfl))) f1
    have c0 : Tryd.prog.cellsOf 30 = 1 := by kernel_rfl
    have c1 : Tryd.prog.cellsOf 5 = 1 := by kernel_rfl
    have c2 : Tryd.prog.cellsOf 31 = 1 := by kernel_rfl
    obtain ⟨a, b, s, rfl⟩ : ∃ a b s, cs = [a, b, s] := by
      match cs, hl with
      | [a, b, s], _ => exact ⟨a, b, s, rfl⟩
    have hn' : ([a, b, s].drop 0).take (Tryd.prog.cellsOf 30) = [.int .u16 n] := hn
    have hk' : ([a, b, s].drop 1).take (Tryd.prog.cellsOf 5) = [.int .u8 k] := hk
    have f2 : DataW.trod enc Tryd.prog W base spare held m 31 (([a, b, s].drop 2).take (Tryd.prog.cellsOf 31)) = some y2 := f2
    rw [c0] at hn'
    rw [c1] at hk'
    rw [c2] at f2
    clear hn hk hf
    simp at hn' hk' f2
    subst hn' hk'
    rcases open_ints Tryd.underlying31 Tryd.underlying49 (by kernel_rfl) f2 with ⟨hcs, _⟩ | ⟨ad, len, cap, zs, hcs, _, hle, hm, hz, _, hcell, hwf⟩
    · simp [c2] at hcs
      subst hcs
      exact ⟨(n, k, []), none, 0, ⟨hn16 rfl, hk8 rfl, by simp⟩, rfl, Sl.nil W⟩
    · simp [c2] at hcs
      subst hcs
      have hlen : len ≤ zs.length := by rw [hz]; split <;> omega
      have hzz : ∀ z ∈ zs, 0 ≤ z ∧ z < 4294967296 := fun z hz => by
        have := hwf z hz
        simp [Lit.wf, IntKind.min, IntKind.max, IntKind.signed, IntKind.bits] at this
        omega
      have hll : ((zs.take len).map Int.toNat).length = len := by simp; omega
      refine ⟨(n, k, (zs.take len).map Int.toNat), some ad, cap, ⟨hn16 rfl, hk8 rfl, fun y hy => ?_⟩, by simp only [hll], ?_⟩
      · obtain ⟨z, hz1, rfl⟩ := List.mem_map.1 hy
        have := hzz z (List.mem_of_mem_take hz1)
        omega
      · simp only [hll]
        refine ⟨some ad, cap, rfl, hle, hm, fun _ => ⟨ad, rfl, fun j u hu => ?_⟩⟩
        have hj : j < len := by
          have := (List.getElem?_eq_some_iff.1 hu).1
          rw [u32s_length, hll] at this
          exact this
        rw [hcell j (by omega)]
        simp [u32s, hj, show j < zs.length by omega] at hu
        have := hzz zs[j] (List.getElem_mem _)
        simp [List.getD, show j < zs.length by omega, ← hu]
        omega
set_option maxRecDepth 100000 in
theorem open_objs {v : Value} {d : DataW H} {p : List MemPlace} {r : Reach} {b0 : Nat} (hv : Value.okWide Tryd.prog W r b0 29 v) (h : DataW.Trod enc Tryd.prog W 0 spare held 29 v d p) : ∃ l : List Ob, Objs W v l := by
  obtain ⟨fuel, hf⟩ := h
  obtain ⟨a0, l0, c0, rfl⟩ := okWide_slice Tryd.underlying29 hv
  have hC : Tryd.prog.cellsOf 33 = 3 := by kernel_rfl
  rcases Go.Deep.open_slice Tryd.underlying29 hf with ⟨hcs, _⟩ | ⟨a, len, cap, m, n', DD, Pl, hcs, _, hl, hm, hmm, _, hi⟩
  · simp [Value.cells] at hcs
    obtain ⟨rfl, rfl, rfl⟩ := hcs
    exact ⟨[], none, 0, rfl, Nat.le_refl _, Nat.zero_le _, fun h => absurd h (by simp)⟩
  · simp [Value.cells] at hcs
    obtain ⟨rfl, rfl, rfl⟩ := hcs
    have hlm : l0 ≤ m := by rw [hmm]; split <;> omega
    have key : ∀ j, ∃ y : Ob, j < l0 → (y.1 < 65536 ∧ y.2.1 < 256 ∧ ∀ n ∈ y.2.2, n < 4294967296) ∧ W.cell? (a.add (j * 3)) = some (.int .u16 y.1) ∧ W.cell? (a.add (j * 3 + 1)) = some (.int .u8 y.2.1) ∧ ∃ A c, W.cell? (a.add (j * 3 + 2)) = some (.slice A y.2.2.length c) ∧ Sl W (.slice A y.2.2.length c) y.2.2.length (u32s y.2.2) := by
      intro j
      by_cases hj : j < l0
      · obtain ⟨cs', hc, ht'⟩ := hi j (by omega)
        rw [hC] at hc
        obtain ⟨y, A, c, hy, rfl, hs⟩ := trod_obj ht'
        obtain ⟨_, hcl, hat⟩ := World.cells?_some hc
        have h0 := hat 0 (by omega)
        have h1 := hat 1 (by omega)
        have h2 := hat 2 (by omega)
        rw [add_of_add] at h0 h1 h2
        exact ⟨y, fun _ => ⟨hy, h0, h1, A, c, h2, hs⟩⟩
      · exact ⟨(0, 0, []), fun h => absurd h hj⟩
    obtain ⟨Y, hY⟩ := Classical.axiomOfChoice key
    refine ⟨(List.range l0).map Y, some a, c0, by simp, by simpa using hl, hm, fun h0 => ?_⟩
    simp at h0
    have h00 := (hY 0 h0).2.1
    simp only [Nat.zero_mul] at h00
    obtain ⟨b, off, spot⟩ := a
    have hsp : spot = none := by
      simp only [Addr.add, if_true, World.cell?] at h00
      split at h00
      · split at h00
        · cases h00
        · rename_i hs
          simpa using hs
      · cases h00
    subst hsp
    refine ⟨b, off, rfl, fun j x hx => ?_⟩
    rw [List.getElem?_map, Option.map_eq_some_iff] at hx
    obtain ⟨j', hj', rfl⟩ := hx
    have hjl : j < l0 := by have := (List.getElem?_eq_some_iff.1 hj').1; simpa using this
    obtain rfl : j = j' := by simpa [hjl] using hj'
    obtain ⟨k0, k1, k2, A, c, k3, k4⟩ := hY j hjl
    rw [Addr.add_lit] at k1 k2 k3
    exact ⟨k0, k1, by rw [Nat.add_assoc]; exact k2, A, c, by rw [Nat.add_assoc]; exact k3, k4⟩
end

set_option maxRecDepth 100000 in
theorem cbounds_lifted (os : Os) (started : os.Started) (H : Type) (enc : TypeId × Value → H) :
    ReturnsInHanded {} Tryd.checked os 4 .any (fun w args => (Rows.chargeBoundsSpec.pre enc Tryd.prog Tryd.f4 [] false w args ∧ laidMetH Tryd.prog Rows.chargeBoundsRow.laid w) ∧ sizedMet enc Tryd.prog Tryd.f4 (OpenSpec.ofChange Rows.chargeBoundsSpec) false w args)
      (Rows.chargeBoundsSpec.post enc Tryd.prog Tryd.f4 false true false false) := by
  refine returnsInHanded_of_change_and (C := Tryd.checked) (X := fun w _ => laidMetH Tryd.prog Rows.chargeBoundsRow.laid w) (fun _ _ _ hh h => h.of_heap hh) own started (by kernel_rfl) Tryd.func4
    (ChangeSpec.witness_at (enc := enc) (C := Tryd.checked) (os := os) (X := fun w _ => laidMetH Tryd.prog Rows.chargeBoundsRow.laid w) false (laidWorld os) #[.slice none 0 0, .agg #[.int .u16 0, .int .u8 0, .slice none 0 0]] 8 rfl (by kernel_rfl) (by kernel_rfl) (by kernel_rfl) (by kernel_rfl) (by kernel_rfl) (laidWorld_met os _)) ?_
  intro W base args ds gs before hval0 hW _ _ hL _
  have hval : ∀ (j : Nat) t v, Tryd.f4.params[j]? = some t → args[j]? = some v → Value.okWide Tryd.prog W .any base t v := hval0
  have hW' := hW
  obtain ⟨p, q, hA0, hV, rfl, hfz, hnd⟩ := hW
  have hA : DataW.TrodAll enc Tryd.prog W 0 (fun _ => true) true Tryd.f4.params.toList args.toList ds p := hA0
  have hAk := hA
  rw [Tryd.params4] at hA hval
  obtain ⟨v0, v1, d0, d1, p0, p1, rfl, rfl, rfl, h0, h1⟩ := trodAll_two hA
  obtain ⟨rfl, rfl⟩ := trodVars_none hV
  obtain ⟨l, ho⟩ := open_objs (hval 0 29 v0 rfl rfl) h0
  obtain ⟨fuel, cs, rfl, hf⟩ := open_agg (hval 1 33 v1 rfl rfl) (.inl ⟨_, Tryd.underlying33⟩) h1
  obtain ⟨y, A, c, hy, rfl, hs⟩ := trod_obj hf
  refine (cbounds_any v0 l y A c W ho hy hs (lv_of_laid hL)).calls.mono fun e W' ⟨v, he, hv, hc⟩ => ?_
  subst he; subst hv
  exact ⟨_, rfl, post_law laidOut hW' hAk rfl (by kernel_rfl) (by kernel_rfl) Tryd.underlying4 rfl rfl hc.below⟩

theorem chargeBounds_row : Rows.ChargeBoundsSaid :=
  OpenClaim.holds_of_wide 4 Tryd.f4 rfl rfl rfl rfl rfl rfl rfl ⟨rfl, rfl, rfl, rfl, rfl⟩ rfl rfl rfl rfl rfl (by kernel_rfl) Tryd.func4 (by kernel_rfl)
    (of_decide_eq_true (by kernel_rfl)) (by unfold Func.isWrapper; first | (rw [if_pos (by decide +kernel)]; kernel_rfl) | (rw [if_neg (by decide +kernel)]; exact ⟨rfl, rfl⟩))
    (fun os started H enc _ => cbounds_lifted os started H enc)

theorem chargeBounds_holds : Rows.ChargeBoundsCardSaid :=
  Claim7.holds_tied_plain_at .later [] [.data] true (true, "979eb0d8ec760616091989d544cfca71e3e4cc8d4b8dddce661705d0de2f5231") false
    chargeBounds_row (fun _ h => by cases h) (by kernel_rfl) (fun _ h => by cases h) chargeBounds_row_tie rfl ⟨rfl, rfl⟩ (by kernel_rfl) rfl
    (fun f fn hf hfn => by
      obtain rfl : f = 4 := Option.some.inj ((show Tryd.prog.funcNamed "kintsugi/kintsugilaw16.ChargeBounds" = some 4 by kernel_rfl).symm.trans hf) |>.symm
      obtain rfl : fn = Tryd.f4 := (Option.some.inj (Tryd.func4.symm.trans hfn)).symm
      exact ⟨by kernel_rfl, fun j t ht => no_stand (by kernel_rfl) j t ht⟩)
    (by kernel_rfl)
#print axioms chargeBounds_holds
end Go.Proofs.YtmhnlgndgdmebaaDoor
