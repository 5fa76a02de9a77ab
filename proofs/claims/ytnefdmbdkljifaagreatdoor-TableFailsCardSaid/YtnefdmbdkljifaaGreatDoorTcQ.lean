/- TableFails answers true for every input. Condition: the listed package variables hold what the text lays. (Printed by genTcQ.py.) -/
import Derived.Test.YtnefdmbdkljifaaGreatDoorKep
import Derived.Test.YtnefdmbdkljifaaGreatDoorTrV
import Derived.Test.YtnefdmbdkljifaaGreatDoorTbN
import Derived.Test.YtnefdmbdkljifaaGreatDoorTcA
set_option linter.unusedSimpArgs false
set_option linter.unusedVariables false

/- Fields that are slices of structs, opened. They speak of no program. No condition. -/
namespace Go.Kin
open Go Go.RowKit Go.WideShapes Go.ChangeShapes
section
variable {H : Type} {enc : TypeId × Value → H} {P : Program} {W : World} {base : Nat} {spare : Nat → Bool} {held : Bool} {fuel : Nat} {t e : Nat} {cs : List Value} {x : DataW H × List MemPlace}
theorem list_of_rows {α : Type} (good : α → Prop) (en : α → List Value) {k : Nat} (hk : 0 < k) {A : Option Addr} {n c : Nat} (h1 : n ≤ c) (h2 : c ≤ maxLen)
    (h3 : 0 < n → ∃ ad, A = some ad ∧ ad.block < W.heap.size ∧ ∀ j, j < n → ∃ (cs : List Value) (fuel : Nat) (x : DataW H × List MemPlace), cs.length = k ∧ (∀ i, i < k → W.cell? (ad.add (j * k + i)) = cs[i]?) ∧ DataW.trod enc P W base spare held fuel e cs = some x)
    (hel : ∀ cs fuel x, cs.length = k → DataW.trod enc P W base spare held fuel e cs = some x → ∃ a, good a ∧ cs = en a) : ∃ l : List α, (∀ a ∈ l, good a) ∧ Lst W (.slice A n c) en k l := by
  rcases Nat.eq_zero_or_pos n with rfl | hn
  · exact ⟨[], by simp, A, c, rfl, h1, h2, fun h => absurd h (by simp)⟩
  obtain ⟨ad, rfl, hlt, hj⟩ := h3 hn
  have pick : ∀ j : Fin n, ∃ a : α, good a ∧ ∀ i, i < k → W.cell? (ad.add (j.1 * k + i)) = (en a)[i]? := fun j => by
    obtain ⟨cs, fuel, x, hl, hc, htr⟩ := hj j.1 j.2
    obtain ⟨a, ha, rfl⟩ := hel cs fuel x hl htr
    exact ⟨a, ha, hc⟩
  have pickl : ∀ j : Fin n, ∃ a : α, good a ∧ (en a).length = k ∧ ∀ i, i < k → W.cell? (ad.add (j.1 * k + i)) = (en a)[i]? := fun j => by
    obtain ⟨cs, fuel, x, hl, hc, htr⟩ := hj j.1 j.2
    obtain ⟨a, ha, rfl⟩ := hel cs fuel x hl htr
    exact ⟨a, ha, hl, hc⟩
  obtain ⟨f, hf⟩ := Classical.axiomOfChoice pickl
  have hlen : (List.ofFn f).length = n := List.length_ofFn
  have hget : ∀ j a, (List.ofFn f)[j]? = some a → ∃ hj : j < n, a = f ⟨j, hj⟩ := fun j a ha => by
    have hjn : j < n := by have := (List.getElem?_eq_some_iff.1 ha).1; omega
    rw [List.getElem?_ofFn, dif_pos hjn] at ha
    exact ⟨hjn, (Option.some.inj ha).symm⟩
  have hrd : ∀ j a i u, (List.ofFn f)[j]? = some a → (en a)[i]? = some u → W.cell? (ad.add (j * k + i)) = some u := fun j a i u ha hu => by
    obtain ⟨hjn, rfl⟩ := hget j a ha
    obtain ⟨_, hl, hc⟩ := hf ⟨j, hjn⟩
    have hik : i < k := by have := (List.getElem?_eq_some_iff.1 hu).1; omega
    rw [hc i hik, hu]
  obtain ⟨b, off, spot⟩ := ad
  have hsp : spot = none := by
    obtain ⟨a, ha⟩ : ∃ a, (List.ofFn f)[0]? = some a := ⟨_, List.getElem?_eq_getElem (by omega)⟩
    obtain ⟨h0n, rfl⟩ := hget 0 a ha
    obtain ⟨_, hl, _⟩ := hf ⟨0, h0n⟩
    obtain ⟨u, hu⟩ : ∃ u, (en (f ⟨0, h0n⟩))[0]? = some u := ⟨_, List.getElem?_eq_getElem (by omega)⟩
    have h00 := hrd 0 _ 0 u ha hu
    simp only [Nat.zero_mul, Nat.add_zero, Addr.add, if_true, World.cell?] at h00
    split at h00
    · split at h00
      · cases h00
      · rename_i hs
        simpa using hs
    · cases h00
  subst hsp
  refine ⟨List.ofFn f, fun a ha => ?_, some ⟨b, off, none⟩, c, by rw [hlen], by omega, h2, fun _ => ⟨b, off, rfl, hlt, fun j a i u ha hu => ?_⟩⟩
  · obtain ⟨j, hj⟩ := List.mem_iff_getElem?.1 ha
    obtain ⟨hjn, rfl⟩ := hget j a hj
    exact (hf ⟨j, hjn⟩).1
  · have := hrd j a i u ha hu
    rwa [Addr.add_lit, ← Nat.add_assoc] at this
/-- a field that is a slice of anything -/
theorem trod_list {α : Type} (good : α → Prop) (en : α → List Value) {k : Nat} (hk : 0 < k) (ht : P.underlying t = some (.slice e)) (hC : P.cellsOf e = k) (h : DataW.trod enc P W base spare held fuel t cs = some x)
    (hel : ∀ cs fuel x, cs.length = k → DataW.trod enc P W base spare held fuel e cs = some x → ∃ a, good a ∧ cs = en a) : ∃ (v : Value) (l : List α), cs = [v] ∧ (∀ a ∈ l, good a) ∧ Lst W v en k l := by
  rcases Go.Deep.open_slice ht h with ⟨hcs, _⟩ | ⟨a, len, cap, m, n', DD, Pl, hcs, _, hl, hm, hmm, _, hi⟩
  · subst hcs
    exact ⟨_, [], rfl, by simp, none, 0, rfl, Nat.le_refl _, Nat.zero_le _, fun h => absurd h (by simp)⟩
  · subst hcs
    have hlm : len ≤ m := by rw [hmm]; split <;> omega
    have hrow : ∀ j, j < len → ∃ (cs : List Value) (fuel : Nat) (x : DataW H × List MemPlace), cs.length = k ∧ (∀ i, i < k → W.cell? (a.add (j * k + i)) = cs[i]?) ∧ DataW.trod enc P W base spare held fuel e cs = some x := fun j hj => by
      obtain ⟨cs', hc, ht'⟩ := hi j (by omega)
      rw [hC] at hc
      obtain ⟨_, hcl, hat⟩ := World.cells?_some hc
      exact ⟨cs', _, _, hcl, fun i hi => by rw [← hat i hi, add_of_add], ht'⟩
    obtain ⟨l, h1, h2⟩ := list_of_rows good en hk (A := some a) (n := len) (c := cap) hl hm (fun hp => ⟨a, rfl, by
      obtain ⟨cs', _, _, hl', hc', _⟩ := hrow 0 hp
      have hc0 := hc' 0 hk
      rw [List.getElem?_eq_getElem (by omega)] at hc0
      have := World.block_lt_of_cell? W _ hc0
      rwa [block_of_add] at this, hrow⟩) hel
    exact ⟨_, l, rfl, h1, h2⟩
end
end Go.Kin

/- The table law's acts, opened. No condition. -/
namespace Go.Proofs.YtnefdmbdkljifaaGreatDoor
open Go.ChangeShapes Go.WideShapes Go.ChangeAt Go.RowKit Go.Kin

section
variable {H : Type} {enc : TypeId × Value → H} {W : World} {base : Nat} {spare : Nat → Bool} {held : Bool} {fuel : Nat} {cs : List Value} {x : DataW H × List MemPlace}
set_option maxRecDepth 100000 in
theorem trod_inoT (h : DataW.trod enc Tryz.prog W base spare held fuel 50 cs = some x) : ∃ y, InOk y ∧ cs = (ino y).toList := by
  obtain ⟨xs, m, _, _, hl, hxl, hf⟩ := DataW.trod_struct Tryz.underlying50 h
  have hc : Tryz.prog.cellsOf 50 = 44 := by kernel_rfl
  rw [hc] at hl
  match xs, hxl with
  | [y0, y1, y2, y3], _ =>
    have f0 := hf 0 _ rfl
    have f1 := hf 1 _ rfl
    have f2 := hf 2 _ rfl
    have f3 := hf 3 _ rfl
    obtain ⟨k, hk, _, _, _, hk8⟩ := trod_nat Tryz.underlying5 (.inr (.inr (.inr rfl))) f0
    obtain ⟨n, hn, _, _, hn16, _⟩ := trod_nat Tryz.underlying31 (.inr (.inr (.inl rfl))) f1
    obtain ⟨s, hs, _, hs32, _, _⟩ := trod_nat Tryz.underlying32 (.inr (.inl rfl)) f2
    obtain ⟨p, okp, hp⟩ := trod_pt f3
    have c8 : Tryz.prog.cellsOf 5 = 1 := by kernel_rfl
    have c16 : Tryz.prog.cellsOf 31 = 1 := by kernel_rfl
    have c32 : Tryz.prog.cellsOf 32 = 1 := by kernel_rfl
    have cP : Tryz.prog.cellsOf 37 = 41 := by kernel_rfl
    have hk : (cs.drop 0).take (Tryz.prog.cellsOf 5) = [.int .u8 k] := hk
    have hn : (cs.drop 1).take (Tryz.prog.cellsOf 31) = [.int .u16 n] := hn
    have hs : (cs.drop 2).take (Tryz.prog.cellsOf 32) = [.int .u32 s] := hs
    have hp : (cs.drop 3).take (Tryz.prog.cellsOf 37) = (pt p).toList := hp
    rw [c8] at hk
    rw [c16] at hn
    rw [c32] at hs
    rw [cP] at hp
    refine ⟨⟨k, n, s, p⟩, ⟨hk8 rfl, hn16 rfl, hs32 rfl, okp⟩, ?_⟩
    have st : ∀ i j, (cs.drop i).take j ++ cs.drop (i + j) = cs.drop i := fun i j => by rw [← List.drop_drop, List.take_append_drop]
    have e1 : cs = (cs.drop 0).take 1 ++ ((cs.drop 1).take 1 ++ ((cs.drop 2).take 1 ++ (cs.drop 3).take 41)) := by
      rw [List.take_of_length_le (i := 41) (by simp; omega), st 2 1, st 1 1, st 0 1, List.drop_zero]
    rw [e1, hk, hn, hs, hp]
    simp [ino]
set_option maxRecDepth 100000 in
theorem trod_tit (h : DataW.trod enc Tryz.prog W base spare held fuel 52 cs = some x) : ∃ y : Nat × In, ItOk y ∧ cs = itL y := by
  obtain ⟨xs, m, _, _, hl, hxl, hf⟩ := DataW.trod_struct Tryz.underlying52 h
  have hc : Tryz.prog.cellsOf 52 = 45 := by kernel_rfl
  rw [hc] at hl
  match xs, hxl with
  | [y0, y1], _ =>
    have f0 := hf 0 _ rfl
    have f1 := hf 1 _ rfl
    obtain ⟨n, hn, _, _, hn16, _⟩ := trod_nat Tryz.underlying31 (.inr (.inr (.inl rfl))) f0
    obtain ⟨y, oky, hy⟩ := trod_inoT f1
    have c16 : Tryz.prog.cellsOf 31 = 1 := by kernel_rfl
    have cI : Tryz.prog.cellsOf 50 = 44 := by kernel_rfl
    have hn : (cs.drop 0).take (Tryz.prog.cellsOf 31) = [.int .u16 n] := hn
    have hy : (cs.drop 1).take (Tryz.prog.cellsOf 50) = (ino y).toList := hy
    rw [c16] at hn
    rw [cI] at hy
    refine ⟨(n, y), ⟨hn16 rfl, oky⟩, ?_⟩
    have st : ∀ i j, (cs.drop i).take j ++ cs.drop (i + j) = cs.drop i := fun i j => by rw [← List.drop_drop, List.take_append_drop]
    have e1 : cs = (cs.drop 0).take 1 ++ (cs.drop 1).take 44 := by
      rw [List.take_of_length_le (i := 44) (by simp; omega), st 0 1, List.drop_zero]
    rw [e1, hn, hy]
    rfl
set_option maxRecDepth 100000 in
theorem trod_tq (h : DataW.trod enc Tryz.prog W base spare held fuel 47 cs = some x) : ∃ a : Tq, a.In W ∧ cs = tqL a := by
  obtain ⟨xs, m, _, _, hl, hxl, hf⟩ := DataW.trod_struct Tryz.underlying47 h
  have hc : Tryz.prog.cellsOf 47 = 1 := by kernel_rfl
  rw [hc] at hl
  match xs, hxl with
  | [y0], _ =>
    have f0 := hf 0 _ rfl
    obtain ⟨v, l, hv, hin, hL⟩ := trod_list ItOk itL (k := 45) (by decide) Tryz.underlying45 (by kernel_rfl) f0 fun cs fuel x _ ht => trod_tit ht
    have cS : Tryz.prog.cellsOf 45 = 1 := by kernel_rfl
    have hv : (cs.drop 0).take (Tryz.prog.cellsOf 45) = [v] := hv
    rw [cS] at hv
    refine ⟨⟨v, l⟩, ⟨hL, hin⟩, ?_⟩
    match cs, hl with
    | [a0], _ =>
      simp at hv
      rw [hv]
      rfl
end
end Go.Proofs.YtnefdmbdkljifaaGreatDoor

namespace Go.Proofs.YtnefdmbdkljifaaGreatDoor
open Go.ChangeShapes Go.WideShapes Go.ChangeAt Go.RowKit Go.Kin

theorem open_u16 {H : Type} {enc : TypeId × Value → H} {P : Program} {W : World} {spare : Nat → Bool} {held : Bool} {t : TypeId} {r : Reach} {b0 : Nat} {v : Value} {d : DataW H} {p : List MemPlace} (ht : P.underlying t = some (.int .u16))
    (hv : Value.okWide P W r b0 t v) (h : DataW.Trod enc P W 0 spare held t v d p) : ∃ n : Nat, v = .int .u16 n ∧ n < 65536 := by
  obtain ⟨a, rfl, _, _, wa⟩ := open_int ht hv h
  simp [Lit.wf, IntKind.min, IntKind.max, IntKind.signed, IntKind.bits] at wa
  exact ⟨a.toNat, by congr 1; omega, by omega⟩
set_option maxRecDepth 100000 in
theorem tableFails_lifted (os : Os) (started : os.Started) (H : Type) (enc : TypeId × Value → H) :
    ReturnsInHanded {} Tryz.checked os 4 .any (fun w args => (Rows.tableFailsSpec.pre enc Tryz.prog Tryz.f4 [] false w args ∧ laidMetH Tryz.prog Rows.tableFailsRow.laid w) ∧ sizedMet enc Tryz.prog Tryz.f4 (OpenSpec.ofChange Rows.tableFailsSpec) false w args)
      (Rows.tableFailsSpec.post enc Tryz.prog Tryz.f4 false true false false) := by
  refine returnsInHanded_of_change_and (C := Tryz.checked) (X := fun w _ => laidMetH Tryz.prog Rows.tableFailsRow.laid w) (fun _ _ _ hh h => h.of_heap hh) own started (by kernel_rfl) Tryz.func4
    (ChangeSpec.witness_at (enc := enc) (C := Tryz.checked) (os := os) (X := fun w _ => laidMetH Tryz.prog Rows.tableFailsRow.laid w) false (laidWorld5 os) #[.slice none 0 0, .slice none 0 0, .int .u16 0, .int .u16 0, .agg #[.slice none 0 0]] 8 rfl (by kernel_rfl) (by kernel_rfl) (by kernel_rfl) (by kernel_rfl) (by kernel_rfl) (laidWorld5_met os _)) ?_
  intro W base args ds gs before hval0 hW _ _ hL _
  have hval : ∀ (j : Nat) t v, Tryz.f4.params[j]? = some t → args[j]? = some v → Value.okWide Tryz.prog W .any base t v := hval0
  have hW' := hW
  obtain ⟨p, q, hA0, hV, rfl, hfz, hnd⟩ := hW
  have hA : DataW.TrodAll enc Tryz.prog W 0 (fun _ => true) true Tryz.f4.params.toList args.toList ds p := hA0
  have hAk := hA
  rw [Tryz.params4] at hA hval
  obtain ⟨v0, vs0, d0, ds0, p0, q0, hargs, rfl, rfl, h0, hA⟩ := trodAll_cons hA
  obtain ⟨v1, vs1, d1, ds1, p1, q1, rfl, rfl, rfl, h1, hA⟩ := trodAll_cons hA
  obtain ⟨v2, vs2, d2, ds2, p2, q2, rfl, rfl, rfl, h2, hA⟩ := trodAll_cons hA
  obtain ⟨v3, vs3, d3, ds3, p3, q3, rfl, rfl, rfl, h3, hA⟩ := trodAll_cons hA
  obtain ⟨v4, vs4, d4, ds4, p4, q4, rfl, rfl, rfl, h4, hA⟩ := trodAll_cons hA
  obtain ⟨rfl, rfl, rfl⟩ := trodAll_nil hA
  obtain rfl : args = #[v0, v1, v2, v3, v4] := Array.ext' hargs
  obtain ⟨rfl, rfl⟩ := trodVars_none hV
  have o0 := hval 0 22 v0 rfl rfl
  have o1 := hval 1 27 v1 rfl rfl
  have o2 := hval 2 31 v2 rfl rfl
  have o3 := hval 3 31 v3 rfl rfl
  have o4 := hval 4 47 v4 rfl rfl
  obtain ⟨L0, hin0, hL0⟩ := open_list (fun a : Tq => a.In W) tqL (k := 1) (by decide) Tryz.underlying22 (by kernel_rfl) o0 h0 fun cs fuel x hl ht => trod_tq ht
  obtain ⟨l1, hin1, hL1⟩ := open_list (fun x : Nat => x < 65536) (fun x : Nat => [Value.int .u16 x]) (k := 1) (by decide) Tryz.underlying27 (by kernel_rfl) o1 h1 fun cs fuel x hl ht => (trod_u16 Tryz.underlying31 ht).imp fun z h => ⟨h.2, h.1⟩
  have hov1 := own_lt Tryz.underlying27 o1
  obtain ⟨n2, rfl, hn2⟩ := open_u16 Tryz.underlying31 o2 h2
  obtain ⟨n3, rfl, hn3⟩ := open_u16 Tryz.underlying31 o3 h3
  obtain ⟨fuel4, cs4, rfl, hf4⟩ := open_agg o4 (.inl ⟨_, Tryz.underlying47⟩) h4
  obtain ⟨a4, ha4, rfl⟩ := trod_tq hf4
  refine (tableFails_any v0 L0 v1 l1 n2 n3 a4 W hL0 hin0 hL1 hin1 hov1 hn2 hn3 ha4 (tenv_of_laid hL)).calls.mono fun e W' ⟨v, he, hv, hc⟩ => ?_
  subst he; subst hv
  exact ⟨_, rfl, post_law laidOut hW' hAk rfl (by kernel_rfl) (by kernel_rfl) Tryz.underlying4 rfl rfl hc.below⟩
theorem tableFails_row : Rows.TableFailsSaid :=
  OpenClaim.holds_of_wide 4 Tryz.f4 rfl rfl rfl rfl rfl rfl rfl ⟨rfl, rfl, rfl, rfl, rfl⟩ rfl rfl rfl rfl rfl (by kernel_rfl) Tryz.func4 (by kernel_rfl)
    (of_decide_eq_true (by kernel_rfl)) (by unfold Func.isWrapper; first | (rw [if_pos (by decide +kernel)]; kernel_rfl) | (rw [if_neg (by decide +kernel)]; exact ⟨rfl, rfl⟩))
    (fun os started H enc _ => tableFails_lifted os started H enc)
theorem tableFails_holds : Rows.TableFailsCardSaid :=
  Claim7.holds_tied_plain_at .later [] [.data, .data] true (true, "804dcc6c0e82b5d9d03f6b6e3cbd8916604af6eb66f6e79b8c0a5bdd488723ca") false
    tableFails_row (fun _ h => by cases h) (by kernel_rfl) (fun _ h => by cases h) tableFails_row_tie rfl ⟨rfl, rfl⟩ (by kernel_rfl) rfl
    (fun f fn hf hfn => by
      obtain rfl : f = 4 := Option.some.inj ((show Tryz.prog.funcNamed "kintsugi/kintsugilaw12.TableFails" = some 4 by kernel_rfl).symm.trans hf) |>.symm
      obtain rfl : fn = Tryz.f4 := (Option.some.inj (Tryz.func4.symm.trans hfn)).symm
      exact ⟨by kernel_rfl, fun j t ht => no_stand (by kernel_rfl) j t ht⟩)
    (by kernel_rfl)
#print axioms tableFails_holds
end Go.Proofs.YtnefdmbdkljifaaGreatDoor
