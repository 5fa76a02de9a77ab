/- OverlayPlays answers true for every input. Condition: the listed package variable holds what the text lays. (Printed by genOwQ.py.) -/
import Derived.Test.YtnefdmbdkljifaaDoorRows
import Derived.Test.YtnefdmbdkljifaaDoorCards
import Derived.Test.YtnefdmbdkljifaaDoorTie
import Derived.Test.YtnefdmbdkljifaaDoorLaid
import Derived.Test.YtnefdmbdkljifaaDoorOwL
import Derived.Test.YtnefdmbdkljifaaDoorOvN
import Derived.ProofKit
import Derived.LaidSub
import Derived.LaidHandle
import Derived.SevenTiedAt
set_option linter.unusedSimpArgs false
set_option linter.unusedVariables false

/- Acts on overlays, opened, for OverlayPlays; the variable ptr.wide as the text lays it. No condition. -/
namespace Go.Proofs.YtnefdmbdkljifaaDoor
open Go.ChangeShapes Go.WideShapes Go.ChangeAt Go.RowKit Go.Kin

theorem own : ownKnob Tryd.prog.godebug = none := by kernel_rfl
theorem laidOut : laidOutB Tryd.prog = true := by kernel_rfl
theorem wide_g : Tryd.prog.globalNamed "kintsugi/ptr.wide" = some 0 := by kernel_rfl
theorem wide_T : (Tryd.prog.globals[(0 : Nat)]?).map (·.type) = some 121 := by kernel_rfl
theorem lw_of_laid {w : World} (h : laidMetH Tryd.prog Rows.overlayPlaysRow.laid w) : Lw w := by
  have h' : laidMet Tryd.prog [("kintsugi/ptr.wide", .agg (([0, 1, 2, 2, 2, 2] : List Int).map fun z => .lit (.int .i64 z)))] w := h
  have := laid_ints wide_g wide_T Tryd.underlying121 Tryd.underlying3 (by kernel_rfl) (by kernel_rfl) rfl h'
  exact this
theorem no_stand {P : Program} {ps : Array TypeId} (h : (ps.toList.all fun t => !P.wantsStandIn t) = true) (j : Nat) (t : TypeId) (ht : ps[j]? = some t) : P.wantsStandIn t = false := by
  rw [List.all_eq_true] at h
  have := h t (List.mem_of_getElem? (i := j) (by rw [Array.getElem?_toList]; exact ht))
  simpa using this
/-- A world that meets the condition. -/
noncomputable def laidWorld (os : Os) : World :=
  let w0 := World.holding Tryd.prog os ⟨#[], #[], []⟩
  { w0 with heap := w0.heap.modify 0 fun
      | .cells _ t frozen => .cells #[.int .i64 0, .int .i64 1, .int .i64 2, .int .i64 2, .int .i64 2, .int .i64 2] t frozen
      | o => o }
theorem laidWorld_met (os : Os) (args : Array Value) : laidMetH Tryd.prog Rows.overlayPlaysRow.laid ((laidWorld os).forCall (fun _ _ => 0) ⟨#[], args, []⟩).memory :=
  laidMetH_of_parts (laidMet_of_run' 8 (by kernel_rfl) (by kernel_rfl)) (by kernel_rfl)
section
variable {H : Type} {enc : TypeId × Value → H} {W : World} {base : Nat} {spare : Nat → Bool} {held : Bool} {fuel : Nat} {cs : List Value} {x : DataW H × List MemPlace}
set_option maxRecDepth 100000 in
/-- a pointer's cells, read -/
theorem trod_pt (h : DataW.trod enc Tryd.prog W base spare held fuel 39 cs = some x) : ∃ p, PtOk p ∧ cs = (pt p).toList := by
  obtain ⟨xs, m, _, _, hl, hxl, hf⟩ := DataW.trod_struct Tryd.underlying39 h
  have hc : Tryd.prog.cellsOf 39 = 41 := by kernel_rfl
  rw [hc] at hl
  match xs, hxl with
  | [y0, y1, y2, y3, y4, y5, y6], _ =>
    have f0 := hf 0 _ rfl
    have f1 := hf 1 _ rfl
    have f2 := hf 2 _ rfl
    have f3 := hf 3 _ rfl
    have f4 := hf 4 _ rfl
    have f5 := hf 5 _ rfl
    have f6 := hf 6 _ rfl
    obtain ⟨k, hk, _, _, _, hk8⟩ := trod_nat Tryd.underlying5 (.inr (.inr (.inr rfl))) f0
    obtain ⟨lv, hlv, _, _, _, hl8⟩ := trod_nat Tryd.underlying5 (.inr (.inr (.inr rfl))) f1
    obtain ⟨o, ho, _, _, ho16, _⟩ := trod_nat Tryd.underlying22 (.inr (.inr (.inl rfl))) f2
    obtain ⟨f, hff, _, hf32, _, _⟩ := trod_nat Tryd.underlying24 (.inr (.inl rfl)) f3
    obtain ⟨b, hb, hb64, _⟩ := trod_nat Tryd.underlying35 (.inl rfl) f4
    obtain ⟨l, hll, hlc⟩ := trod_bytesA Tryd.underlying36 Tryd.underlying5 (by kernel_rfl) (by kernel_rfl) f5
    obtain ⟨a, hal, hac, halt⟩ := trod_u16A Tryd.underlying37 Tryd.underlying22 (by kernel_rfl) (by kernel_rfl) f6
    have c8 : Tryd.prog.cellsOf 5 = 1 := by kernel_rfl
    have c16 : Tryd.prog.cellsOf 22 = 1 := by kernel_rfl
    have c32 : Tryd.prog.cellsOf 24 = 1 := by kernel_rfl
    have c64 : Tryd.prog.cellsOf 35 = 1 := by kernel_rfl
    have cA : Tryd.prog.cellsOf 36 = 32 := by kernel_rfl
    have cB : Tryd.prog.cellsOf 37 = 4 := by kernel_rfl
    have hk : (cs.drop 0).take (Tryd.prog.cellsOf 5) = [.int .u8 k] := hk
    have hlv : (cs.drop 1).take (Tryd.prog.cellsOf 5) = [.int .u8 lv] := hlv
    have ho : (cs.drop 2).take (Tryd.prog.cellsOf 22) = [.int .u16 o] := ho
    have hff : (cs.drop 3).take (Tryd.prog.cellsOf 24) = [.int .u32 f] := hff
    have hb : (cs.drop 4).take (Tryd.prog.cellsOf 35) = [.int .u64 b] := hb
    have hlc : (cs.drop 5).take (Tryd.prog.cellsOf 36) = bvs l := hlc
    have hac : (cs.drop 37).take (Tryd.prog.cellsOf 37) = u16s a := hac
    rw [c8] at hk hlv
    rw [c16] at ho
    rw [c32] at hff
    rw [c64] at hb
    rw [cA] at hlc
    rw [cB] at hac
    refine ⟨⟨k, lv, o, f, b, l, a⟩, ⟨hk8 rfl, hl8 rfl, ho16 rfl, hf32 rfl, hb64 rfl, hll, hal, fun x hx => ?_⟩, ?_⟩
    · obtain ⟨i, hi⟩ := List.mem_iff_getElem?.1 hx
      exact halt i x hi
    have st : ∀ i j, (cs.drop i).take j ++ cs.drop (i + j) = cs.drop i := fun i j => by rw [← List.drop_drop, List.take_append_drop]
    have e1 : cs = (cs.drop 0).take 1 ++ ((cs.drop 1).take 1 ++ ((cs.drop 2).take 1 ++ ((cs.drop 3).take 1 ++ ((cs.drop 4).take 1 ++ ((cs.drop 5).take 32 ++ (cs.drop 37).take 4))))) := by
      rw [List.take_of_length_le (i := 4) (by simp; omega), st 5 32, st 4 1, st 3 1, st 2 1, st 1 1, st 0 1, List.drop_zero]
    rw [e1, hk, hlv, ho, hff, hb, hlc, hac]
    simp [pt]
set_option maxRecDepth 100000 in
theorem trod_ino (h : DataW.trod enc Tryd.prog W base spare held fuel 41 cs = some x) : ∃ y, InOk y ∧ cs = (ino y).toList := by
  obtain ⟨xs, m, _, _, hl, hxl, hf⟩ := DataW.trod_struct Tryd.underlying41 h
  have hc : Tryd.prog.cellsOf 41 = 44 := by kernel_rfl
  rw [hc] at hl
  match xs, hxl with
  | [y0, y1, y2, y3], _ =>
    have f0 := hf 0 _ rfl
    have f1 := hf 1 _ rfl
    have f2 := hf 2 _ rfl
    have f3 := hf 3 _ rfl
    obtain ⟨k, hk, _, _, _, hk8⟩ := trod_nat Tryd.underlying5 (.inr (.inr (.inr rfl))) f0
    obtain ⟨n, hn, _, _, hn16, _⟩ := trod_nat Tryd.underlying22 (.inr (.inr (.inl rfl))) f1
    obtain ⟨s, hs, _, hs32, _, _⟩ := trod_nat Tryd.underlying24 (.inr (.inl rfl)) f2
    obtain ⟨p, okp, hp⟩ := trod_pt f3
    have c8 : Tryd.prog.cellsOf 5 = 1 := by kernel_rfl
    have c16 : Tryd.prog.cellsOf 22 = 1 := by kernel_rfl
    have c32 : Tryd.prog.cellsOf 24 = 1 := by kernel_rfl
    have cP : Tryd.prog.cellsOf 39 = 41 := by kernel_rfl
    have hk : (cs.drop 0).take (Tryd.prog.cellsOf 5) = [.int .u8 k] := hk
    have hn : (cs.drop 1).take (Tryd.prog.cellsOf 22) = [.int .u16 n] := hn
    have hs : (cs.drop 2).take (Tryd.prog.cellsOf 24) = [.int .u32 s] := hs
    have hp : (cs.drop 3).take (Tryd.prog.cellsOf 39) = (pt p).toList := hp
    rw [c8] at hk
    rw [c16] at hn
    rw [c32] at hs
    rw [cP] at hp
    refine ⟨⟨k, n, s, p⟩, ⟨hk8 rfl, hn16 rfl, hs32 rfl, okp⟩, ?_⟩
    have st : ∀ i j, (cs.drop i).take j ++ cs.drop (i + j) = cs.drop i := fun i j => by rw [← List.drop_drop, List.take_append_drop]
    have e1 : cs = (cs.drop 0).take 1 ++ ((cs.drop 1).take 1 ++ ((cs.drop 2).take 1 ++ (cs.drop 3).take 41)) := by
      rw [List.take_of_length_le (i := 41) (by simp; omega), st 2 1, st 1 1, st 0 1, List.drop_zero]
    rw [e1, hk, hn, hs, hp]
    simp [ino]
set_option maxRecDepth 100000 in
theorem trod_ac (h : DataW.trod enc Tryd.prog W base spare held fuel 43 cs = some x) : ∃ a : Ac, a.Ok ∧ cs = acv a := by
  obtain ⟨xs, m, _, _, hl, hxl, hf⟩ := DataW.trod_struct Tryd.underlying43 h
  have hc : Tryd.prog.cellsOf 43 = 49 := by kernel_rfl
  rw [hc] at hl
  match xs, hxl with
  | [y0, y1, y2, y3, y4, y5], _ =>
    have f0 := hf 0 _ rfl
    have f1 := hf 1 _ rfl
    have f2 := hf 2 _ rfl
    have f3 := hf 3 _ rfl
    have f4 := hf 4 _ rfl
    have f5 := hf 5 _ rfl
    obtain ⟨d, hd, _, _, _, hd8⟩ := trod_nat Tryd.underlying5 (.inr (.inr (.inr rfl))) f0
    obtain ⟨n, hn, _, _, hn16, _⟩ := trod_nat Tryd.underlying22 (.inr (.inr (.inl rfl))) f1
    obtain ⟨o, ho, _, ho32, _, _⟩ := trod_nat Tryd.underlying24 (.inr (.inl rfl)) f2
    obtain ⟨i, iok, hi⟩ := trod_ino f3
    obtain ⟨b, hb, _, _, hb16, _⟩ := trod_nat Tryd.underlying22 (.inr (.inr (.inl rfl))) f4
    obtain ⟨c, hcc, _, _, _, hc8⟩ := trod_nat Tryd.underlying5 (.inr (.inr (.inr rfl))) f5
    have c8 : Tryd.prog.cellsOf 5 = 1 := by kernel_rfl
    have c16 : Tryd.prog.cellsOf 22 = 1 := by kernel_rfl
    have c32 : Tryd.prog.cellsOf 24 = 1 := by kernel_rfl
    have cI : Tryd.prog.cellsOf 41 = 44 := by kernel_rfl
    have hd : (cs.drop 0).take (Tryd.prog.cellsOf 5) = [.int .u8 d] := hd
    have hn : (cs.drop 1).take (Tryd.prog.cellsOf 22) = [.int .u16 n] := hn
    have ho : (cs.drop 2).take (Tryd.prog.cellsOf 24) = [.int .u32 o] := ho
    have hi : (cs.drop 3).take (Tryd.prog.cellsOf 41) = (ino i).toList := hi
    have hb : (cs.drop 47).take (Tryd.prog.cellsOf 22) = [.int .u16 b] := hb
    have hcc : (cs.drop 48).take (Tryd.prog.cellsOf 5) = [.int .u8 c] := hcc
    rw [c8] at hd hcc
    rw [c16] at hn hb
    rw [c32] at ho
    rw [cI] at hi
    have hcn : (UInt8.ofNat c).toNat = c := UInt8.toNat_ofNat_of_lt' (by simp [UInt8.size]; exact hc8 rfl)
    refine ⟨⟨d, ⟨n, hn16 rfl⟩, ⟨o, ho32 rfl⟩, i, b, UInt8.ofNat c⟩, ⟨hd8 rfl, hb16 rfl, iok⟩, ?_⟩
    have st : ∀ i j, (cs.drop i).take j ++ cs.drop (i + j) = cs.drop i := fun i j => by rw [← List.drop_drop, List.take_append_drop]
    have e1 : cs = (cs.drop 0).take 1 ++ ((cs.drop 1).take 1 ++ ((cs.drop 2).take 1 ++ ((cs.drop 3).take 44 ++ ((cs.drop 47).take 1 ++ (cs.drop 48).take 1)))) := by
      rw [List.take_of_length_le (i := 1) (l := cs.drop 48) (by simp; omega), st 47 1, st 3 44, st 2 1, st 1 1, st 0 1, List.drop_zero]
    rw [e1, hd, hn, ho, hi, hb, hcc]
    simp [acv, hcn]
end
end Go.Proofs.YtnefdmbdkljifaaDoor

namespace Go.Proofs.YtnefdmbdkljifaaDoor
open Go.ChangeShapes Go.WideShapes Go.ChangeAt Go.RowKit Go.Kin

set_option maxRecDepth 100000 in
theorem overlayPlays_lifted (os : Os) (started : os.Started) (H : Type) (enc : TypeId × Value → H) :
    ReturnsInHanded {} Tryd.checked os 3 .any (fun w args => (Rows.overlayPlaysSpec.pre enc Tryd.prog Tryd.f3 [] false w args ∧ laidMetH Tryd.prog Rows.overlayPlaysRow.laid w) ∧ sizedMet enc Tryd.prog Tryd.f3 (OpenSpec.ofChange Rows.overlayPlaysSpec) false w args)
      (Rows.overlayPlaysSpec.post enc Tryd.prog Tryd.f3 false true false false) := by
  refine returnsInHanded_of_change_and (C := Tryd.checked) (X := fun w _ => laidMetH Tryd.prog Rows.overlayPlaysRow.laid w) (fun _ _ _ hh h => h.of_heap hh) own started (by kernel_rfl) Tryd.func3
    (ChangeSpec.witness_at (enc := enc) (C := Tryd.checked) (os := os) (X := fun w _ => laidMetH Tryd.prog Rows.overlayPlaysRow.laid w) false (laidWorld os) #[.int .u16 0, .slice none 0 0, .int .u16 0, .int .u32 0] 8 rfl (by kernel_rfl) (by kernel_rfl) (by kernel_rfl) (by kernel_rfl) (by kernel_rfl) (laidWorld_met os _)) ?_
  intro W base args ds gs before hval0 hW _ _ hL _
  have hval : ∀ (j : Nat) t v, Tryd.f3.params[j]? = some t → args[j]? = some v → Value.okWide Tryd.prog W .any base t v := hval0
  have hW' := hW
  obtain ⟨p, q, hA0, hV, rfl, hfz, hnd⟩ := hW
  have hA : DataW.TrodAll enc Tryd.prog W 0 (fun _ => true) true Tryd.f3.params.toList args.toList ds p := hA0
  have hAk := hA
  rw [Tryd.params3] at hA hval
  obtain ⟨v0, vs0, d0, ds0, p0, q0, hargs, rfl, rfl, h0, hA⟩ := trodAll_cons hA
  obtain ⟨v1, vs1, d1, ds1, p1, q1, rfl, rfl, rfl, h1, hA⟩ := trodAll_cons hA
  obtain ⟨v2, vs2, d2, ds2, p2, q2, rfl, rfl, rfl, h2, hA⟩ := trodAll_cons hA
  obtain ⟨v3, vs3, d3, ds3, p3, q3, rfl, rfl, rfl, h3, hA⟩ := trodAll_cons hA
  obtain ⟨rfl, rfl, rfl⟩ := trodAll_nil hA
  obtain rfl : args = #[v0, v1, v2, v3] := Array.ext' hargs
  obtain ⟨rfl, rfl⟩ := trodVars_none hV
  have o0 := hval 0 22 v0 rfl rfl
  have o1 := hval 1 23 v1 rfl rfl
  have o2 := hval 2 22 v2 rfl rfl
  have o3 := hval 3 24 v3 rfl rfl
  obtain ⟨y0, rfl, _, _, wa0⟩ := Go.ChangeShapes.open_int Tryd.underlying22 o0 h0
  simp [Lit.wf, IntKind.min, IntKind.max, IntKind.signed, IntKind.bits] at wa0
  obtain ⟨z0, rfl⟩ : ∃ n : Nat, y0 = n := ⟨y0.toNat, by omega⟩
  obtain ⟨y2, rfl, _, _, wa2⟩ := Go.ChangeShapes.open_int Tryd.underlying22 o2 h2
  simp [Lit.wf, IntKind.min, IntKind.max, IntKind.signed, IntKind.bits] at wa2
  obtain ⟨z2, rfl⟩ : ∃ n : Nat, y2 = n := ⟨y2.toNat, by omega⟩
  obtain ⟨y3, rfl, _, _, wa3⟩ := Go.ChangeShapes.open_int Tryd.underlying24 o3 h3
  simp [Lit.wf, IntKind.min, IntKind.max, IntKind.signed, IntKind.bits] at wa3
  obtain ⟨z3, rfl⟩ : ∃ n : Nat, y3 = n := ⟨y3.toNat, by omega⟩
  obtain ⟨L1, ok1, hL1⟩ := open_list (fun a : Ac => a.Ok) acv (k := 49) (by decide) Tryd.underlying23 (by kernel_rfl) o1 h1 fun cs fuel x hl ht => trod_ac ht
  refine (plays_any z0 (by omega) v1 L1 ⟨z2, by omega⟩ ⟨z3, by omega⟩ W (lw_of_laid hL) hL1 ok1).calls.mono fun e W' ⟨v, he, hv, hc⟩ => ?_
  subst he; subst hv
  exact ⟨_, rfl, post_law laidOut hW' hAk rfl (by kernel_rfl) (by kernel_rfl) Tryd.underlying4 rfl rfl hc.below⟩
theorem overlayPlays_row : Rows.OverlayPlaysSaid :=
  OpenClaim.holds_of_wide 3 Tryd.f3 rfl rfl rfl rfl rfl rfl rfl ⟨rfl, rfl, rfl, rfl, rfl⟩ rfl rfl rfl rfl rfl (by kernel_rfl) Tryd.func3 (by kernel_rfl)
    (of_decide_eq_true (by kernel_rfl)) (by unfold Func.isWrapper; first | (rw [if_pos (by decide +kernel)]; kernel_rfl) | (rw [if_neg (by decide +kernel)]; exact ⟨rfl, rfl⟩))
    (fun os started H enc _ => overlayPlays_lifted os started H enc)
theorem overlayPlays_holds : Rows.OverlayPlaysCardSaid :=
  Claim7.holds_tied_plain_at .later [] [.data] true (true, "c1dffb78940a394cdf4839420d521637a70d2d21dc48d00417b3218c956a5b08") true
    overlayPlays_row (fun _ h => by cases h) (by kernel_rfl) (fun _ h => by cases h) overlayPlays_row_tie rfl ⟨rfl, rfl⟩ (by kernel_rfl) rfl
    (fun f fn hf hfn => by
      obtain rfl : f = 3 := Option.some.inj ((show Tryd.prog.funcNamed "kintsugi/kintsugilaw15.OverlayPlays" = some 3 by kernel_rfl).symm.trans hf) |>.symm
      obtain rfl : fn = Tryd.f3 := (Option.some.inj (Tryd.func3.symm.trans hfn)).symm
      exact ⟨by kernel_rfl, fun j t ht => no_stand (by kernel_rfl) j t ht⟩)
    (by kernel_rfl)
#print axioms overlayPlays_holds
end Go.Proofs.YtnefdmbdkljifaaDoor
