/- MirrorPlays answers true for every input. Condition: the listed package variables hold what the text lays. (Printed by genRmQ.py.) -/
import Derived.Test.YtppilgkgnofkpaaGreatDoorRows
import Derived.Test.YtppilgkgnofkpaaGreatDoorCards
import Derived.Test.YtppilgkgnofkpaaGreatDoorTie
import Derived.Test.YtppilgkgnofkpaaGreatDoorAcA
import Derived.Test.YtppilgkgnofkpaaGreatDoorPtC
import Derived.Test.YtppilgkgnofkpaaGreatDoorShaA
import Derived.Test.YtppilgkgnofkpaaGreatDoorBsl
import Derived.ProofKit
import Derived.LaidSub
import Derived.LaidHandle
import Derived.SevenTiedAt
import Derived.Test.YtppilgkgnofkpaaGreatDoorMrM
import Derived.Test.YtppilgkgnofkpaaGreatDoorRow
import Derived.Test.YtppilgkgnofkpaaGreatDoorMrK
import Derived.Test.YtppilgkgnofkpaaGreatDoorRmJ
set_option linter.unusedSimpArgs false
set_option linter.unusedVariables false

/- Arguments that are pointers, opened; the variable ptr.wide as the text lays it. No condition. -/
namespace Go.Proofs.YtppilgkgnofkpaaGreatDoor
open Go.ChangeShapes Go.WideShapes Go.ChangeAt Go.RowKit Go.Kin

theorem own : ownKnob Tryz.prog.godebug = none := by kernel_rfl
theorem laidOut : laidOutB Tryz.prog = true := by kernel_rfl
theorem wide_g : Tryz.prog.globalNamed "kintsugi/ptr.wide" = some 0 := by kernel_rfl
theorem wide_T : (Tryz.prog.globals[(0 : Nat)]?).map (·.type) = some 173 := by kernel_rfl
theorem lw_of_laid1 {w : World} (h' : laidMet Tryz.prog [("kintsugi/ptr.wide", .agg (([0, 1, 2, 2, 2, 2] : List Int).map fun z => .lit (.int .i64 z)))] w) : Lw w := by
  have := laid_ints wide_g wide_T Tryz.underlying173 Tryz.underlying3 (by kernel_rfl) (by kernel_rfl) rfl h'
  exact this
theorem no_stand {P : Program} {ps : Array TypeId} (h : (ps.toList.all fun t => !P.wantsStandIn t) = true) (j : Nat) (t : TypeId) (ht : ps[j]? = some t) : P.wantsStandIn t = false := by
  rw [List.all_eq_true] at h
  have := h t (List.mem_of_getElem? (i := j) (by rw [Array.getElem?_toList]; exact ht))
  simpa using this
section
variable {H : Type} {enc : TypeId × Value → H} {P : Program} {W : World} {base : Nat} {spare : Nat → Bool} {held : Bool} {fuel : Nat} {cs : List Value} {x : DataW H × List MemPlace}
theorem open_u8 {t : TypeId} {r : Reach} {b0 : Nat} {v : Value} {d : DataW H} {p : List MemPlace} (ht : P.underlying t = some (.int .u8))
    (hv : Value.okWide P W r b0 t v) (h : DataW.Trod enc P W 0 spare held t v d p) : ∃ n : Nat, v = .int .u8 n ∧ n < 256 := by
  obtain ⟨a, rfl, _, _, wa⟩ := open_int ht hv h
  simp [Lit.wf, IntKind.min, IntKind.max, IntKind.signed, IntKind.bits] at wa
  exact ⟨a.toNat, by congr 1; omega, by omega⟩
theorem open_u32 {t : TypeId} {r : Reach} {b0 : Nat} {v : Value} {d : DataW H} {p : List MemPlace} (ht : P.underlying t = some (.int .u32))
    (hv : Value.okWide P W r b0 t v) (h : DataW.Trod enc P W 0 spare held t v d p) : ∃ n : Nat, v = .int .u32 n ∧ n < 4294967296 := by
  obtain ⟨a, rfl, _, _, wa⟩ := open_int ht hv h
  simp [Lit.wf, IntKind.min, IntKind.max, IntKind.signed, IntKind.bits] at wa
  exact ⟨a.toNat, by congr 1; omega, by omega⟩
theorem open_i64 {t : TypeId} {r : Reach} {b0 : Nat} {v : Value} {d : DataW H} {p : List MemPlace} (ht : P.underlying t = some (.int .i64))
    (hv : Value.okWide P W r b0 t v) (h : DataW.Trod enc P W 0 spare held t v d p) : ∃ n : Int, v = .int .i64 n ∧ -9223372036854775808 ≤ n ∧ n ≤ 9223372036854775807 := by
  obtain ⟨a, rfl, _, _, wa⟩ := open_int ht hv h
  simp [Lit.wf, IntKind.min, IntKind.max, IntKind.signed, IntKind.bits] at wa
  exact ⟨a, rfl, by omega, by omega⟩
set_option maxRecDepth 100000 in
/-- a pointer's cells, read -/
theorem trod_pt (h : DataW.trod enc Tryz.prog W base spare held fuel 58 cs = some x) : ∃ p, PtOk p ∧ cs = (pt p).toList := by
  obtain ⟨xs, m, _, _, hl, hxl, hf⟩ := DataW.trod_struct Tryz.underlying58 h
  have hc : Tryz.prog.cellsOf 58 = 41 := by kernel_rfl
  rw [hc] at hl
  match xs, hxl with
  | [y0, y1, y2, y3, y4, y5, y6], _ =>
    have f0 := hf 0 _ rfl
    have f1 := hf 1 _ rfl
    have f2 := hf 2 _ rfl
    have f3 := hf 3 _ rfl
    have f4 := hf 4 _ rfl
    have f5 := hf 5 _ rfl
    have f6 := hf 6 _ rfl
    obtain ⟨k, hk, _, _, _, hk8⟩ := trod_nat Tryz.underlying5 (.inr (.inr (.inr rfl))) f0
    obtain ⟨lv, hlv, _, _, _, hl8⟩ := trod_nat Tryz.underlying5 (.inr (.inr (.inr rfl))) f1
    obtain ⟨o, ho, _, _, ho16, _⟩ := trod_nat Tryz.underlying52 (.inr (.inr (.inl rfl))) f2
    obtain ⟨f, hff, _, hf32, _, _⟩ := trod_nat Tryz.underlying53 (.inr (.inl rfl)) f3
    obtain ⟨b, hb, hb64, _⟩ := trod_nat Tryz.underlying54 (.inl rfl) f4
    obtain ⟨l, hll, hlc⟩ := trod_bytesA Tryz.underlying55 Tryz.underlying5 (by kernel_rfl) (by kernel_rfl) f5
    obtain ⟨a, hal, hac, halt⟩ := trod_u16A Tryz.underlying56 Tryz.underlying52 (by kernel_rfl) (by kernel_rfl) f6
    have c8 : Tryz.prog.cellsOf 5 = 1 := by kernel_rfl
    have c16 : Tryz.prog.cellsOf 52 = 1 := by kernel_rfl
    have c32 : Tryz.prog.cellsOf 53 = 1 := by kernel_rfl
    have c64 : Tryz.prog.cellsOf 54 = 1 := by kernel_rfl
    have cA : Tryz.prog.cellsOf 55 = 32 := by kernel_rfl
    have cB : Tryz.prog.cellsOf 56 = 4 := by kernel_rfl
    have hk : (cs.drop 0).take (Tryz.prog.cellsOf 5) = [.int .u8 k] := hk
    have hlv : (cs.drop 1).take (Tryz.prog.cellsOf 5) = [.int .u8 lv] := hlv
    have ho : (cs.drop 2).take (Tryz.prog.cellsOf 52) = [.int .u16 o] := ho
    have hff : (cs.drop 3).take (Tryz.prog.cellsOf 53) = [.int .u32 f] := hff
    have hb : (cs.drop 4).take (Tryz.prog.cellsOf 54) = [.int .u64 b] := hb
    have hlc : (cs.drop 5).take (Tryz.prog.cellsOf 55) = bvs l := hlc
    have hac : (cs.drop 37).take (Tryz.prog.cellsOf 56) = u16s a := hac
    rw [c8] at hk hlv
    rw [c16] at ho
    rw [c32] at hff
    rw [c64] at hb
    rw [cA] at hlc
    rw [cB] at hac
    refine ⟨⟨k, lv, o, f, b, l, a⟩, ⟨hk8 rfl, hl8 rfl, ho16 rfl, hf32 rfl, hb64 rfl, hll, hal, fun x hx => ?_⟩, ?_⟩
    · obtain ⟨i, hi⟩ := List.mem_iff_getElem?.1 hx
      exact halt i x hi
    have st : ∀ i j, (cs.drop i).take j ++ cs.drop (i + j) = cs.drop i := fun i j => by rw [← List.drop_drop, List.take_append_drop]
    have e1 : cs = (cs.drop 0).take 1 ++ ((cs.drop 1).take 1 ++ ((cs.drop 2).take 1 ++ ((cs.drop 3).take 1 ++ ((cs.drop 4).take 1 ++ ((cs.drop 5).take 32 ++ (cs.drop 37).take 4))))) := by
      rw [List.take_of_length_le (i := 4) (by simp; omega), st 5 32, st 4 1, st 3 1, st 2 1, st 1 1, st 0 1, List.drop_zero]
    rw [e1, hk, hlv, ho, hff, hb, hlc, hac]
    simp [pt]
/-- cells that lie behind one another, read -/
theorem rows_of {α : Type} {f : α → Array Value} {m : Nat} (Y : Nat → α) : ∀ (n : Nat) (cs : List Value), cs.length = n * m → (∀ i, i < n → (cs.drop (i * m)).take m = (f (Y i)).toList) → ∀ k, k ≤ n → cs.take (k * m) = rowsL f ((List.range k).map Y) := by
  intro n cs hl h k
  induction k with
  | zero => intro _; simp [rowsL]
  | succ k ih =>
    intro hk
    rw [Nat.add_mul, Nat.one_mul, List.take_add, ih (by omega), h k (by omega), List.range_succ, List.map_append, rowsL_append]
    simp [rowsL]
end
end Go.Proofs.YtppilgkgnofkpaaGreatDoor

/- The variables sha.constants and ptr.wide as the text lays them; a world that meets the conditions. No condition. -/
namespace Go.Proofs.YtppilgkgnofkpaaGreatDoor
open Go.ChangeShapes Go.WideShapes Go.ChangeAt Go.RowKit Go.Kin

def Kz : List Int := [1116352408, 1899447441, 3049323471, 3921009573, 961987163, 1508970993, 2453635748, 2870763221, 3624381080, 310598401, 607225278, 1426881987, 1925078388, 2162078206, 2614888103, 3248222580, 3835390401, 4022224774, 264347078, 604807628, 770255983, 1249150122, 1555081692, 1996064986, 2554220882, 2821834349, 2952996808, 3210313671, 3336571891, 3584528711, 113926993, 338241895, 666307205, 773529912, 1294757372, 1396182291, 1695183700, 1986661051, 2177026350, 2456956037, 2730485921, 2820302411, 3259730800, 3345764771, 3516065817, 3600352804, 4094571909, 275423344, 430227734, 506948616, 659060556, 883997877, 958139571, 1322822218, 1537002063, 1747873779, 1955562222, 2024104815, 2227730452, 2361852424, 2428436474, 2756734187, 3204031479, 3329325298]
theorem Kz_eq : Kz = Kc.map fun n : Nat => (n : Int) := by decide +kernel
theorem consts_g : Tryz.prog.globalNamed "kintsugi/sha.constants" = some 1 := by kernel_rfl
theorem consts_T : (Tryz.prog.globals[(1 : Nat)]?).map (·.type) = some 208 := by kernel_rfl
theorem laid_consts {H : Type} : (Rows.laid_kintsugi_sha_constants : DataW H) = .agg (Kz.map fun z => .lit (.int .u32 z)) := rfl
theorem lw_of_laid3 {w : World} (h : laidMetH Tryz.prog [("kintsugi/sha.constants", Rows.laid_kintsugi_sha_constants), ("kintsugi/ptr.wide", Rows.laid_kintsugi_ptr_wide)] w) : Lw w := by
  have h' : laidMet Tryz.prog [("kintsugi/sha.constants", Rows.laid_kintsugi_sha_constants), ("kintsugi/ptr.wide", .agg (([0, 1, 2, 2, 2, 2] : List Int).map fun z => .lit (.int .i64 z)))] w := h
  exact lw_of_laid1 (h'.filter fun x => x.1 == "kintsugi/ptr.wide")
theorem lk_of_laid3 {w : World} (h : laidMetH Tryz.prog [("kintsugi/sha.constants", Rows.laid_kintsugi_sha_constants), ("kintsugi/ptr.wide", Rows.laid_kintsugi_ptr_wide)] w) : Lk w := by
  have h' : laidMet Tryz.prog [("kintsugi/sha.constants", Rows.laid_kintsugi_sha_constants), ("kintsugi/ptr.wide", Rows.laid_kintsugi_ptr_wide)] w := h
  have h2 : laidMet Tryz.prog [("kintsugi/sha.constants", Rows.laid_kintsugi_sha_constants)] w := h'.filter fun x => x.1 == "kintsugi/sha.constants"
  rw [laid_consts] at h2
  have := laid_ints consts_g consts_T Tryz.underlying208 Tryz.underlying53 (by kernel_rfl) (by kernel_rfl) rfl h2
  intro i hi
  have hl : Kc.length = 64 := rfl
  have e : Kz[i]? = some ((Kc.getD i 0 : Nat) : Int) := by
    rw [Kz_eq, List.getElem?_map, List.getD_eq_getElem?_getD, List.getElem?_eq_getElem (by omega)]
    rfl
  exact this i _ e
/-- A world that meets the conditions. -/
noncomputable def laidWorld3 (os : Os) : World :=
  let w0 := World.holding Tryz.prog os ⟨#[], #[], []⟩
  { w0 with heap := (w0.heap.modify 0 fun
      | .cells _ t frozen => .cells #[.int .i64 0, .int .i64 1, .int .i64 2, .int .i64 2, .int .i64 2, .int .i64 2] t frozen
      | o => o).modify 1 fun
      | .cells _ t frozen => .cells (Kz.map fun z => Value.int .u32 z).toArray t frozen
      | o => o }
theorem laidWorld3_met (os : Os) (args : Array Value) : laidMetH Tryz.prog [("kintsugi/sha.constants", Rows.laid_kintsugi_sha_constants), ("kintsugi/ptr.wide", Rows.laid_kintsugi_ptr_wide)] ((laidWorld3 os).forCall (fun _ _ => 0) ⟨#[], args, []⟩).memory :=
  laidMetH_of_parts (laidMet_of_run' 8 (by kernel_rfl) (by kernel_rfl)) (by kernel_rfl)
end Go.Proofs.YtppilgkgnofkpaaGreatDoor

/- Acts on disks that are arguments, opened. No condition. -/
namespace Go.Proofs.YtppilgkgnofkpaaGreatDoor
open Go.ChangeShapes Go.WideShapes Go.ChangeAt Go.RowKit Go.Kin

section
variable {H : Type} {enc : TypeId × Value → H} {W : World} {spare : Nat → Bool} {held : Bool} {fuel : Nat} {cs : List Value} {x : DataW H × List MemPlace}
set_option maxRecDepth 100000 in
theorem trod_ac (hl : cs.length = 7) (h : DataW.trod enc Tryz.prog W 0 spare held fuel 63 cs = some x) : ∃ a : Ac, a.In W ∧ cs = acv a := by
  obtain ⟨xs, m, _, _, _, hxl, hf⟩ := DataW.trod_struct Tryz.underlying63 h
  match cs, hl, xs, hxl with
  | [c0, c1, c2, c3, c4, c5, c6], _, [y0, y1, y2, y3, y4, y5, y6], _ =>
    have f0 := hf 0 _ rfl
    obtain ⟨d, e0, hd⟩ := trod_u8 Tryz.underlying5 f0
    have e0 : [c0] = _ := e0
    injection e0 with e0 _
    subst e0
    have f1 := hf 1 _ rfl
    obtain ⟨k, e1, hk⟩ := trod_u8 Tryz.underlying5 f1
    have e1 : [c1] = _ := e1
    injection e1 with e1 _
    subst e1
    have f2 := hf 2 _ rfl
    obtain ⟨a, e2, ha⟩ := trod_u16 Tryz.underlying52 f2
    have e2 : [c2] = _ := e2
    injection e2 with e2 _
    subst e2
    have f3 := hf 3 _ rfl
    obtain ⟨v, l, e3, sl, lt⟩ := trod_bytesF Tryz.underlying59 Tryz.underlying5 (by kernel_rfl) f3
    have e3 : [c3] = _ := e3
    injection e3 with e3 _
    subst e3
    have f4 := hf 4 _ rfl
    obtain ⟨b, e4⟩ := trod_b Tryz.underlying4 f4
    have e4 : [c4] = _ := e4
    injection e4 with e4 _
    subst e4
    have f5 := hf 5 _ rfl
    obtain ⟨z, e5, hz1, hz2⟩ := trod_i64 Tryz.underlying3 f5
    have e5 : [c5] = _ := e5
    injection e5 with e5 _
    subst e5
    have f6 := hf 6 _ rfl
    obtain ⟨pv, pl, e6, psl, pwf, plt⟩ := trod_nums Tryz.underlying61 Tryz.underlying3 (by kernel_rfl) f6
    have e6 : [c6] = _ := e6
    injection e6 with e6 _
    subst e6
    exact ⟨⟨d, k, a, c3, l, b, z, c6, pl⟩, ⟨ha, hd, hk, ⟨hz1, hz2⟩, sl, fun j h0 hj => by
      obtain ⟨b, h1, h2⟩ := lt h0
      rw [h1] at hj; cases hj; exact h2, psl, fun j h0 hj => by
      obtain ⟨b, h1, h2⟩ := plt h0
      rw [h1] at hj; cases hj; exact h2, fun x hx => by
      have := pwf x hx
      simp [Lit.wf, IntKind.min, IntKind.max, IntKind.signed, IntKind.bits] at this
      omega⟩, rfl⟩
end
end Go.Proofs.YtppilgkgnofkpaaGreatDoor

/- The mirror law's acts that are arguments, opened. No condition. -/
namespace Go.Proofs.YtppilgkgnofkpaaGreatDoor
open Go.ChangeShapes Go.WideShapes Go.ChangeAt Go.RowKit Go.Kin

section
variable {H : Type} {enc : TypeId × Value → H} {W : World} {spare : Nat → Bool} {held : Bool} {fuel : Nat} {cs : List Value} {x : DataW H × List MemPlace}
set_option maxRecDepth 100000 in
theorem trod_am (h : DataW.trod enc Tryz.prog W 0 spare held fuel 65 cs = some x) : ∃ a : Am, a.In W ∧ cs = amL a := by
  obtain ⟨xs, m, _, _, hl, hxl, hf⟩ := DataW.trod_struct Tryz.underlying65 h
  have hc : Tryz.prog.cellsOf 65 = 51 := by kernel_rfl
  rw [hc] at hl
  match xs, hxl with
  | [y0, y1, y2, y3, y4], _ =>
    have f0 := hf 0 _ rfl
    have f1 := hf 1 _ rfl
    have f2 := hf 2 _ rfl
    have f3 := hf 3 _ rfl
    have f4 := hf 4 _ rfl
    obtain ⟨d, hd, hd8⟩ := trod_u8 Tryz.underlying5 f0
    obtain ⟨q, okq, hq⟩ := trod_pt f1
    obtain ⟨v, l, hv, sl, lt⟩ := trod_bytesF Tryz.underlying59 Tryz.underlying5 (by kernel_rfl) f2
    obtain ⟨b, hb⟩ := trod_b Tryz.underlying4 f3
    have c8 : Tryz.prog.cellsOf 5 = 1 := by kernel_rfl
    have cP : Tryz.prog.cellsOf 58 = 41 := by kernel_rfl
    have cB : Tryz.prog.cellsOf 59 = 1 := by kernel_rfl
    have cb : Tryz.prog.cellsOf 4 = 1 := by kernel_rfl
    have cA : Tryz.prog.cellsOf 63 = 7 := by kernel_rfl
    have hd : (cs.drop 0).take (Tryz.prog.cellsOf 5) = [.int .u8 d] := hd
    have hq : (cs.drop 1).take (Tryz.prog.cellsOf 58) = (pt q).toList := hq
    have hv : (cs.drop 42).take (Tryz.prog.cellsOf 59) = [v] := hv
    have hb : (cs.drop 43).take (Tryz.prog.cellsOf 4) = [.bool b] := hb
    rw [c8] at hd
    rw [cP] at hq
    rw [cB] at hv
    rw [cb] at hb
    have f4 : DataW.trod enc Tryz.prog W 0 spare held _ 63 ((cs.drop 44).take (Tryz.prog.cellsOf 63)) = some y4 := f4
    rw [cA] at f4
    obtain ⟨a, ha, hacv⟩ := trod_ac (by simp [hl]) f4
    refine ⟨⟨d, q, v, l, b, a⟩, ⟨hd8, okq, sl, ha⟩, ?_⟩
    have e : cs = (cs.drop 0).take 1 ++ ((cs.drop 1).take 41 ++ ((cs.drop 42).take 1 ++ ((cs.drop 43).take 1 ++ (cs.drop 44).take 7))) := by
      apply List.ext_getElem?
      intro i
      simp only [List.getElem?_append, List.getElem?_take, List.getElem?_drop, List.length_take, List.length_drop, hl]
      split
      · simp_all
      · split
        · rw [if_pos (by omega)]; congr 1; omega
        · split
          · rw [if_pos (by omega)]; congr 1; omega
          · split
            · rw [if_pos (by omega)]; congr 1; omega
            · split
              · congr 1; omega
              · rw [List.getElem?_eq_none (by omega)]
    rw [e, hd, hq, hv, hb, hacv]
    rfl
end
end Go.Proofs.YtppilgkgnofkpaaGreatDoor

namespace Go.Proofs.YtppilgkgnofkpaaGreatDoor
open Go.ChangeShapes Go.WideShapes Go.ChangeAt Go.RowKit Go.Kin

set_option maxRecDepth 100000 in
theorem mirrorPlays_lifted (os : Os) (started : os.Started) (H : Type) (enc : TypeId × Value → H) :
    ReturnsInHanded {} Tryz.checked os 3 .any (fun w args => (Rows.mirrorPlaysSpec.pre enc Tryz.prog Tryz.f3 [] false w args ∧ laidMetH Tryz.prog Rows.mirrorPlaysRow.laid w) ∧ sizedMet enc Tryz.prog Tryz.f3 (OpenSpec.ofChange Rows.mirrorPlaysSpec) false w args)
      (Rows.mirrorPlaysSpec.post enc Tryz.prog Tryz.f3 false true false false) := by
  refine returnsInHanded_of_change_and (C := Tryz.checked) (X := fun w _ => laidMetH Tryz.prog Rows.mirrorPlaysRow.laid w) (fun _ _ _ hh h => h.of_heap hh) own started (by kernel_rfl) Tryz.func3
    (ChangeSpec.witness_at (enc := enc) (C := Tryz.checked) (os := os) (X := fun w _ => laidMetH Tryz.prog Rows.mirrorPlaysRow.laid w) false (laidWorld3 os) #[.int .u8 0, .slice none 0 0] 8 rfl (by kernel_rfl) (by kernel_rfl) (by kernel_rfl) (by kernel_rfl) (by kernel_rfl) (laidWorld3_met os _)) ?_
  intro W base args ds gs before hval0 hW _ _ hL _
  have hval : ∀ (j : Nat) t v, Tryz.f3.params[j]? = some t → args[j]? = some v → Value.okWide Tryz.prog W .any base t v := hval0
  have hW' := hW
  obtain ⟨p, q, hA0, hV, rfl, hfz, hnd⟩ := hW
  have hA : DataW.TrodAll enc Tryz.prog W 0 (fun _ => true) true Tryz.f3.params.toList args.toList ds p := hA0
  have hAk := hA
  rw [Tryz.params3] at hA hval
  obtain ⟨v0, vs0, d0, ds0, p0, q0, hargs, rfl, rfl, h0, hA⟩ := trodAll_cons hA
  obtain ⟨v1, vs1, d1, ds1, p1, q1, rfl, rfl, rfl, h1, hA⟩ := trodAll_cons hA
  obtain ⟨rfl, rfl, rfl⟩ := trodAll_nil hA
  obtain rfl : args = #[v0, v1] := Array.ext' hargs
  obtain ⟨rfl, rfl⟩ := trodVars_none hV
  have o0 := hval 0 5 v0 rfl rfl
  have o1 := hval 1 22 v1 rfl rfl
  obtain ⟨m, rfl, hm⟩ := open_u8 Tryz.underlying5 o0 h0
  obtain ⟨L1, hin1, hL1⟩ := open_list (fun a : Am => a.In W) amL (k := 51) (by decide) Tryz.underlying22 (by kernel_rfl) o1 h1 fun cs fuel x hl ht => trod_am ht
  refine (mplays_any m hm v1 L1 W hL1 hin1 (lw_of_laid3 hL) (lk_of_laid3 hL)).calls.mono fun e W' ⟨v, he, hv, hc⟩ => ?_
  subst he; subst hv
  exact ⟨_, rfl, post_law laidOut hW' hAk rfl (by kernel_rfl) (by kernel_rfl) Tryz.underlying4 rfl rfl hc.below⟩
theorem mirrorPlays_row : Rows.MirrorPlaysSaid :=
  OpenClaim.holds_of_wide 3 Tryz.f3 rfl rfl rfl rfl rfl rfl rfl ⟨rfl, rfl, rfl, rfl, rfl⟩ rfl rfl rfl rfl rfl (by kernel_rfl) Tryz.func3 (by kernel_rfl)
    (of_decide_eq_true (by kernel_rfl)) (by unfold Func.isWrapper; first | (rw [if_pos (by decide +kernel)]; kernel_rfl) | (rw [if_neg (by decide +kernel)]; exact ⟨rfl, rfl⟩))
    (fun os started H enc _ => mirrorPlays_lifted os started H enc)
theorem mirrorPlays_holds : Rows.MirrorPlaysCardSaid :=
  Claim7.holds_tied_plain_at .later [] [.data, .data] true (true, "1d24d9eae8774bd06320f86cfef3256598c4f5cfd27506e9337df7c5f93b2d30") false
    mirrorPlays_row (fun _ h => by cases h) (by kernel_rfl) (fun _ h => by cases h) mirrorPlays_row_tie rfl ⟨rfl, rfl⟩ (by kernel_rfl) rfl
    (fun f fn hf hfn => by
      obtain rfl : f = 3 := Option.some.inj ((show Tryz.prog.funcNamed "kintsugi/kintsugilaw08.MirrorPlays" = some 3 by kernel_rfl).symm.trans hf) |>.symm
      obtain rfl : fn = Tryz.f3 := (Option.some.inj (Tryz.func3.symm.trans hfn)).symm
      exact ⟨by kernel_rfl, fun j t ht => no_stand (by kernel_rfl) j t ht⟩)
    (by kernel_rfl)
#print axioms mirrorPlays_holds
end Go.Proofs.YtppilgkgnofkpaaGreatDoor
