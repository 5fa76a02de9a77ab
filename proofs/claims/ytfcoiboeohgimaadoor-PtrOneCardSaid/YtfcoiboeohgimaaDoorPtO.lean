/- Arguments that are pointers, opened; the variable ptr.wide as the text lays it. No condition. -/
import Derived.Test.YtfcoiboeohgimaaDoorRows
import Derived.Test.YtfcoiboeohgimaaDoorCards
import Derived.Test.YtfcoiboeohgimaaDoorTie
import Derived.Test.YtfcoiboeohgimaaDoorLaid
import Derived.Test.YtfcoiboeohgimaaDoorPtB
import Derived.Test.YtfcoiboeohgimaaDoorPtF
import Derived.Test.YtfcoiboeohgimaaDoorLots
import Derived.ProofKit
import Derived.LaidSub
import Derived.LaidHandle
import Derived.SevenTiedAt
namespace Go.Proofs.YtfcoiboeohgimaaDoor
open Go.ChangeShapes Go.WideShapes Go.ChangeAt Go.RowKit Go.Kin

theorem own : ownKnob Tryd.prog.godebug = none := by kernel_rfl
theorem laidOut : laidOutB Tryd.prog = true := by kernel_rfl
theorem wide_g : Tryd.prog.globalNamed "kintsugi/ptr.wide" = some 1 := by kernel_rfl
theorem wide_T : (Tryd.prog.globals[(1 : Nat)]?).map (·.type) = some 108 := by kernel_rfl
theorem lw_of_laid1 {w : World} (h' : laidMet Tryd.prog [("kintsugi/ptr.wide", .agg (([0, 1, 2, 2, 2, 2] : List Int).map fun z => .lit (.int .i64 z)))] w) : Lw w := by
  have := laid_ints wide_g wide_T Tryd.underlying108 Tryd.underlying3 (by kernel_rfl) (by kernel_rfl) rfl h'
  exact this
theorem no_stand {P : Program} {ps : Array TypeId} (h : (ps.toList.all fun t => !P.wantsStandIn t) = true) (j : Nat) (t : TypeId) (ht : ps[j]? = some t) : P.wantsStandIn t = false := by
  rw [List.all_eq_true] at h
  have := h t (List.mem_of_getElem? (i := j) (by rw [Array.getElem?_toList]; exact ht))
  simpa using this
section
variable {H : Type} {enc : TypeId × Value → H} {P : Program} {W : World} {base : Nat} {spare : Nat → Bool} {held : Bool} {fuel : Nat} {cs : List Value} {x : DataW H × List MemPlace}
theorem open_u8 {t : TypeId} {r : Reach} {b0 : Nat} {v : Value} {d : DataW H} {p : List MemPlace} (ht : P.underlying t = some (.int .u8))
    (hv : Value.okWide P W r b0 t v) (h : DataW.Trod enc P W 0 spare held t v d p) : ∃ n : Nat, v = .int .u8 n ∧ n < 256 := by
  obtain ⟨a, rfl, _, _, wa⟩ := open_int ht hv h
  simp [Lit.wf, IntKind.min, IntKind.max, IntKind.signed, IntKind.bits] at wa
  exact ⟨a.toNat, by congr 1; omega, by omega⟩
theorem open_u32 {t : TypeId} {r : Reach} {b0 : Nat} {v : Value} {d : DataW H} {p : List MemPlace} (ht : P.underlying t = some (.int .u32))
    (hv : Value.okWide P W r b0 t v) (h : DataW.Trod enc P W 0 spare held t v d p) : ∃ n : Nat, v = .int .u32 n ∧ n < 4294967296 := by
  obtain ⟨a, rfl, _, _, wa⟩ := open_int ht hv h
  simp [Lit.wf, IntKind.min, IntKind.max, IntKind.signed, IntKind.bits] at wa
  exact ⟨a.toNat, by congr 1; omega, by omega⟩
theorem open_i64 {t : TypeId} {r : Reach} {b0 : Nat} {v : Value} {d : DataW H} {p : List MemPlace} (ht : P.underlying t = some (.int .i64))
    (hv : Value.okWide P W r b0 t v) (h : DataW.Trod enc P W 0 spare held t v d p) : ∃ n : Int, v = .int .i64 n ∧ -9223372036854775808 ≤ n ∧ n ≤ 9223372036854775807 := by
  obtain ⟨a, rfl, _, _, wa⟩ := open_int ht hv h
  simp [Lit.wf, IntKind.min, IntKind.max, IntKind.signed, IntKind.bits] at wa
  exact ⟨a, rfl, by omega, by omega⟩
set_option maxRecDepth 100000 in
/-- a pointer's cells, read -/
theorem trod_pt (h : DataW.trod enc Tryd.prog W base spare held fuel 28 cs = some x) : ∃ p, PtOk p ∧ cs = (pt p).toList := by
  obtain ⟨xs, m, _, _, hl, hxl, hf⟩ := DataW.trod_struct Tryd.underlying28 h
  have hc : Tryd.prog.cellsOf 28 = 41 := by kernel_rfl
  rw [hc] at hl
  match xs, hxl with
  | [y0, y1, y2, y3, y4, y5, y6], _ =>
    have f0 := hf 0 _ rfl
    have f1 := hf 1 _ rfl
    have f2 := hf 2 _ rfl
    have f3 := hf 3 _ rfl
    have f4 := hf 4 _ rfl
    have f5 := hf 5 _ rfl
    have f6 := hf 6 _ rfl
    obtain ⟨k, hk, _, _, _, hk8⟩ := trod_nat Tryd.underlying5 (.inr (.inr (.inr rfl))) f0
    obtain ⟨lv, hlv, _, _, _, hl8⟩ := trod_nat Tryd.underlying5 (.inr (.inr (.inr rfl))) f1
    obtain ⟨o, ho, _, _, ho16, _⟩ := trod_nat Tryd.underlying22 (.inr (.inr (.inl rfl))) f2
    obtain ⟨f, hff, _, hf32, _, _⟩ := trod_nat Tryd.underlying23 (.inr (.inl rfl)) f3
    obtain ⟨b, hb, hb64, _⟩ := trod_nat Tryd.underlying24 (.inl rfl) f4
    obtain ⟨l, hll, hlc⟩ := trod_bytesA Tryd.underlying25 Tryd.underlying5 (by kernel_rfl) (by kernel_rfl) f5
    obtain ⟨a, hal, hac, halt⟩ := trod_u16A Tryd.underlying26 Tryd.underlying22 (by kernel_rfl) (by kernel_rfl) f6
    have c8 : Tryd.prog.cellsOf 5 = 1 := by kernel_rfl
    have c16 : Tryd.prog.cellsOf 22 = 1 := by kernel_rfl
    have c32 : Tryd.prog.cellsOf 23 = 1 := by kernel_rfl
    have c64 : Tryd.prog.cellsOf 24 = 1 := by kernel_rfl
    have cA : Tryd.prog.cellsOf 25 = 32 := by kernel_rfl
    have cB : Tryd.prog.cellsOf 26 = 4 := by kernel_rfl
    have hk : (cs.drop 0).take (Tryd.prog.cellsOf 5) = [.int .u8 k] := hk
    have hlv : (cs.drop 1).take (Tryd.prog.cellsOf 5) = [.int .u8 lv] := hlv
    have ho : (cs.drop 2).take (Tryd.prog.cellsOf 22) = [.int .u16 o] := ho
    have hff : (cs.drop 3).take (Tryd.prog.cellsOf 23) = [.int .u32 f] := hff
    have hb : (cs.drop 4).take (Tryd.prog.cellsOf 24) = [.int .u64 b] := hb
    have hlc : (cs.drop 5).take (Tryd.prog.cellsOf 25) = bvs l := hlc
    have hac : (cs.drop 37).take (Tryd.prog.cellsOf 26) = u16s a := hac
    rw [c8] at hk hlv
    rw [c16] at ho
    rw [c32] at hff
    rw [c64] at hb
    rw [cA] at hlc
    rw [cB] at hac
    refine ⟨⟨k, lv, o, f, b, l, a⟩, ⟨hk8 rfl, hl8 rfl, ho16 rfl, hf32 rfl, hb64 rfl, hll, hal, fun x hx => ?_⟩, ?_⟩
    · obtain ⟨i, hi⟩ := List.mem_iff_getElem?.1 hx
      exact halt i x hi
    have st : ∀ i j, (cs.drop i).take j ++ cs.drop (i + j) = cs.drop i := fun i j => by rw [← List.drop_drop, List.take_append_drop]
    have e1 : cs = (cs.drop 0).take 1 ++ ((cs.drop 1).take 1 ++ ((cs.drop 2).take 1 ++ ((cs.drop 3).take 1 ++ ((cs.drop 4).take 1 ++ ((cs.drop 5).take 32 ++ (cs.drop 37).take 4))))) := by
      rw [List.take_of_length_le (i := 4) (by simp; omega), st 5 32, st 4 1, st 3 1, st 2 1, st 1 1, st 0 1, List.drop_zero]
    rw [e1, hk, hlv, ho, hff, hb, hlc, hac]
    simp [pt]
/-- cells that lie behind one another, read -/
theorem rows_of {α : Type} {f : α → Array Value} {m : Nat} (Y : Nat → α) : ∀ (n : Nat) (cs : List Value), cs.length = n * m → (∀ i, i < n → (cs.drop (i * m)).take m = (f (Y i)).toList) → ∀ k, k ≤ n → cs.take (k * m) = rowsL f ((List.range k).map Y) := by
  intro n cs hl h k
  induction k with
  | zero => intro _; simp [rowsL]
  | succ k ih =>
    intro hk
    rw [Nat.add_mul, Nat.one_mul, List.take_add, ih (by omega), h k (by omega), List.range_succ, List.map_append, rowsL_append]
    simp [rowsL]
end
end Go.Proofs.YtfcoiboeohgimaaDoor
