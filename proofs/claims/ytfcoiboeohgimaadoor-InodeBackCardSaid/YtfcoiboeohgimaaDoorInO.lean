/- Arguments that are inodes, opened; a world that meets the conditions. No condition. -/
import Derived.Test.YtfcoiboeohgimaaDoorPtO
import Derived.Test.YtfcoiboeohgimaaDoorInD
namespace Go.Proofs.YtfcoiboeohgimaaDoor
open Go.ChangeShapes Go.WideShapes Go.ChangeAt Go.RowKit Go.Kin

theorem leaves_g : Tryd.prog.globalNamed "kintsugi/inode.leaves" = some 0 := by kernel_rfl
theorem leaves_T : (Tryd.prog.globals[(0 : Nat)]?).map (·.type) = some 102 := by kernel_rfl
theorem lw_of_laid2 {w : World} (h : laidMetH Tryd.prog Rows.inodePutsRow.laid w) : Lw w := by
  have h' : laidMet Tryd.prog [("kintsugi/ptr.wide", .agg (([0, 1, 2, 2, 2, 2] : List Int).map fun z => .lit (.int .i64 z))), ("kintsugi/inode.leaves", .agg (([0, 1, 2, 2] : List Int).map fun z => .lit (.int .u8 z)))] w := h
  exact lw_of_laid1 (h'.filter fun x => x.1 == "kintsugi/ptr.wide")
theorem ll_of_laid2 {w : World} (h : laidMetH Tryd.prog Rows.inodePutsRow.laid w) : Ll w := by
  have h' : laidMet Tryd.prog [("kintsugi/ptr.wide", .agg (([0, 1, 2, 2, 2, 2] : List Int).map fun z => .lit (.int .i64 z))), ("kintsugi/inode.leaves", .agg (([0, 1, 2, 2] : List Int).map fun z => .lit (.int .u8 z)))] w := h
  have h2 : laidMet Tryd.prog [("kintsugi/inode.leaves", .agg (([0, 1, 2, 2] : List Int).map fun z => .lit (.int .u8 z)))] w := h'.filter fun x => x.1 == "kintsugi/inode.leaves"
  have := laid_ints leaves_g leaves_T Tryd.underlying102 Tryd.underlying5 (by kernel_rfl) (by kernel_rfl) rfl h2
  exact this
/-- A world that meets the conditions. -/
noncomputable def laidWorld2 (os : Os) : World :=
  let w0 := World.holding Tryd.prog os ⟨#[], #[], []⟩
  { w0 with heap := (w0.heap.modify 1 fun
      | .cells _ t frozen => .cells #[.int .i64 0, .int .i64 1, .int .i64 2, .int .i64 2, .int .i64 2, .int .i64 2] t frozen
      | o => o).modify 0 fun
      | .cells _ t frozen => .cells #[.int .u8 0, .int .u8 1, .int .u8 2, .int .u8 2] t frozen
      | o => o }
theorem laidWorld2_met (os : Os) (args : Array Value) : laidMetH Tryd.prog Rows.inodePutsRow.laid ((laidWorld2 os).forCall (fun _ _ => 0) ⟨#[], args, []⟩).memory :=
  laidMetH_of_parts (laidMet_of_run' 8 (by kernel_rfl) (by kernel_rfl)) (by kernel_rfl)
section
variable {H : Type} {enc : TypeId × Value → H} {W : World} {base : Nat} {spare : Nat → Bool} {held : Bool} {fuel : Nat} {cs : List Value} {x : DataW H × List MemPlace}
set_option maxRecDepth 100000 in
theorem trod_ino (h : DataW.trod enc Tryd.prog W base spare held fuel 51 cs = some x) : ∃ y, InOk y ∧ cs = (ino y).toList := by
  obtain ⟨xs, m, _, _, hl, hxl, hf⟩ := DataW.trod_struct Tryd.underlying51 h
  have hc : Tryd.prog.cellsOf 51 = 44 := by kernel_rfl
  rw [hc] at hl
  match xs, hxl with
  | [y0, y1, y2, y3], _ =>
    have f0 := hf 0 _ rfl
    have f1 := hf 1 _ rfl
    have f2 := hf 2 _ rfl
    have f3 := hf 3 _ rfl
    obtain ⟨k, hk, _, _, _, hk8⟩ := trod_nat Tryd.underlying5 (.inr (.inr (.inr rfl))) f0
    obtain ⟨n, hn, _, _, hn16, _⟩ := trod_nat Tryd.underlying22 (.inr (.inr (.inl rfl))) f1
    obtain ⟨s, hs, _, hs32, _, _⟩ := trod_nat Tryd.underlying23 (.inr (.inl rfl)) f2
    obtain ⟨p, okp, hp⟩ := trod_pt f3
    have c8 : Tryd.prog.cellsOf 5 = 1 := by kernel_rfl
    have c16 : Tryd.prog.cellsOf 22 = 1 := by kernel_rfl
    have c32 : Tryd.prog.cellsOf 23 = 1 := by kernel_rfl
    have cP : Tryd.prog.cellsOf 28 = 41 := by kernel_rfl
    have hk : (cs.drop 0).take (Tryd.prog.cellsOf 5) = [.int .u8 k] := hk
    have hn : (cs.drop 1).take (Tryd.prog.cellsOf 22) = [.int .u16 n] := hn
    have hs : (cs.drop 2).take (Tryd.prog.cellsOf 23) = [.int .u32 s] := hs
    have hp : (cs.drop 3).take (Tryd.prog.cellsOf 28) = (pt p).toList := hp
    rw [c8] at hk
    rw [c16] at hn
    rw [c32] at hs
    rw [cP] at hp
    refine ⟨⟨k, n, s, p⟩, ⟨hk8 rfl, hn16 rfl, hs32 rfl, okp⟩, ?_⟩
    have st : ∀ i j, (cs.drop i).take j ++ cs.drop (i + j) = cs.drop i := fun i j => by rw [← List.drop_drop, List.take_append_drop]
    have e1 : cs = (cs.drop 0).take 1 ++ ((cs.drop 1).take 1 ++ ((cs.drop 2).take 1 ++ (cs.drop 3).take 41)) := by
      rw [List.take_of_length_le (i := 41) (by simp; omega), st 2 1, st 1 1, st 0 1, List.drop_zero]
    rw [e1, hk, hn, hs, hp]
    simp [ino]
set_option maxRecDepth 100000 in
theorem trod_ib (h : DataW.trod enc Tryd.prog W base spare held fuel 52 cs = some x) : ∃ ys, IbOk ys ∧ cs = (ib ys).toList := by
  obtain ⟨xs, m, _, _, hl, hxl, hi⟩ := DataW.trod_array Tryd.underlying52 h
  have hc : Tryd.prog.cellsOf 51 = 44 := by kernel_rfl
  have hn : Tryd.prog.cellsOf 52 = 176 := by kernel_rfl
  rw [hn] at hl
  have key : ∀ i, ∃ p, i < 4 → InOk p ∧ (cs.drop (i * 44)).take 44 = (ino p).toList := fun i => by
    by_cases hi8 : i < 4
    · have := hi i hi8
      rw [hc] at this
      have hx : xs[i]? = some (xs[i]'(by omega)) := List.getElem?_eq_getElem _
      rw [hx] at this
      obtain ⟨p, ok, hp⟩ := trod_ino this
      exact ⟨p, fun _ => ⟨ok, hp⟩⟩
    · exact ⟨inz, fun h => absurd h hi8⟩
  obtain ⟨Y, hY⟩ := Classical.axiomOfChoice key
  have := rows_of (f := ino) Y 4 cs hl (fun i hi => (hY i hi).2) 4 (Nat.le_refl _)
  rw [List.take_of_length_le (by omega)] at this
  refine ⟨(List.range 4).map Y, ⟨by simp, fun p hp => ?_⟩, by rw [this]; simp [ib, rowsOf]⟩
  obtain ⟨i, hi, rfl⟩ := List.mem_map.1 hp
  exact (hY i (List.mem_range.1 hi)).1
end
end Go.Proofs.YtfcoiboeohgimaaDoor
