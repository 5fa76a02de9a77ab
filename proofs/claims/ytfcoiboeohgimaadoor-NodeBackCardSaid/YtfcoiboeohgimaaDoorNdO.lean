/- Arguments that are nodes, opened; a world that meets the condition. No condition. -/
import Derived.Test.YtfcoiboeohgimaaDoorPtO
import Derived.Test.YtfcoiboeohgimaaDoorNdA
namespace Go.Proofs.YtfcoiboeohgimaaDoor
open Go.ChangeShapes Go.WideShapes Go.ChangeAt Go.RowKit Go.Kin

theorem lw_of_laid {w : World} (h : laidMetH Tryd.prog Rows.nodePutsRow.laid w) : Lw w := lw_of_laid1 h
/-- A world that meets the condition. -/
noncomputable def laidWorld (os : Os) : World :=
  let w0 := World.holding Tryd.prog os ⟨#[], #[], []⟩
  { w0 with heap := w0.heap.modify 1 fun
      | .cells _ t frozen => .cells #[.int .i64 0, .int .i64 1, .int .i64 2, .int .i64 2, .int .i64 2, .int .i64 2] t frozen
      | o => o }
theorem laidWorld_met (os : Os) (args : Array Value) : laidMetH Tryd.prog Rows.nodePutsRow.laid ((laidWorld os).forCall (fun _ _ => 0) ⟨#[], args, []⟩).memory :=
  laidMetH_of_parts (laidMet_of_run' 8 (by kernel_rfl) (by kernel_rfl)) (by kernel_rfl)
section
variable {H : Type} {enc : TypeId × Value → H} {W : World} {base : Nat} {spare : Nat → Bool} {held : Bool} {fuel : Nat} {cs : List Value} {x : DataW H × List MemPlace}
set_option maxRecDepth 100000 in
theorem trod_nd (h : DataW.trod enc Tryd.prog W base spare held fuel 29 cs = some x) : ∃ ps, NdOk ps ∧ cs = (nd ps).toList := by
  obtain ⟨xs, m, _, _, hl, hxl, hi⟩ := DataW.trod_array Tryd.underlying29 h
  have hc : Tryd.prog.cellsOf 28 = 41 := by kernel_rfl
  have hn : Tryd.prog.cellsOf 29 = 328 := by kernel_rfl
  rw [hn] at hl
  have key : ∀ i, ∃ p, i < 8 → PtOk p ∧ (cs.drop (i * 41)).take 41 = (pt p).toList := fun i => by
    by_cases hi8 : i < 8
    · have := hi i hi8
      rw [hc] at this
      have hx : xs[i]? = some (xs[i]'(by omega)) := List.getElem?_eq_getElem _
      rw [hx] at this
      obtain ⟨p, ok, hp⟩ := trod_pt this
      exact ⟨p, fun _ => ⟨ok, hp⟩⟩
    · exact ⟨ptz, fun h => absurd h hi8⟩
  obtain ⟨Y, hY⟩ := Classical.axiomOfChoice key
  have := rows_of (f := pt) Y 8 cs hl (fun i hi => (hY i hi).2) 8 (Nat.le_refl _)
  rw [List.take_of_length_le (by omega)] at this
  refine ⟨(List.range 8).map Y, ⟨by simp, fun p hp => ?_⟩, by rw [this]; simp [nd, rowsOf]⟩
  obtain ⟨i, hi, rfl⟩ := List.mem_map.1 hp
  exact (hY i (List.mem_range.1 hi)).1
end

end Go.Proofs.YtfcoiboeohgimaaDoor
