/- The variables sha.constants and ptr.wide as the text lays them; a world that meets the conditions. No condition. -/
import Derived.Test.YtfcoiboeohgimaaDoorPtO
import Derived.Test.YtfcoiboeohgimaaDoorPtI
namespace Go.Proofs.YtfcoiboeohgimaaDoor
open Go.ChangeShapes Go.WideShapes Go.ChangeAt Go.RowKit Go.Kin

def Kz : List Int := [1116352408, 1899447441, 3049323471, 3921009573, 961987163, 1508970993, 2453635748, 2870763221, 3624381080, 310598401, 607225278, 1426881987, 1925078388, 2162078206, 2614888103, 3248222580, 3835390401, 4022224774, 264347078, 604807628, 770255983, 1249150122, 1555081692, 1996064986, 2554220882, 2821834349, 2952996808, 3210313671, 3336571891, 3584528711, 113926993, 338241895, 666307205, 773529912, 1294757372, 1396182291, 1695183700, 1986661051, 2177026350, 2456956037, 2730485921, 2820302411, 3259730800, 3345764771, 3516065817, 3600352804, 4094571909, 275423344, 430227734, 506948616, 659060556, 883997877, 958139571, 1322822218, 1537002063, 1747873779, 1955562222, 2024104815, 2227730452, 2361852424, 2428436474, 2756734187, 3204031479, 3329325298]
theorem Kz_eq : Kz = Kc.map fun n : Nat => (n : Int) := by decide +kernel
theorem consts_g : Tryd.prog.globalNamed "kintsugi/sha.constants" = some 2 := by kernel_rfl
theorem consts_T : (Tryd.prog.globals[(2 : Nat)]?).map (·.type) = some 143 := by kernel_rfl
theorem laid_consts {H : Type} : (Rows.laid_kintsugi_sha_constants : DataW H) = .agg (Kz.map fun z => .lit (.int .u32 z)) := rfl
theorem lw_of_laid3 {w : World} (h : laidMetH Tryd.prog Rows.ptrTellsRow.laid w) : Lw w := by
  have h' : laidMet Tryd.prog [("kintsugi/sha.constants", Rows.laid_kintsugi_sha_constants), ("kintsugi/ptr.wide", .agg (([0, 1, 2, 2, 2, 2] : List Int).map fun z => .lit (.int .i64 z)))] w := h
  exact lw_of_laid1 (h'.filter fun x => x.1 == "kintsugi/ptr.wide")
theorem lk_of_laid3 {w : World} (h : laidMetH Tryd.prog Rows.ptrTellsRow.laid w) : Lk w := by
  have h' : laidMet Tryd.prog [("kintsugi/sha.constants", Rows.laid_kintsugi_sha_constants), ("kintsugi/ptr.wide", Rows.laid_kintsugi_ptr_wide)] w := h
  have h2 : laidMet Tryd.prog [("kintsugi/sha.constants", Rows.laid_kintsugi_sha_constants)] w := h'.filter fun x => x.1 == "kintsugi/sha.constants"
  rw [laid_consts] at h2
  have := laid_ints consts_g consts_T Tryd.underlying143 Tryd.underlying23 (by kernel_rfl) (by kernel_rfl) rfl h2
  intro i hi
  have hl : Kc.length = 64 := rfl
  have e : Kz[i]? = some ((Kc.getD i 0 : Nat) : Int) := by
    rw [Kz_eq, List.getElem?_map, List.getD_eq_getElem?_getD, List.getElem?_eq_getElem (by omega)]
    rfl
  exact this i _ e
/-- A world that meets the conditions. -/
noncomputable def laidWorld3 (os : Os) : World :=
  let w0 := World.holding Tryd.prog os ⟨#[], #[], []⟩
  { w0 with heap := (w0.heap.modify 1 fun
      | .cells _ t frozen => .cells #[.int .i64 0, .int .i64 1, .int .i64 2, .int .i64 2, .int .i64 2, .int .i64 2] t frozen
      | o => o).modify 2 fun
      | .cells _ t frozen => .cells (Kz.map fun z => Value.int .u32 z).toArray t frozen
      | o => o }
theorem laidWorld3_met (os : Os) (args : Array Value) : laidMetH Tryd.prog Rows.ptrTellsRow.laid ((laidWorld3 os).forCall (fun _ _ => 0) ⟨#[], args, []⟩).memory :=
  laidMetH_of_parts (laidMet_of_run' 8 (by kernel_rfl) (by kernel_rfl)) (by kernel_rfl)
end Go.Proofs.YtfcoiboeohgimaaDoor
