/- OverlayPlays. Condition: the variable ptr.wide holds what the text lays. -/
import Derived.Test.YtnefdmbdkljifaaDoorOvL
import Derived.Test.YtnefdmbdkljifaaDoorOwK
set_option linter.unusedSimpArgs false
set_option linter.unusedVariables false

/- An overlay that is known. No condition. -/
namespace Go.Proofs.YtnefdmbdkljifaaDoor
open Go.RowKit Go.Kin Go.Maps

theorem mi_g (g : Nat) (w : World) : (Instr.makeInterface 26 (.pointer (some ⟨g, 0, none⟩))).run Tryd.prog w = .ok (gV g) w := by kernel_rfl
end Go.Proofs.YtnefdmbdkljifaaDoor

/- OverlayWhole. Condition: the variable ptr.wide holds what the text lays. -/
namespace Go.Proofs.YtnefdmbdkljifaaDoor
open Go.RowKit Go.Kin Go.Maps

theorem tNum_ne (tl : Tl) : tNum tl 12 ≠ [] := fun e => by
  have := congrArg List.length e
  simp [tNum, headT] at this
/-- an act in a list -/
theorem lst_act {w : World} {v : Value} {l : List Ac} (h : Lst w v acv 49 l) {i : Nat} {a : Ac} (hi : l[i]? = some a) (ok : a.Ok) : ∃ b off cp C T fr, v = .slice (some ⟨b, off, none⟩) l.length cp ∧ b < w.heap.size ∧ w.heap[b]? = some (.cells C T fr) ∧ off + i * 49 + 49 ≤ C.size ∧ C.extract (off + i * 49) (off + i * 49 + 49) = (acv a).toArray := by
  obtain ⟨A, cp, rfl, _, _, h3⟩ := h
  obtain ⟨b, off, rfl, hb, hr⟩ := h3 (by have := (List.getElem?_eq_some_iff.1 hi).1; omega)
  have hl := acv_len ok
  have hc : ∀ j u, (acv a)[j]? = some u → w.cell? ⟨b, off + i * 49 + j, none⟩ = some u := fun j u hu => hr i a j u hi hu
  obtain ⟨C, T, fr, hC⟩ : ∃ C T fr, w.heap[b]? = some (.cells C T fr) := by
    obtain ⟨u, hu⟩ : ∃ u, (acv a)[0]? = some u := ⟨_, rfl⟩
    have h0 := hc 0 u hu
    simp only [World.cell?] at h0
    cases hb : w.heap[b]? with
    | none => rw [hb] at h0; cases h0
    | some ob =>
      rw [hb] at h0
      cases ob with
      | cells C T fr => exact ⟨C, T, fr, rfl⟩
      | _ => cases h0
  have hc2 : ∀ j, j < 49 → C[off + i * 49 + j]? = (acv a)[j]? := fun j hj => by
    obtain ⟨u, hu⟩ : ∃ u, (acv a)[j]? = some u := ⟨_, List.getElem?_eq_getElem (by omega)⟩
    rw [hu, ← hc j u hu, cell_blk hC]
  have hsz : off + i * 49 + 49 ≤ C.size := by
    have h48 := hc2 48 (by omega)
    rw [List.getElem?_eq_getElem (by omega)] at h48
    have := (Array.getElem?_eq_some_iff.1 h48).1
    omega
  refine ⟨b, off, cp, C, T, fr, rfl, hb, hC, hsz, ?_⟩
  apply Array.ext'
  apply List.ext_getElem?
  intro j
  rw [Array.toList_extract, List.extract_eq_take_drop, List.getElem?_take, List.getElem?_drop]
  by_cases hj : j < 49
  · rw [if_pos (by omega), Array.getElem?_toList, hc2 j hj]
  · rw [if_neg (by omega), List.getElem?_eq_none (by simp only; omega)]
end Go.Proofs.YtnefdmbdkljifaaDoor

namespace Go.Proofs.YtnefdmbdkljifaaDoor
open Go.RowKit Go.Kin Go.Maps

end Go.Proofs.YtnefdmbdkljifaaDoor
