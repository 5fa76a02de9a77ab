/- The library's sort of structs, in this family's words: what it changes, and what the row then reads. They speak of no program. No condition. -/
import Derived.Test.YtnefdmbdkljifaaDoorOpn
import Derived.Shelf.SlSortCmp.WholeK
set_option linter.unusedSimpArgs false
set_option linter.unusedVariables false

namespace Go.Kin
open Go Go.RowKit Go.Sort Go.Proofs

section
variable {α : Type} [Inhabited α] {enc : α → List Value} {k : Nat} {w : World} {b : Nat}
theorem Ch.sortK (blk off n : Nat) (d : Array α) (os : Array Obj) : Ch (Kin.one blk) w (sortWorldK enc k w blk off n d os) := by
  refine ⟨rfl, rfl, rfl, ?_, fun j hj hn => ?_⟩
  · exact size_sortWorldK_c enc k w blk off n d os
  · show ((putRowK enc k (Sort.ahead w n) blk off d).heap ++ os)[j]? = _
    have hs : (putRowK enc k (Sort.ahead w n) blk off d).heap.size = w.heap.size := size_putRowK _ _ _ _ _ _
    rw [Array.getElem?_append_left (by rw [hs]; exact hj)]
    show (mapBlock (Sort.ahead w n) blk _).heap[j]? = _
    have hne : ¬ blk = j := fun e => hn e.symm
    simp [mapBlock, Sort.ahead, Array.getElem?_modify, hne]
theorem holds_own {e n cap : Nat} {xs : List Value} (hk : 0 < k) (hl : ∀ x, (enc x).length = k) (d : Array α) (h : w.ownsRow 0 e k (.slice (some ⟨b, 0, none⟩) n cap) n xs) (hx : xs = d.toList.flatMap enc) (hn : n = d.size) : HoldsK enc k w b 0 d := by
  rcases h.2 with ⟨hv, _⟩ | ⟨g', cap', cur, hv, _, hb, h1, h2, h3, h4⟩
  · cases hv
  · cases hv
    intro j hj
    rw [size_flatK] at hj
    refine ⟨?_, frz_blk hb _⟩
    rw [Nat.zero_add, cell_blk hb, get_flatK _ _ _ _ hj]
    have hjd : j / k < d.size := Nat.div_lt_of_lt_mul (by rw [Nat.mul_comm]; exact hj)
    have hjk : j % k < k := Nat.mod_lt _ hk
    have key : ∀ (l : List α) (j : Nat), j < l.length * k → (l.flatMap enc)[j]? = (l[j / k]?).bind fun x => (enc x)[j % k]? := by
      intro l
      induction l with
      | nil => intro j hj; simp at hj
      | cons x l ih =>
        intro j hj
        rw [List.flatMap_cons]
        by_cases hlt : j < k
        · rw [List.getElem?_append_left (by rw [hl]; exact hlt), Nat.div_eq_of_lt hlt, Nat.mod_eq_of_lt hlt]
          rfl
        · rw [List.getElem?_append_right (by rw [hl]; omega), hl, ih (j - k) (by
            rw [List.length_cons, Nat.add_mul] at hj
            omega)]
          have e1 : j / k = (j - k) / k + 1 := by rw [Nat.div_eq_sub_div hk (by omega)]
          have e2 : j % k = (j - k) % k := by rw [Nat.mod_eq_sub_mod (by omega)]
          rw [e1, e2, List.getElem?_cons_succ]
    have h5 := key d.toList j (by simpa using hj)
    rw [← hx] at h5
    have e5 : d.toList[j / k]? = some d[j / k] := by rw [Array.getElem?_toList, Array.getElem?_eq_getElem hjd]
    rw [e5] at h5
    have h6 : (enc d[j / k]!)[j % k]! = (enc d[j / k])[j % k]'(by rw [hl]; exact hjk) := by
      rw [getElem!_pos d (j / k) hjd, getElem!_pos _ (j % k) (by rw [hl]; exact hjk)]
    rw [h6]
    have h7 : xs[j]? = some ((enc d[j / k])[j % k]'(by rw [hl]; exact hjk)) := by
      rw [h5]
      show (enc d[j / k])[j % k]? = _
      exact List.getElem?_eq_getElem _
    rw [← h4, List.getElem?_take] at h7
    split at h7
    · rw [Array.getElem?_toList] at h7
      exact h7
    · cases h7
theorem lst_holds {n cap : Nat} (hk : 0 < k) (hl : ∀ x, (enc x).length = k) {d : Array α} (hb : b < w.heap.size) (h : HoldsK enc k w b 0 d) (hn : n = d.size) (hc : n ≤ cap) (hm : cap ≤ maxLen) : Lst w (.slice (some ⟨b, 0, none⟩) n cap) enc k d.toList := by
  subst hn
  refine ⟨_, cap, by simp, by simpa using hc, hm, fun _ => ⟨b, 0, rfl, hb, fun j a i u hj hi => ?_⟩⟩
  have hjl : j < d.size := by
    have := (List.getElem?_eq_some_iff.1 hj).1
    simpa using this
  have hik : i < k := by
    have := (List.getElem?_eq_some_iff.1 hi).1
    rw [hl] at this
    exact this
  have hlt : j * k + i < d.size * k := by
    have : (j + 1) * k ≤ d.size * k := Nat.mul_le_mul_right _ hjl
    rw [Nat.add_mul] at this
    omega
  have h1 := (h (j * k + i) (by rw [size_flatK]; exact hlt)).1
  rw [get_flatK _ _ _ _ hlt] at h1
  have e1 : (j * k + i) / k = j := by rw [Nat.add_comm, Nat.add_mul_div_right _ _ hk, Nat.div_eq_of_lt hik, Nat.zero_add]
  have e2 : (j * k + i) % k = i := by rw [Nat.add_comm, Nat.add_mul_mod_self_right, Nat.mod_eq_of_lt hik]
  rw [e1, e2] at h1
  have e3 : d[j]! = a := by
    rw [Array.getElem?_toList] at hj
    rw [getElem!_pos d j hjl]
    rw [Array.getElem?_eq_getElem hjl] at hj
    exact Option.some.inj hj
  rw [e3] at h1
  have e4 : (enc a)[i]! = u := by
    rw [getElem!_pos _ i (by rw [hl]; exact hik)]
    rw [List.getElem?_eq_getElem (by rw [hl]; exact hik)] at hi
    exact Option.some.inj hi
  rw [e4] at h1
  rw [show 0 + j * k + i = 0 + (j * k + i) by omega]
  exact h1
end
end Go.Kin
