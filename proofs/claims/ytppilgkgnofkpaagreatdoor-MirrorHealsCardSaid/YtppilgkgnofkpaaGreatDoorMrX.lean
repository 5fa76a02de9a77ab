/- The mirror law's acts keep numbers small; acts that lie in a row. No condition but on sizes. -/
import Derived.Test.YtppilgkgnofkpaaGreatDoorMrN
set_option linter.unusedSimpArgs false
set_option linter.unusedVariables false

namespace Go.Proofs.YtppilgkgnofkpaaGreatDoor
open Go.RowKit Go.Kin

section
variable {n c : Nat} {s : Mr}
theorem Mr.Fine.mono {c' : Nat} (h : s.Fine c) (hc : c ≤ c') : s.Fine c' :=
  ⟨h.fuse, fun i hi => Nat.le_trans (h.cache i hi) hc, h.astray, fun i => Nat.le_trans (h.found i) hc, fun i => Nat.le_trans (h.mended i) hc, Nat.le_trans h.moves hc⟩
theorem Mr.Fine.mends (q : Pt) (b : Byts) : ∀ (l : List Nat) (c : Nat) (s : Mr), s.Fine c → (l.foldl (Mr.mend n q b) s).Fine (c + l.length)
  | [], _, _, h => h
  | k :: l, c, s, h => by
    have := Mr.Fine.mends q b l (c + 1) (Mr.mend n q b s k) (h.mend q b k)
    rw [List.length_cons, show c + (l.length + 1) = c + 1 + l.length by omega]
    exact this
theorem Mr.Fine.heal (h : s.Fine c) (q : Pt) (all : Bool) : (s.heal n q all).1.Fine (c + 8) := by
  unfold Mr.heal
  split
  · have h4 := lks_len n s q all
    have hb := run_bad_le n s q (s.lks n q all)
    have hf : ({ s with found := (s.run n q (s.lks n q all)).F } : Mr).Fine (c + 4) :=
      ⟨h.fuse, fun i hi => Nat.le_trans (h.cache i hi) (by omega), h.astray, fun i => by
        have h1 := run_le n s q (s.lks n q all) i
        have h2 := h.found i
        show (s.run n q (s.lks n q all)).F i ≤ _
        omega, fun i => Nat.le_trans (h.mended i) (by omega), Nat.le_trans h.moves (by omega)⟩
    simp only
    split
    · exact hf.mono (by omega)
    · exact (Mr.Fine.mends q _ _ _ _ hf).mono (by omega)
  · exact h.mono (by omega)
theorem cseq_len (a : List Nat) : (cseq a 4).length ≤ 4 := by unfold cseq; exact Nat.le_trans (List.length_filter_le _ _) (by simp)
theorem Mr.Fine.write (h : s.Fine c) (q : Pt) (b : Byts) : (s.write n q b).1.Fine (c + 8) := by
  unfold Mr.write
  split
  · exact (Mr.Fine.puts q b _ c (s, 21) h).mono (by have := cseq_len q.a; omega)
  · exact h.mono (by omega)
theorem drop_le (l : List (Nat × Byts)) (a : Nat) : (dropC l a).length ≤ l.length := List.length_filter_le _ _
theorem fauD_fine (a : Ac) (ha : a.addr < 65536) {D : Dk} (h : D.cache.length ≤ c) (h2 : ∀ x, D.astray = some x → x < 65536) : (fauD n a D).cache.length ≤ c ∧ ∀ x, (fauD n a D).astray = some x → x < 65536 := by
  unfold fauD
  split
  · unfold Dk.crash
    split
    · exact ⟨h, h2⟩
    · exact ⟨by simp, fun x hx => by cases hx⟩
  · split
    · exact ⟨Nat.le_trans (drop_le _ _) h, h2⟩
    · exact ⟨h, h2⟩
  · split
    · exact ⟨Nat.le_trans (drop_le _ _) h, h2⟩
    · exact ⟨h, h2⟩
  · split
    · exact ⟨Nat.le_trans (drop_le _ _) h, h2⟩
    · exact ⟨h, h2⟩
  · exact ⟨h, h2⟩
  · exact ⟨h, fun x hx => by cases hx; exact ha⟩
  · exact ⟨h, h2⟩
  · exact ⟨h, h2⟩
theorem Mr.Fine.fau (h : s.Fine c) (a : Ac) (ha : a.addr < 65536) (hn : a.n ≤ 9223372036854775807) : (s.fau n a).Fine c := by
  unfold Mr.fau
  refine ⟨?_, fun i hi => ?_, fun i hi => ?_, h.found, h.mended, h.moves⟩
  · show (fauP a s.P).fuse ≤ _
    unfold fauP
    split
    · unfold Pwr.fused
      simp only
      split
      · exact h.fuse
      · split <;> omega
    · decide
    · exact h.fuse
  · by_cases e : i = a.k % 2
    · subst e
      simp only [upd1_same]
      exact (fauD_fine a ha (h.cache _ hi) (h.astray _ hi)).1
    · simp only [upd1_ne _ _ e]; exact h.cache _ hi
  · by_cases e : i = a.k % 2
    · subst e
      simp only [upd1_same]
      exact (fauD_fine a ha (h.cache _ hi) (h.astray _ hi)).2
    · simp only [upd1_ne _ _ e]; exact h.astray _ hi
theorem Mr.Fine.act (h : s.Fine c) (a : Am) (ha : a.ac.addr < 65536) (hn : a.ac.n ≤ 9223372036854775807) : (s.act n a).1.Fine (c + 8) := by
  unfold Mr.act
  split
  · exact h.heal _ _
  · exact h.heal _ _
  · exact h.write _ _
  · exact ((h.flush1 0).flush1 1).mono (by omega)
  · exact ⟨h.fuse, fun i hi => Nat.le_trans (h.cache i hi) (by omega), h.astray, fun i => Nat.le_trans (h.found i) (by omega), fun i => Nat.le_trans (h.mended i) (by omega), Nat.zero_le _⟩
  · exact (h.fau _ ha hn).mono (by omega)
end
theorem lst_big {w : World} {v : Value} {L : List Am} (h : Lst w v amL 51 L) (hin : ∀ a ∈ L, PtOk a.q) {i : Nat} {a : Am} (hi : L[i]? = some a) : ∃ b off c cs T fr, v = .slice (some ⟨b, off, none⟩) L.length c ∧ w.heap[b]? = some (.cells cs T fr) ∧ cs.extract (off + i * 51) (off + i * 51 + 51) = amv a ∧ off + i * 51 + 51 ≤ cs.size := by
  obtain ⟨A, c, rfl, _, _, h3⟩ := h
  have hlt := (List.getElem?_eq_some_iff.1 hi).1
  obtain ⟨b, off, rfl, _, hr⟩ := h3 (by omega)
  have ok := hin a (List.mem_of_getElem? hi)
  have hl := amL_len ok
  obtain ⟨o, ho, hoc⟩ := cells_of_cell (hr i a 0 _ hi rfl)
  have ho : w.heap[b]? = some o := ho
  obtain ⟨cs, T, fr, rfl⟩ : ∃ cs T fr, o = .cells cs T fr := by
    cases o with
    | cells cs T fr => exact ⟨_, _, _, rfl⟩
    | _ => cases hoc
  have hc : ∀ j, j < 51 → cs[off + i * 51 + j]? = (amL a)[j]? := fun j hj => by
    obtain ⟨u, hu⟩ : ∃ u, (amL a)[j]? = some u := ⟨_, List.getElem?_eq_getElem (by omega)⟩
    rw [hu, ← hr i a j u hi hu, cell_blk ho]
  have hsz : off + i * 51 + 51 ≤ cs.size := by
    have h50 := hc 50 (by omega)
    rw [List.getElem?_eq_getElem (show 50 < (amL a).length by omega)] at h50
    have := (Array.getElem?_eq_some_iff.1 h50).1
    omega
  refine ⟨b, off, c, cs, T, fr, rfl, ho, ?_, hsz⟩
  apply Array.ext_getElem?
  intro j
  rw [Array.getElem?_extract]
  by_cases hj : j < 51
  · rw [if_pos (by omega), hc j hj]
    simp [amv]
  · rw [if_neg (by omega), Array.getElem?_eq_none (by rw [amv_size ok]; omega)]
theorem bsl_am {a : Am} (ok : PtOk a.q) (w : World) : (Instr.buildSlice 22 1 #[(0, .agg (amv a))]).run Tryz.prog w = .ok (.slice (some ⟨w.heap.size, 0, none⟩) 1 1) (w.alloc (.cells (amv a) 65)) :=
  run_buildSlice1 Tryz.underlying22 Tryz.sizeOf65 (by kernel_rfl : (Tryz.prog.info? 65).bind (·.zero) = some (.agg (amv ⟨0, ptz, .slice none 0 0, [], false, ⟨0, 0, 0, .slice none 0 0, [], false, 0, .slice none 0 0, []⟩⟩))) (amv_size ok) (by decide) (by decide) w
end Go.Proofs.YtppilgkgnofkpaaGreatDoor
