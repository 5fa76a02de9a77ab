/- The document's hash: constants, as a contract on the call; states as rows of words. No condition. -/
import Derived.Test.YtfcoiboeohgimaaDoorRsB
namespace Go.Proofs.YtfcoiboeohgimaaDoor
open Go.RowKit Go.Kin

theorem rconsts_any (w : World) : Ret Tryd.prog 91 #[] w fun v' w' => Sl w' v' 64 (w32 Kc) ∧ Ch Nw w w' ∧ Fresh w.heap.size v' := by
  refine v_enter Tryd.func91 Tryd.ntmps91 rfl (by simp) fun R' hR => ?_
  simp [go_sem]
  exact hR _ _ ⟨Sl.of_blk (hp_alloc _ _) (Nat.le_refl _) (by decide) rfl, (Ch.refl Nw w).alloc _, fun k hk => by simp [Value.ownBlock] at hk; omega⟩
/-- a state's words -/
def stL (s : St) : List Nat := [s.a, s.b, s.c, s.d, s.e, s.f, s.g, s.h]
theorem stL_length (s : St) : (stL s).length = 8 := rfl
theorem stL_at {w : World} {v : Value} {s : St} (h : Sl w v 8 (w32 (stL s))) {i x : Nat} (hx : (stL s)[i]? = some x) :
    ∃ a, (∀ w', (Instr.indexAt 129 v (.int .i64 i)).run Tryd.prog w' = .ok (.pointer (some a)) w') ∧ w.cell? a = some (.int .u32 (x : Nat)) := by
  have hi : i < 8 := (List.getElem?_eq_some_iff.1 hx).1
  obtain ⟨a, h1, h2, _⟩ := w32_at h (stL_length s) hi
  rw [List.getD_eq_getElem?_getD, hx] at h2
  exact ⟨a, h1, h2⟩
theorem w32_oneC (l : List Nat) : ∀ u ∈ w32 l, u.oneCell' = true := by
  intro u hu
  obtain ⟨x, _, rfl⟩ := List.mem_map.1 hu
  rfl
theorem wd_lt' {s : St} (ok : StOk s) : ∀ x ∈ stL s, x < 4294967296 := by
  intro x hx
  simp only [stL, List.mem_cons, List.not_mem_nil, or_false] at hx
  rcases hx with rfl | rfl | rfl | rfl | rfl | rfl | rfl | rfl
  · exact ok.a
  · exact ok.b
  · exact ok.c
  · exact ok.d
  · exact ok.e
  · exact ok.f
  · exact ok.g
  · exact ok.h
end Go.Proofs.YtfcoiboeohgimaaDoor
