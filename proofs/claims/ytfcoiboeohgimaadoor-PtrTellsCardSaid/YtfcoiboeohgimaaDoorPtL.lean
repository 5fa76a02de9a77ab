/- What the document's Wide and Copies answer, as contracts on calls. No condition but that the values are of their types. -/
import Derived.Test.YtfcoiboeohgimaaDoorPtF
import Derived.Test.YtfcoiboeohgimaaDoorPtC
namespace Go.Proofs.YtfcoiboeohgimaaDoor
open Go.RowKit Go.Kin

theorem rwide_any (k : Nat) (w : World) (hk : k < 256) : Ret Tryd.prog 38 #[.int .u8 k] w fun v' w' => v' = .int .i64 (wideN k) ∧ w' = w := by
  refine v_enter Tryd.func38 Tryd.ntmps38 rfl (by simp) fun R' hR => ?_
  by_cases h0 : k = 0
  · subst h0
    simp [go_sem]
    exact hR _ _ ⟨rfl, rfl⟩
  by_cases h5 : 5 < k
  · have : (5 : Int) < k := by omega
    have h1 : ¬ (k : Int) < 1 := by omega
    simp [go_sem, this, h1, wideN]
    exact hR _ _ ⟨by unfold wideN; rw [if_pos (by omega)]; rfl, rfl⟩
  have h1 : ¬ (k : Int) < 1 := by omega
  have h6 : ¬ (5 : Int) < k := by omega
  by_cases hk1 : k = 1
  · subst hk1
    simp [go_sem]
    exact hR _ _ ⟨rfl, rfl⟩
  · have hne : ((k : Int) == 1) = false := beq_false_of_ne (by omega)
    simp [go_sem, h1, h6, hne]
    exact hR _ _ ⟨by unfold wideN; rw [if_neg (by omega), if_neg hk1]; rfl, rfl⟩
theorem tyCo : TyS Tryd.prog 71 77 (.agg #[.int .i64 0, .int .u16 0]) 2 16 := ⟨Tryd.underlying71, by kernel_rfl, rfl, by decide⟩
/-- the copies' cells -/
def ccs (a : List Nat) (k : Nat) : List Value := (cseq a k).flatMap (cenc a)
theorem ccs_length (a : List Nat) (k : Nat) : (ccs a k).length = 2 * (cseq a k).length := by
  unfold ccs
  induction cseq a k with
  | nil => rfl
  | cons x l ih => rw [List.flatMap_cons, List.length_append, ih]; simp [cenc]; omega
theorem ccs_succ (a : List Nat) (k : Nat) : ccs a (k + 1) = if a.getD k 0 = 0 then ccs a k else ccs a k ++ cenc a k := by
  unfold ccs
  rw [cseq_succ]
  split
  · rfl
  · simp
theorem cseq_le (a : List Nat) (k : Nat) : (cseq a k).length ≤ k := by
  have := List.length_filter_le (fun i => a.getD i 0 != 0) (List.range k)
  rw [List.length_range] at this
  exact this
theorem rcopies_any (p : Pt) (w : World) (ok : PtOk p) : Ret Tryd.prog 39 #[.agg (pt p)] w fun v' w' => MineS 77 2 w v' (cseq p.a 4).length (ccs p.a 4) w' := by
  refine v_enter Tryd.func39 Tryd.ntmps39 rfl (by simp) fun R' hR => ?_
  simp [go_sem]
  have hb := hp_alloc w (.cells (pt p) 28)
  have hc := (Ch.refl Nw w).alloc (.cells (pt p) 28)
  have hlt : w.heap.size < (w.alloc (.cells (pt p) 28)).heap.size := by simp
  revert hb hc hlt
  generalize w.alloc (.cells (pt p) 28) = w1
  generalize hg : w.heap.size = g
  intro hb hc hlt
  refine v_loop (fun r f wr => ∃ k, k ≤ 4 ∧ r = 4 - k ∧ f 1 = .pointer (some ⟨g, 0, none⟩) ∧ f 4 = .int .i64 k ∧ wr.heap[g]? = some (.cells (pt p) 28 (0, 0)) ∧ MineS 77 2 w1 (f 3) (cseq p.a k).length (ccs p.a k) wr) 4
    ⟨0, by omega, rfl, by simp, by simp, hb, by simpa [ccs, cseq] using MineS.nil _ _ (Ch.refl Nw w1)⟩ ?_
  rintro J hJ _ f wr ⟨k, hk, rfl, f1, f4, hbk, hm⟩
  by_cases hk4 : k < 4
  · have hki : (k : Int) < 4 := by omega
    have hwk : IntKind.i64.wrap ((k : Int) + 1) = ((k + 1 : Nat) : Int) := by simp [IntKind.wrap_i64]; omega
    have hwq : IntKind.i64.wrap ((k : Int) / 2) = (k : Int) / 2 := by simp [IntKind.wrap_i64]; omega
    obtain ⟨x, hx⟩ : ∃ x, p.a[k]? = some x := ⟨_, List.getElem?_eq_getElem (by rw [ok.a]; exact hk4)⟩
    have hcx := (cell_blk hbk (37 + k)).trans (pt_a ok hx)
    have hgx : p.a.getD k 0 = x := by rw [List.getD_eq_getElem?_getD, hx]; rfl
    by_cases hx0 : x = 0
    · subst hx0
      simp [go_sem, f1, f4, hki, hcx, hwk]
      refine Rnd.intro (4 - (k + 1)) (by omega) (hJ _ _ _ ⟨k + 1, by omega, rfl, by simp [f1], by simp, hbk, ?_⟩)
      rw [cseq_succ, ccs_succ, hgx, if_pos rfl, if_pos rfl]
      simpa using hm
    · have hx1 : ((x : Int) == 0) = false := beq_false_of_ne (by omega)
      simp [go_sem, f1, f4, hki, hcx, hwk, hwq, bne, hx1]
      have hle := cseq_le p.a k
      refine VB_app1S tyCo hm.own (us := [.int .i64 ((k : Int) / 2), .int .u16 x]) rfl (fun u hu => by simp at hu; rcases hu with rfl | rfl <;> rfl) (by unfold maxLen; omega) (by omega) fun v' w' d1 d2 d3 => ?_
      have hm' := hm.grow d1 d2 d3
      have hb' := d2.hp hbk (fun e => by have := hm.fresh g e; omega)
      simp [go_sem, f4, hwk]
      refine Rnd.intro (4 - (k + 1)) (by omega) (hJ _ _ _ ⟨k + 1, by omega, rfl, by simp [f1], by simp, hb', ?_⟩)
      rw [cseq_succ, ccs_succ, hgx, if_neg hx0, if_neg hx0, List.length_append]
      simp only [cenc, hgx]
      exact hm'
  · obtain rfl : k = 4 := by omega
    simp [go_sem, f4]
    exact hR _ _ ⟨hm.own, hc.trans hm.ch, hm.fresh.mono (by omega)⟩
end Go.Proofs.YtfcoiboeohgimaaDoor
