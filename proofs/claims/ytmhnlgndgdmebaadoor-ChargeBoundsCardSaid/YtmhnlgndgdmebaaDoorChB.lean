/- Groups of eight: what package charge's groups answers, as a contract on the call. No condition. -/
import Derived.Test.YtmhnlgndgdmebaaDoorChA
namespace Go.Proofs.YtmhnlgndgdmebaaDoor
open Go.RowKit Go.Kin

def bools (l : List Bool) : List Value := l.map Value.bool
theorem bools_length (l : List Bool) : (bools l).length = l.length := List.length_map ..
theorem bools_one (l : List Bool) : ∀ u ∈ bools l, u.oneCell' = true := by
  intro u hu
  obtain ⟨c, _, rfl⟩ := List.mem_map.1 hu
  rfl
theorem tyBo : Ty1 Tryd.prog 69 4 (.bool false) 1 := ⟨Tryd.underlying69, by kernel_rfl, rfl⟩
/-- how many are there of the first j -/
def aN (l : List Bool) (j : Nat) : Nat := (l.take j).count true
/-- is one there of group i -/
def gI (l : List Bool) (i : Nat) : Bool := ((l.drop (8 * i)).take 8).any id
/-- how many of the first k groups -/
def gN (l : List Bool) : Nat → Nat
  | 0 => 0
  | k + 1 => gN l k + (if gI l k then 1 else 0)
theorem aN_succ (l : List Bool) (j : Nat) (b : Bool) (h : l[j]? = some b) : aN l (j + 1) = aN l j + (if b then 1 else 0) := by
  unfold aN
  rw [List.take_add_one, h, List.count_append]
  cases b <;> simp
theorem aN_le (l : List Bool) (j : Nat) : aN l j ≤ j := Nat.le_trans List.count_le_length (by rw [List.length_take]; omega)
theorem gN_le (l : List Bool) (k : Nat) : gN l k ≤ k := by
  induction k with
  | zero => exact Nat.le_refl _
  | succ k ih => unfold gN; split <;> omega

theorem groups_any (v : Value) (l : List Bool) (w : World) (hl : l.length = 64) (hs : Sl w v 64 (bools l)) : Ret Tryd.prog 23 #[v] w fun v' w' => v' = .tuple #[.int .i64 (gN l 8), .int .i64 (aN l 64)] ∧ w' = w := by
  refine v_enter Tryd.func23 Tryd.ntmps23 rfl (by simp) fun R' hR => ?_
  have hlen := hs.len Tryd.underlying69 3
  simp [go_sem]
  refine v_loop (fun r f wr => ∃ k, k ≤ 8 ∧ r = 8 - k ∧ wr = w ∧ f 0 = v ∧ f 4 = .int .i64 (gN l k) ∧ f 5 = .int .i64 (aN l (8 * k)) ∧ f 6 = .int .i64 (8 * k : Nat)) 8
    ⟨0, by omega, rfl, rfl, by simp, by simp [gN], by simp [aN], by simp⟩ ?_
  rintro J hJ _ f w1 ⟨k, hk, rfl, rfl, h0, h4, h5, h6⟩
  by_cases hk8 : k < 8
  · have hki : ((8 * k : Nat) : Int) < 64 := by omega
    obtain ⟨v1, hs1, _, hcut, _⟩ := hs.cut tyBo (by rw [bools_length, hl]) (8 * k) (8 * k + 8) (by omega) (by omega)
    have hw8 : IntKind.i64.wrap (((8 * k : Nat) : Int) + 8) = ((8 * k + 8 : Nat) : Int) := by simp [IntKind.wrap_i64]; omega
    rw [show 8 * k + 8 - 8 * k = 8 by omega] at hs1
    have hlen1 := hs1.len Tryd.underlying69 3
    have hsub : ((bools l).take (8 * k + 8)).drop (8 * k) = bools ((l.drop (8 * k)).take 8) := by
      rw [List.drop_take, show 8 * k + 8 - 8 * k = 8 by omega]
      simp [bools, List.map_take, List.map_drop]
    rw [hsub] at hs1
    have hl1 : ((l.drop (8 * k)).take 8).length = 8 := by simp [hl]; omega
    push_cast at hki hw8 hcut h6
    simp [go_sem, h0, h6, hlen, hki, hw8, hcut, hlen1]
    clear hcut
    refine v_loop (fun r f' wr => ∃ j, j ≤ 8 ∧ r = 8 - j ∧ wr = w1 ∧ f' 0 = v ∧ f' 4 = .int .i64 (gN l k) ∧ f' 5 = .int .i64 (aN l (8 * k + j)) ∧ f' 6 = .int .i64 (8 * (k : Int)) ∧ f' 7 = .bool (((l.drop (8 * k)).take j).any id) ∧ f' 20 = v1 ∧ f' 21 = .int .i64 8 ∧ f' 22 = .int .i64 j) 8
      ⟨0, by omega, rfl, rfl, by simp [h0], by simp [h4], by simp [h5], by simp [h6], by simp, by simp, by simp, by simp⟩ ?_
    clear h0 h4 h5 h6 f
    rintro J2 hJ2 _ f w2 ⟨j, hj, rfl, rfl, h0, h4, h5, h6, h7, h20, h21, h22⟩
    by_cases hj8 : j < 8
    · have hji : (j : Int) < 8 := by omega
      obtain ⟨b, hb⟩ : ∃ b, l[8 * k + j]? = some b := ⟨_, List.getElem?_eq_getElem (by omega)⟩
      have hb1 : (bools ((l.drop (8 * k)).take 8))[j]? = some (.bool b) := by
        rw [bools, List.getElem?_map, List.getElem?_take, if_pos hj8, List.getElem?_drop, hb]
        rfl
      obtain ⟨ad, hat, hcl, _⟩ := hs1.at tyBo (by rw [bools_length, hl1]) hb1
      have hA := aN_succ l (8 * k + j) b hb
      have hle := aN_le l (8 * k + j)
      have hany : ((l.drop (8 * k)).take (j + 1)).any id = (((l.drop (8 * k)).take j).any id || b) := by
        rw [List.take_add_one, List.getElem?_drop, hb, List.any_append]
        simp
      have hwj : IntKind.i64.wrap ((j : Int) + 1) = ((j + 1 : Nat) : Int) := by simp [IntKind.wrap_i64]; omega
      cases b
      · simp [go_sem, h20, h21, h22, hji, hat, hcl, hwj]
        refine Rnd.intro (8 - (j + 1)) (by omega) (hJ2 _ _ _ ⟨j + 1, by omega, rfl, rfl, by simp [h0], by simp [h4], by simp [h5, ← Nat.add_assoc, hA], by simp [h6], by rw [hany]; simp [h7], by simp [h20], by simp [h21], by simp⟩)
      · have hwa : IntKind.i64.wrap ((aN l (8 * k + j) : Int) + 1) = ((aN l (8 * k + j) + 1 : Nat) : Int) := by simp [IntKind.wrap_i64]; omega
        simp [go_sem, h5, h20, h21, h22, hji, hat, hcl, hwj, hwa]
        refine Rnd.intro (8 - (j + 1)) (by omega) (hJ2 _ _ _ ⟨j + 1, by omega, rfl, rfl, by simp [h0], by simp [h4], by simp [← Nat.add_assoc, hA], by simp [h6], by rw [hany]; simp, by simp [h20], by simp [h21], by simp⟩)
    · obtain rfl : j = 8 := by omega
      have hg : gN l (k + 1) = gN l k + (if ((l.drop (8 * k)).take 8).any id = true then 1 else 0) := rfl
      have hgl := gN_le l k
      simp [go_sem, h21, h22, h7]
      have hw9 : IntKind.i64.wrap (8 * (k : Int) + 8) = ((8 * (k + 1) : Nat) : Int) := by simp [IntKind.wrap_i64]; omega
      have hw10 : IntKind.i64.wrap ((gN l k : Int) + 1) = ((gN l k + 1 : Nat) : Int) := by simp [IntKind.wrap_i64]; omega
      refine VIf_intro (fun hy => ?_) (fun hy => ?_)
      · simp [go_sem, h4, h6, hw9, hw10]
        refine Rnd.intro (8 - (k + 1)) (by omega) (hJ _ _ _ ⟨k + 1, by omega, rfl, rfl, by simp [h0], ?_, by simp [h5, Nat.mul_add], by simp⟩)
        rw [hg, if_pos (by simpa using hy)]
        simp
      · simp [go_sem, h6, hw9]
        refine Rnd.intro (8 - (k + 1)) (by omega) (hJ _ _ _ ⟨k + 1, by omega, rfl, rfl, by simp [h0], ?_, by simp [h5, Nat.mul_add], by simp⟩)
        rw [hg, if_neg (by simpa using hy)]
        simp [h4]
  · obtain rfl : k = 8 := by omega
    simp [go_sem, h0, h4, h5, h6, hlen]
    exact hR _ _ ⟨by simp, rfl⟩
end Go.Proofs.YtmhnlgndgdmebaaDoor
