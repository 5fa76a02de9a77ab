/- What the document's answers for wire compute (Num, Fill, the Reader by value), as contracts on calls. No condition but on sizes. -/
import Derived.Test.YtfcoiboeohgimaaDoorWireC
namespace Go.Proofs.YtfcoiboeohgimaaDoor
open Go.RowKit Go.Kin

theorem refNum (n wide : Nat) (w : World) (hn : n < 18446744073709551616) (hw : wide ≤ 8) :
    Ret Tryd.prog 48 #[.int .u64 n, .int .i64 wide] w fun v' w' => w'.ownsRow 0 5 1 v' wide (bvs (le n wide)) ∧ Ch Nw w w' ∧ Fresh w.heap.size v' := by
  refine v_enter Tryd.func48 Tryd.ntmps48 rfl (by simp) fun R' hR => ?_
  simp [go_sem]
  refine v_loop (fun r f wr => ∃ k y : Nat, k ≤ wide ∧ r = wide - k ∧ y = n / 256 ^ k ∧ f 1 = .int .i64 wide ∧ f 6 = .int .i64 k ∧ f 0 = .int .u64 y ∧ Onto w (.slice none 0 0) 0 [] k (le n k) (f 5) wr) wide
    ⟨0, n, Nat.zero_le _, rfl, by simp, by simp, by simp, by simp, Onto.refl (World.ownsRow_nil _ _ _ _)⟩ ?_
  rintro J hJ _ f wr ⟨k, y, hk, rfl, hy, h1, h6, h0, ho⟩
  have hy2 : y < 18446744073709551616 := by rw [hy]; exact Nat.lt_of_le_of_lt (Nat.div_le_self _ _) hn
  have hy3 : y / 256 = n / 256 ^ (k + 1) := by rw [hy, Nat.div_div_eq_div_mul, Nat.pow_succ]
  have hle := le_succ n k
  rw [← hy] at hle
  simp [go_sem, h1, h6]
  refine VIf_dec (fun hlt => ?_) (fun hge => ?_)
  · simp [go_sem, h0]
    refine VB_app1 tyB ho.1 rfl (by unfold maxLen; omega) (by omega) fun v' w' k1 k2 k3 => ?_
    simp [go_sem, h6, h0]
    refine Rnd.intro (wide - (k + 1)) (by omega) (hJ _ _ _ ⟨k + 1, y / 256, by omega, rfl, hy3, by simpa using h1, by simp [IntKind.wrap_i64]; omega, ?_, ?_⟩)
    · simp [IntKind.wrap_u64]; omega
    · rw [hle]
      exact ho.one (by rw [bv_ofNat]; simp [IntKind.wrap_u8, Int.tmod_eq_emod_of_nonneg]) k1 k2 k3
  · simp [go_sem]
    obtain rfl : k = wide := by omega
    obtain ⟨o1, o2, o3⟩ := ho
    refine hR _ _ ⟨by simpa using o1, o2.mono fun j _ e => by simp [Value.ownBlock] at e, ?_⟩
    rcases o3 with o3 | o3
    · intro j hj; rw [o3] at hj; simp [Value.ownBlock] at hj
    · exact o3

theorem refFill (v : Value) (l : List UInt8) (m : Int) (w : World) (hl : l.length ≤ 1000000000) (hm : m ≤ 1000000000) (hs : Sl w v l.length (bvs l)) :
    Ret Tryd.prog 49 #[v, .int .i64 m] w fun v' w' => w'.ownsRow 0 5 1 v' (l.length + (m.toNat - l.length)) (bvs (l ++ List.replicate (m.toNat - l.length) 0)) ∧ Ch Nw w w' ∧ Fresh w.heap.size v' := by
  refine v_enter Tryd.func49 Tryd.ntmps49 rfl (by simp) fun R' hR => ?_
  simp [go_sem]
  refine VB_appn tyB (World.ownsRow_nil _ _ _ _) hs (bvs_length l) (bvs_one _) (by unfold maxLen; omega) (by omega) fun v1 w1 k1 k2 k3 => ?_
  have k3 : Fresh w.heap.size v1 := by
    rcases k3 with k3 | k3
    · intro j hj; rw [k3] at hj; simp [Value.ownBlock] at hj
    · exact k3
  have k2 : Ch Nw w w1 := k2.mono fun j _ e => by simp [Value.ownBlock] at e
  simp only [Nat.zero_add, List.nil_append] at k1
  simp [go_sem]
  refine v_loop (fun r f wr => ∃ k : Nat, k ≤ m.toNat - l.length ∧ r = m.toNat - l.length - k ∧ f 1 = .int .i64 m ∧ Onto w1 v1 l.length l k (List.replicate k 0) (f 5) wr) (m.toNat - l.length) ⟨0, Nat.zero_le _, rfl, by simp, by simpa using Onto.refl k1⟩ ?_
  rintro J hJ _ f wr ⟨k, hk, rfl, h1, ho⟩
  have hl := Sl.len (Sl.of_own ho.1) Tryd.underlying30 3
  simp [go_sem, h1, hl]
  refine VIf_dec (fun hlt => ?_) (fun hge => ?_)
  · simp [go_sem]
    refine VB_app1 tyB ho.1 rfl (by unfold maxLen; omega) (by omega) fun v' w' b1 b2 b3 => ?_
    simp [go_sem]
    refine Rnd.intro (m.toNat - l.length - (k + 1)) (by omega) (hJ _ _ _ ⟨k + 1, by omega, rfl, by simpa using h1, ?_⟩)
    rw [List.replicate_succ']
    simp
    exact ho.one rfl b1 b2 b3
  · simp [go_sem]
    obtain rfl : k = m.toNat - l.length := by omega
    obtain ⟨o1, o2, o3⟩ := ho
    refine hR _ _ ⟨o1, k2.trans' o2 fun j hj e => ?_, ?_⟩
    · have := k3 j e; omega
    · rcases o3 with o3 | o3
      · intro j hj; rw [o3] at hj; exact k3 j hj
      · exact o3.mono k2.size
end Go.Proofs.YtfcoiboeohgimaaDoor
