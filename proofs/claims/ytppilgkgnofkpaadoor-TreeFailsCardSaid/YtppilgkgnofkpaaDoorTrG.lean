/- Trees: groups of leaves, and a part of a slice of leaves. No condition. -/
import Derived.Test.YtppilgkgnofkpaaDoorTrD
set_option linter.unusedSimpArgs false
set_option linter.unusedVariables false

/- Trees: what may be a leaf's pointer, and what Set does, in plain Lean. Conditions: the variables ptr.wide and tree.hole hold what the text lays. -/
namespace Go.Proofs.YtppilgkgnofkpaaDoor
open Go.RowKit Go.Kin

theorem tgood_any (p : Pt) (w : World) (ok : PtOk p) (env : TEnv w) : Ret Tryd.prog 49 #[.agg (pt p)] w fun v' w' => v' = .bool (okP p) ∧ Ch Nw w w' := by
  refine v_enter Tryd.func49 Tryd.ntmps49 rfl (by simp) fun R' hR => ?_
  have hps := pt_size ok
  have hpa := pt_all ok
  have ca := (Ch.refl Nw w).alloc (.cells (pt p) 28)
  have b0 := hp_alloc w (.cells (pt p) 28)
  have env1 := env.ch ca fun _ _ e => e
  simp [go_sem, hps, hpa]
  obtain ⟨g, hg⟩ : ∃ g, w.heap.size = g := ⟨_, rfl⟩
  rw [hg] at b0 ⊢
  revert ca b0 env1
  generalize w.alloc (.cells (pt p) 28) = w1
  intro ca env1 b0
  obtain ⟨cs, T, fr, hh, hx, hz⟩ := env1.lh
  have heq : ∀ w, (Op.equalIn 10000 28 (.agg (pt p)) (.agg (pt ptz))).run Tryd.prog w = .ok (decide (p = ptz)) w := fun w => eq_pt w ok ptz_ok
  by_cases hp : p = ptz
  · subst hp
    simp [go_sem, b0, hps, hpa, hh, hx, hz, heq]
    exact hR _ _ ⟨by simp [okP], ca⟩
  · simp [go_sem, b0, hps, hpa, hh, hx, hz, heq, hp]
    refine (may_any p w1 ok env1.lw).mono ?_
    rintro _ w2 ⟨rfl, c2⟩
    simp [go_sem]
    exact hR _ _ ⟨by simp [okP, hp], ca.trans c2⟩
/-- leaves in order, each of an offset below 64, each a pointer that may be -/
def lvGood : Option Nat → List (Nat × Pt) → Bool
  | _, [] => true
  | b, x :: l => decide (x.1 < 64) && (match b with | none => true | some y => decide (y < x.1)) && okP x.2 && lvGood (some x.1) l
/-- the leaves of one group, ahead -/
def grp (g : Nat) (l : List (Nat × Pt)) : List (Nat × Pt) := l.takeWhile fun x => x.1 / 8 == g
/-- group for group -/
def tgrps {σ : Type} (rd : Src σ) (nw : σ → Pt → List UInt8 → σ × Pt × Int) (od : σ → Pt → σ) (obj : Nat) : Nat → σ → List Pt → List (Nat × Pt) → σ × List Pt × Int
  | 0, s, n, _ => (s, n, 0)
  | _ + 1, s, n, [] => (s, n, 0)
  | fuel + 1, s, n, x :: l =>
    let r := tlow rd nw od obj s (n.getD (x.1 / 8) ptz) (x.1 / 8) (grp (x.1 / 8) (x :: l))
    if r.2.2 ≠ 0 then (r.1, n, r.2.2) else tgrps rd nw od obj fuel r.1 (n.set (x.1 / 8) r.2.1) ((x :: l).drop (grp (x.1 / 8) (x :: l)).length)
def tset {σ : Type} (rd : Src σ) (nw : σ → Pt → List UInt8 → σ × Pt × Int) (od : σ → Pt → σ) (obj : Nat) (s : σ) (root : Pt) (l : List (Nat × Pt)) : σ × Pt × Int :=
  if lvGood none l && mayT root then
    if l = [] then (s, root, 0) else
    if (tread rd s root).2.2 ≠ 0 then ((tread rd s root).1, ptz, (tread rd s root).2.2) else
    let r := tgrps rd nw od obj l.length (tread rd s root).1 (tread rd s root).2.1 l
    if r.2.2 ≠ 0 then (r.1, ptz, r.2.2) else tmade nw od r.1 root (tread rd s root).2.1 r.2.1 2 obj 0
  else (s, ptz, 1)
theorem lvGood_cons (b : Option Nat) (y : Nat × Pt) (l : List (Nat × Pt)) : lvGood b (y :: l) = (decide (y.1 < 64) && (match b with | none => true | some z => decide (z < y.1)) && okP y.2 && lvGood (some y.1) l) := rfl
theorem lvGood_lt : ∀ (l : List (Nat × Pt)) (b : Option Nat), lvGood b l = true → ∀ x ∈ l, x.1 < 64 := by
  intro l
  induction l with
  | nil => intro b _ x hx; cases hx
  | cons y l ih =>
    intro b h x hx
    rw [lvGood_cons] at h
    simp only [Bool.and_eq_true] at h
    rcases List.mem_cons.1 hx with rfl | hx
    · exact of_decide_eq_true h.1.1.1
    · exact ih _ h.2 x hx
/-- a part of a list that lies in memory -/
theorem Lst.part {α : Type} {w : World} {b off c : Nat} {en : α → List Value} {k : Nat} {l : List α} (h : Lst w (.slice (some ⟨b, off, none⟩) l.length c) en k l) (a z : Nat) (ha : a ≤ z) (hz : z ≤ l.length) : Lst w (.slice (some ⟨b, off + a * k, none⟩) (z - a) (z - a)) en k ((l.take z).drop a) := by
  obtain ⟨A, c', e, h1, h2, h3⟩ := h
  injection e with e1 _ e3
  subst e1 e3
  have hlen : ((l.take z).drop a).length = z - a := by simp; omega
  refine ⟨_, _, by rw [hlen], by omega, by omega, fun h0 => ?_⟩
  obtain ⟨b', off', e4, hb, hr⟩ := h3 (by omega)
  injection e4 with e4
  injection e4 with e5 e6
  subst e5 e6
  refine ⟨b, off + a * k, rfl, hb, fun j x i u hj hu => ?_⟩
  have hj' : l[a + j]? = some x := by
    rw [List.getElem?_drop, List.getElem?_take] at hj
    split at hj
    · exact hj
    · cases hj
  have := hr (a + j) x i u hj' hu
  rw [Nat.add_mul, ← Nat.add_assoc] at this
  exact this
end Go.Proofs.YtppilgkgnofkpaaDoor

namespace Go.Proofs.YtppilgkgnofkpaaDoor
open Go.RowKit Go.Kin

theorem grp_eq (gi : Nat) (L : List (Nat × Pt)) (i j : Nat) (hij : i ≤ j) (hj : j ≤ L.length) (hall : ∀ m y, i ≤ m → m < j → L[m]? = some y → y.1 / 8 = gi) (hend : j = L.length ∨ ∃ y, L[j]? = some y ∧ y.1 / 8 ≠ gi) : grp gi (L.drop i) = (L.take j).drop i := by
  have e : L.drop i = (L.take j).drop i ++ L.drop j := by
    conv => lhs; rw [← List.take_append_drop j L]
    rw [List.drop_append_of_le_length (by rw [List.length_take]; omega)]
  have h2 : (L.drop j).takeWhile (fun x => x.1 / 8 == gi) = [] := by
    rcases hend with rfl | ⟨y, hy, hyg⟩
    · simp
    · have hlt := (List.getElem?_eq_some_iff.1 hy).1
      rw [List.drop_eq_getElem_cons hlt, (List.getElem?_eq_some_iff.1 hy).2, List.takeWhile_cons]
      simp [hyg]
  unfold grp
  rw [e, List.takeWhile_append_of_pos, h2, List.append_nil]
  intro a ha
  obtain ⟨m, hm⟩ := List.mem_iff_getElem?.1 ha
  rw [List.getElem?_drop, List.getElem?_take] at hm
  split at hm
  · simpa using hall (i + m) a (by omega) (by omega) hm
  · cases hm
theorem tyLf : TyS Tryd.prog 64 69 (.agg (lfv (0, ptz))) 42 64 := ⟨Tryd.underlying64, by kernel_rfl, lfv_size lfz_ok, by decide⟩
theorem cutLf (b of' n c i j : Nat) (hij : i < j) (hjc : j ≤ c) (w : World) : (Instr.sliceAt 64 (.slice (some ⟨b, of', none⟩) n c) (some (.int .i64 i)) (some (.int .i64 j)) (some (.int .i64 j))).run Tryd.prog w = .ok (.slice (some ⟨b, of' + i * 42, none⟩) (j - i) (j - i)) w := by
  obtain ⟨ti, hti, _, hsz, _⟩ := info_parts tyLf.info
  have h1 : ¬ c = i := by omega
  have h2 : ¬ c < j := by omega
  have h3 : ¬ j < i := by omega
  simp [Instr.sliceAt, Instr.slice, Instr.sliceBounds, Instr.sliceBound, asIntOf, run_underlying tyLf.und, sizeOf, typeInfo, hti, hsz, Nat.le_of_lt hij, hjc, h1, h2, h3, Addr.add]
  rw [if_neg (by omega)]
  by_cases h0 : i = 0
  · simp [h0]
  · rw [if_neg (by omega)]
end Go.Proofs.YtppilgkgnofkpaaDoor
