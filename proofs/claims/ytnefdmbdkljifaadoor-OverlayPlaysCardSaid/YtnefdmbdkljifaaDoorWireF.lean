/- The document's Reader of wire, by value (Raw, Num, Noughts, End), as contracts on calls. No condition but on sizes. -/
import Derived.Test.YtnefdmbdkljifaaDoorWireC
import Derived.Test.YtnefdmbdkljifaaDoorPtB
set_option linter.unusedSimpArgs false
set_option linter.unusedVariables false

/- What the document's answers for wire compute (Num, Fill, the Reader by value), as contracts on calls. No condition but on sizes. -/
namespace Go.Proofs.YtnefdmbdkljifaaDoor
open Go.RowKit Go.Kin

end Go.Proofs.YtnefdmbdkljifaaDoor

/- A pointer's bytes: what ptr's Put answers, as a contract on the call. No condition but that the values are of their types. -/
namespace Go.Proofs.YtnefdmbdkljifaaDoor
open Go.RowKit Go.Kin

theorem own_block_lt {w : World} {e n : Nat} {v : Value} {xs : List Value} (h : w.ownsRow 0 e 1 v n xs) : ∀ k, v.ownBlock = some k → k < w.heap.size := by
  intro k hk
  rcases h.2 with ⟨hv, h0⟩ | ⟨g, cap, cur, hv, _, hb, _⟩
  · rw [hv] at hk; simp [Value.ownBlock] at hk
  · rw [hv] at hk
    simp [Value.ownBlock] at hk
    subst hk
    exact lt_of_block hb
theorem Onto.trans {w w1 w2 : World} {v v1 v2 : Value} {n m m' : Nat} {xs ys zs : List UInt8} (h : Onto w v n xs m ys v1 w1) (k : Onto w1 v1 (n + m) (xs ++ ys) m' zs v2 w2) : Onto w v n xs (m + m') (ys ++ zs) v2 w2 := by
  refine ⟨?_, h.2.1.trans' k.2.1 fun j hj e => ?_, ?_⟩
  · have := k.1
    rwa [List.append_assoc, Nat.add_assoc] at this
  · rcases h.2.2 with h3 | h3
    · rw [← h3]; exact e
    · have := h3 j e; omega
  · rcases k.2.2 with k3 | k3
    · rcases h.2.2 with h3 | h3
      · exact .inl (k3.trans h3)
      · exact .inr fun j hj => h3 j (by rw [← k3]; exact hj)
    · exact .inr (k3.mono h.2.1.size)
theorem Onto.from {w w0 w1 : World} {v v1 : Value} {n m : Nat} {xs ys : List UInt8} (hc : Ch Nw w w0) (h : Onto w0 v n xs m ys v1 w1) : Onto w v n xs m ys v1 w1 :=
  ⟨h.1, (hc.mono fun _ _ e => e.elim).trans h.2.1, h.2.2.imp id fun k => k.mono hc.size⟩
/-- a pointer's bytes -/
def putP (p : Pt) : List UInt8 := [UInt8.ofNat p.k, UInt8.ofNat p.l] ++ (le p.o 2 ++ (le p.f 4 ++ (le p.b 8 ++ (p.h ++ (p.a.flatMap (fun x => le x 2) ++ List.replicate 8 0)))))
end Go.Proofs.YtnefdmbdkljifaaDoor

/- The document's bytes of a pointer, as a contract on the call. No condition but that the values are of their types. -/
namespace Go.Proofs.YtnefdmbdkljifaaDoor
open Go.RowKit Go.Kin

end Go.Proofs.YtnefdmbdkljifaaDoor

/- Whether a pointer may be, by the document, as a contract on the call. No condition but that the values are of their types. -/
namespace Go.Proofs.YtnefdmbdkljifaaDoor
open Go.RowKit Go.Kin

def eqb (a b : Nat) : Bool := decide (a = b)
theorem eqb_t {a b : Nat} (h : a = b) : eqb a b = true := decide_eq_true h
theorem eqb_f {a b : Nat} (h : a ≠ b) : eqb a b = false := decide_eq_false h
set_option maxHeartbeats 2000000 in
theorem rmay_any (p : Pt) (w : World) (ok : PtOk p) : Ret Tryd.prog 43 #[.agg (pt p)] w fun v' w' => v' = .bool (mayR p) ∧ Ch Nw w w' := by
  obtain ⟨a0, a1, a2, a3, ha, _⟩ := a4 ok
  refine v_enter Tryd.func43 Tryd.ntmps43 rfl (by simp) fun R' hR => ?_
  have c0 := pt_a ok (i := 0) (x := a0) (by rw [ha]; rfl)
  have c1 := pt_a ok (i := 1) (x := a1) (by rw [ha]; rfl)
  have c2 := pt_a ok (i := 2) (x := a2) (by rw [ha]; rfl)
  have c3 := pt_a ok (i := 3) (x := a3) (by rw [ha]; rfl)
  simp only [Nat.reduceAdd] at c0 c1 c2 c3
  have hc := (Ch.refl Nw w).alloc (.cells (pt p) 39)
  have hz : ∀ w, (Op.equalIn 10000 37 (.agg #[.int .u16 a0, .int .u16 a1, .int .u16 a2, .int .u16 a3]) (.agg #[.int .u16 0, .int .u16 0, .int .u16 0, .int .u16 0])).run Tryd.prog w = .ok (decide (p.a = [0, 0, 0, 0])) w := fun w => by
    rw [ha]
    exact run_equalIn_u16s w 9998 _ _ 4 Tryd.underlying37 Tryd.underlying22 Tryd.sizeOf22 Tryd.isAgg22 [a0, a1, a2, a3] [0, 0, 0, 0] rfl rfl
  by_cases h1 : p.k < 1
  · have h1' : (p.k : Int) < 1 := by omega
    simp [go_sem, pt_k, h1, h1']
    exact hR _ _ ⟨by simp [mayR, h1], hc⟩
  have h1' : ¬ (p.k : Int) < 1 := by omega
  by_cases h5 : 5 < p.k
  · have h5' : (5 : Int) < p.k := by omega
    simp [go_sem, pt_k, h1, h1', h5']
    exact hR _ _ ⟨by simp [mayR, h5], hc⟩
  have h5' : ¬ (5 : Int) < p.k := by omega
  have hbeq : ∀ a b : Nat, ((a : Int) == (b : Int)) = decide (a = b) := fun a b => by
    by_cases h : a = b
    · simp [h]
    · rw [beq_false_of_ne (by omega), decide_eq_false h]
  have hb0 : ∀ a : Nat, ((a : Int) == 0) = decide (a = 0) := fun a => hbeq a 0
  have hb1 : ∀ a : Nat, ((a : Int) == 1) = decide (a = 1) := fun a => hbeq a 1
  have hb3 : ∀ a : Nat, ((a : Int) == 3) = decide (a = 3) := fun a => hbeq a 3
  by_cases hlev : (p.k = 3 ∧ (p.l < 1 ∨ 2 < p.l)) ∨ (p.k ≠ 3 ∧ p.l ≠ 0)
  · have hm : mayR p = false := by unfold mayR; rw [if_neg (by omega), if_pos hlev]
    rw [hm] at hR
    rcases hlev with ⟨h3, hl | hl⟩ | ⟨h3, hl⟩
    · have hl' : (p.l : Int) < 1 := by omega
      simp [go_sem, pt_k, pt_l, h1, h1', h5', hb3, h3, hl', bne]
      exact hR _ _ ⟨rfl, hc⟩
    · have hl' : (2 : Int) < p.l := by omega
      have hl'' : ¬ (p.l : Int) < 1 := by omega
      simp [go_sem, pt_k, pt_l, h1, h1', h5', hb3, h3, hl', hl'', bne]
      exact hR _ _ ⟨rfl, hc⟩
    · simp [go_sem, pt_k, pt_l, h1, h1', h5', hb3, hb0, h3, hl, bne]
      exact hR _ _ ⟨rfl, hc⟩
  have path : (p.k = 3 ∧ ¬ (p.l : Int) < 1 ∧ ¬ (2 : Int) < p.l) ∨ (p.k ≠ 3 ∧ p.l = 0) := by omega
  by_cases hzz : p.a = [0, 0, 0, 0]
  · have hm : mayR p = false := by unfold mayR; rw [if_neg (by omega), if_neg hlev, if_pos hzz]
    rw [hm] at hR
    rcases path with ⟨h3, hl1, hl2⟩ | ⟨h3, hl⟩
    · simp [go_sem, pt_k, pt_l, h1, h1', h5', hb3, h3, hl1, hl2, bne, c0, c1, c2, c3, hz, hzz]
      exact hR _ _ ⟨rfl, hc⟩
    · simp [go_sem, pt_k, pt_l, h1, h1', h5', hb3, hb0, h3, hl, bne, c0, c1, c2, c3, hz, hzz]
      exact hR _ _ ⟨rfl, hc⟩
  have hm : mayR p = if (a0 ≠ 0 ∧ a0 = a1) ∨ (a2 ≠ 0 ∧ a2 = a3) then false else decide (p.k ≠ 1 ∨ (a1 = 0 ∧ a3 = 0)) := by
    unfold mayR
    rw [if_neg (by omega), if_neg hlev, if_neg hzz, ha]
    rfl
  rw [hm] at hR
  have gb : ∀ a b : Nat, ((a : Int) == (b : Int)) = eqb a b := hbeq
  have gb0 : ∀ a : Nat, ((a : Int) == 0) = eqb a 0 := hb0
  have gb1 : ∀ a : Nat, ((a : Int) == 1) = eqb a 1 := hb1
  have gb3 : ∀ a : Nat, ((a : Int) == 3) = eqb a 3 := hb3
  have hA : ∀ a b : Nat, eqb a b = true ∨ eqb a b = false := fun a b => by cases eqb a b <;> simp
  have hres : (if (a0 ≠ 0 ∧ a0 = a1) ∨ (a2 ≠ 0 ∧ a2 = a3) then false else decide (p.k ≠ 1 ∨ (a1 = 0 ∧ a3 = 0))) = (!((!(eqb a0 0) && eqb a0 a1) || (!(eqb a2 0) && eqb a2 a3)) && (!(eqb p.k 1) || (eqb a1 0 && eqb a3 0))) := by
    unfold eqb
    grind
  rw [hres] at hR
  rcases path with ⟨h3, hl1, hl2⟩ | ⟨h3, hl⟩
  · have k3 := eqb_t h3
    have k1 := eqb_f (a := p.k) (b := 1) (by omega)
    have l0 : True := trivial
    rcases hA a0 0 with g0 | g0 <;> rcases hA a0 a1 with g1 | g1 <;> rcases hA a2 0 with g2 | g2 <;> rcases hA a2 a3 with g3 | g3
    all_goals
      simp [go_sem, pt_k, pt_l, h1, h1', h5', gb3, gb, gb0, gb1, k3, k1, hl1, hl2, bne, c0, c1, c2, c3, hz, hzz, g0, g1, g2, g3]
      exact hR _ _ ⟨by simp [g0, g1, g2, g3, k1], hc⟩
  · have k3 := eqb_f h3
    have l0 := eqb_t hl
    have hK : eqb p.k 1 = true ∨ eqb p.k 1 = false := by cases eqb p.k 1 <;> simp
    rcases hA a0 0 with g0 | g0 <;> rcases hA a0 a1 with g1 | g1 <;> rcases hA a2 0 with g2 | g2 <;> rcases hA a2 a3 with g3 | g3 <;> rcases hK with k1 | k1
    all_goals first
      | (simp [go_sem, pt_k, pt_l, h1, h1', h5', gb3, gb, gb0, gb1, k3, k1, l0, bne, c0, c1, c2, c3, hz, hzz, g0, g1, g2, g3]
         exact hR _ _ ⟨by simp [g0, g1, g2, g3, k1], hc⟩)
      | (rcases hA a1 0 with g4 | g4 <;> rcases hA a3 0 with g5 | g5
         all_goals
           simp [go_sem, pt_k, pt_l, h1, h1', h5', gb3, gb, gb0, gb1, k3, k1, l0, bne, c0, c1, c2, c3, hz, hzz, g0, g1, g2, g3, g4, g5]
           exact hR _ _ ⟨by simp [g0, g1, g2, g3, g4, g5, k1], hc⟩)
end Go.Proofs.YtnefdmbdkljifaaDoor

namespace Go.Proofs.YtnefdmbdkljifaaDoor
open Go.RowKit Go.Kin

/-- value v is a reader of the document's: l is left, e its error; its bytes lie where b's lie, or nowhere -/
def RefR (w : World) (v : Value) (l : List UInt8) (e : Int) (own : Option Nat) : Prop :=
  ∃ s, v = .agg #[s, .int .i64 e] ∧ Sl w s l.length (bvs l) ∧ (s.ownBlock = own ∨ s.ownBlock = none)

theorem chBlk {S : Nat → Prop} {w w1 : World} {o : Obj} (hc : Ch S (w.alloc o) w1) (hn : ¬ S w.heap.size) : w1.heap[w.heap.size]? = some o := hc.obj (heap_alloc_new w o) hn

theorem chTwo (w : World) (g : Nat) (u v : Value) : Ch (only g) w ((w.setCell ⟨g, 0, none⟩ u).setCell ⟨g, 1, none⟩ v) :=
  ((Ch.refl (only g) w).setCell (p := ⟨g, 0, none⟩) (.inl rfl) u).setCell (p := ⟨g, 1, none⟩) (.inl rfl) v
theorem lt_own {own o : Option Nat} {B : Nat} (hown : ∀ k, own = some k → k < B) (h : o = own ∨ o = none) (g : Nat) (hg : B ≤ g) : ∀ k, o = some k → ¬ only g k := by
  rintro k hk rfl
  rcases h with h | h
  · have := hown k (by rw [← h, hk]); omega
  · rw [h] at hk; cases hk

/-- what the document's Noughts answers -/
def noughtR (l : List UInt8) (e : Int) (n : Nat) : List UInt8 × Int :=
  if (rawS l e n).1.all (· == 0) then (rawS l e n).2 else ([], 5)

end Go.Proofs.YtnefdmbdkljifaaDoor
