/- Whether a pointer may be, by the document, as a contract on the call. No condition but that the values are of their types. -/
import Derived.Test.YtppilgkgnofkpaaDoorPtC
set_option linter.unusedSimpArgs false
set_option linter.unusedVariables false

/- The document's bytes of a pointer, as a contract on the call. No condition but that the values are of their types. -/
namespace Go.Proofs.YtppilgkgnofkpaaDoor
open Go.RowKit Go.Kin

theorem rbytes_any (p : Pt) (w : World) (ok : PtOk p) : Ret Tryd.prog 79 #[.agg (pt p)] w fun v' w' => Mine 5 w v' 64 (bvs (putP p)) w' := by
  refine v_enter Tryd.func79 Tryd.ntmps79 rfl (by simp) fun R' hR => ?_
  have wo := ok.o
  have wf := ok.f
  have wo' : IntKind.u64.wrap (p.o : Int) = p.o := by simp [IntKind.wrap_u64]; omega
  have wf' : IntKind.u64.wrap (p.f : Int) = p.f := by simp [IntKind.wrap_u64]; omega
  simp [go_sem, pt_k, pt_l, pt_o, wo']
  have hb := al2_0 w (.cells (pt p) 28) (.cells #[.int .u8 p.k, .int .u8 p.l] 5)
  have hc := ((Ch.refl Nw w).alloc (.cells (pt p) 28)).alloc (.cells #[.int .u8 p.k, .int .u8 p.l] 5)
  have hkl : [Value.int .u8 p.k, .int .u8 p.l] = bvs [UInt8.ofNat p.k, UInt8.ofNat p.l] := by
    have h1 := ok.k
    have h2 := ok.l
    simp [bvs, bv_ofNat]
    omega
  have hm : Mine 5 w (.slice (some ⟨w.heap.size + 1, 0, none⟩) 2 2) 2 (bvs [UInt8.ofNat p.k, UInt8.ofNat p.l]) ((w.alloc (.cells (pt p) 28)).alloc (.cells #[.int .u8 p.k, .int .u8 p.l] 5)) := by
    refine ⟨?_, hc, fun k hk => ?_⟩
    · have := World.ownsRow_lit (base := 0) (e := 5) (size := 1) (w.alloc (.cells (pt p) 28)) #[.int .u8 p.k, .int .u8 p.l] 2 (Nat.zero_le _) (by decide) rfl
      rw [← hkl]
      simpa using this
    · simp [Value.ownBlock] at hk
      omega
  revert hb hc hm
  generalize (w.alloc (.cells (pt p) 28)).alloc (.cells #[.int .u8 p.k, .int .u8 p.l] 5) = w1
  generalize hg : w.heap.size = g
  intro hb hc hm
  have o2 : Onto w1 (.slice (some ⟨g + 1, 0, none⟩) 2 2) 2 [UInt8.ofNat p.k, UInt8.ofNat p.l] 0 [] (.slice (some ⟨g + 1, 0, none⟩) 2 2) w1 := Onto.refl hm.own
  have keep : ∀ {v' w' m ys}, Onto w1 (.slice (some ⟨g + 1, 0, none⟩) 2 2) 2 [UInt8.ofNat p.k, UInt8.ofNat p.l] m ys v' w' → w'.heap[g]? = some (.cells (pt p) 28 (0, 0)) := fun h => h.2.1.hp hb fun e => by simp [Value.ownBlock] at e
  have fin : ∀ {v' w' m ys}, Onto w1 (.slice (some ⟨g + 1, 0, none⟩) 2 2) 2 [UInt8.ofNat p.k, UInt8.ofNat p.l] m ys v' w' → Ch Nw w w' := fun h => hc.trans' h.2.1 fun j hj e => by
    simp [Value.ownBlock] at e
    omega
  have app : ∀ {v w v2 w2 m ys k zs} {K : Value → World → Prop} {ty : TypeId}, Onto w1 (.slice (some ⟨g + 1, 0, none⟩) 2 2) 2 [UInt8.ofNat p.k, UInt8.ofNat p.l] m ys v w → w2.ownsRow 0 5 1 v2 k (bvs zs) → Ch Nw w w2 → m + k ≤ 1000 → zs.length = k →
      (∀ v3 w3, Onto w1 (.slice (some ⟨g + 1, 0, none⟩) 2 2) 2 [UInt8.ofNat p.k, UInt8.ofNat p.l] (m + k) (ys ++ zs) v3 w3 → K v3 w3) → VB Tryd.prog .append #[29, 29] ty #[v, v2] w2 K := by
    intro v w v2 w2 m ys k zs K ty h1 h2 h3 h4 h5 h6
    refine VB_appn tyB (own_ch h1.1 h3 fun _ _ e => e) (Sl.of_own h2) (by rw [bvs_length]; exact h5) (bvs_one _) (by unfold maxLen; omega) (by omega) fun v3 w3 d4 d5 d6 => ?_
    exact h6 _ _ (h1.trans (Onto.from h3 ⟨by rw [bvs_append]; exact d4, d5, d6⟩))
  refine (refNum p.o 2 w1 (by omega) (by decide)).mono ?_
  rintro v2 w2 ⟨k1, k2, k3⟩
  simp [go_sem]
  refine app o2 k1 k2 (by omega) (le_length _ _) fun v3 w3 o3 => ?_
  have cf := (cell_blk (keep o3) 3).trans pt_f
  simp [go_sem, cf, wf']
  refine (refNum p.f 4 w3 (by omega) (by decide)).mono ?_
  rintro v4 w4 ⟨k1, k2, k3⟩
  simp [go_sem]
  refine app o3 k1 k2 (by omega) (le_length _ _) fun v5 w5 o5 => ?_
  have cb := (cell_blk (keep o5) 4).trans pt_b
  simp [go_sem, cb]
  refine (refNum p.b 8 w5 ok.b (by decide)).mono ?_
  rintro v6 w6 ⟨k1, k2, k3⟩
  simp [go_sem]
  refine app o5 k1 k2 (by omega) (le_length _ _) fun v7 w7 o7 => ?_
  simp [go_sem]
  generalize hys : ([] ++ le p.o 2 ++ le p.f 4 ++ le p.b 8) = ys at o7
  refine v_loop (fun r f wr => ∃ k, k ≤ 32 ∧ r = 32 - k ∧ f 1 = .pointer (some ⟨g, 0, none⟩) ∧ f 4 = .int .i64 k ∧ Onto w1 (.slice (some ⟨g + 1, 0, none⟩) 2 2) 2 [UInt8.ofNat p.k, UInt8.ofNat p.l] (0 + 2 + 4 + 8 + k) (ys ++ p.h.take k) (f 3) wr) 32
    ⟨0, by omega, rfl, by simp, by simp, by simpa using o7⟩ ?_
  rintro J hJ _ f wr ⟨k, hk, rfl, e1, e4, ho⟩
  by_cases hk32 : k < 32
  · obtain ⟨c, hcx⟩ : ∃ c, p.h[k]? = some c := ⟨_, List.getElem?_eq_getElem (by have := ok.h; omega)⟩
    have hx : (pt p)[5 + k]? = some (.int .u8 (c.toNat : Int)) := by
      simp only [pt, List.getElem?_toArray]
      rw [show 5 + k = k + 1 + 1 + 1 + 1 + 1 by omega]
      simp only [List.getElem?_cons_succ]
      rw [List.getElem?_append_left (by rw [bvs_length, ok.h]; omega), bvs, List.getElem?_map, hcx]
      rfl
    have hki : (k : Int) < 32 := by omega
    have hcell := (cell_blk (keep ho) (5 + k)).trans hx
    have hwk : IntKind.i64.wrap ((k : Int) + 1) = ((k + 1 : Nat) : Int) := by simp [IntKind.wrap_i64]; omega
    simp [go_sem, e1, e4, hki, hcell]
    refine VB_app1 tyB ho.1 rfl (by unfold maxLen; omega) (by omega) fun v8 w8 d4 d5 d6 => ?_
    have o8 := Onto.one ho rfl d4 d5 d6
    simp [go_sem, e4, hwk]
    refine Rnd.intro (32 - (k + 1)) (by omega) (hJ _ _ _ ⟨k + 1, by omega, rfl, by simp [e1], by simp, ?_⟩)
    rw [List.take_add_one, hcx]
    simpa [Nat.add_assoc] using o8
  · obtain rfl : k = 32 := by omega
    rw [List.take_of_length_le (by rw [ok.h]; omega)] at ho
    simp [go_sem, e4]
    refine v_loop (fun r f wr => ∃ k, k ≤ 4 ∧ r = 4 - k ∧ f 1 = .pointer (some ⟨g, 0, none⟩) ∧ f 5 = .int .i64 k ∧ Onto w1 (.slice (some ⟨g + 1, 0, none⟩) 2 2) 2 [UInt8.ofNat p.k, UInt8.ofNat p.l] (0 + 2 + 4 + 8 + 32 + 2 * k) (ys ++ p.h ++ (p.a.take k).flatMap (fun x => le x 2)) (f 3) wr) 4
      ⟨0, by omega, rfl, by simp [e1], by simp, by simpa using ho⟩ ?_
    rintro J hJ _ f wr ⟨k, hk, rfl, e1, e5, ho⟩
    by_cases hk4 : k < 4
    · obtain ⟨x, hx⟩ : ∃ x, p.a[k]? = some x := ⟨_, List.getElem?_eq_getElem (by have := ok.a; omega)⟩
      have hxl := ok.at' x (List.mem_of_getElem? hx)
      have hki : (k : Int) < 4 := by omega
      have hcell := (cell_blk (keep ho) (37 + k)).trans (pt_a ok hx)
      have hwx : IntKind.u64.wrap (x : Int) = x := by simp [IntKind.wrap_u64]; omega
      have hwk : IntKind.i64.wrap ((k : Int) + 1) = ((k + 1 : Nat) : Int) := by simp [IntKind.wrap_i64]; omega
      simp [go_sem, e1, e5, hki, hcell, hwx]
      refine (refNum x 2 wr (by omega) (by decide)).mono ?_
      rintro v8 w8 ⟨k1, k2, k3⟩
      simp [go_sem]
      refine app ho k1 k2 (by omega) (le_length _ _) fun v9 w9 o9 => ?_
      simp [go_sem, e5, hwk]
      refine Rnd.intro (4 - (k + 1)) (by omega) (hJ _ _ _ ⟨k + 1, by omega, rfl, by simp [e1], by simp, ?_⟩)
      rw [List.take_add_one, hx]
      simpa [Nat.mul_add, Nat.add_assoc] using o9
    · obtain rfl : k = 4 := by omega
      rw [List.take_of_length_le (by rw [ok.a]; omega)] at ho
      simp [go_sem, e5]
      have hfl : (p.a.flatMap (fun x => le x 2)).length = 8 := by
        obtain ⟨a0, a1, a2, a3, ha, _⟩ := a4 ok
        rw [ha]; simp [le_length]
      have hall : ([UInt8.ofNat p.k, UInt8.ofNat p.l] ++ (ys ++ p.h ++ p.a.flatMap (fun x => le x 2))).length = 56 := by
        rw [← hys]; simp [le_length, ok.h, hfl]
      have hsl := Sl.of_own ho.1
      have hn56 : 2 + (0 + 2 + 4 + 8 + 32 + 2 * 4) = ([UInt8.ofNat p.k, UInt8.ofNat p.l] ++ (ys ++ p.h ++ p.a.flatMap (fun x => le x 2))).length := by rw [hall]
      rw [hn56] at hsl
      refine (refFill (f 3) _ 64 wr (by omega) (by omega) hsl).mono ?_
      rintro v8 w8 ⟨k1, k2, k3⟩
      rw [hall] at k1
      simp [go_sem]
      refine hR _ _ ⟨?_, (fin ho).trans k2, k3.mono (fin ho).size⟩
      have hp : [UInt8.ofNat p.k, UInt8.ofNat p.l] ++ (ys ++ p.h ++ p.a.flatMap (fun x => le x 2)) ++ List.replicate ((64 : Int).toNat - 56) 0 = putP p := by
        rw [← hys]
        simp [putP]
      rw [hp] at k1
      exact k1
end Go.Proofs.YtppilgkgnofkpaaDoor

namespace Go.Proofs.YtppilgkgnofkpaaDoor
open Go.RowKit Go.Kin

def eqb (a b : Nat) : Bool := decide (a = b)
theorem eqb_t {a b : Nat} (h : a = b) : eqb a b = true := decide_eq_true h
theorem eqb_f {a b : Nat} (h : a ≠ b) : eqb a b = false := decide_eq_false h
set_option maxHeartbeats 2000000 in
theorem rmay_any (p : Pt) (w : World) (ok : PtOk p) : Ret Tryd.prog 28 #[.agg (pt p)] w fun v' w' => v' = .bool (mayR p) ∧ Ch Nw w w' := by
  obtain ⟨a0, a1, a2, a3, ha, _⟩ := a4 ok
  refine v_enter Tryd.func28 Tryd.ntmps28 rfl (by simp) fun R' hR => ?_
  have c0 := pt_a ok (i := 0) (x := a0) (by rw [ha]; rfl)
  have c1 := pt_a ok (i := 1) (x := a1) (by rw [ha]; rfl)
  have c2 := pt_a ok (i := 2) (x := a2) (by rw [ha]; rfl)
  have c3 := pt_a ok (i := 3) (x := a3) (by rw [ha]; rfl)
  simp only [Nat.reduceAdd] at c0 c1 c2 c3
  have hc := (Ch.refl Nw w).alloc (.cells (pt p) 28)
  have hz : ∀ w, (Op.equalIn 10000 26 (.agg #[.int .u16 a0, .int .u16 a1, .int .u16 a2, .int .u16 a3]) (.agg #[.int .u16 0, .int .u16 0, .int .u16 0, .int .u16 0])).run Tryd.prog w = .ok (decide (p.a = [0, 0, 0, 0])) w := fun w => by
    rw [ha]
    exact run_equalIn_u16s w 9998 _ _ 4 Tryd.underlying26 Tryd.underlying22 Tryd.sizeOf22 Tryd.isAgg22 [a0, a1, a2, a3] [0, 0, 0, 0] rfl rfl
  by_cases h1 : p.k < 1
  · have h1' : (p.k : Int) < 1 := by omega
    simp [go_sem, pt_k, h1, h1']
    exact hR _ _ ⟨by simp [mayR, h1], hc⟩
  have h1' : ¬ (p.k : Int) < 1 := by omega
  by_cases h5 : 5 < p.k
  · have h5' : (5 : Int) < p.k := by omega
    simp [go_sem, pt_k, h1, h1', h5']
    exact hR _ _ ⟨by simp [mayR, h5], hc⟩
  have h5' : ¬ (5 : Int) < p.k := by omega
  have hbeq : ∀ a b : Nat, ((a : Int) == (b : Int)) = decide (a = b) := fun a b => by
    by_cases h : a = b
    · simp [h]
    · rw [beq_false_of_ne (by omega), decide_eq_false h]
  have hb0 : ∀ a : Nat, ((a : Int) == 0) = decide (a = 0) := fun a => hbeq a 0
  have hb1 : ∀ a : Nat, ((a : Int) == 1) = decide (a = 1) := fun a => hbeq a 1
  have hb3 : ∀ a : Nat, ((a : Int) == 3) = decide (a = 3) := fun a => hbeq a 3
  by_cases hlev : (p.k = 3 ∧ (p.l < 1 ∨ 2 < p.l)) ∨ (p.k ≠ 3 ∧ p.l ≠ 0)
  · have hm : mayR p = false := by unfold mayR; rw [if_neg (by omega), if_pos hlev]
    rw [hm] at hR
    rcases hlev with ⟨h3, hl | hl⟩ | ⟨h3, hl⟩
    · have hl' : (p.l : Int) < 1 := by omega
      simp [go_sem, pt_k, pt_l, h1, h1', h5', hb3, h3, hl', bne]
      exact hR _ _ ⟨rfl, hc⟩
    · have hl' : (2 : Int) < p.l := by omega
      have hl'' : ¬ (p.l : Int) < 1 := by omega
      simp [go_sem, pt_k, pt_l, h1, h1', h5', hb3, h3, hl', hl'', bne]
      exact hR _ _ ⟨rfl, hc⟩
    · simp [go_sem, pt_k, pt_l, h1, h1', h5', hb3, hb0, h3, hl, bne]
      exact hR _ _ ⟨rfl, hc⟩
  have path : (p.k = 3 ∧ ¬ (p.l : Int) < 1 ∧ ¬ (2 : Int) < p.l) ∨ (p.k ≠ 3 ∧ p.l = 0) := by omega
  by_cases hzz : p.a = [0, 0, 0, 0]
  · have hm : mayR p = false := by unfold mayR; rw [if_neg (by omega), if_neg hlev, if_pos hzz]
    rw [hm] at hR
    rcases path with ⟨h3, hl1, hl2⟩ | ⟨h3, hl⟩
    · simp [go_sem, pt_k, pt_l, h1, h1', h5', hb3, h3, hl1, hl2, bne, c0, c1, c2, c3, hz, hzz]
      exact hR _ _ ⟨rfl, hc⟩
    · simp [go_sem, pt_k, pt_l, h1, h1', h5', hb3, hb0, h3, hl, bne, c0, c1, c2, c3, hz, hzz]
      exact hR _ _ ⟨rfl, hc⟩
  have hm : mayR p = if (a0 ≠ 0 ∧ a0 = a1) ∨ (a2 ≠ 0 ∧ a2 = a3) then false else decide (p.k ≠ 1 ∨ (a1 = 0 ∧ a3 = 0)) := by
    unfold mayR
    rw [if_neg (by omega), if_neg hlev, if_neg hzz, ha]
    rfl
  rw [hm] at hR
  have gb : ∀ a b : Nat, ((a : Int) == (b : Int)) = eqb a b := hbeq
  have gb0 : ∀ a : Nat, ((a : Int) == 0) = eqb a 0 := hb0
  have gb1 : ∀ a : Nat, ((a : Int) == 1) = eqb a 1 := hb1
  have gb3 : ∀ a : Nat, ((a : Int) == 3) = eqb a 3 := hb3
  have hA : ∀ a b : Nat, eqb a b = true ∨ eqb a b = false := fun a b => by cases eqb a b <;> simp
  have hres : (if (a0 ≠ 0 ∧ a0 = a1) ∨ (a2 ≠ 0 ∧ a2 = a3) then false else decide (p.k ≠ 1 ∨ (a1 = 0 ∧ a3 = 0))) = (!((!(eqb a0 0) && eqb a0 a1) || (!(eqb a2 0) && eqb a2 a3)) && (!(eqb p.k 1) || (eqb a1 0 && eqb a3 0))) := by
    unfold eqb
    grind
  rw [hres] at hR
  rcases path with ⟨h3, hl1, hl2⟩ | ⟨h3, hl⟩
  · have k3 := eqb_t h3
    have k1 := eqb_f (a := p.k) (b := 1) (by omega)
    have l0 : True := trivial
    rcases hA a0 0 with g0 | g0 <;> rcases hA a0 a1 with g1 | g1 <;> rcases hA a2 0 with g2 | g2 <;> rcases hA a2 a3 with g3 | g3
    all_goals
      simp [go_sem, pt_k, pt_l, h1, h1', h5', gb3, gb, gb0, gb1, k3, k1, hl1, hl2, bne, c0, c1, c2, c3, hz, hzz, g0, g1, g2, g3]
      exact hR _ _ ⟨by simp [g0, g1, g2, g3, k1], hc⟩
  · have k3 := eqb_f h3
    have l0 := eqb_t hl
    have hK : eqb p.k 1 = true ∨ eqb p.k 1 = false := by cases eqb p.k 1 <;> simp
    rcases hA a0 0 with g0 | g0 <;> rcases hA a0 a1 with g1 | g1 <;> rcases hA a2 0 with g2 | g2 <;> rcases hA a2 a3 with g3 | g3 <;> rcases hK with k1 | k1
    all_goals first
      | (simp [go_sem, pt_k, pt_l, h1, h1', h5', gb3, gb, gb0, gb1, k3, k1, l0, bne, c0, c1, c2, c3, hz, hzz, g0, g1, g2, g3]
         exact hR _ _ ⟨by simp [g0, g1, g2, g3, k1], hc⟩)
      | (rcases hA a1 0 with g4 | g4 <;> rcases hA a3 0 with g5 | g5
         all_goals
           simp [go_sem, pt_k, pt_l, h1, h1', h5', gb3, gb, gb0, gb1, k3, k1, l0, bne, c0, c1, c2, c3, hz, hzz, g0, g1, g2, g3, g4, g5]
           exact hR _ _ ⟨by simp [g0, g1, g2, g3, g4, g5, k1], hc⟩)
end Go.Proofs.YtppilgkgnofkpaaDoor
