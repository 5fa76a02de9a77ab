/- A pointer's bytes: what ptr's Put answers, as a contract on the call. No condition but that the values are of their types. -/
import Derived.Test.YtppilgkgnofkpaaGreatDoorPtA
import Derived.Test.YtppilgkgnofkpaaGreatDoorWireE
set_option linter.unusedSimpArgs false
set_option linter.unusedVariables false

/- How many copies a kind has; whether a pointer may be: ptr's own answer, and the document's. Condition: the variable ptr.wide holds what the text lays. -/
namespace Go.Proofs.YtppilgkgnofkpaaGreatDoor
open Go.RowKit Go.Kin

/-- the variable ptr.wide as the text lays it -/
def Lw (w : World) : Prop := ∀ i z, ([0, 1, 2, 2, 2, 2] : List Int)[i]? = some z → w.cell? ⟨0, i, none⟩ = some (.int .i64 z)
theorem Lw.ch {S : Nat → Prop} {w w' : World} (h : Lw w) (hc : Ch S w w') (hn : ¬ S 0) : Lw w' := fun i z hz => hc.cell (h i z hz) hn
theorem Lw.lt {w : World} (h : Lw w) : 0 < w.heap.size := World.block_lt_of_cell? w _ (h 0 _ rfl)
def wideN (k : Nat) : Nat := if k = 0 ∨ 6 ≤ k then 0 else if k = 1 then 1 else 2
theorem wide_any (k : Nat) (w : World) (hk : k < 256) (hl : Lw w) : Ret Tryz.prog 63 #[.int .u8 k] w fun v' w' => v' = .int .i64 (wideN k) ∧ w' = w := by
  refine v_enter Tryz.func63 Tryz.ntmps63 rfl (by simp) fun R' hR => ?_
  have hw : IntKind.i64.wrap (k : Int) = k := by simp [IntKind.wrap_i64]; omega
  by_cases h6 : 6 ≤ k
  · have h6' : (6 : Int) ≤ k := by omega
    simp [go_sem, hw, h6']
    exact hR _ _ ⟨by simp [wideN, h6], rfl⟩
  · have h6' : ¬ (6 : Int) ≤ k := by omega
    have l0 := hl 0 _ rfl
    have l1 := hl 1 _ rfl
    have l2 := hl 2 _ rfl
    have l3 := hl 3 _ rfl
    have l4 := hl 4 _ rfl
    have l5 := hl 5 _ rfl
    have hki : (k : Int) < 6 := by omega
    have hcl : w.cell? ⟨0, k, none⟩ = some (.int .i64 (wideN k)) := by
      obtain rfl | rfl | rfl | rfl | rfl | rfl : k = 0 ∨ k = 1 ∨ k = 2 ∨ k = 3 ∨ k = 4 ∨ k = 5 := by omega
      · exact l0
      · exact l1
      · exact l2
      · exact l3
      · exact l4
      · exact l5
    simp [go_sem, hw, h6', hki, hcl]
    exact hR _ _ ⟨rfl, rfl⟩
def badP (n x y : Nat) : Bool := (x == y && x != 0) || (n == 1 && y != 0)
def levB (p : Pt) : Bool := if p.k = 3 then (p.l == 1 || p.l == 2) else p.l == 0
def mayP (p : Pt) : Bool := !(badP (wideN p.k) (p.a.getD 0 0) (p.a.getD 1 0)) && !(badP (wideN p.k) (p.a.getD 2 0) (p.a.getD 3 0)) && (0 < wideN p.k && levB p && p.a.any (· != 0))
theorem mayP_eq {p : Pt} {a0 a1 a2 a3 n : Nat} (ha : p.a = [a0, a1, a2, a3]) (hn : wideN p.k = n) : mayP p = (!(badP n a0 a1) && !(badP n a2 a3) && (decide (0 < n) && levB p && p.a.any (· != 0))) := by
  subst hn
  unfold mayP
  rw [ha]
  rfl
theorem may_any (p : Pt) (w : World) (ok : PtOk p) (hl : Lw w) : Ret Tryz.prog 22 #[.agg (pt p)] w fun v' w' => v' = .bool (mayP p) ∧ Ch Nw w w' := by
  obtain ⟨a0, a1, a2, a3, ha, _⟩ := a4 ok
  refine v_enter Tryz.func22 Tryz.ntmps22 rfl (by simp) fun R' hR => ?_
  simp [go_sem, pt_l, pt_k]
  have hb := hp_alloc w (.cells (pt p) 58)
  have hc := (Ch.refl Nw w).alloc (.cells (pt p) 58)
  have hl1 := hl.ch hc id
  revert hb hc hl1
  generalize w.alloc (.cells (pt p) 58) = w1
  generalize w.heap.size = g
  intro hb hc hl1
  have ck := (cell_blk hb 0).trans pt_k
  have cl := (cell_blk hb 1).trans pt_l
  have c0 := (cell_blk hb 37).trans (pt_a ok (i := 0) (x := a0) (by rw [ha]; rfl))
  have c1 := (cell_blk hb 38).trans (pt_a ok (i := 1) (x := a1) (by rw [ha]; rfl))
  have c2 := (cell_blk hb 39).trans (pt_a ok (i := 2) (x := a2) (by rw [ha]; rfl))
  have c3 := (cell_blk hb 40).trans (pt_a ok (i := 3) (x := a3) (by rw [ha]; rfl))
  refine v_meet (fun f u => f 1 = .pointer (some ⟨g, 0, none⟩) ∧ f 3 = .bool (levB p) ∧ u = w1) ?_ ?_
  · by_cases h3 : p.k = 3
    · have h3' : ((p.k : Int) == 3) = true := by simp; omega
      by_cases h1 : p.l = 1
      · have h1' : ((p.l : Int) == 1) = true := by simp; omega
        simp [go_sem, h3', cl, h1', levB, h3, h1]
      · have h1' : ((p.l : Int) == 1) = false := by simp; omega
        have h2' : ((p.l : Int) == 2) = (p.l == 2) := by
          by_cases h2 : p.l = 2
          · simp [h2]
          · rw [beq_false_of_ne h2, beq_false_of_ne (by omega)]
        simp [go_sem, h3', cl, h1', h2', levB, h3, h1]
    · have h3' : ((p.k : Int) == 3) = false := by simp; omega
      have h0' : ((p.l : Int) == 0) = (p.l == 0) := by
        by_cases h2 : p.l = 0
        · simp [h2]
        · rw [beq_false_of_ne h2, beq_false_of_ne (by omega)]
      simp [go_sem, h3', h0', levB, h3]
  rintro f _ ⟨e1, e3, rfl⟩
  simp [go_sem, e1, ck]
  refine (wide_any p.k _ ok.k hl1).mono ?_
  rintro _ w1 ⟨rfl, rfl⟩
  simp [go_sem, e1, c0, c1, c2, c3]
  generalize hn : wideN p.k = n
  refine v_loop (fun r f wr => ∃ k, k ≤ 2 ∧ r = 2 - k ∧ f 1 = .pointer (some ⟨g, 0, none⟩) ∧ f 3 = .bool (levB p) ∧ f 4 = .int .i64 n ∧ f 38 = .agg #[.int .u16 a0, .int .u16 a1, .int .u16 a2, .int .u16 a3] ∧ f 39 = .int .i64 k ∧
      (0 < k → badP n a0 a1 = false) ∧ (1 < k → badP n a2 a3 = false) ∧ Ch Nw w wr ∧ wr.heap[g]? = some (.cells (pt p) 58 (0, 0))) 2
    ⟨0, by omega, rfl, by simp [e1], by simp [e3], by simp, by simp, by simp, by simp, by simp, hc, hb⟩ ?_
  have hbad : ∀ x y : Nat, badP n x y = ((((x : Int) == (y : Int)) && !((x : Int) == 0)) || (((n : Int) == 1) && !((y : Int) == 0))) := fun x y => by
    have q : ∀ a b : Nat, ((a : Int) == (b : Int)) = (a == b) := fun a b => by
      by_cases h : a = b
      · simp [h]
      · rw [beq_false_of_ne h, beq_false_of_ne (by omega)]
    have q0 : ∀ a : Nat, ((a : Int) == 0) = (a == 0) := fun a => q a 0
    have q1 : ∀ a : Nat, ((a : Int) == 1) = (a == 1) := fun a => q a 1
    rw [q, q0, q0, q1]
    rfl
  have hix0 : ∀ w, (Instr.index 132 (.agg #[.int .u16 a0, .int .u16 a1, .int .u16 a2, .int .u16 a3]) (.int .i64 0)).run Tryz.prog w = .ok (.agg #[.int .u16 a0, .int .u16 a1]) w := fun w => by
    simp [Instr.index, asIntOf, run_underlying Tryz.underlying132, part, Tryz.sizeOf131, Tryz.isAgg131]
  have hix1 : ∀ w, (Instr.index 132 (.agg #[.int .u16 a0, .int .u16 a1, .int .u16 a2, .int .u16 a3]) (.int .i64 1)).run Tryz.prog w = .ok (.agg #[.int .u16 a2, .int .u16 a3]) w := fun w => by
    simp [Instr.index, asIntOf, run_underlying Tryz.underlying132, part, Tryz.sizeOf131, Tryz.isAgg131]
  rintro I hI _ f wr ⟨k, hk, rfl, d1, d3, d4, d38, d39, hp0, hp1, hcc, hbb⟩
  obtain rfl | rfl | rfl : k = 0 ∨ k = 1 ∨ k = 2 := by omega
  · simp [go_sem, d38, d39, hix0]
    have hcA := hcc.alloc (.cells #[.int .u16 a0, .int .u16 a1] 131)
    have hbA := ((Ch.refl Nw wr).alloc (.cells #[.int .u16 a0, .int .u16 a1] 131)).obj hbb id
    have hbd := hbad a0 a1
    cases hb1 : ((a0 : Int) == (a1 : Int)) <;> cases hb2 : ((a0 : Int) == 0) <;> cases hb3 : ((n : Int) == 1) <;> cases hb4 : ((a1 : Int) == 0) <;> rw [hb1, hb2, hb3, hb4] at hbd <;> simp at hbd <;> simp [go_sem, bne, hb1, hb2, hb3, hb4, d4, d39]
    all_goals first
      | exact hR _ _ ⟨by rw [mayP_eq ha hn, hbd]; simp, hcA⟩
      | exact Rnd.intro 1 (by omega) (hI _ _ _ ⟨1, by omega, rfl, by simp [d1], by simp [d3], by simp [d4], by simp [d38], by simp [IntKind.wrap_i64], fun _ => hbd, fun h => absurd h (by omega), hcA, hbA⟩)
  · simp [go_sem, d38, d39, hix1]
    have hcA := hcc.alloc (.cells #[.int .u16 a2, .int .u16 a3] 131)
    have hbA := ((Ch.refl Nw wr).alloc (.cells #[.int .u16 a2, .int .u16 a3] 131)).obj hbb id
    have hbd := hbad a2 a3
    cases hb1 : ((a2 : Int) == (a3 : Int)) <;> cases hb2 : ((a2 : Int) == 0) <;> cases hb3 : ((n : Int) == 1) <;> cases hb4 : ((a3 : Int) == 0) <;> rw [hb1, hb2, hb3, hb4] at hbd <;> simp at hbd <;> simp [go_sem, bne, hb1, hb2, hb3, hb4, d4, d39]
    all_goals first
      | exact hR _ _ ⟨by rw [mayP_eq ha hn, hbd]; simp, hcA⟩
      | exact Rnd.intro 0 (by omega) (hI _ _ _ ⟨2, by omega, rfl, by simp [d1], by simp [d3], by simp [d4], by simp [d38], by simp [IntKind.wrap_i64], fun _ => hp0 (by omega), fun _ => hbd, hcA, hbA⟩)
  · have hf0 := hp0 (by omega)
    have hf1 := hp1 (by omega)
    have hm : mayP p = (decide (0 < n) && levB p && p.a.any (· != 0)) := by rw [mayP_eq ha hn, hf0, hf1]; rfl
    by_cases hn0 : 0 < n
    · have hn0' : (0 : Int) < n := by omega
      cases hlv : levB p
      · simp [go_sem, d39, d3, d4, hn0, hn0', hlv]
        exact hR _ _ ⟨by rw [hm, hlv]; simp, hcc⟩
      · simp [go_sem, d1, d39, d3, d4, hn0, hn0', hlv, hbb, pt_size ok, pt_all ok]
        refine (some_any p wr ok).mono ?_
        rintro _ w3 ⟨rfl, c3⟩
        simp [go_sem]
        exact hR _ _ ⟨by rw [hm, hlv, decide_eq_true hn0]; simp, hcc.trans c3⟩
    · have hn0' : ¬ (0 : Int) < n := by omega
      simp [go_sem, d39, d3, d4, hn0, hn0']
      exact hR _ _ ⟨by rw [hm, decide_eq_false hn0]; simp, hcc⟩
/-- the document's answer -/
def mayR (p : Pt) : Bool :=
  if p.k < 1 ∨ 5 < p.k then false
  else if (p.k = 3 ∧ (p.l < 1 ∨ 2 < p.l)) ∨ (p.k ≠ 3 ∧ p.l ≠ 0) then false
  else if p.a = [0, 0, 0, 0] then false
  else if (p.a.getD 0 0 ≠ 0 ∧ p.a.getD 0 0 = p.a.getD 1 0) ∨ (p.a.getD 2 0 ≠ 0 ∧ p.a.getD 2 0 = p.a.getD 3 0) then false
  else decide (p.k ≠ 1 ∨ (p.a.getD 1 0 = 0 ∧ p.a.getD 3 0 = 0))
theorem mayR_eq (p : Pt) (ok : PtOk p) : mayR p = mayP p := by
  obtain ⟨a0, a1, a2, a3, ha, _⟩ := a4 ok
  rw [mayP_eq ha rfl]
  unfold mayR levB badP wideN
  rw [ha]
  simp only [List.getD_cons_zero, List.getD_cons_succ]
  by_cases h1 : p.k < 1 ∨ 5 < p.k
  · rw [if_pos h1]
    have : p.k = 0 ∨ 6 ≤ p.k := by omega
    simp [this]
  · rw [if_neg h1, if_neg (show ¬ (p.k = 0 ∨ 6 ≤ p.k) by omega), Bool.eq_iff_iff]
    by_cases h2 : p.k = 1
    · simp [h2]
      grind
    · by_cases h3 : p.k = 3
      · simp [h2, h3]
        grind
      · simp [h2, h3]
        grind
end Go.Proofs.YtppilgkgnofkpaaGreatDoor

namespace Go.Proofs.YtppilgkgnofkpaaGreatDoor
open Go.RowKit Go.Kin

theorem own_block_lt {w : World} {e n : Nat} {v : Value} {xs : List Value} (h : w.ownsRow 0 e 1 v n xs) : ∀ k, v.ownBlock = some k → k < w.heap.size := by
  intro k hk
  rcases h.2 with ⟨hv, h0⟩ | ⟨g, cap, cur, hv, _, hb, _⟩
  · rw [hv] at hk; simp [Value.ownBlock] at hk
  · rw [hv] at hk
    simp [Value.ownBlock] at hk
    subst hk
    exact lt_of_block hb
theorem Onto.trans {w w1 w2 : World} {v v1 v2 : Value} {n m m' : Nat} {xs ys zs : List UInt8} (h : Onto w v n xs m ys v1 w1) (k : Onto w1 v1 (n + m) (xs ++ ys) m' zs v2 w2) : Onto w v n xs (m + m') (ys ++ zs) v2 w2 := by
  refine ⟨?_, h.2.1.trans' k.2.1 fun j hj e => ?_, ?_⟩
  · have := k.1
    rwa [List.append_assoc, Nat.add_assoc] at this
  · rcases h.2.2 with h3 | h3
    · rw [← h3]; exact e
    · have := h3 j e; omega
  · rcases k.2.2 with k3 | k3
    · rcases h.2.2 with h3 | h3
      · exact .inl (k3.trans h3)
      · exact .inr fun j hj => h3 j (by rw [← k3]; exact hj)
    · exact .inr (k3.mono h.2.1.size)
theorem Onto.from {w w0 w1 : World} {v v1 : Value} {n m : Nat} {xs ys : List UInt8} (hc : Ch Nw w w0) (h : Onto w0 v n xs m ys v1 w1) : Onto w v n xs m ys v1 w1 :=
  ⟨h.1, (hc.mono fun _ _ e => e.elim).trans h.2.1, h.2.2.imp id fun k => k.mono hc.size⟩
/-- a pointer's bytes -/
def putP (p : Pt) : List UInt8 := [UInt8.ofNat p.k, UInt8.ofNat p.l] ++ (le p.o 2 ++ (le p.f 4 ++ (le p.b 8 ++ (p.h ++ (p.a.flatMap (fun x => le x 2) ++ List.replicate 8 0)))))
theorem pput_any (v : Value) (n : Nat) (l : List UInt8) (p : Pt) (w : World) (ok : PtOk p) (hn : n ≤ 1000000) (hl : l.length = n) (hown : w.ownsRow 0 5 1 v n (bvs l)) :
    Ret Tryz.prog 95 #[v, .agg (pt p)] w (Onto w v n l 64 (putP p)) := by
  obtain ⟨a0, a1, a2, a3, ha, hlt⟩ := a4 ok
  have hlv := own_block_lt hown
  have hlen := Sl.len (Sl.of_own hown) Tryz.underlying59 3
  have hw1 : IntKind.i64.wrap ((n : Int) + 64) = ((n + 64 : Nat) : Int) := by simp [IntKind.wrap_i64]; omega
  refine v_enter Tryz.func95 Tryz.ntmps95 rfl (by simp) fun R' hR => ?_
  simp [go_sem, hlen, hw1]
  have hb := hp_alloc w (.cells (pt p) 58)
  have hc := (Ch.refl Nw w).alloc (.cells (pt p) 58)
  have hown1 := hown.alloc (.cells (pt p) 58)
  revert hb hc hown1
  generalize w.alloc (.cells (pt p) 58) = w1
  generalize hg : w.heap.size = g
  intro hb hc hown1
  have ck := (cell_blk hb 0).trans pt_k
  have cl := (cell_blk hb 1).trans pt_l
  have co := (cell_blk hb 2).trans pt_o
  refine v_draw' [(0, none), (1, none), (2, none), (3, none), (4, none), (7, none), (8, none), (5, some [0, 7, 8]), (6, some [7, 8]), (9, some []), (10, none)] (by kernel_rfl) (by kernel_rfl) ?_
  have hc2 := ((Ch.refl Nw w1).alloc (.cells #[.int .u8 p.k, .int .u8 p.l] 5)).drew
  have co2 := hc2.cell co id
  simp [go_sem, ck, cl, co, co2]
  have hq : (w1.alloc (.cells #[.int .u8 p.k, .int .u8 p.l] 5)).drew.heap[w1.heap.size]? = some (.cells #[.int .u8 p.k, .int .u8 p.l] 5 (0, 0)) := by simp
  have hown2 : (w1.alloc (.cells #[.int .u8 p.k, .int .u8 p.l] 5)).drew.ownsRow 0 5 1 v n (bvs l) := hown1.alloc _
  have hb2 := hc2.hp hb id
  have hc02 := hc.trans hc2
  revert hq hown2 hb2 hc02
  generalize (w1.alloc (.cells #[.int .u8 p.k, .int .u8 p.l] 5)).drew = w2
  intro hq hown2 hb2 hc02
  have hkl : [Value.int .u8 p.k, .int .u8 p.l] = bvs [UInt8.ofNat p.k, UInt8.ofNat p.l] := by
    have h1 := ok.k
    have h2 := ok.l
    simp [bvs, bv_ofNat]
    omega
  refine VB_appn tyB hown2 (y := .slice (some ⟨w1.heap.size, 0, none⟩) 2 2) (m := 2) (ys := bvs [UInt8.ofNat p.k, UInt8.ofNat p.l]) (Sl.of_blk hq (Nat.le_refl _) (by decide) (by rw [← hkl]; rfl)) rfl (bvs_one _) (by unfold maxLen; omega) (by omega) fun v3 w3 k4 k5 k6 => ?_
  have o3 : Onto w2 v n l 2 [UInt8.ofNat p.k, UInt8.ofNat p.l] v3 w3 := ⟨by rw [bvs_append]; exact k4, k5, k6⟩
  have keep : ∀ {v' w' m ys}, Onto w2 v n l m ys v' w' → w'.heap[g]? = some (.cells (pt p) 58 (0, 0)) := fun h => h.2.1.hp hb2 fun e => by have := hlv _ e; omega
  have co3 := (cell_blk (keep o3) 2).trans pt_o
  simp [go_sem, co3]
  refine (wu16 v3 (n + 2) (l ++ [UInt8.ofNat p.k, UInt8.ofNat p.l]) p.o w3 ok.o (by omega) o3.1).mono ?_
  intro v4 w4 q4
  have o4 := o3.trans q4
  have b4 := keep o4
  simp [go_sem]
  refine v_draw' [(0, none), (1, none), (2, none), (4, none), (5, none), (3, some [4, 5]), (6, some []), (7, none)] (by kernel_rfl) (by kernel_rfl) ?_
  have cf4 := (cell_blk b4 3).trans pt_f
  have cb4 := (cell_blk b4 4).trans pt_b
  simp [go_sem, cf4, cb4]
  refine (wu32 v4 _ _ p.f w4.drew ok.f (by omega) o4.1).mono ?_
  intro v5 w5 q5
  have o5 := o4.trans (Onto.from (Ch.refl Nw w4).drew q5)
  have cb5 := (cell_blk (keep o5) 4).trans pt_b
  simp [go_sem, cb5]
  refine (wu64 v5 _ _ p.b w5 ok.b (by omega) o5.1).mono ?_
  intro v6 w6 q6
  have o6 := o5.trans q6
  have b6 := keep o6
  simp [go_sem]
  have hs6 : Sl w6 (.slice (some ⟨g, 5, none⟩) 32 32) 32 (bvs p.h) := Sl.of_blk b6 (Nat.le_refl _) (by decide) (by simp [pt, ok.h, bvs_length])
  refine VB_appn tyB o6.1 hs6 (by rw [bvs_length]; exact ok.h) (bvs_one _) (by unfold maxLen; omega) (by omega) fun v7 w7 d4 d5 d6 => ?_
  have o7 := o6.trans (ys := _) (zs := p.h) (m' := 32) ⟨by rw [bvs_append]; exact d4, d5, d6⟩
  have b7 := keep o7
  have c0 := (cell_blk b7 37).trans (pt_a ok (i := 0) (x := a0) (by rw [ha]; rfl))
  have c1 := (cell_blk b7 38).trans (pt_a ok (i := 1) (x := a1) (by rw [ha]; rfl))
  have c2 := (cell_blk b7 39).trans (pt_a ok (i := 2) (x := a2) (by rw [ha]; rfl))
  have c3 := (cell_blk b7 40).trans (pt_a ok (i := 3) (x := a3) (by rw [ha]; rfl))
  simp [go_sem, c0, c1, c2, c3]
  generalize hys : ([UInt8.ofNat p.k, UInt8.ofNat p.l] ++ le p.o 2 ++ le p.f 4 ++ le p.b 8 ++ p.h) = ys at o7
  refine v_loop (fun r f wr => ∃ k, k ≤ 4 ∧ r = 4 - k ∧ f 5 = .int .i64 ((n + 64 : Nat) : Int) ∧ f 33 = .agg #[.int .u16 a0, .int .u16 a1, .int .u16 a2, .int .u16 a3] ∧ f 34 = .int .i64 k ∧ Onto w2 v n l (2 + 2 + 4 + 8 + 32 + 2 * k) (ys ++ (p.a.take k).flatMap (fun x => le x 2)) (f 0) wr) 4
    ⟨0, by omega, rfl, by simp, by simp, by simp, by simpa using o7⟩ ?_
  rintro J hJ _ f wr ⟨k, hk, rfl, e5, e33, e34, ho⟩
  by_cases hk4 : k < 4
  · obtain ⟨x, hx, hcx, hxl⟩ : ∃ x, p.a[k]? = some x ∧ #[Value.int .u16 a0, Value.int .u16 a1, Value.int .u16 a2, Value.int .u16 a3][k]? = some (.int .u16 x) ∧ x < 65536 := by
      rw [ha]
      match k, hk4 with
      | 0, _ => exact ⟨_, rfl, rfl, hlt.1⟩
      | 1, _ => exact ⟨_, rfl, rfl, hlt.2.1⟩
      | 2, _ => exact ⟨_, rfl, rfl, hlt.2.2.1⟩
      | 3, _ => exact ⟨_, rfl, rfl, hlt.2.2.2⟩
    have hki : (k : Int) < 4 := by omega
    have hidx := fun w => run_index_agg (P := Tryz.prog) (kd := .i64) Tryz.underlying56 Tryz.sizeOf52 Tryz.isAgg52 hk4 hcx w
    have hwk : IntKind.i64.wrap ((k : Int) + 1) = ((k + 1 : Nat) : Int) := by simp [IntKind.wrap_i64]; omega
    simp [go_sem, e33, e34, hki, hidx]
    refine (wu16 (f 0) _ _ x wr hxl (by omega) ho.1).mono ?_
    intro v8 w8 q8
    have o8 := ho.trans q8
    simp [go_sem, e34, hwk]
    refine Rnd.intro (4 - (k + 1)) (by omega) (hJ _ _ _ ⟨k + 1, by omega, rfl, by simpa using e5, by simp [e33], by simp, ?_⟩)
    rw [List.take_add_one, hx]
    simpa [Nat.mul_add, Nat.add_assoc] using o8
  · obtain rfl : k = 4 := by omega
    simp [go_sem, e34, e5]
    rw [List.take_of_length_le (by rw [ok.a]; omega)] at ho
    have hyl : ys.length = 48 := by rw [← hys]; simp [le_length, ok.h]
    have hfl : (p.a.flatMap (fun x => le x 2)).length = 8 := by rw [ha]; simp [le_length]
    refine (fill_any (f 0) (n + (2 + 2 + 4 + 8 + 32 + 2 * 4)) _ ((n : Int) + 64) wr (by omega) (by omega) (by simp only [List.length_append, hyl, hfl, hl]) ho.1).mono ?_
    intro v9 w9 q9
    have o9 := ho.trans q9
    have e8 : ((n : Int) + 64).toNat - (n + (2 + 2 + 4 + 8 + 32 + 2 * 4)) = 8 := by omega
    rw [e8] at o9
    simp [go_sem]
    refine hR _ _ (Onto.from hc02 ?_)
    have hp : ys ++ p.a.flatMap (fun x => le x 2) ++ List.replicate 8 0 = putP p := by
      rw [← hys]
      simp only [putP, List.append_assoc]
    rw [hp] at o9
    exact o9
end Go.Proofs.YtppilgkgnofkpaaGreatDoor
