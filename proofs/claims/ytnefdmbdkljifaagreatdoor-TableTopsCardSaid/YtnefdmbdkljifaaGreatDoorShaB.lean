/- The 64 numbers of a piece: package sha's numbers, as a contract on the call. No condition but that the values are of their types. -/
import Derived.Test.YtnefdmbdkljifaaGreatDoorWireF
import Derived.Test.YtnefdmbdkljifaaGreatDoorWireC
set_option linter.unusedSimpArgs false
set_option linter.unusedVariables false

/- The document's bytes of a pointer, as a contract on the call. No condition but that the values are of their types. -/
namespace Go.Proofs.YtnefdmbdkljifaaGreatDoor
open Go.RowKit Go.Kin

theorem rbytes_any (p : Pt) (w : World) (ok : PtOk p) : Ret Tryz.prog 18 #[.agg (pt p)] w fun v' w' => Mine 5 w v' 64 (bvs (putP p)) w' := by
  refine v_enter Tryz.func18 Tryz.ntmps18 rfl (by simp) fun R' hR => ?_
  have wo := ok.o
  have wf := ok.f
  have wo' : IntKind.u64.wrap (p.o : Int) = p.o := by simp [IntKind.wrap_u64]; omega
  have wf' : IntKind.u64.wrap (p.f : Int) = p.f := by simp [IntKind.wrap_u64]; omega
  simp [go_sem, pt_k, pt_l, pt_o, wo']
  have hb := al2_0 w (.cells (pt p) 37) (.cells #[.int .u8 p.k, .int .u8 p.l] 5)
  have hc := ((Ch.refl Nw w).alloc (.cells (pt p) 37)).alloc (.cells #[.int .u8 p.k, .int .u8 p.l] 5)
  have hkl : [Value.int .u8 p.k, .int .u8 p.l] = bvs [UInt8.ofNat p.k, UInt8.ofNat p.l] := by
    have h1 := ok.k
    have h2 := ok.l
    simp [bvs, bv_ofNat]
    omega
  have hm : Mine 5 w (.slice (some ⟨w.heap.size + 1, 0, none⟩) 2 2) 2 (bvs [UInt8.ofNat p.k, UInt8.ofNat p.l]) ((w.alloc (.cells (pt p) 37)).alloc (.cells #[.int .u8 p.k, .int .u8 p.l] 5)) := by
    refine ⟨?_, hc, fun k hk => ?_⟩
    · have := World.ownsRow_lit (base := 0) (e := 5) (size := 1) (w.alloc (.cells (pt p) 37)) #[.int .u8 p.k, .int .u8 p.l] 2 (Nat.zero_le _) (by decide) rfl
      rw [← hkl]
      simpa using this
    · simp [Value.ownBlock] at hk
      omega
  revert hb hc hm
  generalize (w.alloc (.cells (pt p) 37)).alloc (.cells #[.int .u8 p.k, .int .u8 p.l] 5) = w1
  generalize hg : w.heap.size = g
  intro hb hc hm
  have o2 : Onto w1 (.slice (some ⟨g + 1, 0, none⟩) 2 2) 2 [UInt8.ofNat p.k, UInt8.ofNat p.l] 0 [] (.slice (some ⟨g + 1, 0, none⟩) 2 2) w1 := Onto.refl hm.own
  have keep : ∀ {v' w' m ys}, Onto w1 (.slice (some ⟨g + 1, 0, none⟩) 2 2) 2 [UInt8.ofNat p.k, UInt8.ofNat p.l] m ys v' w' → w'.heap[g]? = some (.cells (pt p) 37 (0, 0)) := fun h => h.2.1.hp hb fun e => by simp [Value.ownBlock] at e
  have fin : ∀ {v' w' m ys}, Onto w1 (.slice (some ⟨g + 1, 0, none⟩) 2 2) 2 [UInt8.ofNat p.k, UInt8.ofNat p.l] m ys v' w' → Ch Nw w w' := fun h => hc.trans' h.2.1 fun j hj e => by
    simp [Value.ownBlock] at e
    omega
  have app : ∀ {v w v2 w2 m ys k zs} {K : Value → World → Prop} {ty : TypeId}, Onto w1 (.slice (some ⟨g + 1, 0, none⟩) 2 2) 2 [UInt8.ofNat p.k, UInt8.ofNat p.l] m ys v w → w2.ownsRow 0 5 1 v2 k (bvs zs) → Ch Nw w w2 → m + k ≤ 1000 → zs.length = k →
      (∀ v3 w3, Onto w1 (.slice (some ⟨g + 1, 0, none⟩) 2 2) 2 [UInt8.ofNat p.k, UInt8.ofNat p.l] (m + k) (ys ++ zs) v3 w3 → K v3 w3) → VB Tryz.prog .append #[62, 62] ty #[v, v2] w2 K := by
    intro v w v2 w2 m ys k zs K ty h1 h2 h3 h4 h5 h6
    refine VB_appn tyB (own_ch h1.1 h3 fun _ _ e => e) (Sl.of_own h2) (by rw [bvs_length]; exact h5) (bvs_one _) (by unfold maxLen; omega) (by omega) fun v3 w3 d4 d5 d6 => ?_
    exact h6 _ _ (h1.trans (Onto.from h3 ⟨by rw [bvs_append]; exact d4, d5, d6⟩))
  refine (refNum p.o 2 w1 (by omega) (by decide)).mono ?_
  rintro v2 w2 ⟨k1, k2, k3⟩
  simp [go_sem]
  refine app o2 k1 k2 (by omega) (le_length _ _) fun v3 w3 o3 => ?_
  have cf := (cell_blk (keep o3) 3).trans pt_f
  simp [go_sem, cf, wf']
  refine (refNum p.f 4 w3 (by omega) (by decide)).mono ?_
  rintro v4 w4 ⟨k1, k2, k3⟩
  simp [go_sem]
  refine app o3 k1 k2 (by omega) (le_length _ _) fun v5 w5 o5 => ?_
  have cb := (cell_blk (keep o5) 4).trans pt_b
  simp [go_sem, cb]
  refine (refNum p.b 8 w5 ok.b (by decide)).mono ?_
  rintro v6 w6 ⟨k1, k2, k3⟩
  simp [go_sem]
  refine app o5 k1 k2 (by omega) (le_length _ _) fun v7 w7 o7 => ?_
  simp [go_sem]
  generalize hys : ([] ++ le p.o 2 ++ le p.f 4 ++ le p.b 8) = ys at o7
  refine v_loop (fun r f wr => ∃ k, k ≤ 32 ∧ r = 32 - k ∧ f 1 = .pointer (some ⟨g, 0, none⟩) ∧ f 4 = .int .i64 k ∧ Onto w1 (.slice (some ⟨g + 1, 0, none⟩) 2 2) 2 [UInt8.ofNat p.k, UInt8.ofNat p.l] (0 + 2 + 4 + 8 + k) (ys ++ p.h.take k) (f 3) wr) 32
    ⟨0, by omega, rfl, by simp, by simp, by simpa using o7⟩ ?_
  rintro J hJ _ f wr ⟨k, hk, rfl, e1, e4, ho⟩
  by_cases hk32 : k < 32
  · obtain ⟨c, hcx⟩ : ∃ c, p.h[k]? = some c := ⟨_, List.getElem?_eq_getElem (by have := ok.h; omega)⟩
    have hx : (pt p)[5 + k]? = some (.int .u8 (c.toNat : Int)) := by
      simp only [pt, List.getElem?_toArray]
      rw [show 5 + k = k + 1 + 1 + 1 + 1 + 1 by omega]
      simp only [List.getElem?_cons_succ]
      rw [List.getElem?_append_left (by rw [bvs_length, ok.h]; omega), bvs, List.getElem?_map, hcx]
      rfl
    have hki : (k : Int) < 32 := by omega
    have hcell := (cell_blk (keep ho) (5 + k)).trans hx
    have hwk : IntKind.i64.wrap ((k : Int) + 1) = ((k + 1 : Nat) : Int) := by simp [IntKind.wrap_i64]; omega
    simp [go_sem, e1, e4, hki, hcell]
    refine VB_app1 tyB ho.1 rfl (by unfold maxLen; omega) (by omega) fun v8 w8 d4 d5 d6 => ?_
    have o8 := Onto.one ho rfl d4 d5 d6
    simp [go_sem, e4, hwk]
    refine Rnd.intro (32 - (k + 1)) (by omega) (hJ _ _ _ ⟨k + 1, by omega, rfl, by simp [e1], by simp, ?_⟩)
    rw [List.take_add_one, hcx]
    simpa [Nat.add_assoc] using o8
  · obtain rfl : k = 32 := by omega
    rw [List.take_of_length_le (by rw [ok.h]; omega)] at ho
    simp [go_sem, e4]
    refine v_loop (fun r f wr => ∃ k, k ≤ 4 ∧ r = 4 - k ∧ f 1 = .pointer (some ⟨g, 0, none⟩) ∧ f 5 = .int .i64 k ∧ Onto w1 (.slice (some ⟨g + 1, 0, none⟩) 2 2) 2 [UInt8.ofNat p.k, UInt8.ofNat p.l] (0 + 2 + 4 + 8 + 32 + 2 * k) (ys ++ p.h ++ (p.a.take k).flatMap (fun x => le x 2)) (f 3) wr) 4
      ⟨0, by omega, rfl, by simp [e1], by simp, by simpa using ho⟩ ?_
    rintro J hJ _ f wr ⟨k, hk, rfl, e1, e5, ho⟩
    by_cases hk4 : k < 4
    · obtain ⟨x, hx⟩ : ∃ x, p.a[k]? = some x := ⟨_, List.getElem?_eq_getElem (by have := ok.a; omega)⟩
      have hxl := ok.at' x (List.mem_of_getElem? hx)
      have hki : (k : Int) < 4 := by omega
      have hcell := (cell_blk (keep ho) (37 + k)).trans (pt_a ok hx)
      have hwx : IntKind.u64.wrap (x : Int) = x := by simp [IntKind.wrap_u64]; omega
      have hwk : IntKind.i64.wrap ((k : Int) + 1) = ((k + 1 : Nat) : Int) := by simp [IntKind.wrap_i64]; omega
      simp [go_sem, e1, e5, hki, hcell, hwx]
      refine (refNum x 2 wr (by omega) (by decide)).mono ?_
      rintro v8 w8 ⟨k1, k2, k3⟩
      simp [go_sem]
      refine app ho k1 k2 (by omega) (le_length _ _) fun v9 w9 o9 => ?_
      simp [go_sem, e5, hwk]
      refine Rnd.intro (4 - (k + 1)) (by omega) (hJ _ _ _ ⟨k + 1, by omega, rfl, by simp [e1], by simp, ?_⟩)
      rw [List.take_add_one, hx]
      simpa [Nat.mul_add, Nat.add_assoc] using o9
    · obtain rfl : k = 4 := by omega
      rw [List.take_of_length_le (by rw [ok.a]; omega)] at ho
      simp [go_sem, e5]
      have hfl : (p.a.flatMap (fun x => le x 2)).length = 8 := by
        obtain ⟨a0, a1, a2, a3, ha, _⟩ := a4 ok
        rw [ha]; simp [le_length]
      have hall : ([UInt8.ofNat p.k, UInt8.ofNat p.l] ++ (ys ++ p.h ++ p.a.flatMap (fun x => le x 2))).length = 56 := by
        rw [← hys]; simp [le_length, ok.h, hfl]
      have hsl := Sl.of_own ho.1
      have hn56 : 2 + (0 + 2 + 4 + 8 + 32 + 2 * 4) = ([UInt8.ofNat p.k, UInt8.ofNat p.l] ++ (ys ++ p.h ++ p.a.flatMap (fun x => le x 2))).length := by rw [hall]
      rw [hn56] at hsl
      refine (refFill (f 3) _ 64 wr (by omega) (by omega) hsl).mono ?_
      rintro v8 w8 ⟨k1, k2, k3⟩
      rw [hall] at k1
      simp [go_sem]
      refine hR _ _ ⟨?_, (fin ho).trans k2, k3.mono (fin ho).size⟩
      have hp : [UInt8.ofNat p.k, UInt8.ofNat p.l] ++ (ys ++ p.h ++ p.a.flatMap (fun x => le x 2)) ++ List.replicate ((64 : Int).toNat - 56) 0 = putP p := by
        rw [← hys]
        simp [putP]
      rw [hp] at k1
      exact k1
end Go.Proofs.YtnefdmbdkljifaaGreatDoor

/- Whether a pointer may be, by the document, as a contract on the call. No condition but that the values are of their types. -/
namespace Go.Proofs.YtnefdmbdkljifaaGreatDoor
open Go.RowKit Go.Kin

def eqb (a b : Nat) : Bool := decide (a = b)
theorem eqb_t {a b : Nat} (h : a = b) : eqb a b = true := decide_eq_true h
theorem eqb_f {a b : Nat} (h : a ≠ b) : eqb a b = false := decide_eq_false h
set_option maxHeartbeats 2000000 in
theorem rmay_any (p : Pt) (w : World) (ok : PtOk p) : Ret Tryz.prog 21 #[.agg (pt p)] w fun v' w' => v' = .bool (mayR p) ∧ Ch Nw w w' := by
  obtain ⟨a0, a1, a2, a3, ha, _⟩ := a4 ok
  refine v_enter Tryz.func21 Tryz.ntmps21 rfl (by simp) fun R' hR => ?_
  have c0 := pt_a ok (i := 0) (x := a0) (by rw [ha]; rfl)
  have c1 := pt_a ok (i := 1) (x := a1) (by rw [ha]; rfl)
  have c2 := pt_a ok (i := 2) (x := a2) (by rw [ha]; rfl)
  have c3 := pt_a ok (i := 3) (x := a3) (by rw [ha]; rfl)
  simp only [Nat.reduceAdd] at c0 c1 c2 c3
  have hc := (Ch.refl Nw w).alloc (.cells (pt p) 37)
  have hz : ∀ w, (Op.equalIn 10000 35 (.agg #[.int .u16 a0, .int .u16 a1, .int .u16 a2, .int .u16 a3]) (.agg #[.int .u16 0, .int .u16 0, .int .u16 0, .int .u16 0])).run Tryz.prog w = .ok (decide (p.a = [0, 0, 0, 0])) w := fun w => by
    rw [ha]
    exact run_equalIn_u16s w 9998 _ _ 4 Tryz.underlying35 Tryz.underlying31 Tryz.sizeOf31 Tryz.isAgg31 [a0, a1, a2, a3] [0, 0, 0, 0] rfl rfl
  by_cases h1 : p.k < 1
  · have h1' : (p.k : Int) < 1 := by omega
    simp [go_sem, pt_k, h1, h1']
    exact hR _ _ ⟨by simp [mayR, h1], hc⟩
  have h1' : ¬ (p.k : Int) < 1 := by omega
  by_cases h5 : 5 < p.k
  · have h5' : (5 : Int) < p.k := by omega
    simp [go_sem, pt_k, h1, h1', h5']
    exact hR _ _ ⟨by simp [mayR, h5], hc⟩
  have h5' : ¬ (5 : Int) < p.k := by omega
  have hbeq : ∀ a b : Nat, ((a : Int) == (b : Int)) = decide (a = b) := fun a b => by
    by_cases h : a = b
    · simp [h]
    · rw [beq_false_of_ne (by omega), decide_eq_false h]
  have hb0 : ∀ a : Nat, ((a : Int) == 0) = decide (a = 0) := fun a => hbeq a 0
  have hb1 : ∀ a : Nat, ((a : Int) == 1) = decide (a = 1) := fun a => hbeq a 1
  have hb3 : ∀ a : Nat, ((a : Int) == 3) = decide (a = 3) := fun a => hbeq a 3
  by_cases hlev : (p.k = 3 ∧ (p.l < 1 ∨ 2 < p.l)) ∨ (p.k ≠ 3 ∧ p.l ≠ 0)
  · have hm : mayR p = false := by unfold mayR; rw [if_neg (by omega), if_pos hlev]
    rw [hm] at hR
    rcases hlev with ⟨h3, hl | hl⟩ | ⟨h3, hl⟩
    · have hl' : (p.l : Int) < 1 := by omega
      simp [go_sem, pt_k, pt_l, h1, h1', h5', hb3, h3, hl', bne]
      exact hR _ _ ⟨rfl, hc⟩
    · have hl' : (2 : Int) < p.l := by omega
      have hl'' : ¬ (p.l : Int) < 1 := by omega
      simp [go_sem, pt_k, pt_l, h1, h1', h5', hb3, h3, hl', hl'', bne]
      exact hR _ _ ⟨rfl, hc⟩
    · simp [go_sem, pt_k, pt_l, h1, h1', h5', hb3, hb0, h3, hl, bne]
      exact hR _ _ ⟨rfl, hc⟩
  have path : (p.k = 3 ∧ ¬ (p.l : Int) < 1 ∧ ¬ (2 : Int) < p.l) ∨ (p.k ≠ 3 ∧ p.l = 0) := by omega
  by_cases hzz : p.a = [0, 0, 0, 0]
  · have hm : mayR p = false := by unfold mayR; rw [if_neg (by omega), if_neg hlev, if_pos hzz]
    rw [hm] at hR
    rcases path with ⟨h3, hl1, hl2⟩ | ⟨h3, hl⟩
    · simp [go_sem, pt_k, pt_l, h1, h1', h5', hb3, h3, hl1, hl2, bne, c0, c1, c2, c3, hz, hzz]
      exact hR _ _ ⟨rfl, hc⟩
    · simp [go_sem, pt_k, pt_l, h1, h1', h5', hb3, hb0, h3, hl, bne, c0, c1, c2, c3, hz, hzz]
      exact hR _ _ ⟨rfl, hc⟩
  have hm : mayR p = if (a0 ≠ 0 ∧ a0 = a1) ∨ (a2 ≠ 0 ∧ a2 = a3) then false else decide (p.k ≠ 1 ∨ (a1 = 0 ∧ a3 = 0)) := by
    unfold mayR
    rw [if_neg (by omega), if_neg hlev, if_neg hzz, ha]
    rfl
  rw [hm] at hR
  have gb : ∀ a b : Nat, ((a : Int) == (b : Int)) = eqb a b := hbeq
  have gb0 : ∀ a : Nat, ((a : Int) == 0) = eqb a 0 := hb0
  have gb1 : ∀ a : Nat, ((a : Int) == 1) = eqb a 1 := hb1
  have gb3 : ∀ a : Nat, ((a : Int) == 3) = eqb a 3 := hb3
  have hA : ∀ a b : Nat, eqb a b = true ∨ eqb a b = false := fun a b => by cases eqb a b <;> simp
  have hres : (if (a0 ≠ 0 ∧ a0 = a1) ∨ (a2 ≠ 0 ∧ a2 = a3) then false else decide (p.k ≠ 1 ∨ (a1 = 0 ∧ a3 = 0))) = (!((!(eqb a0 0) && eqb a0 a1) || (!(eqb a2 0) && eqb a2 a3)) && (!(eqb p.k 1) || (eqb a1 0 && eqb a3 0))) := by
    unfold eqb
    grind
  rw [hres] at hR
  rcases path with ⟨h3, hl1, hl2⟩ | ⟨h3, hl⟩
  · have k3 := eqb_t h3
    have k1 := eqb_f (a := p.k) (b := 1) (by omega)
    have l0 : True := trivial
    rcases hA a0 0 with g0 | g0 <;> rcases hA a0 a1 with g1 | g1 <;> rcases hA a2 0 with g2 | g2 <;> rcases hA a2 a3 with g3 | g3
    all_goals
      simp [go_sem, pt_k, pt_l, h1, h1', h5', gb3, gb, gb0, gb1, k3, k1, hl1, hl2, bne, c0, c1, c2, c3, hz, hzz, g0, g1, g2, g3]
      exact hR _ _ ⟨by simp [g0, g1, g2, g3, k1], hc⟩
  · have k3 := eqb_f h3
    have l0 := eqb_t hl
    have hK : eqb p.k 1 = true ∨ eqb p.k 1 = false := by cases eqb p.k 1 <;> simp
    rcases hA a0 0 with g0 | g0 <;> rcases hA a0 a1 with g1 | g1 <;> rcases hA a2 0 with g2 | g2 <;> rcases hA a2 a3 with g3 | g3 <;> rcases hK with k1 | k1
    all_goals first
      | (simp [go_sem, pt_k, pt_l, h1, h1', h5', gb3, gb, gb0, gb1, k3, k1, l0, bne, c0, c1, c2, c3, hz, hzz, g0, g1, g2, g3]
         exact hR _ _ ⟨by simp [g0, g1, g2, g3, k1], hc⟩)
      | (rcases hA a1 0 with g4 | g4 <;> rcases hA a3 0 with g5 | g5
         all_goals
           simp [go_sem, pt_k, pt_l, h1, h1', h5', gb3, gb, gb0, gb1, k3, k1, l0, bne, c0, c1, c2, c3, hz, hzz, g0, g1, g2, g3, g4, g5]
           exact hR _ _ ⟨by simp [g0, g1, g2, g3, g4, g5, k1], hc⟩)
end Go.Proofs.YtnefdmbdkljifaaGreatDoor

/- The pointer that bytes tell of, in plain Lean; a pointer's cells, compared, built and stored. No condition but that the values are of their types. -/
namespace Go.Proofs.YtnefdmbdkljifaaGreatDoor
open Go.RowKit Go.Kin

def zb (n : Nat) : List UInt8 := List.replicate n 0
theorem zb_length (n : Nat) : (zb n).length = n := List.length_replicate
theorem le_fromLe (l : List UInt8) : le (fromLe l) l.length = l := by
  induction l with
  | nil => rfl
  | cons c l ih =>
    simp only [fromLe, List.length_cons, le]
    have hc : c.toNat < 256 := c.toNat_lt
    rw [show (c.toNat + 256 * fromLe l) / 256 = fromLe l by omega, ih]
    congr 1
    apply UInt8.toNat_inj.1
    rw [UInt8.toNat_ofNat']
    omega
theorem fromLe_of_le (n k : Nat) : fromLe (le n k) = n % 256 ^ k := by
  induction k generalizing n with
  | zero => simp [le, fromLe, Nat.mod_one]
  | succ k ih =>
    simp only [le, fromLe, ih, UInt8.toNat_ofNat']
    rw [show 256 ^ (k + 1) = 256 * 256 ^ k by rw [Nat.pow_succ, Nat.mul_comm], Nat.mod_mul]
/-- the hole -/
def ptz : Pt := ⟨0, 0, 0, 0, 0, zb 32, [0, 0, 0, 0]⟩
theorem ptz_ok : PtOk ptz := ⟨by decide, by decide, by decide, by decide, by decide, rfl, rfl, by simp [ptz]⟩
/-- the pointer that 64 bytes tell of -/
def atOf (b : List UInt8) : List Nat := [fromLe ((b.drop 48).take 2), fromLe ((b.drop 50).take 2), fromLe ((b.drop 52).take 2), fromLe ((b.drop 54).take 2)]
def ptOf (b : List UInt8) : Pt := ⟨fromLe (b.take 1), fromLe ((b.drop 1).take 1), fromLe ((b.drop 2).take 2), fromLe ((b.drop 4).take 4), fromLe ((b.drop 8).take 8), (b.drop 16).take 32, atOf b⟩
theorem cut_lt {b : List UInt8} (hb : b.length = 64) (k m : Nat) (h : k + m ≤ 64) : fromLe ((b.drop k).take m) < 256 ^ m := by
  have := fromLe_lt ((b.drop k).take m)
  rwa [List.length_take, List.length_drop, hb, show min m (64 - k) = m by omega] at this
theorem ptOf_ok {b : List UInt8} (hb : b.length = 64) : PtOk (ptOf b) := by
  refine ⟨by simpa [ptOf] using cut_lt hb 0 1 (by omega), cut_lt hb 1 1 (by omega), cut_lt hb 2 2 (by omega), cut_lt hb 4 4 (by omega), cut_lt hb 8 8 (by omega), by simp [ptOf, hb], rfl, ?_⟩
  have h2 := fun k hk => cut_lt hb k 2 hk
  simp only [ptOf, atOf, List.mem_cons, List.not_mem_nil, or_false]
  rintro x (rfl | rfl | rfl | rfl)
  · exact h2 48 (by omega)
  · exact h2 50 (by omega)
  · exact h2 52 (by omega)
  · exact h2 54 (by omega)
theorem putP_eq (p : Pt) : putP p = le p.k 1 ++ (le p.l 1 ++ (le p.o 2 ++ (le p.f 4 ++ (le p.b 8 ++ (p.h ++ (p.a.flatMap (fun x => le x 2) ++ zb 8)))))) := rfl
theorem putP_length {p : Pt} (ok : PtOk p) : (putP p).length = 64 := by
  obtain ⟨a0, a1, a2, a3, ha, _⟩ := a4 ok
  rw [putP_eq, ha]
  simp [le_length, ok.h, zb_length]
theorem put_ptOf {b : List UInt8} (hb : b.length = 64) : putP (ptOf b) = b.take 56 ++ zb 8 := by
  have e : ∀ k m, k + m ≤ 64 → le (fromLe ((b.drop k).take m)) m = (b.drop k).take m := fun k m hk => by
    have := le_fromLe ((b.drop k).take m)
    rwa [List.length_take, List.length_drop, hb, show min m (64 - k) = m by omega] at this
  have e0 : le (fromLe (b.take 1)) 1 = b.take 1 := by simpa using e 0 1 (by omega)
  have s : ∀ i j, (b.drop i).take j ++ (b.drop (i + j)).take (56 - (i + j)) = (b.drop i).take (j + (56 - (i + j))) := fun i j => by
    rw [List.take_add, List.drop_drop]
  have h56 : b.take 56 = b.take 1 ++ ((b.drop 1).take 1 ++ ((b.drop 2).take 2 ++ ((b.drop 4).take 4 ++ ((b.drop 8).take 8 ++ ((b.drop 16).take 32 ++ ((b.drop 48).take 2 ++ ((b.drop 50).take 2 ++ ((b.drop 52).take 2 ++ (b.drop 54).take 2)))))))) := by
    rw [s 52 2, s 50 2, s 48 2, s 16 32, s 8 8, s 4 4, s 2 2, s 1 1, show b.take 1 = (b.drop 0).take 1 by simp, s 0 1]
    simp
  rw [putP_eq]
  simp only [ptOf, atOf, e0, List.flatMap_cons, List.flatMap_nil, e 1 1 (by omega), e 2 2 (by omega), e 4 4 (by omega), e 8 8 (by omega), e 48 2 (by omega), e 50 2 (by omega), e 52 2 (by omega), e 54 2 (by omega), h56, List.append_assoc, List.append_nil, List.nil_append]
theorem ptOf_put {p : Pt} (ok : PtOk p) : ptOf (putP p) = p := by
  obtain ⟨a0, a1, a2, a3, ha, l0, l1, l2, l3⟩ := a4 ok
  obtain ⟨k, l, o, f, b, h, a⟩ := p
  simp only at ha
  subst ha
  have dd : ∀ (u : List UInt8) m r, u.length = m → (u ++ r).drop m = r := fun u m r hu => List.drop_left' hu
  have tt : ∀ (u : List UInt8) m r, u.length = m → (u ++ r).take m = u := fun u m r hu => List.take_left' hu
  have hk := ok.k
  have hl := ok.l
  have ho := ok.o
  have hf := ok.f
  have hb := ok.b
  have hh := ok.h
  simp only at hk hl ho hf hb hh
  rw [putP_eq]
  simp only [List.flatMap_cons, List.flatMap_nil, List.append_nil, List.append_assoc]
  generalize hz : le k 1 ++ (le l 1 ++ (le o 2 ++ (le f 4 ++ (le b 8 ++ (h ++ (le a0 2 ++ (le a1 2 ++ (le a2 2 ++ (le a3 2 ++ zb 8))))))))) = z
  have q1 : z.drop 1 = le l 1 ++ (le o 2 ++ (le f 4 ++ (le b 8 ++ (h ++ (le a0 2 ++ (le a1 2 ++ (le a2 2 ++ (le a3 2 ++ zb 8)))))))) := by rw [← hz, dd _ 1 _ (le_length k 1)]
  have q2 : z.drop 2 = le o 2 ++ (le f 4 ++ (le b 8 ++ (h ++ (le a0 2 ++ (le a1 2 ++ (le a2 2 ++ (le a3 2 ++ zb 8))))))) := by rw [show 2 = 1 + 1 by rfl, ← List.drop_drop, q1, dd _ 1 _ (le_length l 1)]
  have q4 : z.drop 4 = le f 4 ++ (le b 8 ++ (h ++ (le a0 2 ++ (le a1 2 ++ (le a2 2 ++ (le a3 2 ++ zb 8)))))) := by rw [show 4 = 2 + 2 by rfl, ← List.drop_drop, q2, dd _ 2 _ (le_length o 2)]
  have q8 : z.drop 8 = le b 8 ++ (h ++ (le a0 2 ++ (le a1 2 ++ (le a2 2 ++ (le a3 2 ++ zb 8))))) := by rw [show 8 = 4 + 4 by rfl, ← List.drop_drop, q4, dd _ 4 _ (le_length f 4)]
  have q16 : z.drop 16 = h ++ (le a0 2 ++ (le a1 2 ++ (le a2 2 ++ (le a3 2 ++ zb 8)))) := by rw [show 16 = 8 + 8 by rfl, ← List.drop_drop, q8, dd _ 8 _ (le_length b 8)]
  have q48 : z.drop 48 = le a0 2 ++ (le a1 2 ++ (le a2 2 ++ (le a3 2 ++ zb 8))) := by rw [show 48 = 16 + 32 by rfl, ← List.drop_drop, q16, dd _ 32 _ hh]
  have q50 : z.drop 50 = le a1 2 ++ (le a2 2 ++ (le a3 2 ++ zb 8)) := by rw [show 50 = 48 + 2 by rfl, ← List.drop_drop, q48, dd _ 2 _ (le_length a0 2)]
  have q52 : z.drop 52 = le a2 2 ++ (le a3 2 ++ zb 8) := by rw [show 52 = 50 + 2 by rfl, ← List.drop_drop, q50, dd _ 2 _ (le_length a1 2)]
  have q54 : z.drop 54 = le a3 2 ++ zb 8 := by rw [show 54 = 52 + 2 by rfl, ← List.drop_drop, q52, dd _ 2 _ (le_length a2 2)]
  have q0 : z.take 1 = le k 1 := by rw [← hz, tt _ 1 _ (le_length k 1)]
  simp only [ptOf, atOf, q0, q1, q2, q4, q8, q16, q48, q50, q52, q54, tt _ 1 _ (le_length l 1), tt _ 2 _ (le_length o 2), tt _ 4 _ (le_length f 4), tt _ 8 _ (le_length b 8), tt _ 32 _ hh, tt _ 2 _ (le_length a0 2), tt _ 2 _ (le_length a1 2), tt _ 2 _ (le_length a2 2), tt _ 2 _ (le_length a3 2), fromLe_of_le]
  simp
  omega
theorem nz_zb (l : List UInt8) : nz l = false ↔ l = zb l.length := by
  unfold nz zb
  rw [List.any_eq_false, List.eq_replicate_iff]
  simp
theorem put_ptOf_iff {b : List UInt8} (hb : b.length = 64) : putP (ptOf b) = b ↔ nz (b.drop 56) = false := by
  rw [put_ptOf hb, nz_zb, List.length_drop, hb]
  constructor
  · intro h
    have := congrArg (List.drop 56) h
    rw [List.drop_left' (by simp [hb])] at this
    exact this.symm
  · intro h
    have := List.take_append_drop 56 b
    rw [h] at this
    exact this
/-- do 64 bytes tell of a pointer that may be, or of the hole? -/
def tkOk (b : List UInt8) : Bool := !nz (b.drop 56) && (decide (ptOf b = ptz) || mayP (ptOf b))
/-- what Take answers, and what is left -/
def ptS (l : List UInt8) (e : Int) : Pt × List UInt8 × Int :=
  if (rawS l e 64).1.length < 64 then (ptz, (rawS l e 64).2) else if tkOk (rawS l e 64).1 then (ptOf (rawS l e 64).1, (rawS l e 64).2) else (ptz, [], 5)
theorem tk_put {p : Pt} (ok : PtOk p) (h : p = ptz ∨ mayP p = true) : tkOk (putP p) = true := by
  have h1 := (put_ptOf_iff (putP_length ok)).1 (by rw [ptOf_put ok])
  unfold tkOk
  rw [h1, ptOf_put ok]
  rcases h with h | h <;> simp [h]

/- a pointer's cells -/
theorem blit_whole {cs us : Array Value} (h : us.size = cs.size) : blit cs 0 us = us := by
  unfold blit
  apply Array.ext'
  simp [h]
theorem hz_pt : (Tryz.prog.info? 37).map (fun i => i.zero.isSome) = some true := by kernel_rfl
theorem zc_pt : zc Tryz.prog 37 = pt ptz := by kernel_rfl
theorem pt_h {p : Pt} (ok : PtOk p) : (pt p).extract 5 37 = (bvs p.h).toArray := by
  apply Array.ext'
  simp [pt, bvs_length, ok.h]
theorem pt_h_at {p : Pt} {i : Nat} {c : UInt8} (h : p.h[i]? = some c) (ok : PtOk p) : (pt p)[5 + i]? = some (.int .u8 c.toNat) := by
  have hi : i < 32 := by
    rw [← ok.h]
    exact (List.getElem?_eq_some_iff.1 h).1
  simp only [pt, List.getElem?_toArray]
  rw [show 5 + i = i + 1 + 1 + 1 + 1 + 1 by omega]
  simp only [List.getElem?_cons_succ]
  rw [List.getElem?_append_left (by rw [bvs_length, ok.h]; omega), bvs, List.getElem?_map, h]
  rfl
theorem pt_a' {p : Pt} (ok : PtOk p) : (pt p).extract 37 41 = (u16s p.a).toArray := by
  apply Array.ext'
  simp [pt, bvs_length, u16s_length, ok.h, ok.a]
  exact List.take_of_length_le (by rw [u16s_length, ok.a]; omega)
attribute [simp] pt_ones
theorem eq_pt_any (w : World) (d : Nat) {p q : Pt} (hp : PtOk p) (hq : PtOk q) : (Op.equalIn (d + 3) 37 (.agg (pt p)) (.agg (pt q))).run Tryz.prog w = .ok (decide (p = q)) w := by
  have e1 : ∀ w, (Op.equalIn (d + 2) 34 (.agg (bvs p.h).toArray) (.agg (bvs q.h).toArray)).run Tryz.prog w = .ok (decide (p.h = q.h)) w := fun w => run_equalIn_bvs w d _ _ 32 Tryz.underlying34 Tryz.underlying5 Tryz.sizeOf5 Tryz.isAgg5 _ _ hp.h hq.h
  have e2 : ∀ w, (Op.equalIn (d + 2) 35 (.agg (u16s p.a).toArray) (.agg (u16s q.a).toArray)).run Tryz.prog w = .ok (decide (p.a = q.a)) w := fun w => run_equalIn_u16s w d _ _ 4 Tryz.underlying35 Tryz.underlying31 Tryz.sizeOf31 Tryz.isAgg31 _ _ hp.a hq.a
  have hc : ∀ a b : Nat, ((a : Int) == (b : Int)) = decide (a = b) := fun a b => by
    by_cases h : a = b
    · simp [h]
    · rw [beq_false_of_ne (by omega), decide_eq_false h]
  rw [Op.equalIn]
  simp [go_sem, pt_k, pt_l, pt_o, pt_f, pt_b, pt_h hp, pt_h hq, pt_a' hp, pt_a' hq, e1, e2, hc]
  obtain ⟨k, l, o, f, b, h, a⟩ := p
  obtain ⟨k', l', o', f', b', h', a'⟩ := q
  simp only [Pt.mk.injEq]
  by_cases h1 : k = k' <;> by_cases h2 : l = l' <;> by_cases h3 : o = o' <;> by_cases h4 : f = f' <;> by_cases h5 : b = b' <;> by_cases h6 : h = h' <;> by_cases h7 : a = a' <;> simp [h1, h2, h3, h4, h5, h6, h7]
theorem eq_pt (w : World) {p q : Pt} (hp : PtOk p) (hq : PtOk q) : (Op.equalIn 10000 37 (.agg (pt p)) (.agg (pt q))).run Tryz.prog w = .ok (decide (p = q)) w := eq_pt_any w 9997 hp hq
section
variable {p : Pt}
theorem blit_pt_h {h' : List UInt8} (hh : p.h.length = 32) (hh' : h'.length = 32) : blit (pt p) 5 (bvs h').toArray = pt { p with h := h' } := by
  simp [blit, pt, hh', bvs_length, hh]
theorem set_pt_a (hh : p.h.length = 32) (i x : Nat) : (pt p).setIfInBounds (37 + i) (.int .u16 x) = pt { p with a := p.a.set i x } := by
  apply Array.ext'
  simp [pt, show 37 + i = (32 + i) + 1 + 1 + 1 + 1 + 1 by omega, List.set_append_right, bvs_length, hh, u16s, List.map_set, u16v]
theorem set_pt_h (i : Nat) (c : UInt8) (hi : i < p.h.length) : (pt p).setIfInBounds (5 + i) (.int .u8 c.toNat) = pt { p with h := p.h.set i c } := by
  apply Array.ext'
  simp [pt, show 5 + i = i + 1 + 1 + 1 + 1 + 1 by omega, List.set_append_left, hi, bvs, List.map_set, bv]
end
theorem bld_pt0 {w : World} {K : Value → World → Prop} : VBld Tryz.prog 37 [] w K = K (.agg (pt ptz)) w :=
  VBld_struct Tryz.underlying37 hz_pt (places := #[(0, 1), (1, 1), (2, 1), (3, 1), (4, 1), (5, 32), (37, 4)]) (by simp [go_sem]) (by simp [fillB, zc_pt])
theorem blit_pt5 (k l o f b : Nat) : blit (blit (blit (blit (blit (pt ptz) 0 #[.int .u8 k]) 1 #[.int .u8 l]) 2 #[.int .u16 o]) 3 #[.int .u32 f]) 4 #[.int .u64 b] = pt ⟨k, l, o, f, b, zb 32, [0, 0, 0, 0]⟩ := by
  simp [blit, pt, ptz]
theorem bld_pt5 (k l o f b : Nat) {w : World} {K : Value → World → Prop} :
    VBld Tryz.prog 37 [(0, .int .u8 k), (1, .int .u8 l), (2, .int .u16 o), (3, .int .u32 f), (4, .int .u64 b)] w K = K (.agg (pt ⟨k, l, o, f, b, zb 32, [0, 0, 0, 0]⟩)) w := by
  refine VBld_struct Tryz.underlying37 hz_pt (places := #[(0, 1), (1, 1), (2, 1), (3, 1), (4, 1), (5, 32), (37, 4)]) (by simp [go_sem]) ?_
  have hz : (pt ptz).size = 41 := pt_size ptz_ok
  simp [fillB, zc_pt, Value.cells, hz, blit_size]
  exact blit_pt5 k l o f b
end Go.Proofs.YtnefdmbdkljifaaGreatDoor

/- Words of 32 bits, turned to the right: package sha's turn, as a contract on the call. No condition but that the values are of their types. -/
namespace Go.Proofs.YtnefdmbdkljifaaGreatDoor
open Go.RowKit Go.Kin

theorem bits_and64 (a b : Nat) (ha : a < 18446744073709551616) (hb : b < 18446744073709551616) : bits .and .u64 (a : Int) (b : Int) = ((a &&& b : Nat) : Int) := by
  have hx : a &&& b < 2 ^ 64 := Nat.and_lt_two_pow _ (by omega)
  show IntKind.u64.wrap ((BitVec.ofInt 64 (a : Int) &&& BitVec.ofInt 64 (b : Int)).toNat : Int) = _
  rw [BitVec.toNat_and, ofInt_nat 64 a (by omega), ofInt_nat 64 b (by omega), IntKind.wrap_u64]
  omega
theorem bits_and32 (a b : Nat) (ha : a < 4294967296) (hb : b < 4294967296) : bits .and .u32 (a : Int) (b : Int) = ((a &&& b : Nat) : Int) := by
  have hx : a &&& b < 2 ^ 32 := Nat.and_lt_two_pow _ (by omega)
  show IntKind.u32.wrap ((BitVec.ofInt 32 (a : Int) &&& BitVec.ofInt 32 (b : Int)).toNat : Int) = _
  rw [BitVec.toNat_and, ofInt_nat 32 a (by omega), ofInt_nat 32 b (by omega), IntKind.wrap_u32]
  omega
theorem bits_or32 (a b : Nat) (ha : a < 4294967296) (hb : b < 4294967296) : bits .or .u32 (a : Int) (b : Int) = ((a ||| b : Nat) : Int) := by
  have hx : a ||| b < 2 ^ 32 := Nat.or_lt_two_pow (by omega) (by omega)
  show IntKind.u32.wrap ((BitVec.ofInt 32 (a : Int) ||| BitVec.ofInt 32 (b : Int)).toNat : Int) = _
  rw [BitVec.toNat_or, ofInt_nat 32 a (by omega), ofInt_nat 32 b (by omega), IntKind.wrap_u32]
  omega
theorem bits_xor32 (a b : Nat) (ha : a < 4294967296) (hb : b < 4294967296) : bits .xor .u32 (a : Int) (b : Int) = ((a ^^^ b : Nat) : Int) := by
  have hx : a ^^^ b < 2 ^ 32 := Nat.xor_lt_two_pow (by omega) (by omega)
  show IntKind.u32.wrap ((BitVec.ofInt 32 (a : Int) ^^^ BitVec.ofInt 32 (b : Int)).toNat : Int) = _
  rw [BitVec.toNat_xor, ofInt_nat 32 a (by omega), ofInt_nat 32 b (by omega), IntKind.wrap_u32]
  omega
/-- turned to the right -/
def rot (x n : Nat) : Nat := (x * 2 ^ (32 - n)) % 4294967296 ||| x / 2 ^ n
theorem rot_lt (x n : Nat) (hx : x < 4294967296) : rot x n < 4294967296 := Nat.or_lt_two_pow (n := 32) (Nat.mod_lt _ (by decide)) (Nat.lt_of_le_of_lt (Nat.div_le_self _ _) hx)
end Go.Proofs.YtnefdmbdkljifaaGreatDoor

namespace Go.Proofs.YtnefdmbdkljifaaGreatDoor
open Go.RowKit Go.Kin

def w32 (l : List Nat) : List Value := l.map fun n : Nat => Value.int .u32 n
theorem w32_length (l : List Nat) : (w32 l).length = l.length := List.length_map ..
@[simp] theorem w32_ones (l : List Nat) : ones (w32 l).toArray = true := ones_of (by
  intro u hu
  obtain ⟨c, _, rfl⟩ := List.mem_map.1 hu
  rfl)
theorem w32_get {l : List Nat} {i x : Nat} (h : l[i]? = some x) : (w32 l).toArray[i]? = some (.int .u32 x) := by
  rw [List.getElem?_toArray, w32, List.getElem?_map, h]; rfl
theorem w32_set (l : List Nat) (i x : Nat) : (w32 l).toArray.setIfInBounds i (.int .u32 x) = (w32 (l.set i x)).toArray := by
  apply Array.ext'
  simp [w32, List.map_set]
def add32 (a b : Nat) : Nat := (a + b) % 4294967296
theorem add32_lt (a b : Nat) : add32 a b < 4294967296 := Nat.mod_lt _ (by decide)
theorem wrap_add (a b : Nat) : IntKind.u32.wrap ((a : Int) + b) = (add32 a b : Int) := by
  unfold add32
  rw [IntKind.wrap_u32]
  omega
def gb (b : List UInt8) (i : Nat) : Nat := (b.getD i 0).toNat
theorem gb_lt (b : List UInt8) (i : Nat) : gb b i < 256 := UInt8.toNat_lt _
/-- four bytes, the greatest first -/
def wat (b : List UInt8) (i : Nat) : Nat := ((gb b (4 * i) * 16777216 ||| gb b (4 * i + 1) * 65536) ||| gb b (4 * i + 2) * 256) ||| gb b (4 * i + 3)
theorem wat_lt (b : List UInt8) (i : Nat) : wat b i < 4294967296 := by
  have h0 := gb_lt b (4 * i)
  have h1 := gb_lt b (4 * i + 1)
  have h2 := gb_lt b (4 * i + 2)
  have h3 := gb_lt b (4 * i + 3)
  exact Nat.or_lt_two_pow (n := 32) (Nat.or_lt_two_pow (Nat.or_lt_two_pow (by omega) (by omega)) (by omega)) (by omega)
def sg0 (x : Nat) : Nat := (rot x 7 ^^^ rot x 18) ^^^ (x / 8)
def sg1 (x : Nat) : Nat := (rot x 17 ^^^ rot x 19) ^^^ (x / 1024)
def nxt (W : List Nat) (k : Nat) : Nat := add32 (add32 (add32 (W.getD (k - 16) 0) (sg0 (W.getD (k - 15) 0))) (W.getD (k - 7) 0)) (sg1 (W.getD (k - 2) 0))
/-- the first k numbers of a piece -/
def Wl (b : List UInt8) : Nat → List Nat
  | 0 => []
  | k + 1 => Wl b k ++ [if k < 16 then wat b k else nxt (Wl b k) k]
theorem Wl_length (b : List UInt8) (k : Nat) : (Wl b k).length = k := by
  induction k with
  | zero => rfl
  | succ k ih => simp [Wl, ih]
theorem Wl_lt (b : List UInt8) (k : Nat) : ∀ x ∈ Wl b k, x < 4294967296 := by
  induction k with
  | zero => simp [Wl]
  | succ k ih =>
    intro x hx
    simp only [Wl, List.mem_append, List.mem_singleton] at hx
    rcases hx with hx | rfl
    · exact ih x hx
    · split
      · exact wat_lt _ _
      · exact add32_lt _ _
def Wz (b : List UInt8) (k : Nat) : List Nat := Wl b k ++ List.replicate (64 - k) 0
theorem Wz_length (b : List UInt8) {k : Nat} (h : k ≤ 64) : (Wz b k).length = 64 := by simp [Wz, Wl_length]; omega
theorem Wz_set (b : List UInt8) {k : Nat} (h : k < 64) : (Wz b k).set k (if k < 16 then wat b k else nxt (Wl b k) k) = Wz b (k + 1) := by
  unfold Wz
  rw [List.set_append_right _ _ (by rw [Wl_length]; omega), Wl_length, Nat.sub_self, show 64 - k = (64 - (k + 1)) + 1 by omega, List.replicate_succ, List.set_cons_zero]
  simp [Wl]
theorem Wz_at (b : List UInt8) {k i : Nat} (h : i < k) : (Wz b k)[i]? = some ((Wl b k).getD i 0) := by
  unfold Wz
  rw [List.getElem?_append_left (by rw [Wl_length]; exact h), List.getD_eq_getElem?_getD, List.getElem?_eq_getElem (by rw [Wl_length]; exact h)]
  rfl
theorem Wl_at_lt (b : List UInt8) {k i : Nat} (h : i < k) : (Wl b k).getD i 0 < 4294967296 := by
  rw [List.getD_eq_getElem?_getD, List.getElem?_eq_getElem (by rw [Wl_length]; exact h)]
  exact Wl_lt b k _ (List.getElem_mem _)
attribute [irreducible] Wl
end Go.Proofs.YtnefdmbdkljifaaGreatDoor
