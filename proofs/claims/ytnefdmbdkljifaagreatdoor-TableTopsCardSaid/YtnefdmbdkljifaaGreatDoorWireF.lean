/- The document's Reader of wire, by value (Raw, Num, Noughts, End), as contracts on calls. No condition but on sizes. -/
import Derived.Test.YtnefdmbdkljifaaGreatDoorWireC
import Derived.Test.YtnefdmbdkljifaaGreatDoorPtB
set_option linter.unusedSimpArgs false
set_option linter.unusedVariables false

/- What the document's answers for wire compute (Num, Fill, the Reader by value), as contracts on calls. No condition but on sizes. -/
namespace Go.Proofs.YtnefdmbdkljifaaGreatDoor
open Go.RowKit Go.Kin

theorem refNum (n wide : Nat) (w : World) (hn : n < 18446744073709551616) (hw : wide ≤ 8) :
    Ret Tryz.prog 17 #[.int .u64 n, .int .i64 wide] w fun v' w' => w'.ownsRow 0 5 1 v' wide (bvs (le n wide)) ∧ Ch Nw w w' ∧ Fresh w.heap.size v' := by
  refine v_enter Tryz.func17 Tryz.ntmps17 rfl (by simp) fun R' hR => ?_
  simp [go_sem]
  refine v_loop (fun r f wr => ∃ k y : Nat, k ≤ wide ∧ r = wide - k ∧ y = n / 256 ^ k ∧ f 1 = .int .i64 wide ∧ f 6 = .int .i64 k ∧ f 0 = .int .u64 y ∧ Onto w (.slice none 0 0) 0 [] k (le n k) (f 5) wr) wide
    ⟨0, n, Nat.zero_le _, rfl, by simp, by simp, by simp, by simp, Onto.refl (World.ownsRow_nil _ _ _ _)⟩ ?_
  rintro J hJ _ f wr ⟨k, y, hk, rfl, hy, h1, h6, h0, ho⟩
  have hy2 : y < 18446744073709551616 := by rw [hy]; exact Nat.lt_of_le_of_lt (Nat.div_le_self _ _) hn
  have hy3 : y / 256 = n / 256 ^ (k + 1) := by rw [hy, Nat.div_div_eq_div_mul, Nat.pow_succ]
  have hle := le_succ n k
  rw [← hy] at hle
  simp [go_sem, h1, h6]
  refine VIf_dec (fun hlt => ?_) (fun hge => ?_)
  · simp [go_sem, h0]
    refine VB_app1 tyB ho.1 rfl (by unfold maxLen; omega) (by omega) fun v' w' k1 k2 k3 => ?_
    simp [go_sem, h6, h0]
    refine Rnd.intro (wide - (k + 1)) (by omega) (hJ _ _ _ ⟨k + 1, y / 256, by omega, rfl, hy3, by simpa using h1, by simp [IntKind.wrap_i64]; omega, ?_, ?_⟩)
    · simp [IntKind.wrap_u64]; omega
    · rw [hle]
      exact ho.one (by rw [bv_ofNat]; simp [IntKind.wrap_u8, Int.tmod_eq_emod_of_nonneg]) k1 k2 k3
  · simp [go_sem]
    obtain rfl : k = wide := by omega
    obtain ⟨o1, o2, o3⟩ := ho
    refine hR _ _ ⟨by simpa using o1, o2.mono fun j _ e => by simp [Value.ownBlock] at e, ?_⟩
    rcases o3 with o3 | o3
    · intro j hj; rw [o3] at hj; simp [Value.ownBlock] at hj
    · exact o3

theorem refFill (v : Value) (l : List UInt8) (m : Int) (w : World) (hl : l.length ≤ 1000000000) (hm : m ≤ 1000000000) (hs : Sl w v l.length (bvs l)) :
    Ret Tryz.prog 16 #[v, .int .i64 m] w fun v' w' => w'.ownsRow 0 5 1 v' (l.length + (m.toNat - l.length)) (bvs (l ++ List.replicate (m.toNat - l.length) 0)) ∧ Ch Nw w w' ∧ Fresh w.heap.size v' := by
  refine v_enter Tryz.func16 Tryz.ntmps16 rfl (by simp) fun R' hR => ?_
  simp [go_sem]
  refine VB_appn tyB (World.ownsRow_nil _ _ _ _) hs (bvs_length l) (bvs_one _) (by unfold maxLen; omega) (by omega) fun v1 w1 k1 k2 k3 => ?_
  have k3 : Fresh w.heap.size v1 := by
    rcases k3 with k3 | k3
    · intro j hj; rw [k3] at hj; simp [Value.ownBlock] at hj
    · exact k3
  have k2 : Ch Nw w w1 := k2.mono fun j _ e => by simp [Value.ownBlock] at e
  simp only [Nat.zero_add, List.nil_append] at k1
  simp [go_sem]
  refine v_loop (fun r f wr => ∃ k : Nat, k ≤ m.toNat - l.length ∧ r = m.toNat - l.length - k ∧ f 1 = .int .i64 m ∧ Onto w1 v1 l.length l k (List.replicate k 0) (f 5) wr) (m.toNat - l.length) ⟨0, Nat.zero_le _, rfl, by simp, by simpa using Onto.refl k1⟩ ?_
  rintro J hJ _ f wr ⟨k, hk, rfl, h1, ho⟩
  have hl := Sl.len (Sl.of_own ho.1) Tryz.underlying62 3
  simp [go_sem, h1, hl]
  refine VIf_dec (fun hlt => ?_) (fun hge => ?_)
  · simp [go_sem]
    refine VB_app1 tyB ho.1 rfl (by unfold maxLen; omega) (by omega) fun v' w' b1 b2 b3 => ?_
    simp [go_sem]
    refine Rnd.intro (m.toNat - l.length - (k + 1)) (by omega) (hJ _ _ _ ⟨k + 1, by omega, rfl, by simpa using h1, ?_⟩)
    rw [List.replicate_succ']
    simp
    exact ho.one rfl b1 b2 b3
  · simp [go_sem]
    obtain rfl : k = m.toNat - l.length := by omega
    obtain ⟨o1, o2, o3⟩ := ho
    refine hR _ _ ⟨o1, k2.trans' o2 fun j hj e => ?_, ?_⟩
    · have := k3 j e; omega
    · rcases o3 with o3 | o3
      · intro j hj; rw [o3] at hj; exact k3 j hj
      · exact o3.mono k2.size
end Go.Proofs.YtnefdmbdkljifaaGreatDoor

/- A pointer's bytes: what ptr's Put answers, as a contract on the call. No condition but that the values are of their types. -/
namespace Go.Proofs.YtnefdmbdkljifaaGreatDoor
open Go.RowKit Go.Kin

theorem own_block_lt {w : World} {e n : Nat} {v : Value} {xs : List Value} (h : w.ownsRow 0 e 1 v n xs) : ∀ k, v.ownBlock = some k → k < w.heap.size := by
  intro k hk
  rcases h.2 with ⟨hv, h0⟩ | ⟨g, cap, cur, hv, _, hb, _⟩
  · rw [hv] at hk; simp [Value.ownBlock] at hk
  · rw [hv] at hk
    simp [Value.ownBlock] at hk
    subst hk
    exact lt_of_block hb
theorem Onto.trans {w w1 w2 : World} {v v1 v2 : Value} {n m m' : Nat} {xs ys zs : List UInt8} (h : Onto w v n xs m ys v1 w1) (k : Onto w1 v1 (n + m) (xs ++ ys) m' zs v2 w2) : Onto w v n xs (m + m') (ys ++ zs) v2 w2 := by
  refine ⟨?_, h.2.1.trans' k.2.1 fun j hj e => ?_, ?_⟩
  · have := k.1
    rwa [List.append_assoc, Nat.add_assoc] at this
  · rcases h.2.2 with h3 | h3
    · rw [← h3]; exact e
    · have := h3 j e; omega
  · rcases k.2.2 with k3 | k3
    · rcases h.2.2 with h3 | h3
      · exact .inl (k3.trans h3)
      · exact .inr fun j hj => h3 j (by rw [← k3]; exact hj)
    · exact .inr (k3.mono h.2.1.size)
theorem Onto.from {w w0 w1 : World} {v v1 : Value} {n m : Nat} {xs ys : List UInt8} (hc : Ch Nw w w0) (h : Onto w0 v n xs m ys v1 w1) : Onto w v n xs m ys v1 w1 :=
  ⟨h.1, (hc.mono fun _ _ e => e.elim).trans h.2.1, h.2.2.imp id fun k => k.mono hc.size⟩
/-- a pointer's bytes -/
def putP (p : Pt) : List UInt8 := [UInt8.ofNat p.k, UInt8.ofNat p.l] ++ (le p.o 2 ++ (le p.f 4 ++ (le p.b 8 ++ (p.h ++ (p.a.flatMap (fun x => le x 2) ++ List.replicate 8 0)))))
theorem pput_any (v : Value) (n : Nat) (l : List UInt8) (p : Pt) (w : World) (ok : PtOk p) (hn : n ≤ 1000000) (hl : l.length = n) (hown : w.ownsRow 0 5 1 v n (bvs l)) :
    Ret Tryz.prog 36 #[v, .agg (pt p)] w (Onto w v n l 64 (putP p)) := by
  obtain ⟨a0, a1, a2, a3, ha, hlt⟩ := a4 ok
  have hlv := own_block_lt hown
  have hlen := Sl.len (Sl.of_own hown) Tryz.underlying62 3
  have hw1 : IntKind.i64.wrap ((n : Int) + 64) = ((n + 64 : Nat) : Int) := by simp [IntKind.wrap_i64]; omega
  refine v_enter Tryz.func36 Tryz.ntmps36 rfl (by simp) fun R' hR => ?_
  simp [go_sem, hlen, hw1]
  have hb := hp_alloc w (.cells (pt p) 37)
  have hc := (Ch.refl Nw w).alloc (.cells (pt p) 37)
  have hown1 := hown.alloc (.cells (pt p) 37)
  revert hb hc hown1
  generalize w.alloc (.cells (pt p) 37) = w1
  generalize hg : w.heap.size = g
  intro hb hc hown1
  have ck := (cell_blk hb 0).trans pt_k
  have cl := (cell_blk hb 1).trans pt_l
  have co := (cell_blk hb 2).trans pt_o
  refine v_draw' [(0, none), (1, none), (2, none), (3, none), (4, none), (7, none), (8, none), (5, some [0, 7, 8]), (6, some [7, 8]), (9, some []), (10, none)] (by kernel_rfl) (by kernel_rfl) ?_
  have hc2 := ((Ch.refl Nw w1).alloc (.cells #[.int .u8 p.k, .int .u8 p.l] 5)).drew
  have co2 := hc2.cell co id
  simp [go_sem, ck, cl, co, co2]
  have hq : (w1.alloc (.cells #[.int .u8 p.k, .int .u8 p.l] 5)).drew.heap[w1.heap.size]? = some (.cells #[.int .u8 p.k, .int .u8 p.l] 5 (0, 0)) := by simp
  have hown2 : (w1.alloc (.cells #[.int .u8 p.k, .int .u8 p.l] 5)).drew.ownsRow 0 5 1 v n (bvs l) := hown1.alloc _
  have hb2 := hc2.hp hb id
  have hc02 := hc.trans hc2
  revert hq hown2 hb2 hc02
  generalize (w1.alloc (.cells #[.int .u8 p.k, .int .u8 p.l] 5)).drew = w2
  intro hq hown2 hb2 hc02
  have hkl : [Value.int .u8 p.k, .int .u8 p.l] = bvs [UInt8.ofNat p.k, UInt8.ofNat p.l] := by
    have h1 := ok.k
    have h2 := ok.l
    simp [bvs, bv_ofNat]
    omega
  refine VB_appn tyB hown2 (y := .slice (some ⟨w1.heap.size, 0, none⟩) 2 2) (m := 2) (ys := bvs [UInt8.ofNat p.k, UInt8.ofNat p.l]) (Sl.of_blk hq (Nat.le_refl _) (by decide) (by rw [← hkl]; rfl)) rfl (bvs_one _) (by unfold maxLen; omega) (by omega) fun v3 w3 k4 k5 k6 => ?_
  have o3 : Onto w2 v n l 2 [UInt8.ofNat p.k, UInt8.ofNat p.l] v3 w3 := ⟨by rw [bvs_append]; exact k4, k5, k6⟩
  have keep : ∀ {v' w' m ys}, Onto w2 v n l m ys v' w' → w'.heap[g]? = some (.cells (pt p) 37 (0, 0)) := fun h => h.2.1.hp hb2 fun e => by have := hlv _ e; omega
  have co3 := (cell_blk (keep o3) 2).trans pt_o
  simp [go_sem, co3]
  refine (wu16 v3 (n + 2) (l ++ [UInt8.ofNat p.k, UInt8.ofNat p.l]) p.o w3 ok.o (by omega) o3.1).mono ?_
  intro v4 w4 q4
  have o4 := o3.trans q4
  have b4 := keep o4
  simp [go_sem]
  refine v_draw' [(0, none), (1, none), (2, none), (4, none), (5, none), (3, some [4, 5]), (6, some []), (7, none)] (by kernel_rfl) (by kernel_rfl) ?_
  have cf4 := (cell_blk b4 3).trans pt_f
  have cb4 := (cell_blk b4 4).trans pt_b
  simp [go_sem, cf4, cb4]
  refine (wu32 v4 _ _ p.f w4.drew ok.f (by omega) o4.1).mono ?_
  intro v5 w5 q5
  have o5 := o4.trans (Onto.from (Ch.refl Nw w4).drew q5)
  have cb5 := (cell_blk (keep o5) 4).trans pt_b
  simp [go_sem, cb5]
  refine (wu64 v5 _ _ p.b w5 ok.b (by omega) o5.1).mono ?_
  intro v6 w6 q6
  have o6 := o5.trans q6
  have b6 := keep o6
  simp [go_sem]
  have hs6 : Sl w6 (.slice (some ⟨g, 5, none⟩) 32 32) 32 (bvs p.h) := Sl.of_blk b6 (Nat.le_refl _) (by decide) (by simp [pt, ok.h, bvs_length])
  refine VB_appn tyB o6.1 hs6 (by rw [bvs_length]; exact ok.h) (bvs_one _) (by unfold maxLen; omega) (by omega) fun v7 w7 d4 d5 d6 => ?_
  have o7 := o6.trans (ys := _) (zs := p.h) (m' := 32) ⟨by rw [bvs_append]; exact d4, d5, d6⟩
  have b7 := keep o7
  have c0 := (cell_blk b7 37).trans (pt_a ok (i := 0) (x := a0) (by rw [ha]; rfl))
  have c1 := (cell_blk b7 38).trans (pt_a ok (i := 1) (x := a1) (by rw [ha]; rfl))
  have c2 := (cell_blk b7 39).trans (pt_a ok (i := 2) (x := a2) (by rw [ha]; rfl))
  have c3 := (cell_blk b7 40).trans (pt_a ok (i := 3) (x := a3) (by rw [ha]; rfl))
  simp [go_sem, c0, c1, c2, c3]
  generalize hys : ([UInt8.ofNat p.k, UInt8.ofNat p.l] ++ le p.o 2 ++ le p.f 4 ++ le p.b 8 ++ p.h) = ys at o7
  refine v_loop (fun r f wr => ∃ k, k ≤ 4 ∧ r = 4 - k ∧ f 5 = .int .i64 ((n + 64 : Nat) : Int) ∧ f 33 = .agg #[.int .u16 a0, .int .u16 a1, .int .u16 a2, .int .u16 a3] ∧ f 34 = .int .i64 k ∧ Onto w2 v n l (2 + 2 + 4 + 8 + 32 + 2 * k) (ys ++ (p.a.take k).flatMap (fun x => le x 2)) (f 0) wr) 4
    ⟨0, by omega, rfl, by simp, by simp, by simp, by simpa using o7⟩ ?_
  rintro J hJ _ f wr ⟨k, hk, rfl, e5, e33, e34, ho⟩
  by_cases hk4 : k < 4
  · obtain ⟨x, hx, hcx, hxl⟩ : ∃ x, p.a[k]? = some x ∧ #[Value.int .u16 a0, Value.int .u16 a1, Value.int .u16 a2, Value.int .u16 a3][k]? = some (.int .u16 x) ∧ x < 65536 := by
      rw [ha]
      match k, hk4 with
      | 0, _ => exact ⟨_, rfl, rfl, hlt.1⟩
      | 1, _ => exact ⟨_, rfl, rfl, hlt.2.1⟩
      | 2, _ => exact ⟨_, rfl, rfl, hlt.2.2.1⟩
      | 3, _ => exact ⟨_, rfl, rfl, hlt.2.2.2⟩
    have hki : (k : Int) < 4 := by omega
    have hidx := fun w => run_index_agg (P := Tryz.prog) (kd := .i64) Tryz.underlying35 Tryz.sizeOf31 Tryz.isAgg31 hk4 hcx w
    have hwk : IntKind.i64.wrap ((k : Int) + 1) = ((k + 1 : Nat) : Int) := by simp [IntKind.wrap_i64]; omega
    simp [go_sem, e33, e34, hki, hidx]
    refine (wu16 (f 0) _ _ x wr hxl (by omega) ho.1).mono ?_
    intro v8 w8 q8
    have o8 := ho.trans q8
    simp [go_sem, e34, hwk]
    refine Rnd.intro (4 - (k + 1)) (by omega) (hJ _ _ _ ⟨k + 1, by omega, rfl, by simpa using e5, by simp [e33], by simp, ?_⟩)
    rw [List.take_add_one, hx]
    simpa [Nat.mul_add, Nat.add_assoc] using o8
  · obtain rfl : k = 4 := by omega
    simp [go_sem, e34, e5]
    rw [List.take_of_length_le (by rw [ok.a]; omega)] at ho
    have hyl : ys.length = 48 := by rw [← hys]; simp [le_length, ok.h]
    have hfl : (p.a.flatMap (fun x => le x 2)).length = 8 := by rw [ha]; simp [le_length]
    refine (fill_any (f 0) (n + (2 + 2 + 4 + 8 + 32 + 2 * 4)) _ ((n : Int) + 64) wr (by omega) (by omega) (by simp only [List.length_append, hyl, hfl, hl]) ho.1).mono ?_
    intro v9 w9 q9
    have o9 := ho.trans q9
    have e8 : ((n : Int) + 64).toNat - (n + (2 + 2 + 4 + 8 + 32 + 2 * 4)) = 8 := by omega
    rw [e8] at o9
    simp [go_sem]
    refine hR _ _ (Onto.from hc02 ?_)
    have hp : ys ++ p.a.flatMap (fun x => le x 2) ++ List.replicate 8 0 = putP p := by
      rw [← hys]
      simp only [putP, List.append_assoc]
    rw [hp] at o9
    exact o9
end Go.Proofs.YtnefdmbdkljifaaGreatDoor

namespace Go.Proofs.YtnefdmbdkljifaaGreatDoor
open Go.RowKit Go.Kin

/-- value v is a reader of the document's: l is left, e its error; its bytes lie where b's lie, or nowhere -/
def RefR (w : World) (v : Value) (l : List UInt8) (e : Int) (own : Option Nat) : Prop :=
  ∃ s, v = .agg #[s, .int .i64 e] ∧ Sl w s l.length (bvs l) ∧ (s.ownBlock = own ∨ s.ownBlock = none)

theorem refRaw (v : Value) (l : List UInt8) (e n : Int) (own : Option Nat) (w : World) (hl : l.length ≤ 1000000000) (hn : n ≤ 9223372036854775807) (h : RefR w v l e own) :
    Ret Tryz.prog 73 #[v, .int .i64 n] w fun v' w' => ∃ s r, v' = .tuple #[s, r] ∧ Sl w' s (rawS l e n.toNat).1.length (bvs (rawS l e n.toNat).1) ∧
      (s.ownBlock = own ∨ s.ownBlock = none) ∧ RefR w' r (rawS l e n.toNat).2.1 (rawS l e n.toNat).2.2 own ∧ Ch Nw w w' := by
  obtain ⟨s, rfl, hs, ho⟩ := h
  obtain ⟨A, c, rfl, _⟩ := id hs
  have hlen := hs.len Tryz.underlying62 3
  have nn : ∀ k, (Value.slice A l.length c).ownBlock = some k → ¬ Nw k := fun _ _ e => e
  refine v_enter Tryz.func73 Tryz.ntmps73 rfl (by simp) fun R' hR => ?_
  by_cases he : e = 0
  · subst he
    have fin : ∀ (m : Nat) (v1 v2 : Value) (w' : World), m ≤ l.length → n.toNat = m → Sl w v1 m ((bvs l).take m) → v1.ownBlock = (Value.slice A l.length c).ownBlock → Sl w v2 (l.length - m) ((bvs l).drop m) → v2.ownBlock = (Value.slice A l.length c).ownBlock → Ch Nw w w' →
        R' (.tuple #[v1, .agg #[v2, .int .i64 0]]) w' := by
      intro m v1 v2 w' hm hnm s1 o1 s2 o2 hc
      have e1 : rawS l 0 m = (l.take m, l.drop m, 0) := by simp [rawS, Nat.not_lt.2 hm]
      rw [hnm, e1] at hR
      refine hR _ _ ⟨v1, _, rfl, ?_, by rw [o1]; exact ho, ⟨v2, rfl, ?_, by rw [o2]; exact ho⟩, hc⟩
      · simpa [bvs, List.map_take, Nat.min_eq_left hm] using s1.ch hc (fun _ _ e => e)
      · simpa [bvs, List.map_drop] using s2.ch hc (fun _ _ e => e)
    rcases Int.lt_or_le n 0 with hneg | hpos
    · have hl0 : ¬ (l.length : Int) < 0 := by omega
      obtain ⟨v1, hs1, ho1, _, hr1, _⟩ := hs.cut tyB (bvs_length l) 0 0 (by omega) (by omega)
      have hr1 := hr1 rfl
      obtain ⟨v2, hs2, ho2, _, _, hr2⟩ := hs.cut tyB (bvs_length l) 0 l.length (by omega) (Nat.le_refl _)
      have hr2 := hr2 rfl
      simp at hr1 hr2
      obtain ⟨A2, c2, rfl, _⟩ := id hs2
      obtain ⟨A1, c1, rfl, _⟩ := id hs1
      simp [go_sem, hneg, hlen, hl0]
      refine v_draw' [(0, none), (1, none), (2, none), (3, none), (4, none), (5, none), (6, none), (7, none), (8, none), (9, none), (10, some [])] (by kernel_rfl) (by kernel_rfl) ?_
      simp [go_sem, hr1, hr2]
      exact fin 0 _ _ _ (by omega) (by omega) (by simpa using hs1) ho1 (by simpa [← bvs_length l] using hs2) ho2 ((((Ch.refl Nw w).alloc _).alloc _).drew)
    · have hneg : ¬ n < 0 := by omega
      simp [go_sem, hneg, hlen]
      refine VIf_dec (fun hlt => ?_) (fun hge => ?_)
      · simp [go_sem, hlt]
        have e1 : rawS l 0 n.toNat = ([], [], 4) := by simp [rawS]; omega
        rw [e1] at hR
        exact hR _ _ ⟨_, _, rfl, Sl.nil _, .inr rfl, ⟨_, rfl, Sl.nil _, .inr rfl⟩, ((Ch.refl Nw w).alloc _).alloc _⟩
      · obtain ⟨m, rfl⟩ := Int.eq_ofNat_of_zero_le hpos
        obtain ⟨v1, hs1, ho1, _, hr1, _⟩ := hs.cut tyB (bvs_length l) 0 m (by omega) (by omega)
        have hr1 := hr1 rfl
        obtain ⟨A1, c1, rfl, _⟩ := id hs1
        obtain ⟨v2, hs2, ho2, _, _, hr2⟩ := hs.cut tyB (bvs_length l) m l.length (by omega) (Nat.le_refl _)
        have hr2 := hr2 rfl
        obtain ⟨A2, c2, rfl, _⟩ := id hs2
        simp [go_sem, hge]
        refine v_draw' [(0, none), (1, none), (2, none), (3, none), (4, none), (5, none), (6, none), (7, none), (8, none), (9, none), (10, some [])] (by kernel_rfl) (by kernel_rfl) ?_
        simp [go_sem, hr1, hr2]
        exact fin m _ _ _ (by omega) (by omega) (by simpa using hs1) ho1 (by simpa [← bvs_length l] using hs2) ho2 ((((Ch.refl Nw w).alloc _).alloc _).drew)
  · have he' : (e != 0) = true := by simpa using he
    simp [go_sem, he']
    refine v_draw' [(0, none), (1, none), (2, some [])] (by kernel_rfl) (by kernel_rfl) ?_
    simp [go_sem]
    have e1 : rawS l e n.toNat = ([], l, e) := by simp [rawS, he]
    rw [e1] at hR
    have hc := (((Ch.refl Nw w).alloc (.cells #[.slice A l.length c, .int .i64 e] 115)).alloc (.cells #[.slice A l.length c, .int .i64 e] 115)).drew
    exact hR _ _ ⟨_, _, rfl, Sl.nil _, .inr rfl, ⟨_, rfl, hs.ch hc fun _ _ e => e, ho⟩, hc⟩

abbrev rdrT : Nat := 115
theorem chBlk {S : Nat → Prop} {w w1 : World} {o : Obj} (hc : Ch S (w.alloc o) w1) (hn : ¬ S w.heap.size) : w1.heap[w.heap.size]? = some o := hc.obj (heap_alloc_new w o) hn

theorem chTwo (w : World) (g : Nat) (u v : Value) : Ch (only g) w ((w.setCell ⟨g, 0, none⟩ u).setCell ⟨g, 1, none⟩ v) :=
  ((Ch.refl (only g) w).setCell (p := ⟨g, 0, none⟩) (.inl rfl) u).setCell (p := ⟨g, 1, none⟩) (.inl rfl) v
theorem lt_own {own o : Option Nat} {B : Nat} (hown : ∀ k, own = some k → k < B) (h : o = own ∨ o = none) (g : Nat) (hg : B ≤ g) : ∀ k, o = some k → ¬ only g k := by
  rintro k hk rfl
  rcases h with h | h
  · have := hown k (by rw [← h, hk]); omega
  · rw [h] at hk; cases hk

theorem refNumM (v : Value) (l : List UInt8) (e : Int) (wide : Nat) (own : Option Nat) (w : World) (hl : l.length ≤ 1000000000) (hw : wide ≤ 8) (h : RefR w v l e own) (hown : ∀ k, own = some k → k < w.heap.size) :
    Ret Tryz.prog 44 #[v, .int .i64 wide] w fun v' w' => ∃ r, v' = .tuple #[.int .u64 (fromLe (rawS l e wide).1), r] ∧
      RefR w' r (rawS l e wide).2.1 (rawS l e wide).2.2 own ∧ Ch Nw w w' := by
  obtain ⟨s, rfl, hs, ho⟩ := h
  obtain ⟨A, c, rfl, _⟩ := id hs
  have hF := refRaw _ l e wide own _ hl (by omega) ⟨_, rfl, hs.ch (((Ch.refl Nw w).alloc (.cells #[.slice A l.length c, .int .i64 e] rdrT)).alloc (.cells #[.slice none 0 0, .int .i64 0] rdrT)) (fun _ _ e => e), ho⟩
  have hrw := rawS_le l e wide
  simp only [Int.toNat_natCast] at hF
  obtain ⟨r, l2, e2, hq⟩ : ∃ r l2 e2, rawS l e wide = (r, l2, e2) := ⟨_, _, _, rfl⟩
  rw [hq] at hF hrw ⊢
  simp only at hF hrw ⊢
  refine v_enter Tryz.func44 Tryz.ntmps44 rfl (by simp) fun R' hR => ?_
  simp [go_sem]
  refine hF.mono ?_
  rintro v1 w1 ⟨s1, r1, rfl, hs1, ho1, ⟨s2, rfl, hs2, ho2⟩, hc1⟩
  have hz := hc1.size
  have hcN := (((Ch.refl Nw w).alloc (.cells #[.slice A l.length c, .int .i64 e] rdrT)).alloc (.cells #[.slice none 0 0, .int .i64 0] rdrT)).trans hc1
  have hob : w1.heap[w.heap.size + 1]? = some (.cells #[.slice none 0 0, .int .i64 0] rdrT (0, 0)) := by simpa using chBlk hc1 (fun e => e)
  obtain ⟨A2, c2, rfl, _⟩ := id hs2
  have hs1' := hs1.alloc (.cells #[.slice A2 l2.length c2, .int .i64 e2] rdrT)
  have hs2' := hs2.alloc (.cells #[.slice A2 l2.length c2, .int .i64 e2] rdrT)
  have hc2 := (Ch.refl Nw w1).alloc (.cells #[.slice A2 l2.length c2, .int .i64 e2] rdrT)
  have hob' := hc2.obj hob (fun e => e)
  have hnb := heap_alloc_new w1 (.cells #[.slice A2 l2.length c2, .int .i64 e2] rdrT)
  have hlen := hs1'.len Tryz.underlying62 3
  simp [go_sem, hlen]
  generalize hw2 : w1.alloc (.cells #[.slice A2 l2.length c2, .int .i64 e2] rdrT) = w2
  rw [hw2] at hs1' hs2' hc2 hob' hnb
  obtain ⟨p0, p1, p2, p3⟩ := blk_cells hob'
  obtain ⟨q0, q1, q2, q3⟩ := blk_cells hnb
  refine v_loop (fun q f wr => ∃ k : Nat, k ≤ r.length ∧ q = k + 1 ∧ f 5 = .pointer (some ⟨w.heap.size + 1, 0, none⟩) ∧ f 7 = .pointer (some ⟨w1.heap.size, 0, none⟩) ∧ f 6 = s1 ∧ f 9 = .int .i64 ((k : Int) - 1) ∧ f 8 = .int .u64 (fromLe (r.drop k)) ∧ wr = w2) (r.length + 1)
    ⟨r.length, Nat.le_refl _, rfl, by simp, by simp, by simp, by simp [IntKind.wrap_i64]; omega, by simp [fromLe], rfl⟩ ?_
  rintro J hJ _ f _ ⟨k, hk, rfl, h5, h7, h6, h9, h8, rfl⟩
  simp [go_sem, h9]
  refine VIf_dec (fun hge => ?_) (fun hlt => ?_)
  · obtain ⟨k, rfl⟩ : ∃ k', k = k' + 1 := ⟨k - 1, by omega⟩
    have hkl : k < r.length := by omega
    obtain ⟨a, ha, hc, _⟩ := hs1'.at tyB (bvs_length r) (i := k) (u := bv (r[k]'hkl)) (by simp [bvs, hkl])
    unfold bv at hc
    have hdr : r.drop k = r[k]'hkl :: r.drop (k + 1) := List.drop_eq_getElem_cons hkl
    have hlt := fromLe_lt (r.drop k)
    have hlen2 : (r.drop k).length ≤ 8 := by simp; omega
    have hp : 256 ^ (r.drop k).length ≤ 256 ^ 8 := Nat.pow_le_pow_right (by omega) hlen2
    rw [hdr] at hlt hp
    rw [show (256:Nat) ^ 8 = 18446744073709551616 by decide] at hp
    have hnw := Nat.lt_of_lt_of_le hlt hp
    simp only [fromLe] at hnw
    have hc8 := (r[k]'hkl).toNat_lt
    have hi : (((k + 1 : Nat) : Int) - 1) = (k : Int) := by omega
    simp [go_sem, h6, h8, h9, ha, hc]
    refine Rnd.intro (k + 1) (by omega) (hJ _ _ _ ⟨k, by omega, rfl, by simpa using h5, by simpa using h7, by simpa using h6, by simp [IntKind.wrap_i64]; omega, ?_, rfl⟩)
    rw [hdr, fromLe]
    simp [IntKind.wrap_u64]
    omega
  · obtain rfl : k = 0 := by omega
    simp [go_sem]
    refine v_draw' [(0, none), (1, none), (2, none), (3, some [])] (by kernel_rfl) (by kernel_rfl) ?_
    simp [go_sem, h5, h7, h8, p0, p1, p2, p3, q0, q1]
    refine hR _ _ ⟨_, rfl, ⟨_, rfl, hs2'.ch (chTwo _ (w.heap.size + 1) _ _).drew (lt_own hown ho2 _ (by omega)), ho2⟩, ((((hcN.trans hc2).setCell (.inr (by simp)) _).setCell (.inr (by simp)) _).drew)⟩

/-- what the document's Noughts answers -/
def noughtR (l : List UInt8) (e : Int) (n : Nat) : List UInt8 × Int :=
  if (rawS l e n).1.all (· == 0) then (rawS l e n).2 else ([], 5)

end Go.Proofs.YtnefdmbdkljifaaGreatDoor
