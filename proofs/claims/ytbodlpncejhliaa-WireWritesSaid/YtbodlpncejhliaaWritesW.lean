/- WireWrites, walked. No condition but on sizes. -/
import Derived.Test.YtbodlpncejhliaaWireD
import Derived.Test.YtbodlpncejhliaaWireE
namespace Go.Proofs.Ytbodlpncejhliaa
open Go.RowKit Go.Kin

theorem writes_any (v : Value) (l : List UInt8) (x : Nat) (m : Int) (w : World) (hx : x < 18446744073709551616) (hl : l.length ≤ 1000) (hm : m ≤ 2000) (hs : Sl w v l.length (bvs l)) :
    Ret Try.prog 3 #[v, .int .u64 x, .int .i64 m] w fun v' w' => v' = .bool true ∧ Ch Nw w w' := by
  have hlen := hs.len Try.underlying22 3
  have hstr := hs.str (P := Try.prog) rfl Try.underlying22 Try.underlying5 Try.underlying9
  refine v_enter Try.func3 Try.ntmps3 rfl (by simp) fun R' hR => ?_
  have hl' : ¬ (1000 : Int) < (l.length : Int) := by omega
  have hm' : ¬ 2000 < m := by omega
  simp [go_sem, hlen, hstr, hl', hm']
  refine v_draw' [(0, none), (2, none), (3, none), (6, none), (7, none), (8, none), (1, some [2, 3, 6, 7, 8]), (4, some [6, 7, 8]), (5, none), (9, some [6, 5]), (10, none), (11, none), (12, none), (13, none), (14, none), (16, none), (17, none), (20, none), (21, none), (22, none), (15, some [16, 17, 20, 21, 22]), (18, some [20, 21, 22]), (19, none), (23, some [20, 19]), (24, none), (25, none), (26, none), (27, none)] (by kernel_rfl) (by kernel_rfl) ?_
  simp [go_sem]
  have hx2 : x % 65536 < 18446744073709551616 := by omega
  have hx4 : x % 4294967296 < 18446744073709551616 := by omega
  have i2 : IntKind.u16.wrap (x : Int) = ((x % 65536 : Nat) : Int) := by rw [IntKind.wrap_u16]; omega
  have i4 : IntKind.u32.wrap (x : Int) = ((x % 4294967296 : Nat) : Int) := by rw [IntKind.wrap_u32]; omega
  have t2 : (x : Int).tmod 65536 = ((x % 65536 : Nat) : Int) := by rw [Int.tmod_eq_emod_of_nonneg (by omega)]; omega
  have t4 : (x : Int).tmod 4294967296 = ((x % 4294967296 : Nat) : Int) := by rw [Int.tmod_eq_emod_of_nonneg (by omega)]; omega
  have sx := fun {w : World} {v : Value} {l : List UInt8} {n : Nat} (h : Sl w v n (bvs l)) (hn : l.length = n) => h.str (P := Try.prog) hn Try.underlying22 Try.underlying5 Try.underlying9
  have fr : ∀ {j : Nat}, ¬ Nw j := fun {j} e => e
  refine VB_copyOf tyB hs.drew (bvs_length l) (bvs_one _) (by unfold maxLen; omega) (by omega) fun v1 w1 k1 k2 k3 => ?_
  have hw1 : Ch Nw w w1 := k2.of_drew
  have hs1 := hs.ch hw1 fun _ _ => fr
  simp [go_sem, i2]
  refine (wu16 v1 l.length l (x % 65536) w1 (by omega) (by omega) k1).mono fun v2 w2 ho2 => ?_
  have hw2 : Ch Nw w w2 := hw1.trans' ho2.2.1 fun j hj e => by have := k3 j e; simp at this; omega
  have h2 := sx (Sl.of_own ho2.1) (by simp [le_length])
  simp [go_sem, h2, t2]
  refine (refNum (x % 65536) 2 w2 hx2 (by omega)).mono ?_
  rintro v3 w3 ⟨b1, b2, b3⟩
  have h2' := sx ((Sl.of_own ho2.1).ch b2 fun _ _ => fr) (by simp [le_length])
  have h3 := sx (Sl.of_own b1) (by simp [le_length])
  have big : ∀ k : Nat, k ≤ 8 → ¬ 9223372036854775807 < l.length + k := fun k hk => by omega
  simp [go_sem, h2', h3, le_length, big, bcat]
  have hw3 : Ch Nw w w3 := hw2.trans b2
  have hs3 := hs.ch hw3 fun _ _ => fr
  refine VB_copyOf tyB hs3 (bvs_length l) (bvs_one _) (by unfold maxLen; omega) (by omega) fun v4 w4 c1 c2 c3 => ?_
  have hw4 : Ch Nw w w4 := hw3.trans c2
  simp [go_sem, i4]
  refine (wu32 v4 l.length l (x % 4294967296) w4 (by omega) (by omega) c1).mono fun v5 w5 ho5 => ?_
  have hw5 : Ch Nw w w5 := hw4.trans' ho5.2.1 fun j hj e => by have := c3 j e; have := hw3.size; omega
  have h5 := sx (Sl.of_own ho5.1) (by simp [le_length])
  simp [go_sem, h5, t4]
  refine (refNum (x % 4294967296) 4 w5 hx4 (by omega)).mono ?_
  rintro v6 w6 ⟨d1, d2, d3⟩
  have hw6 : Ch Nw w w6 := hw5.trans d2
  have h5' := sx ((Sl.of_own ho5.1).ch d2 fun _ _ => fr) (by simp [le_length])
  have h6 := sx (Sl.of_own d1) (by simp [le_length])
  simp [go_sem, h5', h6, le_length, big, bcat]
  refine v_draw' [(0, none), (2, none), (5, none), (6, none), (1, some [2, 5, 6]), (3, some [5, 6]), (4, none), (7, some [5, 4]), (8, none), (9, none), (10, none), (11, none), (12, none), (14, none), (17, none), (18, none), (13, some [14, 17, 18]), (15, some [17, 18]), (16, none), (19, some [16]), (20, none), (21, none), (22, none), (23, none), (24, some []), (25, none), (26, none)] (by kernel_rfl) (by kernel_rfl) ?_
  simp [go_sem]
  have hs6 := (hs.ch hw6 fun _ _ => fr).drew
  refine VB_copyOf tyB hs6 (bvs_length l) (bvs_one _) (by unfold maxLen; omega) (by omega) fun v7 w7 f1 f2 f3 => ?_
  have hw7 : Ch Nw w w7 := hw6.trans f2.of_drew
  simp [go_sem]
  refine (wu64 v7 l.length l x w7 (by omega) (by omega) f1).mono fun v8 w8 ho8 => ?_
  have hw8 : Ch Nw w w8 := hw7.trans' ho8.2.1 fun j hj e => by have h1 : w6.heap.size ≤ j := f3 j e; have := hw6.size; omega
  have h8 := sx (Sl.of_own ho8.1) (by simp [le_length])
  simp [go_sem, h8]
  refine (refNum x 8 w8 hx (by omega)).mono ?_
  rintro v9 w9 ⟨g1, g2, g3⟩
  have hw9 : Ch Nw w w9 := hw8.trans g2
  have h8' := sx ((Sl.of_own ho8.1).ch g2 fun _ _ => fr) (by simp [le_length])
  have h9 := sx (Sl.of_own g1) (by simp [le_length])
  simp [go_sem, h8', h9, le_length, big, bcat]
  have hs9 := hs.ch hw9 fun _ _ => fr
  refine VB_copyOf tyB hs9 (bvs_length l) (bvs_one _) (by unfold maxLen; omega) (by omega) fun va wa p1 p2 p3 => ?_
  have hwa : Ch Nw w wa := hw9.trans p2
  simp [go_sem]
  refine (fill_any va l.length l m wa (by omega) (by omega) rfl p1).mono fun vb wb hob => ?_
  have hwb : Ch Nw w wb := hwa.trans' hob.2.1 fun j hj e => by have := p3 j e; have := hw9.size; omega
  have hb := sx (Sl.of_own hob.1) (by simp)
  simp [go_sem, hb]
  refine (refFill v l m wb (by omega) (by omega) (hs.ch hwb fun _ _ => fr)).mono ?_
  rintro vc wc ⟨q1, q2, q3⟩
  have hwc : Ch Nw w wc := hwb.trans q2
  have hb' := sx ((Sl.of_own hob.1).ch q2 fun _ _ => fr) (by simp)
  have hc := sx (Sl.of_own q1) (by simp)
  simp [go_sem, hb', hc]
  refine (wakes_any wc).mono ?_
  rintro _ wd ⟨rfl, hd⟩
  simp [go_sem]
  exact hR _ _ ⟨rfl, hwc.trans hd⟩
theorem writes_out (v : Value) (l : List UInt8) (x : Nat) (m : Int) (w : World) (hs : Sl w v l.length (bvs l)) (h : 1000 < l.length ∨ 2000 < m) :
    Ret Try.prog 3 #[v, .int .u64 x, .int .i64 m] w fun v' w' => v' = .bool true ∧ Ch Nw w w' := by
  have hlen := hs.len Try.underlying22 3
  refine v_enter Try.func3 Try.ntmps3 rfl (by simp) fun R' hR => ?_
  have fin : ∀ w, Ret Try.prog 7 #[] w fun v' w' => v' = .bool true ∧ Ch Nw w w' := wakes_any
  by_cases h1 : (1000 : Int) < (l.length : Int)
  · simp [go_sem, hlen, h1]
    refine (fin w).mono ?_
    rintro _ wd ⟨rfl, hd⟩
    simp [go_sem]
    exact hR _ _ ⟨rfl, hd⟩
  · have h2 : 2000 < m := by omega
    simp [go_sem, hlen, h1, h2]
    refine (fin w).mono ?_
    rintro _ wd ⟨rfl, hd⟩
    simp [go_sem]
    exact hR _ _ ⟨rfl, hd⟩
end Go.Proofs.Ytbodlpncejhliaa
