/- The tree law's small functions: a leaf, a pointer in a list, acts. Conditions: the arguments lie in the world. -/
import Derived.Test.YtppilgkgnofkpaaDoorTrS
import Derived.Test.YtppilgkgnofkpaaDoorLsr
import Derived.WalkSmall
set_option linter.unusedSimpArgs false
set_option linter.unusedVariables false

namespace Go.Proofs.YtppilgkgnofkpaaDoor
open Go.RowKit Go.Kin

abbrev ptl (p : Pt) : List Value := (pt p).toList
abbrev PtLst (w : World) (v : Value) (l : List Pt) : Prop := Lst w v (fun p => (pt p).toList) 41 l
theorem ptLst_own {w : World} {v : Value} {l : List Pt} (h : w.ownsRow 0 28 41 v l.length (rowsL pt l)) (hin : ∀ p ∈ l, PtOk p) : PtLst w v l := Lst.of_own h fun p hp => pt_size (hin p hp)
def lfp (n off : Nat) : Pt := ⟨1, 0, 9, off, n, zb 32, [0, 0, 7, 0]⟩
theorem lfp_ok {n off : Nat} (hn : n < 18446744073709551616) (ho : off < 4294967296) : PtOk (lfp n off) := ⟨by show 1 < 256; decide, by show 0 < 256; decide, by show 9 < 65536; decide, ho, hn, zb_length 32, rfl, by intro x hx; simp [lfp] at hx; omega⟩
theorem lfp_may (n off : Nat) : mayP (lfp n off) = true := by
  rw [mayP_eq (p := lfp n off) (a0 := 0) (a1 := 0) (a2 := 7) (a3 := 0) (n := 1) rfl rfl]
  rfl
theorem lfp_ne (n off : Nat) : lfp n off ≠ ptz := fun e => by
  have := congrArg Pt.k e
  cases this
theorem bld_at4 {w : World} {K : Value → World → Prop} (a b c d : Int) : VBld Tryd.prog 26 [(0, .int .u16 a), (1, .int .u16 b), (2, .int .u16 c), (3, .int .u16 d)] w K = K (.agg #[.int .u16 a, .int .u16 b, .int .u16 c, .int .u16 d]) w := by
  simp [go_sem]
theorem tleaf_any (n off : Nat) (w : World) (hn : n < 18446744073709551616) (ho : off < 4294967296) : Ret Tryd.prog 48 #[.int .u64 n, .int .u32 off] w fun v' w' => v' = .agg (pt (lfp n off)) ∧ Ch Nw w w' := by
  refine v_enter Tryd.func48 Tryd.ntmps48 rfl (by simp) fun R' hR => ?_
  have ok := lfp_ok hn ho
  have hs := pt_size ok
  have ha := pt_all ok
  have ca := (Ch.refl Nw w).alloc (.cells (pt ptz) 28)
  have b0 := hp_alloc w (.cells (pt ptz) 28)
  have hb : ∀ {w : World} {K : Value → World → Prop}, VBld Tryd.prog 28 [(0, .int .u8 1), (2, .int .u16 9), (3, .int .u32 off), (4, .int .u64 n), (6, .agg #[.int .u16 0, .int .u16 0, .int .u16 7, .int .u16 0])] w K = K (.agg (pt (lfp n off))) w := fun {w K} => by
    refine VBld_struct Tryd.underlying28 hz_pt (places := #[(0, 1), (1, 1), (2, 1), (3, 1), (4, 1), (5, 32), (37, 4)]) (by simp [go_sem]) ?_
    simp [fillB, zc_pt, Value.cells, blit_size, pt_size ptz_ok]
    simp [blit, pt, ptz, lfp, bvs_length, zb_length, u16s, u16v]
  simp [go_sem, hz_pt, zc_pt, hb, hs, ha, pt_size ptz_ok, blit_whole]
  exact hR _ _ ⟨rfl, (Ch.refl Nw w).alloc _⟩
/-- is a pointer in a list? -/
theorem thas_any (v : Value) (l : List Pt) (p : Pt) (w : World) (hl : PtLst w v l) (hin : ∀ q ∈ l, PtOk q) (ok : PtOk p) (hn : l.length ≤ 1000000000) :
    Ret Tryd.prog 27 #[v, .agg (pt p)] w fun v' w' => v' = .bool (decide (p ∈ l)) ∧ Ch Nw w w' := by
  refine v_enter Tryd.func27 Tryd.ntmps27 rfl (by simp) fun R' hR => ?_
  have hps := pt_size ok
  have hpa := pt_all ok
  have hlen := hl.len Tryd.underlying48 3
  have ca := (Ch.refl Nw w).alloc (.cells (pt p) 28)
  have b0 := hp_alloc w (.cells (pt p) 28)
  have hl1 := hl.ch' ca fun _ _ e => e
  simp [go_sem, hps, hpa]
  obtain ⟨g, hg⟩ : ∃ g, w.heap.size = g := ⟨_, rfl⟩
  rw [hg] at b0 ⊢
  generalize w.alloc (.cells (pt p) 28) = w1 at *
  refine v_loop (fun r f u => ∃ i, r = l.length - i ∧ i ≤ l.length ∧ f 0 = v ∧ f 3 = .pointer (some ⟨g, 0, none⟩) ∧ f 5 = .int .i64 i ∧ (∀ (j : Nat) x, j < i → l[j]? = some x → x ≠ p) ∧ Ch Nw w1 u) l.length
    ⟨0, rfl, by omega, by simp, by simp, by simp, fun j x hj => absurd hj (by omega), Ch.refl _ _⟩ ?_
  rintro J hJ _ f u ⟨i, rfl, hi, f0, f3, f5, hno, cu⟩
  by_cases hlt : i < l.length
  · have hii : (i : Int) < l.length := by omega
    have hwi : IntKind.i64.wrap ((i : Int) + 1) = ((i + 1 : Nat) : Int) := by rw [IntKind.wrap_i64]; omega
    obtain ⟨x, hx⟩ : ∃ x, l[i]? = some x := ⟨_, List.getElem?_eq_getElem hlt⟩
    have okx := hin x (List.mem_of_getElem? hx)
    have hxs := pt_size okx
    obtain ⟨b, of', c, cs, T, fr, hve, hbw, hex, hcs⟩ := hl1.elem (by decide) (fun q hq => pt_size (hin q hq)) hx
    have hbu := cu.obj hbw id
    have bu := cu.obj b0 id
    have heq : ∀ w, (Op.equalIn 10000 28 (.agg (pt x)) (.agg (pt p))).run Tryd.prog w = .ok (decide (x = p)) w := fun w => eq_pt w okx ok
    subst hve
    have hbud : u.drew.heap[b]? = some (.cells cs T fr) := hbu
    have bud : u.drew.heap[g]? = some (.cells (pt p) 28 (0, 0)) := bu
    simp [go_sem, f0, f5, hlen, hii]
    refine v_draw' [(0, none), (1, none), (2, none), (3, none), (4, none), (5, none)] (by kernel_rfl) (by kernel_rfl) ?_
    by_cases hxp : x = p
    · subst hxp
      simp [go_sem, f0, f3, f5, hlt, hii, hbu, hbud, hex, hcs, bu, bud, hps, hpa, heq]
      exact hR _ _ ⟨by rw [decide_eq_true (List.mem_of_getElem? hx)], ca.trans cu.drew⟩
    · simp [go_sem, f0, f3, f5, hlt, hii, hbu, hbud, hex, hcs, bu, bud, hps, hpa, heq, hxp, hwi]
      refine Rnd.intro (l.length - (i + 1)) (by omega) (hJ _ _ _ ⟨i + 1, rfl, by omega, by simp [f0], by simp [f3], by simp, fun j y hj hy => ?_, cu.drew⟩)
      by_cases hji : j = i
      · subst hji
        rw [hx] at hy
        cases hy
        exact hxp
      · exact hno j y (by omega) hy
  · obtain rfl : i = l.length := by omega
    simp [go_sem, f0, f5, hlen]
    refine hR _ _ ⟨?_, ca.trans cu⟩
    rw [decide_eq_false]
    intro hm
    obtain ⟨j, hj⟩ := List.mem_iff_getElem?.1 hm
    exact hno j p (List.getElem?_eq_some_iff.1 hj).1 hj rfl
/-- an act: offsets, holes, the same -/
structure Ta where
  v : Value
  offs : List UInt8
  holes : Nat
  same : Bool
def taL (a : Ta) : List Value := [a.v, .int .u64 a.holes, .bool a.same]
structure Ta.In (w : World) (a : Ta) : Prop where
  sl : Sl w a.v a.offs.length (bvs a.offs)
  holes : a.holes < 18446744073709551616
theorem Ta.In.ch {w w' : World} {a : Ta} (h : a.In w) (hc : Ch Nw w w') : a.In w' := ⟨h.sl.ch hc fun _ _ e => e, h.holes⟩
theorem trgreat_any (v : Value) (L : List Ta) (w : World) (hL : Lst w v taL 3 L) (hin : ∀ a ∈ L, a.In w) :
    Ret Tryd.prog 19 #[v] w fun v' w' => ∃ g, v' = .bool g ∧ (g = false → L.length ≤ 60 ∧ ∀ a ∈ L, a.offs.length ≤ 64) ∧ w' = w := by
  refine v_enter Tryd.func19 Tryd.ntmps19 rfl (by simp) fun R' hR => ?_
  have hlen := hL.len Tryd.underlying56 3
  by_cases h60 : (60 : Int) < (L.length : Int)
  · simp [go_sem, hlen, h60]
    exact hR _ _ ⟨true, rfl, by simp, rfl⟩
  simp [go_sem, hlen, h60]
  obtain ⟨A0, c0, rfl, _, _, hrd⟩ := id hL
  refine v_loop (fun r f u => ∃ (i : Nat), r = L.length - i ∧ i ≤ L.length ∧ f 0 = .slice A0 L.length c0 ∧ f 3 = .int .i64 i ∧ (∀ j a, j < i → L[j]? = some a → a.offs.length ≤ 64) ∧ u = w) L.length
    ⟨0, rfl, by omega, by simp, by simp, fun j a h => absurd h (by omega), rfl⟩ ?_
  rintro J hJ _ f u ⟨i, rfl, hi, f0, f3, hall, rfl⟩
  by_cases hlt : i < L.length
  · obtain ⟨a, ha⟩ : ∃ a, L[i]? = some a := ⟨_, List.getElem?_eq_getElem hlt⟩
    obtain ⟨b, off, rfl, hblt, hrd⟩ := hrd (by omega)
    have hai := hin a (List.mem_of_getElem? ha)
    have q0 : u.cell? ⟨b, off + i * 3, none⟩ = some a.v := hrd i a 0 _ ha rfl
    obtain ⟨A1, c1, hav, _⟩ := id hai.sl
    rw [hav] at q0
    have hii : (i : Int) < L.length := by omega
    have hwi : IntKind.i64.wrap ((i : Int) + 1) = ((i + 1 : Nat) : Int) := by rw [IntKind.wrap_i64]; omega
    by_cases h6 : (64 : Int) < (a.offs.length : Int)
    · simp [go_sem, f0, f3, hii, hlt, q0, h6]
      exact hR _ _ ⟨true, rfl, by simp, rfl⟩
    · simp [go_sem, f0, f3, hii, hlt, q0, h6, hwi]
      refine Rnd.intro (L.length - (i + 1)) (by omega) (hJ _ _ _ ⟨i + 1, rfl, by omega, by simp [f0], by simp, fun j a' hj ha' => ?_, rfl⟩)
      by_cases hji : j = i
      · subst hji
        rw [ha] at ha'
        cases ha'
        omega
      · exact hall j a' (by omega) ha'
  · obtain rfl : i = L.length := by omega
    simp [go_sem, f0, f3]
    refine hR _ _ ⟨false, rfl, fun _ => ⟨by omega, fun a ha => ?_⟩, rfl⟩
    obtain ⟨j, hj⟩ := List.mem_iff_getElem?.1 ha
    exact hall j a (List.getElem?_eq_some_iff.1 hj).1 hj
def Ta.has (a : Ta) (off : Nat) : Bool := a.offs.any fun c => c.toNat % 64 == off
def Ta.pt (a : Ta) (n : Nat) (h : List Pt) (off : Nat) : Pt := if a.same then h.getD off ptz else if a.holes / 2 ^ off % 2 = 1 then ptz else lfp (n + 1) off
/-- the leaves of an act -/
def Ta.lvs (a : Ta) (n : Nat) (h : List Pt) (k : Nat) : List (Nat × Pt) := (List.range k).filterMap fun off => if a.has off then some (off, a.pt n h off) else none
theorem Ta.lvs_step (a : Ta) (n : Nat) (h : List Pt) (k : Nat) : a.lvs n h (k + 1) = a.lvs n h k ++ if a.has k then [(k, a.pt n h k)] else [] := by
  unfold Ta.lvs
  rw [List.range_succ, List.filterMap_append]
  congr 1
  simp only [List.filterMap_cons, List.filterMap_nil]
  cases a.has k <;> rfl
theorem Ta.lvs_len (a : Ta) (n : Nat) (h : List Pt) (k : Nat) : (a.lvs n h k).length ≤ k := Nat.le_trans (List.length_filterMap_le _ _) (by simp)
theorem Ta.lvs_mem (a : Ta) (n : Nat) (h : List Pt) (k : Nat) {x : Nat × Pt} (hx : x ∈ a.lvs n h k) : x.1 < k ∧ x.2 = a.pt n h x.1 := by
  unfold Ta.lvs at hx
  obtain ⟨off, h1, h2⟩ := List.mem_filterMap.1 hx
  split at h2
  · cases h2
    exact ⟨List.mem_range.1 h1, rfl⟩
  · cases h2
theorem Ta.lvs_rise (a : Ta) (n : Nat) (h : List Pt) : ∀ k, (a.lvs n h k).Pairwise fun x y => x.1 < y.1
  | 0 => List.Pairwise.nil
  | k + 1 => by
    rw [Ta.lvs_step, List.pairwise_append]
    refine ⟨Ta.lvs_rise a n h k, ?_, fun x hx y hy => ?_⟩
    · split <;> simp
    · split at hy
      · simp at hy
        have := (a.lvs_mem n h k hx).1
        rw [hy]
        exact this
      · cases hy
theorem Ta.pt_ok {a : Ta} {n : Nat} {h : List Pt} {off : Nat} (hn : n + 1 < 18446744073709551616) (ho : off < 4294967296) (hh : ∀ p ∈ h, PtOk p) : PtOk (a.pt n h off) := by
  unfold Ta.pt
  split
  · rw [List.getD_eq_getElem?_getD]
    by_cases hl : off < h.length
    · rw [List.getElem?_eq_getElem hl]; exact hh _ (List.getElem_mem hl)
    · rw [List.getElem?_eq_none (by omega)]; exact ptz_ok
  · split
    · exact ptz_ok
    · exact lfp_ok hn ho
set_option maxRecDepth 100000 in
set_option maxHeartbeats 4000000 in
theorem tlvs_any (a : Ta) (n : Nat) (v : Value) (h : List Pt) (w : World) (ha : a.In w) (hn : n < 1000000) (hl : PtLst w v h) (hin : ∀ p ∈ h, PtOk p) (h64 : h.length = 64) (hof : a.offs.length ≤ 64) :
    Ret Tryd.prog 21 #[.agg (taL a).toArray, .int .i64 n, v] w fun v' w' => MineS 69 42 w v' (a.lvs n h 64).length (rowsL lfv (a.lvs n h 64)) w' := by
  refine v_enter Tryd.func21 Tryd.ntmps21 rfl (by simp) fun R' hR => ?_
  have ca := (Ch.refl Nw w).alloc (.cells (taL a).toArray 67)
  have b0 := hp_alloc w (.cells (taL a).toArray 67)
  have hl1 := hl.ch' ca fun _ _ e => e
  have ha1 := ha.ch ca
  simp [go_sem]
  obtain ⟨g, hg⟩ : ∃ g, w.heap.size = g := ⟨_, rfl⟩
  rw [hg] at b0 ⊢
  have sa1 : (w.alloc (.cells (taL a).toArray 67)).heap.size = g + 1 := by simp [hg]
  generalize w.alloc (.cells (taL a).toArray 67) = w1 at *
  obtain ⟨Av, cv, hav, _, _, hcells⟩ := id ha1.sl
  have q0 : w1.cell? ⟨g, 0, none⟩ = some (.slice Av a.offs.length cv) := by rw [← hav]; exact cell_blk b0 0
  have q1 : w1.cell? ⟨g, 1, none⟩ = some (.int .u64 a.holes) := cell_blk b0 1
  have q2 : w1.cell? ⟨g, 2, none⟩ = some (.bool a.same) := cell_blk b0 2
  have hoff : ∀ (u : World), Ch Nw w1 u → ∀ i c, a.offs[i]? = some c → ∃ ad, Av = some ad ∧ u.cell? (ad.add i) = some (.int .u8 c.toNat) := fun u hc i c hi => by
    obtain ⟨ad, h1, h2⟩ := hcells (by rw [bvs_length]; have := (List.getElem?_eq_some_iff.1 hi).1; omega)
    exact ⟨ad, h1, hc.cell (h2 i _ (bvs_get hi)) id⟩
  have hlenA : ∀ w', (Builtin.len_ #[29] 3 #[.slice Av a.offs.length cv]).run Tryd.prog w' = .ok (.int .i64 a.offs.length) w' := fun w' => by rw [← hav]; exact ha1.sl.len Tryd.underlying29 3 w'
  have hlenH := hl1.len Tryd.underlying48 3
  refine v_loop (fun r f u => ∃ (k : Nat) (out : Value), r = 64 - k ∧ k ≤ 64 ∧ f 1 = .int .i64 n ∧ f 2 = v ∧ f 3 = .pointer (some ⟨g, 0, none⟩) ∧ f 7 = out ∧ f 8 = .int .i64 k ∧ MineS 69 42 w1 out (a.lvs n h k).length (rowsL lfv (a.lvs n h k)) u) 64
    ⟨0, .slice none 0 0, rfl, by omega, by simp, by simp, by simp, by simp, by simp, MineS.nil _ _ (Ch.refl _ _)⟩ ?_
  rintro J hJ _ f u ⟨k, out, rfl, hk, f1, f2, f3, f7, f8, hm⟩
  have cu := hm.ch
  have q0u := cu.cell q0 id
  have q1u := cu.cell q1 id
  have q2u := cu.cell q2 id
  by_cases hlt : k < 64
  · have hki : (k : Int) < 64 := by omega
    have hwk : IntKind.i64.wrap ((k : Int) + 1) = ((k + 1 : Nat) : Int) := by rw [IntKind.wrap_i64]; omega
    simp [go_sem, f8, hki]
    refine v_loop (fun r f u' => ∃ (i : Nat), r = a.offs.length - i ∧ i ≤ a.offs.length ∧ f 1 = .int .i64 n ∧ f 2 = v ∧ f 3 = .pointer (some ⟨g, 0, none⟩) ∧ f 7 = out ∧ f 8 = .int .i64 k ∧ f 9 = .bool ((a.offs.take i).any fun c => c.toNat % 64 == k) ∧ f 10 = .int .i64 i ∧ u' = u) a.offs.length
      ⟨0, rfl, by omega, by simp [f1], by simp [f2], by simp [f3], by simp [f7], by simp [f8], by simp, by simp, rfl⟩ ?_
    rintro J2 hJ2 _ f u' ⟨i, rfl, hi, f1, f2, f3, f7, f8, f9, f10, rfl⟩
    by_cases hil : i < a.offs.length
    · have hii : (i : Int) < a.offs.length := by omega
      have hwi : IntKind.i64.wrap ((i : Int) + 1) = ((i + 1 : Nat) : Int) := by rw [IntKind.wrap_i64]; omega
      obtain ⟨c, hc⟩ : ∃ c, a.offs[i]? = some c := ⟨_, List.getElem?_eq_getElem hil⟩
      have htk : (a.offs.take (i + 1)).any (fun c => c.toNat % 64 == k) = ((a.offs.take i).any (fun c => c.toNat % 64 == k) || (c.toNat % 64 == k)) := by
        rw [List.take_add_one, hc]
        simp
      obtain ⟨ad, hAv, hcc⟩ := hoff u' cu i c hc
      subst hAv
      have hc256 : c.toNat < 256 := c.toNat_lt
      have hr64 : ((c.toNat : Int)).tmod 64 = ((c.toNat % 64 : Nat) : Int) := by rw [Int.tmod_eq_emod_of_nonneg (by omega)]; omega
      have hwc : IntKind.i64.wrap (c.toNat : Int) = c.toNat := by rw [IntKind.wrap_i64]; omega
      have hwr : IntKind.i64.wrap ((c.toNat : Int) % 64) = (c.toNat : Int) % 64 := by rw [IntKind.wrap_i64]; omega
      have hek : (((c.toNat : Int) % 64) == (k : Int)) = (c.toNat % 64 == k) := by
        by_cases h : c.toNat % 64 = k
        · have h1 : (c.toNat : Int) % 64 = k := by omega
          rw [h1, h]
          simp
        · rw [beq_false_of_ne h, beq_false_of_ne (by omega)]
      cases hb : (a.offs.take i).any (fun c => c.toNat % 64 == k) with
      | true =>
        rw [hb] at f9 htk
        simp [go_sem, f3, f10, q0u, hlenA, hii, f9, hwi]
        exact Rnd.intro (a.offs.length - (i + 1)) (by omega) (hJ2 _ _ _ ⟨i + 1, rfl, by omega, by simp [f1], by simp [f2], by simp [f3], by simp [f7], by simp [f8], by simp [htk], by simp, rfl⟩)
      | false =>
        rw [hb] at f9 htk
        simp [go_sem, f3, f8, f10, q0u, hlenA, hii, hil, f9, hwi, hcc, hwc, hr64, hwr, hek]
        exact Rnd.intro (a.offs.length - (i + 1)) (by omega) (hJ2 _ _ _ ⟨i + 1, rfl, by omega, by simp [f1], by simp [f2], by simp [f3], by simp [f7], by simp [f8], by simp [htk], by simp, rfl⟩)
    · obtain rfl : i = a.offs.length := by omega
      rw [List.take_length] at f9
      have f9 : f 9 = .bool (a.has k) := f9
      simp [go_sem, f3, f10, q0u, hlenA]
      cases hb : a.has k with
      | false =>
        rw [hb] at f9
        simp [go_sem, f9, f8, hwk]
        exact Rnd.intro (64 - (k + 1)) (by omega) (hJ _ _ _ ⟨k + 1, out, rfl, by omega, by simp [f1], by simp [f2], by simp [f3], by simp [f7], by simp, by rw [Ta.lvs_step, hb, if_neg (by decide), List.append_nil]; exact hm⟩)
      | true =>
        rw [hb] at f9
        have hwn : IntKind.u64.wrap (n : Int) = n := by simp [IntKind.wrap, IntKind.bits, IntKind.signed]; omega
        have hwn1 : IntKind.u64.wrap ((n : Int) + 1) = ((n + 1 : Nat) : Int) := by simp [IntKind.wrap, IntKind.bits, IntKind.signed]; omega
        have hwku : IntKind.u32.wrap (k : Int) = k := by simp [IntKind.wrap, IntKind.bits, IntKind.signed]; omega
        have hni : ((n : Int) + 1) = ((n + 1 : Nat) : Int) := by omega
        simp [go_sem, f9, f1, f8, hwn, hwn1, hwku]
        rw [hni]
        refine (tleaf_any (n + 1) k u' (by omega) (by omega)).mono ?_
        rintro _ w2 ⟨rfl, c2⟩
        have okl := lfp_ok (n := n + 1) (off := k) (by omega) (by omega)
        have hls := pt_size okl
        have hla := pt_all okl
        have hzs := pt_size ptz_ok
        have hza := pt_all ptz_ok
        have cw2 := cu.trans c2
        have q12 := cw2.cell q1 id
        have q22 := cw2.cell q2 id
        have c3 := (Ch.refl Nw w2).alloc (.cells (pt (lfp (n + 1) k)) 28)
        have b3 := hp_alloc w2 (.cells (pt (lfp (n + 1) k)) 28)
        have q13 := c3.cell q12 id
        have q23 := c3.cell q22 id
        simp [go_sem, f3, f8, hz_pt, zc_pt, hls, hla, hzs, blit_whole, q13]
        obtain ⟨y, hy⟩ : ∃ y, a.holes / 2 ^ k = y := ⟨_, rfl⟩
        have hcast : ((a.holes : Int) / 2 ^ k) = (y : Int) := by rw [← hy, Int.natCast_ediv, Int.natCast_pow]; rfl
        have hdl : y ≤ a.holes := by rw [← hy]; exact Nat.div_le_self _ _
        have hhl := ha.holes
        have hbit : bits BinOp.and IntKind.u64 ((a.holes : Int) / 2 ^ k) 1 = ((y % 2 : Nat) : Int) := by
          rw [hcast, and_one_u64 _ (by omega) (by omega)]
          omega
        rw [hbit]
        have cw3 : Ch Nw w1 (w2.alloc (.cells (pt (lfp (n + 1) k)) 28)) := cw2.trans c3
        obtain ⟨g3, hg3⟩ : ∃ g3, w2.heap.size = g3 := ⟨_, rfl⟩
        rw [hg3] at b3 ⊢
        have sa3 : (w2.alloc (.cells (pt (lfp (n + 1) k)) 28)).heap.size = g3 + 1 := by simp [hg3]
        have m3 : MineS 69 42 w1 out (a.lvs n h k).length (rowsL lfv (a.lvs n h k)) (w2.alloc (.cells (pt (lfp (n + 1) k)) 28)) := hm.step (c2.trans c3)
        have hol : ∀ j, out.ownBlock = some j → j < g3 := fun j hj => by
          have h1 := own_in (own_ch hm.own c2 fun _ _ e => e) j hj
          omega
        have g3w : w1.heap.size ≤ g3 := by rw [← hg3]; exact cw2.size
        generalize w2.alloc (.cells (pt (lfp (n + 1) k)) 28) = w3 at *
        have hpt : a.pt n h k = if a.same then h.getD k ptz else if y % 2 = 1 then ptz else lfp (n + 1) k := by unfold Ta.pt; rw [hy]
        obtain ⟨x, hx⟩ : ∃ x, h[k]? = some x := ⟨_, List.getElem?_eq_getElem (by omega)⟩
        have hxd : h.getD k ptz = x := by rw [List.getD_eq_getElem?_getD, hx]; rfl
        rw [hxd] at hpt
        have okx := hin x (List.mem_of_getElem? hx)
        have hxs := pt_size okx
        have hxa := pt_all okx
        obtain ⟨b, of', c, cs, T, fr, hve, hbw, hex, hcs⟩ := hl1.elem (by decide) (fun q hq => pt_size (hin q hq)) hx
        have hb3 := cw3.obj hbw id
        have hblt : b < w1.heap.size := lt_of_block hbw
        have hbne : b ≠ g3 := by omega
        have hb3z : (w3.setRow g3 (pt ptz)).heap[b]? = some (.cells cs T fr) := by rw [hp_setRow_ne _ _ _ _ hbne]; exact hb3
        have b3z : (w3.setRow g3 (pt ptz)).heap[g3]? = some (.cells (pt ptz) 28 (0, 0)) := by rw [hp_setRow, b3]; rfl
        have cz : Ch (one g3) w3 (w3.setRow g3 (pt ptz)) := (Ch.refl (one g3) w3).setRow (.inl rfl) _
        have q23z : (w3.setRow g3 (pt ptz)).cell? ⟨g, 2, none⟩ = some (.bool a.same) := cz.cell q23 (by show ¬ g = g3; omega)
        subst hve
        have step : a.lvs n h (k + 1) = a.lvs n h k ++ [(k, a.pt n h k)] := by rw [Ta.lvs_step, hb, if_pos rfl]
        have hll := a.lvs_len n h k
        have hk64 : k < h.length := by omega
        have hbt0 : y % 2 = 0 ∨ y % 2 = 1 := by omega
        have hblx : ∀ {w : World} {K : Value → World → Prop}, VBld Tryd.prog 69 [(0, .int .u32 k), (1, .agg (pt x))] w K = K (.agg (lfv (k, x))) w := fun {w K} => bld_lf (x := (k, x)) ⟨by show k < _; omega, okx⟩
        have hblz : ∀ {w : World} {K : Value → World → Prop}, VBld Tryd.prog 69 [(0, .int .u32 k), (1, .agg (pt ptz))] w K = K (.agg (lfv (k, ptz))) w := fun {w K} => bld_lf (x := (k, ptz)) ⟨by show k < _; omega, ptz_ok⟩
        have hbll : ∀ {w : World} {K : Value → World → Prop}, VBld Tryd.prog 69 [(0, .int .u32 k), (1, .agg (pt (lfp (n + 1) k)))] w K = K (.agg (lfv (k, lfp (n + 1) k))) w := fun {w K} => bld_lf (x := (k, lfp (n + 1) k)) ⟨by show k < _; omega, okl⟩
        by_cases hbt : y % 2 = 1
        · cases hsm : a.same with
          | true =>
            rw [hsm] at q23z
            simp [↓VX_bsl1, go_sem, hbt, b3, bld_pt0, hls, hla, hzs, hza, hxs, hxa, blit_whole, q23z, f2, f3, f7, f8, hk64, hb3z, b3z, hex, hcs, hwku, hblx]
            have hpe : a.pt n h k = x := by rw [hpt, hsm]; rfl
            have c4 : Ch (one g3) w3 ((w3.setRow g3 (pt ptz)).setRow g3 (pt x)) := ((Ch.refl (one g3) w3).setRow (.inl rfl) _).setRow (.inl rfl) _
            have m4 : MineS 69 42 w1 out (a.lvs n h k).length (rowsL lfv (a.lvs n h k)) ((w3.setRow g3 (pt ptz)).setRow g3 (pt x)) := ⟨own_ch m3.own c4 fun j hj e => by have := hol j hj; simp only [one] at e; omega, m3.ch.trans' c4 fun j hj e => by simp only [one] at e; omega, m3.fresh⟩
            have okp : LfOk (k, x) := ⟨by show k < _; omega, okx⟩
            generalize (w3.setRow g3 (pt ptz)).setRow g3 (pt x) = w4 at *
            refine VBs_run (bsl_lf okp _) ?_
            simp [go_sem, f7]
            refine VB_app1S (us := (lfv (k, x)).toList) tyLf m4.own (by rw [Array.length_toList, lfv_size okp]) (ones_mem (lfv_ones _)) (by unfold maxLen; omega) (by omega) fun v6 w6 own6 cl6 ff6 => ?_
            simp [go_sem, f8, hwk]
            exact Rnd.intro (64 - (k + 1)) (by omega) (hJ _ _ _ ⟨k + 1, v6, rfl, by omega, by simp [f1], by simp [f2], by simp [f3], by simp, by simp, by
              rw [step, hpe, List.length_append, rowsL_append, rowsL_one]
              exact m4.grow own6 cl6 ff6⟩)
          | false =>
            rw [hsm] at q23z
            simp [↓VX_bsl1, go_sem, hbt, b3, bld_pt0, hls, hla, hzs, hza, hxs, hxa, blit_whole, q23z, f2, f3, f7, f8, hk64, hb3z, b3z, hex, hcs, hwku, hblz]
            have hpe : a.pt n h k = ptz := by rw [hpt, hsm]; simp [hbt]
            have c4 : Ch (one g3) w3 (w3.setRow g3 (pt ptz)) := (Ch.refl (one g3) w3).setRow (.inl rfl) _
            have m4 : MineS 69 42 w1 out (a.lvs n h k).length (rowsL lfv (a.lvs n h k)) (w3.setRow g3 (pt ptz)) := ⟨own_ch m3.own c4 fun j hj e => by have := hol j hj; simp only [one] at e; omega, m3.ch.trans' c4 fun j hj e => by simp only [one] at e; omega, m3.fresh⟩
            have okp : LfOk (k, ptz) := ⟨by show k < _; omega, ptz_ok⟩
            generalize w3.setRow g3 (pt ptz) = w4 at *
            refine VBs_run (bsl_lf okp _) ?_
            simp [go_sem, f7]
            refine VB_app1S (us := (lfv (k, ptz)).toList) tyLf m4.own (by rw [Array.length_toList, lfv_size okp]) (ones_mem (lfv_ones _)) (by unfold maxLen; omega) (by omega) fun v6 w6 own6 cl6 ff6 => ?_
            simp [go_sem, f8, hwk]
            exact Rnd.intro (64 - (k + 1)) (by omega) (hJ _ _ _ ⟨k + 1, v6, rfl, by omega, by simp [f1], by simp [f2], by simp [f3], by simp, by simp, by
              rw [step, hpe, List.length_append, rowsL_append, rowsL_one]
              exact m4.grow own6 cl6 ff6⟩)
        · have hbt0 : y % 2 = 0 := by omega
          cases hsm : a.same with
          | true =>
            rw [hsm] at q23
            simp [↓VX_bsl1, go_sem, hbt0, b3, bld_pt0, hls, hla, hzs, hza, hxs, hxa, blit_whole, q23, f2, f3, f7, f8, hk64, hb3, b3, hex, hcs, hwku, hblx]
            have hpe : a.pt n h k = x := by rw [hpt, hsm]; rfl
            have c4 : Ch (one g3) w3 (w3.setRow g3 (pt x)) := (Ch.refl (one g3) w3).setRow (.inl rfl) _
            have m4 : MineS 69 42 w1 out (a.lvs n h k).length (rowsL lfv (a.lvs n h k)) (w3.setRow g3 (pt x)) := ⟨own_ch m3.own c4 fun j hj e => by have := hol j hj; simp only [one] at e; omega, m3.ch.trans' c4 fun j hj e => by simp only [one] at e; omega, m3.fresh⟩
            have okp : LfOk (k, x) := ⟨by show k < _; omega, okx⟩
            generalize w3.setRow g3 (pt x) = w4 at *
            refine VBs_run (bsl_lf okp _) ?_
            simp [go_sem, f7]
            refine VB_app1S (us := (lfv (k, x)).toList) tyLf m4.own (by rw [Array.length_toList, lfv_size okp]) (ones_mem (lfv_ones _)) (by unfold maxLen; omega) (by omega) fun v6 w6 own6 cl6 ff6 => ?_
            simp [go_sem, f8, hwk]
            exact Rnd.intro (64 - (k + 1)) (by omega) (hJ _ _ _ ⟨k + 1, v6, rfl, by omega, by simp [f1], by simp [f2], by simp [f3], by simp, by simp, by
              rw [step, hpe, List.length_append, rowsL_append, rowsL_one]
              exact m4.grow own6 cl6 ff6⟩)
          | false =>
            rw [hsm] at q23
            simp [↓VX_bsl1, go_sem, hbt0, b3, bld_pt0, hls, hla, hzs, hza, hxs, hxa, blit_whole, q23, f2, f3, f7, f8, hk64, hb3, b3, hex, hcs, hwku, hbll]
            have hpe : a.pt n h k = lfp (n + 1) k := by rw [hpt, hsm]; simp [hbt]
            have c4 : Ch (one g3) w3 (w3) := Ch.refl _ _
            have m4 : MineS 69 42 w1 out (a.lvs n h k).length (rowsL lfv (a.lvs n h k)) (w3) := ⟨own_ch m3.own c4 fun j hj e => by have := hol j hj; simp only [one] at e; omega, m3.ch.trans' c4 fun j hj e => by simp only [one] at e; omega, m3.fresh⟩
            have okp : LfOk (k, lfp (n + 1) k) := ⟨by show k < _; omega, okl⟩
            refine VBs_run (bsl_lf okp _) ?_
            simp [go_sem, f7]
            refine VB_app1S (us := (lfv (k, lfp (n + 1) k)).toList) tyLf m4.own (by rw [Array.length_toList, lfv_size okp]) (ones_mem (lfv_ones _)) (by unfold maxLen; omega) (by omega) fun v6 w6 own6 cl6 ff6 => ?_
            simp [go_sem, f8, hwk]
            exact Rnd.intro (64 - (k + 1)) (by omega) (hJ _ _ _ ⟨k + 1, v6, rfl, by omega, by simp [f1], by simp [f2], by simp [f3], by simp, by simp, by
              rw [step, hpe, List.length_append, rowsL_append, rowsL_one]
              exact m4.grow own6 cl6 ff6⟩)
  · obtain rfl : k = 64 := by omega
    simp [go_sem, f8, f7]
    exact hR _ _ ⟨hm.own, ca.trans hm.ch, hm.fresh.mono (by omega)⟩
end Go.Proofs.YtppilgkgnofkpaaDoor
