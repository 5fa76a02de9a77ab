/- Which inodes may be, by the document; an inode's bytes, the program's and the document's. Condition: the variable ptr.wide holds what the text lays. -/
import Derived.Test.YtfcoiboeohgimaaDoorInB
namespace Go.Proofs.YtfcoiboeohgimaaDoor
open Go.RowKit Go.Kin

theorem rimay_any (x : In) (w : World) (ok : InOk x) : Ret Tryd.prog 24 #[.agg (ino x)] w fun v' w' => v' = .bool (mayI x) ∧ Ch Nw w w' := by
  refine v_enter Tryd.func24 Tryd.ntmps24 rfl (by simp) fun R' hR => ?_
  have hs := ino_size ok
  have ha := ino_all ok
  have hr := ino_r ok
  have heq := fun w => eq_rino w ok inz_ok
  have heqp := fun w => eq_pt w ok.r ptz_ok
  have c1 := (Ch.refl Nw w).alloc (.cells (ino x) 51)
  have hbeq : ∀ a b : Nat, ((a : Int) == (b : Int)) = eqb a b := fun a b => by
    by_cases h : a = b
    · simp [h, eqb]
    · rw [beq_false_of_ne (by omega), eqb_f h]
  have hb2 : ∀ a : Nat, ((a : Int) == 2) = eqb a 2 := fun a => hbeq a 2
  have hb3 : ∀ a : Nat, ((a : Int) == 3) = eqb a 3 := fun a => hbeq a 3
  by_cases hz : x = inz
  · subst hz
    simp [go_sem, hs, ha, bld_rino0, heq]
    exact hR _ _ ⟨by rw [show mayI inz = true by decide], c1⟩
  by_cases k1 : x.k < 1
  · have k1' : (x.k : Int) < 1 := by omega
    simp [go_sem, hs, ha, bld_rino0, heq, hz, ino_k, k1']
    exact hR _ _ ⟨by simp [mayI, show x.k = 0 by omega, hz], c1⟩
  have k1' : ¬ (x.k : Int) < 1 := by omega
  by_cases k3 : 3 < x.k
  · have k3' : (3 : Int) < x.k := by omega
    simp [go_sem, hs, ha, bld_rino0, heq, hz, ino_k, k1', k3']
    exact hR _ _ ⟨by simp [mayI, show ¬ x.k = 0 by omega, show ¬ x.k = 3 by omega, show ¬ x.k = 1 by omega, show ¬ x.k = 2 by omega], c1⟩
  have k3' : ¬ (3 : Int) < x.k := by omega
  by_cases s3 : 32768 < x.s
  · have s3' : (32768 : Int) < x.s := by omega
    simp [go_sem, hs, ha, bld_rino0, heq, hz, ino_k, ino_s, k1', k3', s3']
    exact hR _ _ ⟨by simp [mayI, show ¬ x.k = 0 by omega, show ¬ x.s ≤ 128 by omega, show ¬ x.s ≤ 32768 by omega], c1⟩
  have s3' : ¬ (32768 : Int) < x.s := by omega
  by_cases k : x.k = 3
  · have q3 := eqb_t k
    by_cases s1 : x.s < 1
    · have s1' : (x.s : Int) < 1 := by omega
      simp [go_sem, hs, ha, bld_rino0, heq, hz, ino_k, ino_s, k1', k3', s3', hb3, q3, s1']
      exact hR _ _ ⟨by simp [mayI, k, show x.s = 0 by omega], c1⟩
    have s1' : ¬ (x.s : Int) < 1 := by omega
    by_cases s2 : 128 < x.s
    · have s2' : (128 : Int) < x.s := by omega
      simp [go_sem, hs, ha, bld_rino0, heq, hz, ino_k, ino_s, k1', k3', s3', hb3, q3, s1', s2']
      exact hR _ _ ⟨by simp [mayI, k, show ¬ x.s ≤ 128 by omega], c1⟩
    have s2' : ¬ (128 : Int) < x.s := by omega
    have hm : mayI x = rootB x.r := by simp [mayI, k, show x.s ≠ 0 by omega, show x.s ≤ 128 by omega]
    by_cases hrz : x.r = ptz
    · rw [hrz] at hr heqp
      simp [go_sem, hs, ha, bld_rino0, heq, hz, ino_k, ino_s, k1', k3', s3', hb3, q3, s1', s2', hr, bld_pt0, heqp, hrz]
      exact hR _ _ ⟨by rw [hm]; simp [rootB, hrz], c1⟩
    · by_cases h3 : x.r.k = 3
      · have g3 := eqb_t h3
        by_cases h2 : x.r.l = 2
        · have g2 := eqb_t h2
          simp [go_sem, hs, ha, bld_rino0, heq, hz, ino_k, ino_s, k1', k3', s3', hb3, q3, s1', s2', hr, bld_pt0, heqp, hrz, ino_rk, ino_rl, hb2, hb3, g3, g2]
          refine (rmay_any x.r _ ok.r).mono ?_
          rintro _ w3 ⟨rfl, c3⟩
          rw [mayR_eq _ ok.r]
          simp [go_sem]
          exact hR _ _ ⟨by rw [hm]; simp [rootB, hrz, h3, h2], c1.trans c3⟩
        · have g2 := eqb_f h2
          simp [go_sem, hs, ha, bld_rino0, heq, hz, ino_k, ino_s, k1', k3', s3', hb3, q3, s1', s2', hr, bld_pt0, heqp, hrz, ino_rk, ino_rl, hb2, hb3, g3, g2]
          exact hR _ _ ⟨by rw [hm]; simp [rootB, hrz, h2], c1⟩
      · have g3 := eqb_f h3
        simp [go_sem, hs, ha, bld_rino0, heq, hz, ino_k, ino_s, k1', k3', s3', hb3, q3, s1', s2', hr, bld_pt0, heqp, hrz, ino_rk, hb3, g3]
        exact hR _ _ ⟨by rw [hm]; simp [rootB, hrz, h3], c1⟩
  have q3 := eqb_f k
  have hm : mayI x = rootB x.r := by simp [mayI, k, show x.k ≠ 0 by omega, show x.k = 1 ∨ x.k = 2 by omega, show x.s ≤ 32768 by omega]
  by_cases hrz : x.r = ptz
  · rw [hrz] at hr heqp
    simp [go_sem, hs, ha, bld_rino0, heq, hz, ino_k, ino_s, k1', k3', s3', hb3, q3, hr, bld_pt0, heqp, hrz]
    exact hR _ _ ⟨by rw [hm]; simp [rootB, hrz], c1⟩
  · by_cases h3 : x.r.k = 3
    · have g3 := eqb_t h3
      by_cases h2 : x.r.l = 2
      · have g2 := eqb_t h2
        simp [go_sem, hs, ha, bld_rino0, heq, hz, ino_k, ino_s, k1', k3', s3', hb3, q3, hr, bld_pt0, heqp, hrz, ino_rk, ino_rl, hb2, hb3, g3, g2]
        refine (rmay_any x.r _ ok.r).mono ?_
        rintro _ w3 ⟨rfl, c3⟩
        rw [mayR_eq _ ok.r]
        simp [go_sem]
        exact hR _ _ ⟨by rw [hm]; simp [rootB, hrz, h3, h2], c1.trans c3⟩
      · have g2 := eqb_f h2
        simp [go_sem, hs, ha, bld_rino0, heq, hz, ino_k, ino_s, k1', k3', s3', hb3, q3, hr, bld_pt0, heqp, hrz, ino_rk, ino_rl, hb2, hb3, g3, g2]
        exact hR _ _ ⟨by rw [hm]; simp [rootB, hrz, h2], c1⟩
    · have g3 := eqb_f h3
      simp [go_sem, hs, ha, bld_rino0, heq, hz, ino_k, ino_s, k1', k3', s3', hb3, q3, hr, bld_pt0, heqp, hrz, ino_rk, hb3, g3]
      exact hR _ _ ⟨by rw [hm]; simp [rootB, hrz, h3], c1⟩

/-- an inode's bytes -/
def putI (x : In) : List UInt8 := [UInt8.ofNat x.k, 0] ++ (le x.n 2 ++ (le x.s 4 ++ (putP x.r ++ zb 56)))
theorem putI_eq (x : In) : putI x = le x.k 1 ++ (zb 1 ++ (le x.n 2 ++ (le x.s 4 ++ (putP x.r ++ zb 56)))) := rfl
theorem putI_length {x : In} (ok : InOk x) : (putI x).length = 128 := by
  rw [putI_eq]
  simp [le_length, putP_length ok.r, zb_length]
theorem iput_any (x : In) (v : Value) (n : Nat) (l : List UInt8) (w : World) (ok : InOk x) (hn : n ≤ 900000) (hl : l.length = n) (hown : w.ownsRow 0 5 1 v n (bvs l)) :
    Ret Tryd.prog 55 #[.agg (ino x), v] w (Onto w v n l 128 (putI x)) := by
  have hlv := own_block_lt hown
  have hlen := Sl.len (Sl.of_own hown) Tryd.underlying30 3
  have hw1 : IntKind.i64.wrap ((n : Int) + 128) = ((n + 128 : Nat) : Int) := by simp [IntKind.wrap_i64]; omega
  have hs := ino_size ok
  have hr := ino_r ok
  refine v_enter Tryd.func55 Tryd.ntmps55 rfl (by simp) fun R' hR => ?_
  simp [go_sem, hlen, hw1]
  have hb := hp_alloc w (.cells (ino x) 53)
  have hc := (Ch.refl Nw w).alloc (.cells (ino x) 53)
  have hown1 := hown.alloc (.cells (ino x) 53)
  revert hb hc hown1
  generalize w.alloc (.cells (ino x) 53) = w1
  generalize hg : w.heap.size = g
  intro hb hc hown1
  have ck := (cell_blk hb 0).trans ino_k
  have cn := (cell_blk hb 1).trans ino_n
  refine v_draw' [(0, none), (1, none), (2, none), (5, none), (6, none), (3, some [0, 5, 6]), (4, some [5, 6]), (7, some []), (8, none)] (by kernel_rfl) (by kernel_rfl) ?_
  have hc2 := ((Ch.refl Nw w1).alloc (.cells #[.int .u8 x.k, .int .u8 0] 5)).drew
  have cn2 := hc2.cell cn id
  simp [go_sem, ck, cn, cn2]
  have hq : (w1.alloc (.cells #[.int .u8 x.k, .int .u8 0] 5)).drew.heap[w1.heap.size]? = some (.cells #[.int .u8 x.k, .int .u8 0] 5 (0, 0)) := by simp
  have hown2 : (w1.alloc (.cells #[.int .u8 x.k, .int .u8 0] 5)).drew.ownsRow 0 5 1 v n (bvs l) := hown1.alloc _
  have hb2 := hc2.hp hb id
  have hc02 := hc.trans hc2
  revert hq hown2 hb2 hc02
  generalize (w1.alloc (.cells #[.int .u8 x.k, .int .u8 0] 5)).drew = w2
  intro hq hown2 hb2 hc02
  have hkl : [Value.int .u8 x.k, .int .u8 0] = bvs [UInt8.ofNat x.k, 0] := by
    have h1 := ok.k
    simp [bvs, bv_ofNat, bv]
    omega
  refine VB_appn tyB hown2 (y := .slice (some ⟨w1.heap.size, 0, none⟩) 2 2) (m := 2) (ys := bvs [UInt8.ofNat x.k, 0]) (Sl.of_blk hq (Nat.le_refl _) (by decide) (by rw [← hkl]; rfl)) rfl (bvs_one _) (by unfold maxLen; omega) (by omega) fun v3 w3 k4 k5 k6 => ?_
  have o3 : Onto w2 v n l 2 [UInt8.ofNat x.k, 0] v3 w3 := ⟨by rw [bvs_append]; exact k4, k5, k6⟩
  have keep : ∀ {v' w' m ys}, Onto w2 v n l m ys v' w' → w'.heap[g]? = some (.cells (ino x) 53 (0, 0)) := fun h => h.2.1.hp hb2 fun e => by have := hlv _ e; omega
  have cn3 := (cell_blk (keep o3) 1).trans ino_n
  simp [go_sem, cn3]
  refine (wu16 v3 (n + 2) (l ++ [UInt8.ofNat x.k, 0]) x.n w3 ok.n (by omega) o3.1).mono ?_
  intro v4 w4 q4
  have o4 := o3.trans q4
  have b4 := keep o4
  simp [go_sem]
  refine v_draw' [(0, none), (1, none), (2, none), (4, none), (5, none), (7, none), (3, some [4, 5, 7]), (6, some [7]), (8, some []), (9, none)] (by kernel_rfl) (by kernel_rfl) ?_
  have cf4 := (cell_blk b4 2).trans ino_s
  simp [go_sem, cf4, b4, hs, hr]
  refine (wu32 v4 _ _ x.s w4.drew ok.s (by omega) o4.1).mono ?_
  intro v5 w5 q5
  have o5 := o4.trans (Onto.from (Ch.refl Nw w4).drew q5)
  have b5 := keep o5
  simp [go_sem, b5, hs, hr]
  have hl5 : (l ++ ([UInt8.ofNat x.k, 0] ++ le x.n 2 ++ le x.s 4)).length = n + (2 + 2 + 4) := by simp [hl, le_length]
  refine (pput_any v5 _ _ x.r w5 ok.r (by omega) hl5 o5.1).mono ?_
  intro v6 w6 q6
  have o6 := o5.trans q6
  simp [go_sem]
  have hl6 : (l ++ ([UInt8.ofNat x.k, 0] ++ le x.n 2 ++ le x.s 4 ++ putP x.r)).length = n + (2 + 2 + 4 + 64) := by simp [hl, le_length, putP_length ok.r]
  refine (fill_any v6 _ _ ((n : Int) + 128) w6 (by omega) (by omega) hl6 o6.1).mono ?_
  intro v9 w9 q9
  have o9 := o6.trans q9
  have e8 : ((n : Int) + 128).toNat - (n + (2 + 2 + 4 + 64)) = 56 := by omega
  rw [e8] at o9
  simp [go_sem]
  refine hR _ _ (Onto.from hc02 ?_)
  have hp : [UInt8.ofNat x.k, 0] ++ le x.n 2 ++ le x.s 4 ++ putP x.r ++ List.replicate 56 0 = putI x := by
    simp only [putI, List.append_assoc]
    rfl
  rw [hp] at o9
  exact o9
theorem rbytesI_any (x : In) (w : World) (ok : InOk x) : Ret Tryd.prog 56 #[.agg (ino x)] w fun v' w' => Mine 5 w v' 128 (bvs (putI x)) w' := by
  refine v_enter Tryd.func56 Tryd.ntmps56 rfl (by simp) fun R' hR => ?_
  have hs := ino_size ok
  have hr := ino_r ok
  have wn := ok.n
  have wsz := ok.s
  have wn' : IntKind.u64.wrap (x.n : Int) = x.n := by simp [IntKind.wrap_u64]; omega
  have ws' : IntKind.u64.wrap (x.s : Int) = x.s := by simp [IntKind.wrap_u64]; omega
  simp [go_sem, ino_k, ino_n, wn']
  have hb := al2_0 w (.cells (ino x) 51) (.cells #[.int .u8 x.k, .int .u8 0] 5)
  have hc := ((Ch.refl Nw w).alloc (.cells (ino x) 51)).alloc (.cells #[.int .u8 x.k, .int .u8 0] 5)
  have hkl : [Value.int .u8 x.k, .int .u8 0] = bvs [UInt8.ofNat x.k, 0] := by
    have h1 := ok.k
    simp [bvs, bv_ofNat, bv]
    omega
  have hm : Mine 5 w (.slice (some ⟨w.heap.size + 1, 0, none⟩) 2 2) 2 (bvs [UInt8.ofNat x.k, 0]) ((w.alloc (.cells (ino x) 51)).alloc (.cells #[.int .u8 x.k, .int .u8 0] 5)) := by
    refine ⟨?_, hc, fun k hk => ?_⟩
    · have := World.ownsRow_lit (base := 0) (e := 5) (size := 1) (w.alloc (.cells (ino x) 51)) #[.int .u8 x.k, .int .u8 0] 2 (Nat.zero_le _) (by decide) rfl
      rw [← hkl]
      simpa using this
    · simp [Value.ownBlock] at hk
      omega
  revert hb hc hm
  generalize (w.alloc (.cells (ino x) 51)).alloc (.cells #[.int .u8 x.k, .int .u8 0] 5) = w1
  generalize hg : w.heap.size = g
  intro hb hc hm
  have o2 : Onto w1 (.slice (some ⟨g + 1, 0, none⟩) 2 2) 2 [UInt8.ofNat x.k, 0] 0 [] (.slice (some ⟨g + 1, 0, none⟩) 2 2) w1 := Onto.refl hm.own
  have keep : ∀ {v' w' m ys}, Onto w1 (.slice (some ⟨g + 1, 0, none⟩) 2 2) 2 [UInt8.ofNat x.k, 0] m ys v' w' → w'.heap[g]? = some (.cells (ino x) 51 (0, 0)) := fun h => h.2.1.hp hb fun e => by simp [Value.ownBlock] at e
  have fin : ∀ {v' w' m ys}, Onto w1 (.slice (some ⟨g + 1, 0, none⟩) 2 2) 2 [UInt8.ofNat x.k, 0] m ys v' w' → Ch Nw w w' := fun h => hc.trans' h.2.1 fun j hj e => by
    simp [Value.ownBlock] at e
    omega
  have app : ∀ {v w v2 w2 m ys k zs} {K : Value → World → Prop} {ty : TypeId}, Onto w1 (.slice (some ⟨g + 1, 0, none⟩) 2 2) 2 [UInt8.ofNat x.k, 0] m ys v w → w2.ownsRow 0 5 1 v2 k (bvs zs) → Ch Nw w w2 → m + k ≤ 1000 → zs.length = k →
      (∀ v3 w3, Onto w1 (.slice (some ⟨g + 1, 0, none⟩) 2 2) 2 [UInt8.ofNat x.k, 0] (m + k) (ys ++ zs) v3 w3 → K v3 w3) → VB Tryd.prog .append #[30, 30] ty #[v, v2] w2 K := by
    intro v w v2 w2 m ys k zs K ty h1 h2 h3 h4 h5 h6
    refine VB_appn tyB (own_ch h1.1 h3 fun _ _ e => e) (Sl.of_own h2) (by rw [bvs_length]; exact h5) (bvs_one _) (by unfold maxLen; omega) (by omega) fun v3 w3 d4 d5 d6 => ?_
    exact h6 _ _ (h1.trans (Onto.from h3 ⟨by rw [bvs_append]; exact d4, d5, d6⟩))
  refine (refNum x.n 2 w1 (by omega) (by decide)).mono ?_
  rintro v2 w2 ⟨k1, k2, k3⟩
  simp [go_sem]
  refine app o2 k1 k2 (by omega) (le_length _ _) fun v3 w3 o3 => ?_
  have cf := (cell_blk (keep o3) 2).trans ino_s
  simp [go_sem, cf, ws']
  refine (refNum x.s 4 w3 (by omega) (by decide)).mono ?_
  rintro v4 w4 ⟨k1, k2, k3⟩
  simp [go_sem]
  refine app o3 k1 k2 (by omega) (le_length _ _) fun v5 w5 o5 => ?_
  simp [go_sem, keep o5, hs, hr]
  refine (rbytes_any x.r w5 ok.r).mono ?_
  intro v6 w6 k1
  simp [go_sem]
  refine app o5 k1.own k1.ch (by omega) (putP_length ok.r) fun v7 w7 o7 => ?_
  simp [go_sem]
  have hall : ([UInt8.ofNat x.k, 0] ++ ([] ++ le x.n 2 ++ le x.s 4 ++ putP x.r)).length = 72 := by simp [le_length, putP_length ok.r]
  have hsl := Sl.of_own o7.1
  have hn72 : 2 + (0 + 2 + 4 + 64) = ([UInt8.ofNat x.k, 0] ++ ([] ++ le x.n 2 ++ le x.s 4 ++ putP x.r)).length := by rw [hall]
  rw [hn72] at hsl
  refine (refFill v7 _ 128 w7 (by omega) (by omega) hsl).mono ?_
  rintro v8 w8 ⟨k1, k2, k3⟩
  rw [hall] at k1
  simp [go_sem]
  refine hR _ _ ⟨?_, (fin o7).trans k2, k3.mono (fin o7).size⟩
  have hp : [UInt8.ofNat x.k, 0] ++ ([] ++ le x.n 2 ++ le x.s 4 ++ putP x.r) ++ List.replicate ((128 : Int).toNat - 72) 0 = putI x := by
    simp only [putI, List.append_assoc, List.nil_append]
    rfl
  rw [hp] at k1
  exact k1
end Go.Proofs.YtfcoiboeohgimaaDoor
