/- What inode's Block.Put, Count, Leaf and the document's Block answer, as contracts on calls. Conditions: the variables ptr.wide and inode.leaves hold what the text lays. -/
import Derived.Test.YtnefdmbdkljifaaGreatDoorInB
set_option linter.unusedSimpArgs false
set_option linter.unusedVariables false

/- Which inodes may be, by the document; an inode's bytes, the program's and the document's. Condition: the variable ptr.wide holds what the text lays. -/
namespace Go.Proofs.YtnefdmbdkljifaaGreatDoor
open Go.RowKit Go.Kin

theorem rimay_any (x : In) (w : World) (ok : InOk x) : Ret Tryz.prog 31 #[.agg (ino x)] w fun v' w' => v' = .bool (mayI x) ∧ Ch Nw w w' := by
  refine v_enter Tryz.func31 Tryz.ntmps31 rfl (by simp) fun R' hR => ?_
  have hs := ino_size ok
  have ha := ino_all ok
  have hr := ino_r ok
  have heq := fun w => eq_rino w ok inz_ok
  have heqp := fun w => eq_pt w ok.r ptz_ok
  have c1 := (Ch.refl Nw w).alloc (.cells (ino x) 50)
  have hbeq : ∀ a b : Nat, ((a : Int) == (b : Int)) = eqb a b := fun a b => by
    by_cases h : a = b
    · simp [h, eqb]
    · rw [beq_false_of_ne (by omega), eqb_f h]
  have hb2 : ∀ a : Nat, ((a : Int) == 2) = eqb a 2 := fun a => hbeq a 2
  have hb3 : ∀ a : Nat, ((a : Int) == 3) = eqb a 3 := fun a => hbeq a 3
  by_cases hz : x = inz
  · subst hz
    simp [go_sem, hs, ha, bld_rino0, heq]
    exact hR _ _ ⟨by rw [show mayI inz = true by decide], c1⟩
  by_cases k1 : x.k < 1
  · have k1' : (x.k : Int) < 1 := by omega
    simp [go_sem, hs, ha, bld_rino0, heq, hz, ino_k, k1']
    exact hR _ _ ⟨by simp [mayI, show x.k = 0 by omega, hz], c1⟩
  have k1' : ¬ (x.k : Int) < 1 := by omega
  by_cases k3 : 3 < x.k
  · have k3' : (3 : Int) < x.k := by omega
    simp [go_sem, hs, ha, bld_rino0, heq, hz, ino_k, k1', k3']
    exact hR _ _ ⟨by simp [mayI, show ¬ x.k = 0 by omega, show ¬ x.k = 3 by omega, show ¬ x.k = 1 by omega, show ¬ x.k = 2 by omega], c1⟩
  have k3' : ¬ (3 : Int) < x.k := by omega
  by_cases s3 : 32768 < x.s
  · have s3' : (32768 : Int) < x.s := by omega
    simp [go_sem, hs, ha, bld_rino0, heq, hz, ino_k, ino_s, k1', k3', s3']
    exact hR _ _ ⟨by simp [mayI, show ¬ x.k = 0 by omega, show ¬ x.s ≤ 128 by omega, show ¬ x.s ≤ 32768 by omega], c1⟩
  have s3' : ¬ (32768 : Int) < x.s := by omega
  by_cases k : x.k = 3
  · have q3 := eqb_t k
    by_cases s1 : x.s < 1
    · have s1' : (x.s : Int) < 1 := by omega
      simp [go_sem, hs, ha, bld_rino0, heq, hz, ino_k, ino_s, k1', k3', s3', hb3, q3, s1']
      exact hR _ _ ⟨by simp [mayI, k, show x.s = 0 by omega], c1⟩
    have s1' : ¬ (x.s : Int) < 1 := by omega
    by_cases s2 : 128 < x.s
    · have s2' : (128 : Int) < x.s := by omega
      simp [go_sem, hs, ha, bld_rino0, heq, hz, ino_k, ino_s, k1', k3', s3', hb3, q3, s1', s2']
      exact hR _ _ ⟨by simp [mayI, k, show ¬ x.s ≤ 128 by omega], c1⟩
    have s2' : ¬ (128 : Int) < x.s := by omega
    have hm : mayI x = rootB x.r := by simp [mayI, k, show x.s ≠ 0 by omega, show x.s ≤ 128 by omega]
    by_cases hrz : x.r = ptz
    · rw [hrz] at hr heqp
      simp [go_sem, hs, ha, bld_rino0, heq, hz, ino_k, ino_s, k1', k3', s3', hb3, q3, s1', s2', hr, bld_pt0, heqp, hrz]
      exact hR _ _ ⟨by rw [hm]; simp [rootB, hrz], c1⟩
    · by_cases h3 : x.r.k = 3
      · have g3 := eqb_t h3
        by_cases h2 : x.r.l = 2
        · have g2 := eqb_t h2
          simp [go_sem, hs, ha, bld_rino0, heq, hz, ino_k, ino_s, k1', k3', s3', hb3, q3, s1', s2', hr, bld_pt0, heqp, hrz, ino_rk, ino_rl, hb2, hb3, g3, g2]
          refine (rmay_any x.r _ ok.r).mono ?_
          rintro _ w3 ⟨rfl, c3⟩
          rw [mayR_eq _ ok.r]
          simp [go_sem]
          exact hR _ _ ⟨by rw [hm]; simp [rootB, hrz, h3, h2], c1.trans c3⟩
        · have g2 := eqb_f h2
          simp [go_sem, hs, ha, bld_rino0, heq, hz, ino_k, ino_s, k1', k3', s3', hb3, q3, s1', s2', hr, bld_pt0, heqp, hrz, ino_rk, ino_rl, hb2, hb3, g3, g2]
          exact hR _ _ ⟨by rw [hm]; simp [rootB, hrz, h2], c1⟩
      · have g3 := eqb_f h3
        simp [go_sem, hs, ha, bld_rino0, heq, hz, ino_k, ino_s, k1', k3', s3', hb3, q3, s1', s2', hr, bld_pt0, heqp, hrz, ino_rk, hb3, g3]
        exact hR _ _ ⟨by rw [hm]; simp [rootB, hrz, h3], c1⟩
  have q3 := eqb_f k
  have hm : mayI x = rootB x.r := by simp [mayI, k, show x.k ≠ 0 by omega, show x.k = 1 ∨ x.k = 2 by omega, show x.s ≤ 32768 by omega]
  by_cases hrz : x.r = ptz
  · rw [hrz] at hr heqp
    simp [go_sem, hs, ha, bld_rino0, heq, hz, ino_k, ino_s, k1', k3', s3', hb3, q3, hr, bld_pt0, heqp, hrz]
    exact hR _ _ ⟨by rw [hm]; simp [rootB, hrz], c1⟩
  · by_cases h3 : x.r.k = 3
    · have g3 := eqb_t h3
      by_cases h2 : x.r.l = 2
      · have g2 := eqb_t h2
        simp [go_sem, hs, ha, bld_rino0, heq, hz, ino_k, ino_s, k1', k3', s3', hb3, q3, hr, bld_pt0, heqp, hrz, ino_rk, ino_rl, hb2, hb3, g3, g2]
        refine (rmay_any x.r _ ok.r).mono ?_
        rintro _ w3 ⟨rfl, c3⟩
        rw [mayR_eq _ ok.r]
        simp [go_sem]
        exact hR _ _ ⟨by rw [hm]; simp [rootB, hrz, h3, h2], c1.trans c3⟩
      · have g2 := eqb_f h2
        simp [go_sem, hs, ha, bld_rino0, heq, hz, ino_k, ino_s, k1', k3', s3', hb3, q3, hr, bld_pt0, heqp, hrz, ino_rk, ino_rl, hb2, hb3, g3, g2]
        exact hR _ _ ⟨by rw [hm]; simp [rootB, hrz, h2], c1⟩
    · have g3 := eqb_f h3
      simp [go_sem, hs, ha, bld_rino0, heq, hz, ino_k, ino_s, k1', k3', s3', hb3, q3, hr, bld_pt0, heqp, hrz, ino_rk, hb3, g3]
      exact hR _ _ ⟨by rw [hm]; simp [rootB, hrz, h3], c1⟩

/-- an inode's bytes -/
def putI (x : In) : List UInt8 := [UInt8.ofNat x.k, 0] ++ (le x.n 2 ++ (le x.s 4 ++ (putP x.r ++ zb 56)))
theorem putI_eq (x : In) : putI x = le x.k 1 ++ (zb 1 ++ (le x.n 2 ++ (le x.s 4 ++ (putP x.r ++ zb 56)))) := rfl
theorem putI_length {x : In} (ok : InOk x) : (putI x).length = 128 := by
  rw [putI_eq]
  simp [le_length, putP_length ok.r, zb_length]
theorem iput_any (x : In) (v : Value) (n : Nat) (l : List UInt8) (w : World) (ok : InOk x) (hn : n ≤ 900000) (hl : l.length = n) (hown : w.ownsRow 0 5 1 v n (bvs l)) :
    Ret Tryz.prog 79 #[.agg (ino x), v] w (Onto w v n l 128 (putI x)) := by
  have hlv := own_block_lt hown
  have hlen := Sl.len (Sl.of_own hown) Tryz.underlying62 3
  have hw1 : IntKind.i64.wrap ((n : Int) + 128) = ((n + 128 : Nat) : Int) := by simp [IntKind.wrap_i64]; omega
  have hs := ino_size ok
  have hr := ino_r ok
  refine v_enter Tryz.func79 Tryz.ntmps79 rfl (by simp) fun R' hR => ?_
  simp [go_sem, hlen, hw1]
  have hb := hp_alloc w (.cells (ino x) 56)
  have hc := (Ch.refl Nw w).alloc (.cells (ino x) 56)
  have hown1 := hown.alloc (.cells (ino x) 56)
  revert hb hc hown1
  generalize w.alloc (.cells (ino x) 56) = w1
  generalize hg : w.heap.size = g
  intro hb hc hown1
  have ck := (cell_blk hb 0).trans ino_k
  have cn := (cell_blk hb 1).trans ino_n
  refine v_draw' [(0, none), (1, none), (2, none), (5, none), (6, none), (3, some [0, 5, 6]), (4, some [5, 6]), (7, some []), (8, none)] (by kernel_rfl) (by kernel_rfl) ?_
  have hc2 := ((Ch.refl Nw w1).alloc (.cells #[.int .u8 x.k, .int .u8 0] 5)).drew
  have cn2 := hc2.cell cn id
  simp [go_sem, ck, cn, cn2]
  have hq : (w1.alloc (.cells #[.int .u8 x.k, .int .u8 0] 5)).drew.heap[w1.heap.size]? = some (.cells #[.int .u8 x.k, .int .u8 0] 5 (0, 0)) := by simp
  have hown2 : (w1.alloc (.cells #[.int .u8 x.k, .int .u8 0] 5)).drew.ownsRow 0 5 1 v n (bvs l) := hown1.alloc _
  have hb2 := hc2.hp hb id
  have hc02 := hc.trans hc2
  revert hq hown2 hb2 hc02
  generalize (w1.alloc (.cells #[.int .u8 x.k, .int .u8 0] 5)).drew = w2
  intro hq hown2 hb2 hc02
  have hkl : [Value.int .u8 x.k, .int .u8 0] = bvs [UInt8.ofNat x.k, 0] := by
    have h1 := ok.k
    simp [bvs, bv_ofNat, bv]
    omega
  refine VB_appn tyB hown2 (y := .slice (some ⟨w1.heap.size, 0, none⟩) 2 2) (m := 2) (ys := bvs [UInt8.ofNat x.k, 0]) (Sl.of_blk hq (Nat.le_refl _) (by decide) (by rw [← hkl]; rfl)) rfl (bvs_one _) (by unfold maxLen; omega) (by omega) fun v3 w3 k4 k5 k6 => ?_
  have o3 : Onto w2 v n l 2 [UInt8.ofNat x.k, 0] v3 w3 := ⟨by rw [bvs_append]; exact k4, k5, k6⟩
  have keep : ∀ {v' w' m ys}, Onto w2 v n l m ys v' w' → w'.heap[g]? = some (.cells (ino x) 56 (0, 0)) := fun h => h.2.1.hp hb2 fun e => by have := hlv _ e; omega
  have cn3 := (cell_blk (keep o3) 1).trans ino_n
  simp [go_sem, cn3]
  refine (wu16 v3 (n + 2) (l ++ [UInt8.ofNat x.k, 0]) x.n w3 ok.n (by omega) o3.1).mono ?_
  intro v4 w4 q4
  have o4 := o3.trans q4
  have b4 := keep o4
  simp [go_sem]
  refine v_draw' [(0, none), (1, none), (2, none), (4, none), (5, none), (7, none), (3, some [4, 5, 7]), (6, some [7]), (8, some []), (9, none)] (by kernel_rfl) (by kernel_rfl) ?_
  have cf4 := (cell_blk b4 2).trans ino_s
  simp [go_sem, cf4, b4, hs, hr]
  refine (wu32 v4 _ _ x.s w4.drew ok.s (by omega) o4.1).mono ?_
  intro v5 w5 q5
  have o5 := o4.trans (Onto.from (Ch.refl Nw w4).drew q5)
  have b5 := keep o5
  simp [go_sem, b5, hs, hr]
  have hl5 : (l ++ ([UInt8.ofNat x.k, 0] ++ le x.n 2 ++ le x.s 4)).length = n + (2 + 2 + 4) := by simp [hl, le_length]
  refine (pput_any v5 _ _ x.r w5 ok.r (by omega) hl5 o5.1).mono ?_
  intro v6 w6 q6
  have o6 := o5.trans q6
  simp [go_sem]
  have hl6 : (l ++ ([UInt8.ofNat x.k, 0] ++ le x.n 2 ++ le x.s 4 ++ putP x.r)).length = n + (2 + 2 + 4 + 64) := by simp [hl, le_length, putP_length ok.r]
  refine (fill_any v6 _ _ ((n : Int) + 128) w6 (by omega) (by omega) hl6 o6.1).mono ?_
  intro v9 w9 q9
  have o9 := o6.trans q9
  have e8 : ((n : Int) + 128).toNat - (n + (2 + 2 + 4 + 64)) = 56 := by omega
  rw [e8] at o9
  simp [go_sem]
  refine hR _ _ (Onto.from hc02 ?_)
  have hp : [UInt8.ofNat x.k, 0] ++ le x.n 2 ++ le x.s 4 ++ putP x.r ++ List.replicate 56 0 = putI x := by
    simp only [putI, List.append_assoc]
    rfl
  rw [hp] at o9
  exact o9
end Go.Proofs.YtnefdmbdkljifaaGreatDoor

namespace Go.Proofs.YtnefdmbdkljifaaGreatDoor
open Go.RowKit Go.Kin

def bytesI (xs : List In) : List UInt8 := xs.flatMap putI
theorem bytesI_length : ∀ (xs : List In), (∀ x ∈ xs, InOk x) → (bytesI xs).length = 128 * xs.length
  | [], _ => rfl
  | p :: ps, h => by
    have := bytesI_length ps fun q hq => h q (by simp [hq])
    have hp := putI_length (h p (by simp))
    simp only [bytesI, List.flatMap_cons, List.length_append, List.length_cons] at *
    rw [this, hp]; omega
theorem made_zb (n : Nat) : madeCells (Value.int .u8 0).cells (n * 1) = (bvs (zb n)).toArray := by
  apply Array.ext'
  apply List.ext_getElem?
  intro i
  simp [madeCells, zb, bvs, bv, Value.cells]
  by_cases h : i < n
  · simp [h, Nat.mod_one]
  · simp [h]
theorem mk_zb (n : Nat) (w : World) (hn : n ≤ 1000000) : (Instr.makeSlice 62 (.int .i64 n) (.int .i64 n)).run Tryz.prog w = .ok (.slice (some ⟨w.heap.size, 0, none⟩) n n) (w.alloc (.cells (bvs (zb n)).toArray 5)) := by
  have h1 : (Tryz.prog.info? 5).isSome = true := by kernel_rfl
  obtain ⟨i, hi⟩ := Option.isSome_iff_exists.1 h1
  have h2 : (Tryz.prog.info? 5).map (·.size) = some 1 := by kernel_rfl
  have h3 : (Tryz.prog.info? 5).map (·.bytes) = some 1 := by kernel_rfl
  have h4 : (Tryz.prog.info? 5).bind (·.zero) = some (.int .u8 0) := by kernel_rfl
  rw [hi] at h2 h3 h4
  simp at h2 h3 h4
  have := run_makeSlice (P := Tryz.prog) w 62 5 i _ Tryz.underlying62 hi h4 .i64 .i64 n n (by omega) (Int.le_refl _) (by rw [h2]; omega) (by rw [h3]; omega) (by omega)
  rw [this, h2]
  simp only [Int.toNat_natCast, made_zb]
theorem bytes_ibz : bytesI ibz = zb 512 := by decide +kernel
theorem may_inz : mayI inz = true := by decide
theorem may_ibz : ibz.all mayI = true := by decide
/-- what Put answers -/
def IPut (xs : List In) (w : World) (v' : Value) (w' : World) : Prop :=
  ∃ s e, v' = .tuple #[s, .int .i64 e] ∧ Ch Nw w w' ∧ ((e = 0 ∧ xs.all mayI = true ∧ Sl w' s (bytesI xs).length (bvs (bytesI xs))) ∨ (e = 5 ∧ xs.all mayI = false ∧ s = .slice none 0 0))
theorem ibput_any (xs : List In) (w : World) (ok : IbOk xs) (hw : Lw w) : Ret Tryz.prog 50 #[.agg (ib xs)] w (IPut xs w) := by
  refine v_enter Tryz.func50 Tryz.ntmps50 rfl (by simp) fun R' hR => ?_
  have hsz := ib_size ok
  have hall := ib_all ok
  have hc := (Ch.refl Nw w).alloc (.cells (ib xs) 100)
  have heq := fun w => eq_ib w ok ibz_ok
  by_cases hz : xs = ibz
  · subst hz
    have hmk := mk_zb 512 (w.alloc (.cells (ib ibz) 100)) (by decide)
    have z512 : ((512 : Nat) : Int) = 512 := rfl
    rw [z512] at hmk
    have bM := hp_alloc (w.alloc (.cells (ib ibz) 100)) (.cells (bvs (zb 512)).toArray 5)
    have hsl := Sl.of_blk bM (n := 512) (c := 512) (off := 0) (xs := bvs (zb 512)) (Nat.le_refl _) (by decide) (by simp only [List.drop_zero]; rw [List.take_of_length_le (by simp [bvs_length, zb_length])])
    simp [go_sem, hsz, hall, bld_ib0, heq]
    rw [hmk]
    simp [go_sem]
    refine hR _ _ ⟨_, 0, rfl, hc.alloc _, .inl ⟨rfl, may_ibz, ?_⟩⟩
    rw [bytes_ibz, zb_length]
    simpa using hsl
  simp [go_sem, hsz, hall, bld_ib0, heq, hz]
  revert hc
  generalize w.alloc (.cells (ib xs) 100) = w1
  intro hc
  refine v_loop (fun r f wr => ∃ k, k ≤ 4 ∧ r = 4 - k ∧ f 11 = .agg (ib xs) ∧ f 12 = .int .i64 k ∧ (xs.take k).all mayI = true ∧ Mine 5 w (f 4) (128 * k) (bvs (bytesI (xs.take k))) wr) 4
    ⟨0, by omega, rfl, by simp, by simp, by simp, by simpa [bytesI, bvs] using Mine.nil _ hc⟩ ?_
  rintro J hJ _ f wr ⟨k, hk, rfl, h11, h12, ha, hm⟩
  by_cases hk4 : k < 4
  · have hki : (k : Int) < 4 := by omega
    obtain ⟨x, hx, okx⟩ := ok.at' hk4
    have hix := ib_index ok hk4 hx
    have hs1 := ino_size okx
    have ha1 := ino_all okx
    have hwk : IntKind.i64.wrap ((k : Int) + 1) = ((k + 1 : Nat) : Int) := by simp [IntKind.wrap_i64]; omega
    have htk : xs.take (k + 1) = xs.take k ++ [x] := by rw [List.take_add_one, hx]; rfl
    have htl : (bytesI (xs.take k)).length = 128 * k := by
      rw [bytesI_length _ fun q hq => ok.all q (List.mem_of_mem_take hq), List.length_take, ok.len, Nat.min_eq_left hk]
    have hm1 := hm.step ((Ch.refl Nw wr).alloc (.cells (ino x) 56))
    have hb1 := hp_alloc wr (.cells (ino x) 56)
    simp [go_sem, h11, h12, hki, hix, hz_ino, zc_ino, ino_size inz_ok, hs1, ha1, blit_whole]
    revert hm1 hb1
    generalize wr.alloc (.cells (ino x) 56) = w2
    generalize wr.heap.size = g
    intro hm1 hb1
    refine (imay_any x w2 okx (hw.ch hm1.ch id)).mono ?_
    rintro _ w3 ⟨rfl, c3⟩
    have hm2 := hm1.step c3
    have hb2 := c3.hp hb1 id
    cases hmay : mayI x
    · simp [go_sem]
      refine hR _ _ ⟨_, 5, rfl, hm2.ch, .inr ⟨rfl, ?_, rfl⟩⟩
      rw [List.all_eq_false]
      exact ⟨x, List.mem_of_getElem? hx, by simp [hmay]⟩
    · simp [go_sem, hb2, hs1, ha1]
      refine (iput_any x (f 4) (128 * k) (bytesI (xs.take k)) w3 okx (by omega) htl hm2.own).mono ?_
      intro v3 w4 q
      have hm3 := hm2.grow q.1 q.2.1 q.2.2
      simp [go_sem, h11, h12, hwk]
      refine Rnd.intro (4 - (k + 1)) (by omega) (hJ _ _ _ ⟨k + 1, by omega, rfl, by simp [h11], by simp, ?_, ?_⟩)
      · rw [htk, List.all_append, ha]
        simp [hmay]
      · rw [htk]
        simpa [bytesI, Nat.mul_add] using hm3
  · obtain rfl : k = 4 := by omega
    rw [List.take_of_length_le (by rw [ok.len]; omega)] at ha hm
    simp [go_sem, h12]
    refine hR _ _ ⟨_, 0, rfl, hm.ch, .inl ⟨rfl, ha, ?_⟩⟩
    rw [bytesI_length _ ok.all, ok.len]
    exact hm.sl
def leafN (k : Nat) : Nat := if k = 1 then 1 else if k = 2 ∨ k = 3 then 2 else 0
end Go.Proofs.YtnefdmbdkljifaaGreatDoor
