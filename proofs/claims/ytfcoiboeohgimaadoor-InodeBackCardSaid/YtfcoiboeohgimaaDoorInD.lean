/- What inode's Block.Put, Count, Leaf and the document's Block answer, as contracts on calls. Conditions: the variables ptr.wide and inode.leaves hold what the text lays. -/
import Derived.Test.YtfcoiboeohgimaaDoorInC
namespace Go.Proofs.YtfcoiboeohgimaaDoor
open Go.RowKit Go.Kin

def bytesI (xs : List In) : List UInt8 := xs.flatMap putI
theorem bytesI_length : ∀ (xs : List In), (∀ x ∈ xs, InOk x) → (bytesI xs).length = 128 * xs.length
  | [], _ => rfl
  | p :: ps, h => by
    have := bytesI_length ps fun q hq => h q (by simp [hq])
    have hp := putI_length (h p (by simp))
    simp only [bytesI, List.flatMap_cons, List.length_append, List.length_cons] at *
    rw [this, hp]; omega
theorem made_zb (n : Nat) : madeCells (Value.int .u8 0).cells (n * 1) = (bvs (zb n)).toArray := by
  apply Array.ext'
  apply List.ext_getElem?
  intro i
  simp [madeCells, zb, bvs, bv, Value.cells]
  by_cases h : i < n
  · simp [h, Nat.mod_one]
  · simp [h]
theorem mk_zb (n : Nat) (w : World) (hn : n ≤ 1000000) : (Instr.makeSlice 30 (.int .i64 n) (.int .i64 n)).run Tryd.prog w = .ok (.slice (some ⟨w.heap.size, 0, none⟩) n n) (w.alloc (.cells (bvs (zb n)).toArray 5)) := by
  have h1 : (Tryd.prog.info? 5).isSome = true := by kernel_rfl
  obtain ⟨i, hi⟩ := Option.isSome_iff_exists.1 h1
  have h2 : (Tryd.prog.info? 5).map (·.size) = some 1 := by kernel_rfl
  have h3 : (Tryd.prog.info? 5).map (·.bytes) = some 1 := by kernel_rfl
  have h4 : (Tryd.prog.info? 5).bind (·.zero) = some (.int .u8 0) := by kernel_rfl
  rw [hi] at h2 h3 h4
  simp at h2 h3 h4
  have := run_makeSlice (P := Tryd.prog) w 30 5 i _ Tryd.underlying30 hi h4 .i64 .i64 n n (by omega) (Int.le_refl _) (by rw [h2]; omega) (by rw [h3]; omega) (by omega)
  rw [this, h2]
  simp only [Int.toNat_natCast, made_zb]
theorem bytes_ibz : bytesI ibz = zb 512 := by decide +kernel
theorem may_inz : mayI inz = true := by decide
theorem may_ibz : ibz.all mayI = true := by decide
/-- what Put answers -/
def IPut (xs : List In) (w : World) (v' : Value) (w' : World) : Prop :=
  ∃ s e, v' = .tuple #[s, .int .i64 e] ∧ Ch Nw w w' ∧ ((e = 0 ∧ xs.all mayI = true ∧ Sl w' s (bytesI xs).length (bvs (bytesI xs))) ∨ (e = 5 ∧ xs.all mayI = false ∧ s = .slice none 0 0))
theorem ibput_any (xs : List In) (w : World) (ok : IbOk xs) (hw : Lw w) : Ret Tryd.prog 26 #[.agg (ib xs)] w (IPut xs w) := by
  refine v_enter Tryd.func26 Tryd.ntmps26 rfl (by simp) fun R' hR => ?_
  have hsz := ib_size ok
  have hall := ib_all ok
  have hc := (Ch.refl Nw w).alloc (.cells (ib xs) 55)
  have heq := fun w => eq_ib w ok ibz_ok
  by_cases hz : xs = ibz
  · subst hz
    have hmk := mk_zb 512 (w.alloc (.cells (ib ibz) 55)) (by decide)
    have z512 : ((512 : Nat) : Int) = 512 := rfl
    rw [z512] at hmk
    have bM := hp_alloc (w.alloc (.cells (ib ibz) 55)) (.cells (bvs (zb 512)).toArray 5)
    have hsl := Sl.of_blk bM (n := 512) (c := 512) (off := 0) (xs := bvs (zb 512)) (Nat.le_refl _) (by decide) (by simp only [List.drop_zero]; rw [List.take_of_length_le (by simp [bvs_length, zb_length])])
    simp [go_sem, hsz, hall, bld_ib0, heq]
    rw [hmk]
    simp [go_sem]
    refine hR _ _ ⟨_, 0, rfl, hc.alloc _, .inl ⟨rfl, may_ibz, ?_⟩⟩
    rw [bytes_ibz, zb_length]
    simpa using hsl
  simp [go_sem, hsz, hall, bld_ib0, heq, hz]
  revert hc
  generalize w.alloc (.cells (ib xs) 55) = w1
  intro hc
  refine v_loop (fun r f wr => ∃ k, k ≤ 4 ∧ r = 4 - k ∧ f 11 = .agg (ib xs) ∧ f 12 = .int .i64 k ∧ (xs.take k).all mayI = true ∧ Mine 5 w (f 4) (128 * k) (bvs (bytesI (xs.take k))) wr) 4
    ⟨0, by omega, rfl, by simp, by simp, by simp, by simpa [bytesI, bvs] using Mine.nil _ hc⟩ ?_
  rintro J hJ _ f wr ⟨k, hk, rfl, h11, h12, ha, hm⟩
  by_cases hk4 : k < 4
  · have hki : (k : Int) < 4 := by omega
    obtain ⟨x, hx, okx⟩ := ok.at' hk4
    have hix := ib_index ok hk4 hx
    have hs1 := ino_size okx
    have ha1 := ino_all okx
    have hwk : IntKind.i64.wrap ((k : Int) + 1) = ((k + 1 : Nat) : Int) := by simp [IntKind.wrap_i64]; omega
    have htk : xs.take (k + 1) = xs.take k ++ [x] := by rw [List.take_add_one, hx]; rfl
    have htl : (bytesI (xs.take k)).length = 128 * k := by
      rw [bytesI_length _ fun q hq => ok.all q (List.mem_of_mem_take hq), List.length_take, ok.len, Nat.min_eq_left hk]
    have hm1 := hm.step ((Ch.refl Nw wr).alloc (.cells (ino x) 53))
    have hb1 := hp_alloc wr (.cells (ino x) 53)
    simp [go_sem, h11, h12, hki, hix, hz_ino, zc_ino, ino_size inz_ok, hs1, ha1, blit_whole]
    revert hm1 hb1
    generalize wr.alloc (.cells (ino x) 53) = w2
    generalize wr.heap.size = g
    intro hm1 hb1
    refine (imay_any x w2 okx (hw.ch hm1.ch id)).mono ?_
    rintro _ w3 ⟨rfl, c3⟩
    have hm2 := hm1.step c3
    have hb2 := c3.hp hb1 id
    cases hmay : mayI x
    · simp [go_sem]
      refine hR _ _ ⟨_, 5, rfl, hm2.ch, .inr ⟨rfl, ?_, rfl⟩⟩
      rw [List.all_eq_false]
      exact ⟨x, List.mem_of_getElem? hx, by simp [hmay]⟩
    · simp [go_sem, hb2, hs1, ha1]
      refine (iput_any x (f 4) (128 * k) (bytesI (xs.take k)) w3 okx (by omega) htl hm2.own).mono ?_
      intro v3 w4 q
      have hm3 := hm2.grow q.1 q.2.1 q.2.2
      simp [go_sem, h11, h12, hwk]
      refine Rnd.intro (4 - (k + 1)) (by omega) (hJ _ _ _ ⟨k + 1, by omega, rfl, by simp [h11], by simp, ?_, ?_⟩)
      · rw [htk, List.all_append, ha]
        simp [hmay]
      · rw [htk]
        simpa [bytesI, Nat.mul_add] using hm3
  · obtain rfl : k = 4 := by omega
    rw [List.take_of_length_le (by rw [ok.len]; omega)] at ha hm
    simp [go_sem, h12]
    refine hR _ _ ⟨_, 0, rfl, hm.ch, .inl ⟨rfl, ha, ?_⟩⟩
    rw [bytesI_length _ ok.all, ok.len]
    exact hm.sl
theorem rblock_any (g : Nat) (T : TypeId) (xs : List In) (w : World) (ok : IbOk xs) (hb : w.heap[g]? = some (.cells (ib xs) T (0, 0))) :
    Ret Tryd.prog 28 #[.slice (some ⟨g, 0, none⟩) 4 4] w fun v' w' => Mine 5 w v' 512 (bvs (bytesI xs)) w' := by
  refine v_enter Tryd.func28 Tryd.ntmps28 rfl (by simp) fun R' hR => ?_
  have hsz := ib_size ok
  simp [go_sem]
  refine v_loop (fun r f wr => ∃ k, k ≤ 4 ∧ r = 4 - k ∧ f 0 = .slice (some ⟨g, 0, none⟩) 4 4 ∧ f 4 = .int .i64 k ∧ Mine 5 w (f 3) (128 * k) (bvs (bytesI (xs.take k))) wr) 4
    ⟨0, by omega, rfl, by simp, by simp, by simpa [bytesI, bvs] using Mine.nil _ (Ch.refl _ w)⟩ ?_
  rintro J hJ _ f wr ⟨k, hk, rfl, h0, h4, hm⟩
  have hb := hm.ch.hp hb id
  by_cases hk4 : k < 4
  · have hki : (k : Int) < 4 := by omega
    obtain ⟨x, hx, okx⟩ := ok.at' hk4
    have hget := ib_get ok hx
    have hfit : k * 44 + 44 ≤ 176 := by omega
    have hwk : IntKind.i64.wrap ((k : Int) + 1) = ((k + 1 : Nat) : Int) := by simp [IntKind.wrap_i64]; omega
    have htk : xs.take (k + 1) = xs.take k ++ [x] := by rw [List.take_add_one, hx]; rfl
    simp [go_sem, h0, h4, hki, hb, hsz, hfit, hget]
    refine (rbytesI_any x wr okx).mono ?_
    intro v2 w2 h2
    have hm2 := hm.step h2.ch
    simp [go_sem]
    refine VB_appn tyB hm2.own h2.sl (by rw [bvs_length, putI_length okx]) (bvs_one _) (by unfold maxLen; omega) (by omega) fun v3 w3 d4 d5 d6 => ?_
    have hm3 := hm2.grow d4 d5 d6
    simp [go_sem, h4, hwk]
    refine Rnd.intro (4 - (k + 1)) (by omega) (hJ _ _ _ ⟨k + 1, by omega, rfl, by simp [h0], by simp, ?_⟩)
    rw [htk]
    simpa [bytesI, Nat.mul_add, bvs_append] using hm3
  · obtain rfl : k = 4 := by omega
    rw [List.take_of_length_le (by rw [ok.len]; omega)] at hm
    simp [go_sem, h0, h4]
    exact hR _ _ hm
/-- the variable inode.leaves as the text lays it -/
def Ll (w : World) : Prop := ∀ i z, ([0, 1, 2, 2] : List Int)[i]? = some z → w.cell? ⟨0, i, none⟩ = some (.int .u8 z)
theorem Ll.ch {S : Nat → Prop} {w w' : World} (h : Ll w) (hc : Ch S w w') (hn : ¬ S 0) : Ll w' := fun i z hz => hc.cell (h i z hz) hn
def leafN (k : Nat) : Nat := if k = 1 then 1 else if k = 2 ∨ k = 3 then 2 else 0
theorem leaf_any (k : Nat) (w : World) (hk : k < 256) (hl : Ll w) : Ret Tryd.prog 32 #[.int .u8 k] w fun v' w' => v' = .int .u8 (leafN k) ∧ w' = w := by
  refine v_enter Tryd.func32 Tryd.ntmps32 rfl (by simp) fun R' hR => ?_
  have hw : IntKind.i64.wrap (k : Int) = k := by simp [IntKind.wrap_i64]; omega
  by_cases h4 : 4 ≤ k
  · have h4' : (4 : Int) ≤ k := by omega
    simp [go_sem, hw, h4']
    exact hR _ _ ⟨by simp [leafN, show ¬ k = 1 by omega, show ¬ k = 2 by omega, show ¬ k = 3 by omega], rfl⟩
  · have h4' : ¬ (4 : Int) ≤ k := by omega
    have l0 := hl 0 _ rfl
    have l1 := hl 1 _ rfl
    have l2 := hl 2 _ rfl
    have l3 := hl 3 _ rfl
    have hki : (k : Int) < 4 := by omega
    have hcl : w.cell? ⟨0, k, none⟩ = some (.int .u8 (leafN k)) := by
      obtain rfl | rfl | rfl | rfl : k = 0 ∨ k = 1 ∨ k = 2 ∨ k = 3 := by omega
      · exact l0
      · exact l1
      · exact l2
      · exact l3
    simp [go_sem, hw, h4', hki, hcl]
    exact hR _ _ ⟨rfl, rfl⟩
theorem count_any (s : Nat) (w : World) (hs : s < 4294967296) : Ret Tryd.prog 31 #[.int .u32 s] w fun v' w' => v' = .int .i64 (((s + 511) / 512 : Nat) : Int) ∧ w' = w := by
  refine v_enter Tryd.func31 Tryd.ntmps31 rfl (by simp) fun R' hR => ?_
  have h1 : IntKind.u64.wrap (s : Int) = s := by simp [IntKind.wrap_u64]; omega
  have h2 : IntKind.u64.wrap ((s : Int) + 512) = ((s + 512 : Nat) : Int) := by simp [IntKind.wrap_u64]; omega
  have h3 : IntKind.u64.wrap ((s : Int) + 512 - 1) = ((s + 511 : Nat) : Int) := by simp [IntKind.wrap_u64]; omega
  have h4 : ((s + 511 : Nat) : Int).tdiv 512 = (((s + 511) / 512 : Nat) : Int) := by rw [Int.tdiv_eq_ediv_of_nonneg (by omega)]; omega
  have h5 : IntKind.u64.wrap ((((s + 511) / 512 : Nat) : Int)) = (((s + 511) / 512 : Nat) : Int) := by rw [IntKind.wrap_u64]; omega
  have h6 : IntKind.i64.wrap ((((s + 511) / 512 : Nat) : Int)) = (((s + 511) / 512 : Nat) : Int) := by rw [IntKind.wrap_i64]; omega
  simp only [Int.natCast_add] at h2
  simp [go_sem, h1, h2]
  refine hR _ _ ⟨?_, rfl⟩
  rw [h3, h4, h5, h6]
end Go.Proofs.YtfcoiboeohgimaaDoor
