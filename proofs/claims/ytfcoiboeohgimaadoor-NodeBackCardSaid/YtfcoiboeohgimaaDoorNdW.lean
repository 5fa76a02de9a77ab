/- A node that is known (wakes), walked. Condition: the variable ptr.wide holds what the text lays. -/
import Derived.Test.YtfcoiboeohgimaaDoorNdL
namespace Go.Proofs.YtfcoiboeohgimaaDoor
open Go.RowKit Go.Kin

def wkp : Pt := ⟨1, 0, 5, 0, 0, zb 32, [1, 0, 0, 0]⟩
theorem wkp_ok : PtOk wkp := ⟨by decide, by decide, by decide, by decide, by decide, rfl, rfl, by simp [wkp]⟩
def wkn : List Pt := ndz.set 7 wkp
theorem wkn_ok : NdOk wkn := ndz_ok.set 7 wkp_ok
theorem wkn_all : wkn.all okP = true := by decide +kernel
theorem blit_wk : blit (blit (blit (pt ptz) 0 #[.int .u8 1]) 2 #[.int .u16 5]) 37 #[.int .u16 1, .int .u16 0, .int .u16 0, .int .u16 0] = pt wkp := by
  simp [blit, pt, ptz, wkp, bvs_length, zb_length, u16s, u16v]
theorem bld_wk {w : World} {K : Value → World → Prop} : VBld Tryd.prog 28 [(0, .int .u8 1), (2, .int .u16 5), (6, .agg #[.int .u16 1, .int .u16 0, .int .u16 0, .int .u16 0])] w K = K (.agg (pt wkp)) w := by
  refine VBld_struct Tryd.underlying28 hz_pt (places := #[(0, 1), (1, 1), (2, 1), (3, 1), (4, 1), (5, 32), (37, 4)]) (by simp [go_sem]) ?_
  have hz : (pt ptz).size = 41 := pt_size ptz_ok
  simp [fillB, zc_pt, Value.cells, hz, blit_size]
  exact blit_wk
theorem bytes_wk : (bytesN wkn).take 448 = zb 448 ∧ (bytesN wkn)[448]? = some 1 := by decide +kernel
theorem wk_cnt : cnt wkn = 1 := by decide +kernel
theorem wk_ne : ¬ wkn = ndz := by decide +kernel
theorem made_eq (n : Nat) : madeCells (Value.int .u8 0).cells (n * 1) = (bvs (zb n)).toArray := by
  apply Array.ext'
  apply List.ext_getElem?
  intro i
  simp [madeCells, zb, bvs, bv, Value.cells]
  by_cases h : i < n
  · simp [h, Nat.mod_one]
  · simp [h]
theorem mk_any (n : Nat) (w : World) (hn : n ≤ 1000000) : (Instr.makeSlice 30 (.int .i64 n) (.int .i64 n)).run Tryd.prog w = .ok (.slice (some ⟨w.heap.size, 0, none⟩) n n) (w.alloc (.cells (bvs (zb n)).toArray 5)) := by
  have h1 : (Tryd.prog.info? 5).isSome = true := by kernel_rfl
  obtain ⟨i, hi⟩ := Option.isSome_iff_exists.1 h1
  have h2 : (Tryd.prog.info? 5).map (·.size) = some 1 := by kernel_rfl
  have h3 : (Tryd.prog.info? 5).map (·.bytes) = some 1 := by kernel_rfl
  have h4 : (Tryd.prog.info? 5).bind (·.zero) = some (.int .u8 0) := by kernel_rfl
  rw [hi] at h2 h3 h4
  simp at h2 h3 h4
  have := run_makeSlice (P := Tryd.prog) w 30 5 i _ Tryd.underlying30 hi h4 .i64 .i64 n n (by omega) (Int.le_refl _) (by rw [h2]; omega) (by rw [h3]; omega) (by omega)
  rw [this, h2]
  simp only [Int.toNat_natCast, made_eq]
theorem nwakes_any (w : World) (hw : Lw w) : Ret Tryd.prog 16 #[] w fun v' w' => v' = .bool true ∧ Ch Nw w w' := by
  refine v_enter Tryd.func16 Tryd.ntmps16 rfl (by simp) fun R' hR => ?_
  have hs1 := pt_size wkp_ok
  have ha1 := pt_all wkp_ok
  simp [go_sem, bld_wk, hz_pt, zc_pt, pt_size ptz_ok, hs1, ha1, blit_whole, bld_nd0]
  have c1 := (Ch.refl Nw w).alloc (.cells (pt wkp) 28)
  have hw1 := hw.ch c1 id
  revert c1 hw1
  generalize w.alloc (.cells (pt wkp) 28) = w1
  intro c1 hw1
  refine (with_any ndz 7 wkp w1 ndz_ok wkp_ok).mono ?_
  rintro _ w2 ⟨rfl, c2⟩
  have e7 : (if (0 : Int) ≤ 7 ∧ (7 : Int) < 8 then ndz.set (7 : Int).toNat wkp else ndz) = wkn := by simp [wkn]
  rw [e7]
  have hs2 := nd_size wkn_ok
  have ha2 := nd_all wkn_ok
  simp [go_sem, hz_nd, zc_nd, nd_size ndz_ok, hs2, ha2, blit_whole]
  have c3 := (Ch.refl Nw w2).alloc (.cells (nd wkn) 35)
  have b3 := hp_alloc w2 (.cells (nd wkn) 35)
  have c13 := (c1.trans c2).trans c3
  revert c13 b3
  clear c3
  generalize w2.alloc (.cells (nd wkn) 35) = w3
  generalize w2.heap.size = q2
  intro b3 c13
  refine (nput_any wkn w3 wkn_ok (hw.ch c13 id)).mono ?_
  rintro _ w4 (⟨_, s, rfl, hm⟩ | ⟨hno, _⟩)
  · have b4 := hm.ch.hp b3 id
    have hbl : (bytesN wkn).length = 512 := by rw [bytesN_length _ wkn_ok.all, wkn_ok.len]
    have hsl := hm.sl
    have c14 := c13.trans hm.ch
    simp [go_sem]
    refine (ntake_any _ (bytesN wkn) w4 (by omega) (by rw [hbl]; exact hsl) (hw.ch c14 id)).mono ?_
    rintro _ w5 ⟨rfl, c5⟩
    rw [nd8_put wkn_ok wkn_all]
    have b5 := c5.hp b4 id
    have hsl5 := hsl.ch c5 fun _ _ e => e
    have c15 := c14.trans c5
    simp [go_sem, hz_nd, zc_nd, nd_size ndz_ok, hs2, ha2, blit_whole]
    have c6 := (Ch.refl Nw w5).alloc (.cells (nd wkn) 35)
    have b6 := hp_alloc w5 (.cells (nd wkn) 35)
    have b3 := c6.hp b5 id
    have hsl6 := hsl5.ch c6 fun _ _ e => e
    have c16 := c15.trans c6
    revert c16 b6 b3 hsl6
    clear c6 c15 b5 hsl5 c5 c14 hsl b4 hm
    generalize w5.alloc (.cells (nd wkn) 35) = w6
    generalize w5.heap.size = q5
    intro b6 b3 hsl c16
    refine v_draw' [(0, none), (1, none), (2, none), (3, none), (4, none), (5, none), (6, none), (7, none), (8, none), (9, none), (10, none), (11, some [8, 9, 10]), (12, none), (13, none), (14, none), (15, none), (16, none), (17, none), (18, none), (19, none), (20, none), (21, none), (22, none), (23, none), (24, none), (25, none), (26, none), (27, none), (28, none), (29, none), (30, none), (31, none), (32, some []), (33, none), (34, none), (35, none), (36, none), (37, some []), (38, none), (39, none), (40, none), (41, none), (42, some []), (43, none), (44, none)] (by kernel_rfl) (by kernel_rfl) ?_
    have sx := fun {w : World} {v : Value} {l : List UInt8} {n : Nat} (h : Sl w v n (bvs l)) (hn : l.length = n) => h.str (P := Tryd.prog) hn Tryd.underlying30 Tryd.underlying5 Tryd.underlying9
    rw [← hbl] at hsl
    obtain ⟨v1, hs1, ho1, _, hr1, _⟩ := hsl.cut tyB (bvs_length _) 0 448 (by omega) (by omega)
    have hr1 := hr1 rfl
    have hx448 := hsl.at tyB (bvs_length _) (i := 448) (u := .int .u8 1) (by rw [bvs, List.getElem?_map, bytes_wk.2]; rfl)
    have hlen := hsl.len Tryd.underlying30 3
    rw [hbl] at hlen
    have hst : ((bvs (bytesN wkn)).take 448).drop 0 = bvs (zb 448) := by rw [← bytes_wk.1, bvs, bvs, List.map_take]; rfl
    rw [hst] at hs1
    have hmk := mk_any 448 w6.drew (by decide)
    have z448 : ((448 : Nat) : Int) = 448 := rfl
    rw [z448] at hmk
    simp only [z448] at hr1
    obtain ⟨a448, hi448, hc448, ho448⟩ := hx448
    simp only [z448] at hi448
    have hs1d : Sl w6.drew v1 (448 - 0) (bvs (zb 448)) := hs1
    have hst1 := sx hs1d (zb_length 448)
    have cM := ((Ch.refl Nw w6).alloc (.cells (bvs (zb 448)).toArray 5))
    have bM := hp_alloc w6 (.cells (bvs (zb 448)).toArray 5)
    have hmk' : (Instr.makeSlice 30 (.int .i64 448) (.int .i64 448)).run Tryd.prog w6.drew = .ok (.slice (some ⟨w6.heap.size, 0, none⟩) 448 448) ((w6.alloc (.cells (bvs (zb 448)).toArray 5)).drew) := hmk
    have b3 := cM.hp b3 id
    have b6 := cM.hp b6 id
    have hst2 := sx (hs1.ch cM.drew fun _ _ e => e) (zb_length 448)
    have hst3 := sx (Sl.drew <| Sl.of_blk bM (n := 448) (c := 448) (off := 0) (xs := bvs (zb 448)) (Nat.le_refl _) (by decide) (by simp only [List.drop_zero]; rw [List.take_of_length_le (by simp [bvs_length, zb_length])])) (zb_length 448)
    have hc448' := cM.cell hc448 id
    have heq := fun w => eq_nd w wkn_ok wkn_ok
    have cF := c16.trans cM
    simp [go_sem, hlen, hr1, hst1, hmk', hst2]
    rw [hst3]
    simp [go_sem, hi448, hc448, hc448', b3, b6, hs2, ha2, heq]
    have cF := (c16.trans cM).drew
    have hcm := wk_cnt
    refine (len_any wkn _ wkn_ok).mono ?_
    rintro _ w7 ⟨rfl, c7⟩
    have b3' := c7.hp (show ((w6.alloc (.cells (bvs (zb 448)).toArray 5)).drew).heap[q2]? = _ from b3) id
    rw [wk_cnt]
    simp [go_sem, b3', hs2, ha2]
    refine (empty_any wkn _ wkn_ok).mono ?_
    rintro _ w8 ⟨rfl, c8⟩
    simp [go_sem, wk_ne, bld_nd0]
    refine (empty_any ndz _ ndz_ok).mono ?_
    rintro _ w9 ⟨rfl, c9⟩
    simp [go_sem]
    exact hR _ _ ⟨rfl, ((cF.trans c7).trans c8).trans c9⟩
  · rw [wkn_all] at hno; cases hno
end Go.Proofs.YtfcoiboeohgimaaDoor
