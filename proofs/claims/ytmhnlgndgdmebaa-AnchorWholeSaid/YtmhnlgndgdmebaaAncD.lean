/- What the document's Take of an anchor answers, as a contract on the call. No condition but that the values are of their types. -/
import Derived.Test.YtmhnlgndgdmebaaAncC
namespace Go.Proofs.Ytmhnlgndgdmebaa
open Go.RowKit Go.Kin

theorem bld_ranc0 {w : World} {K : Value → World → Prop} : VBld Try.prog 27 [] w K = K (.agg (anc 0 (zb 32) (zn 4))) w :=
  VBld_struct Try.underlying27 hz_ranc (places := #[(0, 1), (1, 32), (33, 4)]) (by simp [go_sem]) (by simp [fillB, zc_ranc])

theorem rtake_any (b : List UInt8) (w : World) (hb : b.length = 64) :
    Ret Try.prog 12 #[.agg (bvs b).toArray] w fun v' w' => v' = takeV b ∧ Ch Nw w w' := by
  have ok := take_ok hb
  have hHl : (takeH b).length = 32 := ok.hh
  have hAl : (takeA b).length = 4 := rfl
  refine v_enter Try.func12 Try.ntmps12 rfl (by simp) fun R' hR => ?_
  simp [go_sem, hz_ranc, zc_ranc]
  have hb1 := al3_0 w (.cells (bvs b).toArray 28) (.cells (anc 0 (zb 32) (zn 4)) 27) (.cells (anc 0 (zb 32) (zn 4)) 27)
  have hb2 := al3_1 w (.cells (bvs b).toArray 28) (.cells (anc 0 (zb 32) (zn 4)) 27) (.cells (anc 0 (zb 32) (zn 4)) 27)
  have hb3 := al3_2 w (.cells (bvs b).toArray 28) (.cells (anc 0 (zb 32) (zn 4)) 27) (.cells (anc 0 (zb 32) (zn 4)) 27)
  have hc1 := (((Ch.refl Nw w).alloc (.cells (bvs b).toArray 28)).alloc (.cells (anc 0 (zb 32) (zn 4)) 27)).alloc (.cells (anc 0 (zb 32) (zn 4)) 27)
  revert hb1 hb2 hb3 hc1
  generalize (((w.alloc (.cells (bvs b).toArray 28)).alloc (.cells (anc 0 (zb 32) (zn 4)) 27)).alloc (.cells (anc 0 (zb 32) (zn 4)) 27)) = w1
  generalize hg : w.heap.size = g
  intro hb1 hb2 hb3 hc1
  have hget : ∀ i, i < 64 → ∃ c, b[i]? = some c := fun i hi => ⟨_, List.getElem?_eq_getElem (by omega)⟩
  have hbb : ∀ (i : Nat) (c : UInt8), b[i]? = some c → (bvs b).toArray[i]? = some (Value.int .u8 c.toNat) := fun i c hc => by
    rw [List.getElem?_toArray]; exact bvs_get hc
  -- the generation
  refine v_loop (fun r f wr => ∃ k, k ≤ 8 ∧ r = 8 - k ∧ f 1 = .pointer (some ⟨g, 0, none⟩) ∧ f 2 = .pointer (some ⟨g + 1, 0, none⟩) ∧ f 4 = .pointer (some ⟨g + 2, 0, none⟩) ∧ f 3 = .int .i64 0 ∧ f 5 = .int .i64 (7 - (k : Int)) ∧
    Ch (only (g + 2)) w1 wr ∧ wr.heap[g + 2]? = some (.cells (anc (fromLe ((b.drop (8 - k)).take k)) (zb 32) (zn 4)) 27)) 8
    ⟨0, by omega, rfl, by simp, by simp, by simp, by simp, by simp, Ch.refl _ _, by simpa [fromLe] using hb3⟩ ?_
  rintro J hJ _ f wr ⟨k, hk, rfl, h1, h2, h4, h3, h5, hc, hb3⟩
  by_cases hk8 : k < 8
  · have hki : (0 : Int) ≤ 7 - (k : Int) := by omega
    have hki' : (k : Int) ≤ 7 := by omega
    have hki2 : 7 - (k : Int) < 64 := by omega
    simp [go_sem, h5, hki']
    refine v_draw' [(0, none), (1, none), (2, none), (3, none), (4, none), (5, none), (6, none), (7, none), (8, none), (9, some [])] (by kernel_rfl) (by kernel_rfl) ?_
    obtain ⟨c, hc0⟩ := hget (7 - k) (by omega)
    have hcell := fun i => cell_blk (hc.hp hb1 (by simp only [only]; omega)) i
    have hcell3 := fun i => cell_blk hb3 i
    have hfz3 := fun i => frz_blk hb3 i
    have e7 : (7 - (k : Int)).toNat = 7 - k := by omega
    have hx := hbb _ c hc0
    have hlt := fromLe_lt ((b.drop (8 - k)).take k)
    have hlt' : fromLe ((b.drop (8 - k)).take k) < 72057594037927936 := by
      rw [List.length_take, List.length_drop, hb, show min k (64 - (8 - k)) = k by omega] at hlt
      exact Nat.lt_of_lt_of_le hlt (Nat.pow_le_pow_right (by omega) (show k ≤ 7 by omega))
    have hcl := c.toNat_lt
    have hw1 : IntKind.u64.wrap ((fromLe ((b.drop (8 - k)).take k) : Int) * 256) = (fromLe ((b.drop (8 - k)).take k) : Int) * 256 := by simp [IntKind.wrap_u64]; omega
    have hw2 : IntKind.u64.wrap ((fromLe ((b.drop (8 - k)).take k) : Int) * 256 + c.toNat) = ((c.toNat + 256 * fromLe ((b.drop (8 - k)).take k) : Nat) : Int) := by simp [IntKind.wrap_u64]; omega
    have hw3 : IntKind.u64.wrap (c.toNat : Int) = c.toNat := by simp [IntKind.wrap_u64]; omega
    have hw4 : IntKind.i64.wrap (7 - (k : Int) - 1) = 7 - ((k + 1 : Nat) : Int) := by simp [IntKind.wrap_i64]; omega
    simp [go_sem, h1, h4, h5, hcell, hcell3, hfz3, anc_0, hki', hki2, e7, hx, hw1, hw2, hw3, hw4]
    refine Rnd.intro (8 - (k + 1)) (by omega) (hJ _ _ _ ⟨k + 1, by omega, rfl, by simpa using h1, by simpa using h2, by simpa using h4, by simpa using h3, by simp, (hc.setCell (p := ⟨g + 2, 0, none⟩) (.inl rfl) _).drew, ?_⟩)
    rw [hp_drew, hp_setCell, hb3, setOf_cells]
    congr 3
    have e1 : (b.drop (8 - (k + 1))).take (k + 1) = c :: (b.drop (8 - k)).take k := by
      rw [List.drop_eq_getElem_cons (show 8 - (k + 1) < b.length by omega), List.take_succ_cons, show 8 - (k + 1) + 1 = 8 - k by omega]
      congr 1
      have := List.getElem?_eq_getElem (show 7 - k < b.length by omega)
      rw [hc0] at this
      simp only [show 8 - (k + 1) = 7 - k by omega]
      exact (Option.some.inj this).symm
    rw [e1]
    simp [anc, fromLe]
  · obtain rfl : k = 8 := by omega
    simp [go_sem, h5]
    clear hJ J
    simp only [Nat.sub_self, List.drop_zero, show fromLe (b.take 8) = takeN b from rfl] at hb3
    -- the hash
    refine v_loop (fun r f wr => ∃ k, k ≤ 32 ∧ r = 32 - k ∧ f 1 = .pointer (some ⟨g, 0, none⟩) ∧ f 2 = .pointer (some ⟨g + 1, 0, none⟩) ∧ f 4 = .pointer (some ⟨g + 2, 0, none⟩) ∧ f 3 = .int .i64 0 ∧ f 6 = .int .i64 k ∧
      Ch (only (g + 2)) w1 wr ∧ wr.heap[g + 2]? = some (.cells (anc (takeN b) ((takeH b).take k ++ zb (32 - k)) (zn 4)) 27)) 32
      ⟨0, by omega, rfl, by simpa using h1, by simpa using h2, by simpa using h4, by simpa using h3, by simp, hc, by simpa using hb3⟩ ?_
    clear h1 h2 h4 h3 h5 hc hb3 f wr
    rintro J hJ _ f wr ⟨k, hk, rfl, h1, h2, h4, h3, h6, hc, hb3⟩
    by_cases hk32 : k < 32
    · have hki : (k : Int) < 32 := by omega
      have hki2 : (8 : Int) + k < 64 := by omega
      have hki3 : (0 : Int) ≤ 8 + k := by omega
      have hkn : ((8 : Int) + k).toNat = 8 + k := by omega
      obtain ⟨c, hc0⟩ := hget (8 + k) (by omega)
      have hx := hbb _ c hc0
      have hcell := fun i => cell_blk (hc.hp hb1 (by simp only [only]; omega)) i
      have hcell3 := fun i => cell_blk hb3 i
      have hfz3 := fun i => frz_blk hb3 i
      have hw8 : IntKind.i64.wrap (8 + (k : Int)) = 8 + k := by simp [IntKind.wrap_i64]; omega
      have hsz : ((takeH b).take k ++ zb (32 - k)).length = 32 := by simp [zb, hHl]; omega
      have hx0 : ((takeH b).take k ++ zb (32 - k))[k]? = some 0 := by
        rw [List.getElem?_append_right (by rw [List.length_take]; omega), List.length_take, zb, List.getElem?_replicate, if_pos (by omega)]
      have hin := anc_h_at (n := takeN b) (a := zn 4) hsz k hk32 0 hx0
      simp [go_sem, h1, h4, h6, hki, hki2, hki3, hkn, hw8, hcell, hcell3, hfz3, hx, hin]
      refine Rnd.intro (32 - (k + 1)) (by omega) (hJ _ _ _ ⟨k + 1, by omega, rfl, by simpa using h1, by simpa using h2, by simpa using h4, by simpa using h3, by simp [IntKind.wrap_i64]; omega, hc.setCell (p := ⟨g + 2, 1 + k, none⟩) (.inl rfl) _, ?_⟩)
      rw [hp_setCell, hb3, setOf_cells]
      have hcH : (takeH b)[k]? = some c := by
        rw [takeH, List.getElem?_take, if_pos hk32, List.getElem?_drop, hc0]
      have e1 : ((takeH b).take k ++ zb (32 - k)).set k c = (takeH b).take (k + 1) ++ zb (32 - (k + 1)) := by
        rw [List.set_append_right _ _ (by rw [List.length_take]; omega), List.length_take, hHl, show k - min k 32 = 0 by omega, show (takeH b).take (k + 1) = (takeH b).take k ++ (takeH b)[k]?.toList from List.take_add_one, hcH, zb, show 32 - k = (32 - (k + 1)) + 1 by omega, List.replicate_succ, List.set_cons_zero]
        simp [zb]
      rw [← e1, set_anc_h _ _ (by omega)]
    · obtain rfl : k = 32 := by omega
      simp [go_sem, h6]
      clear hJ J
      simp only [Nat.sub_self, List.take_of_length_le (show (takeH b).length ≤ 32 by omega), zb, List.replicate_zero, List.append_nil] at hb3
      -- the addresses
      refine v_loop (fun r f wr => ∃ k, k ≤ 4 ∧ r = 4 - k ∧ f 1 = .pointer (some ⟨g, 0, none⟩) ∧ f 2 = .pointer (some ⟨g + 1, 0, none⟩) ∧ f 4 = .pointer (some ⟨g + 2, 0, none⟩) ∧ f 3 = .int .i64 0 ∧ f 7 = .int .i64 k ∧
        Ch (only (g + 2)) w1 wr ∧ wr.heap[g + 2]? = some (.cells (anc (takeN b) (takeH b) ((takeA b).take k ++ zn (4 - k))) 27)) 4
        ⟨0, by omega, rfl, by simpa using h1, by simpa using h2, by simpa using h4, by simpa using h3, by simp, hc, by simpa using hb3⟩ ?_
      clear h1 h2 h4 h3 h6 hc hb3 f wr
      rintro J hJ _ f wr ⟨k, hk, rfl, h1, h2, h4, h3, h7, hc, hb3⟩
      by_cases hk4 : k < 4
      · have hki : (k : Int) < 4 := by omega
        simp [go_sem, h7, hki]
        refine v_draw' [(0, none), (1, none), (2, none), (3, none), (4, none), (5, none), (6, none), (7, none), (8, none), (9, none), (10, none), (11, none), (12, none), (13, none), (14, none), (15, none), (16, none), (17, some [])] (by kernel_rfl) (by kernel_rfl) ?_
        obtain ⟨c, hc0⟩ := hget (40 + 2 * k) (by omega)
        obtain ⟨d, hd0⟩ := hget (41 + 2 * k) (by omega)
        have hx := hbb _ c hc0
        have hy := hbb _ d hd0
        have hcell := fun i => cell_blk (hc.hp hb1 (by simp only [only]; omega)) i
        have hcell3 := fun i => cell_blk hb3 i
        have hfz3 := fun i => frz_blk hb3 i
        have hw1 : IntKind.i64.wrap (2 * (k : Int)) = 2 * k := by simp [IntKind.wrap_i64]; omega
        have hw2 : IntKind.i64.wrap (40 + 2 * (k : Int)) = 40 + 2 * k := by simp [IntKind.wrap_i64]; omega
        have hw3 : IntKind.i64.wrap (41 + 2 * (k : Int)) = 41 + 2 * k := by simp [IntKind.wrap_i64]; omega
        have hn2 : (40 + 2 * (k : Int)).toNat = 40 + 2 * k := by omega
        have hn3 : (41 + 2 * (k : Int)).toNat = 41 + 2 * k := by omega
        have hl2 : 40 + 2 * (k : Int) < 64 := by omega
        have hl3 : 41 + 2 * (k : Int) < 64 := by omega
        have hg2 : (0 : Int) ≤ 40 + 2 * k := by omega
        have hg3 : (0 : Int) ≤ 41 + 2 * k := by omega
        have hcl := c.toNat_lt
        have hdl := d.toNat_lt
        have hw4 : IntKind.u16.wrap (c.toNat : Int) = c.toNat := by simp [IntKind.wrap_u16]; omega
        have hw5 : IntKind.u16.wrap (d.toNat : Int) = d.toNat := by simp [IntKind.wrap_u16]; omega
        have hw6 : IntKind.u16.wrap (256 * (d.toNat : Int)) = 256 * d.toNat := by simp [IntKind.wrap_u16]; omega
        have hw7 : IntKind.u16.wrap ((c.toNat : Int) + 256 * d.toNat) = ((c.toNat + 256 * d.toNat : Nat) : Int) := by simp [IntKind.wrap_u16]; omega
        have hx0 : ((takeA b).take k ++ zn (4 - k))[k]? = some 0 := by
          rw [List.getElem?_append_right (by rw [List.length_take]; omega), List.length_take, zn, List.getElem?_replicate, if_pos (by omega)]
        have hin := anc_a_at (n := takeN b) hHl k 0 hx0
        simp [go_sem, h1, h4, h7, hki, hcell, hcell3, hfz3, hx, hy, hin, hw1, hw2, hw3, hw4, hw5, hw6, hw7, hn2, hn3, hl2, hl3, hg2, hg3]
        refine Rnd.intro (4 - (k + 1)) (by omega) (hJ _ _ _ ⟨k + 1, by omega, rfl, by simpa using h1, by simpa using h2, by simpa using h4, by simpa using h3, by simp [IntKind.wrap_i64]; omega, (hc.setCell (p := ⟨g + 2, 33 + k, none⟩) (.inl rfl) _).drew, ?_⟩)
        rw [hp_drew, hp_setCell, hb3, setOf_cells]
        have e0 := set_anc_a (n := takeN b) (a := (takeA b).take k ++ zn (4 - k)) hHl k (c.toNat + 256 * d.toNat)
        rw [show ((c.toNat + 256 * d.toNat : Nat) : Int) = (c.toNat : Int) + 256 * (d.toNat : Int) by omega] at e0
        rw [e0]
        congr 3
        have hxA : (takeA b)[k]? = some (c.toNat + 256 * d.toNat) := by
          have key : ∀ i, i + 1 < 64 → ∀ c d : UInt8, b[i]? = some c → b[i + 1]? = some d → fromLe ((b.drop i).take 2) = c.toNat + 256 * d.toNat := by
            intro i hi c d h1 h2
            rw [List.drop_eq_getElem_cons (by omega), List.take_succ_cons, List.drop_eq_getElem_cons (by omega), List.take_succ_cons]
            have h1' := (List.getElem?_eq_some_iff.1 h1).2
            have h2' := (List.getElem?_eq_some_iff.1 h2).2
            simp [fromLe, h1', h2']
          have := key (40 + 2 * k) (by omega) c d hc0 (by rw [show 40 + 2 * k + 1 = 41 + 2 * k by omega]; exact hd0)
          rw [← this]
          match k, hk4 with
          | 0, _ => rfl
          | 1, _ => rfl
          | 2, _ => rfl
          | 3, _ => rfl
        rw [List.set_append_right _ _ (by rw [List.length_take]; omega), List.length_take, hAl, show k - min k 4 = 0 by omega, show (takeA b).take (k + 1) = (takeA b).take k ++ (takeA b)[k]?.toList from List.take_add_one, hxA, zn, show 4 - k = (4 - (k + 1)) + 1 by omega, List.replicate_succ, List.set_cons_zero]
        simp [zn]
      · obtain rfl : k = 4 := by omega
        simp [go_sem, h7]
        clear hJ J
        simp only [Nat.sub_self, List.take_of_length_le (show (takeA b).length ≤ 4 by omega), zn, List.replicate_zero, List.append_nil] at hb3
        -- the noughts
        refine v_loop (fun r f wr => ∃ k, k ≤ 16 ∧ r = 16 - k ∧ f 1 = .pointer (some ⟨g, 0, none⟩) ∧ f 2 = .pointer (some ⟨g + 1, 0, none⟩) ∧ f 4 = .pointer (some ⟨g + 2, 0, none⟩) ∧ f 3 = .int .i64 0 ∧ f 8 = .int .i64 (48 + k) ∧
          Ch (only (g + 2)) w1 wr ∧ wr.heap[g + 2]? = some (.cells (anc (takeN b) (takeH b) (takeA b)) 27) ∧ (b.drop 48).take k = zb k) 16
          ⟨0, by omega, rfl, by simpa using h1, by simpa using h2, by simpa using h4, by simpa using h3, by simp, hc, by simpa using hb3, rfl⟩ ?_
        clear h1 h2 h4 h3 h7 hc hb3 f wr
        rintro J hJ _ f wr ⟨k, hk, rfl, h1, h2, h4, h3, h8, hc, hb3, hz⟩
        have hb1' := hc.hp hb1 (by simp only [only]; omega)
        have hb2' := hc.hp hb2 (by simp only [only]; omega)
        have hsz := anc_size (n := takeN b) hHl hAl
        have hall := anc_all (n := takeN b) hHl hAl
        by_cases hk16 : k < 16
        · have hki : 48 + (k : Int) < 64 := by omega
          have hki0 : (0 : Int) ≤ 48 + k := by omega
          have hki' : (k : Int) < 16 := by omega
          have hkn : (48 + (k : Int)).toNat = 48 + k := by omega
          obtain ⟨c, hc0⟩ := hget (48 + k) (by omega)
          have hx := hbb _ c hc0
          have hcell := fun i => cell_blk hb1' i
          have hstep : (b.drop 48).take (k + 1) = (b.drop 48).take k ++ [c] := by
            rw [show (b.drop 48).take (k + 1) = (b.drop 48).take k ++ (b.drop 48)[k]?.toList from List.take_add_one, List.getElem?_drop, hc0]; rfl
          by_cases hc00 : c = 0
          · subst hc00
            simp [go_sem, h1, h8, hki, hki0, hkn, hcell, hx]
            refine Rnd.intro (16 - (k + 1)) (by omega) (hJ _ _ _ ⟨k + 1, by omega, rfl, by simpa using h1, by simpa using h2, by simpa using h4, by simpa using h3, by simp [IntKind.wrap_i64]; omega, hc, hb3, ?_⟩)
            rw [hstep, hz]
            simp [zb, List.replicate_succ']
          · have hcn : ¬ c.toNat = 0 := fun h => hc00 (by apply UInt8.toNat_inj.1; simpa using h)
            have hne : ((c.toNat : Int) != 0) = true := by simp; omega
            have hno : ¬ b.drop 48 = zb 16 := fun h => by
              rw [h] at hstep
              have h2 : ((zb 16).take (k + 1))[k]? = some 0 := by rw [List.getElem?_take, if_pos (by omega), zb, List.getElem?_replicate, if_pos (by omega)]
              rw [hstep, List.getElem?_append_right (by rw [List.length_take, zb_length]; omega), List.length_take, zb_length, show k - min k 16 = 0 by omega] at h2
              exact hc00 (Option.some.inj h2)
            have hz2 : Try.prog.info? 27 = Try.prog.info? 27 := rfl
            simp [go_sem, h1, h2, h8, hki, hki0, hkn, hcell, hx, hne, bld_ranc0, hb2', anc_size (zb_length 32) (zn_length 4), blit_whole, anc_all (n := 0) (zb_length 32) (zn_length 4)]
            refine hR _ _ ⟨?_, ((hc1.trans' hc (fun j hj e => by simp only [only] at e; omega)).setRow (.inr (by omega)) _)⟩
            simp [takeV, ancMay, hno]
        · obtain rfl : k = 16 := by omega
          have hyes : b.drop 48 = zb 16 := by rwa [List.take_of_length_le (by rw [List.length_drop]; omega)] at hz
          simp [go_sem, h2, h4, h8, hb3, hb2', hall, hsz, anc_size (zb_length 32) (zn_length 4), blit_whole]
          refine hR _ _ ⟨?_, ((hc1.trans' hc (fun j hj e => by simp only [only] at e; omega)).setRow (.inr (by omega)) _)⟩
          simp [takeV, ancMay, hyes]
end Go.Proofs.Ytmhnlgndgdmebaa
