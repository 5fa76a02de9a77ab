/- InodeTakes, walked. Conditions: the variables ptr.wide and inode.leaves hold what the text lays. -/
import Derived.Test.YtfcoiboeohgimaaDoorInW
import Derived.Test.YtfcoiboeohgimaaDoorInF
namespace Go.Proofs.YtfcoiboeohgimaaDoor
open Go.RowKit Go.Kin

theorem inodeTakes_any (v : Value) (l : List UInt8) (w : World) (hs : Sl w v l.length (bvs l)) (hown : ∀ k, v.ownBlock = some k → k < w.heap.size) (hw : Lw w) (hl : Ll w) :
    Ret Tryd.prog 7 #[v] w fun v' w' => v' = .bool true ∧ Ch Nw w w' := by
  refine v_enter Tryd.func7 Tryd.ntmps7 rfl (by simp) fun R' hR => ?_
  have hlen := hs.len Tryd.underlying30 3
  by_cases h6 : 600 < l.length
  · have h6' : (600 : Int) < l.length := by omega
    simp [go_sem, hlen, h6']
    refine (iwakes_any w hw hl).mono ?_
    rintro _ w2 ⟨rfl, c2⟩
    simp [go_sem]
    exact hR _ _ ⟨rfl, c2⟩
  have h6' : ¬ (600 : Int) < l.length := by omega
  simp [go_sem, hlen, h6']
  refine (ibtake_any v l w (by omega) hs hw).mono ?_
  rintro _ w1 ⟨rfl, c1⟩
  have okg := ib4_ok l
  have hsg := ib_size okg
  have hag := ib_all okg
  have hsz := ib_size ibz_ok
  have haz := ib_all ibz_ok
  simp [go_sem, hz_ib, zc_ib, hsg, hsz, blit_whole]
  have c2 := (Ch.refl Nw w1).alloc (.cells (ib (ib4 l).1) 55)
  have b2 := hp_alloc w1 (.cells (ib (ib4 l).1) 55)
  have c12 := c1.trans c2
  clear c2
  revert c12 b2
  generalize w1.alloc (.cells (ib (ib4 l).1) 55) = w2
  generalize hg : w1.heap.size = g
  intro b2 c12
  refine (ribtake_any v l w2 (by omega) (hs.ch c12 fun _ _ e => e) (fun k hk => Nat.lt_of_lt_of_le (hown k hk) c12.size)).mono ?_
  rintro _ w3 ⟨c3, ⟨xs, s, h4, rfl, hm⟩ | ⟨hno, rfl⟩⟩
  · have b3 := c3.hp b2 id
    rw [is4_ib4 h4] at b3
    rw [is4_ib4 h4]
    obtain ⟨okx, hmay, rfl⟩ := h4
    have hsx := ib_size okx
    obtain ⟨gs, cap, cur, rfl, q1, q2, q3, q4, q5⟩ := ownS_blk hm.own (by decide)
    have cc := c12.trans c3
    simp [go_sem]
    refine v_loop (fun r f wr => ∃ k, k ≤ 4 ∧ r = 4 - k ∧ f 3 = .pointer (some ⟨g, 0, none⟩) ∧ f 4 = .int .i64 0 ∧ f 5 = .slice (some ⟨gs, 0, none⟩) 4 cap ∧ f 7 = .int .i64 k ∧ Ch Nw w3 wr) 4
      ⟨0, by omega, rfl, by simp, by simp, by simp, by simp, Ch.refl _ _⟩ ?_
    rintro J hJ _ f wr ⟨k, hk, rfl, f3, f4, f5, f7, hc⟩
    have b4 := hc.hp b3 id
    have q6 := hc.hp q3 id
    by_cases hk4 : k < 4
    · have hki : (k : Int) < 4 := by omega
      obtain ⟨x, hx, okx1⟩ := okx.at' hk4
      have hs1 := ino_size okx1
      have ha1 := ino_all okx1
      have hget := ib_get okx hx
      have hfit : k * 44 + 44 ≤ 176 := by omega
      have hwk : IntKind.i64.wrap ((k : Int) + 1) = ((k + 1 : Nat) : Int) := by simp [IntKind.wrap_i64]; omega
      have hcur : cur.extract (k * 44) (k * 44 + 44) = ino x := by
        apply Array.ext'
        apply List.ext_getElem?
        intro i
        rw [Array.toList_extract, List.extract_eq_take_drop, List.getElem?_take]
        by_cases hi : i < 44
        · rw [if_pos (by omega), List.getElem?_drop]
          obtain ⟨u, hu⟩ : ∃ u, (ino x)[i]? = some u := ⟨_, Array.getElem?_eq_getElem (by omega)⟩
          have h1 : (rowsL ino xs)[k * 44 + i]? = some u := by
            have := rows_at (f := ino) okx.sz hx hu
            rwa [rowsOf, List.getElem?_toArray] at this
          have h2 := q5 _ _ h1
          rw [cell_blk q3] at h2
          rw [Array.getElem?_toList, h2, Array.getElem?_toList, hu]
        · rw [if_neg (by omega), List.getElem?_eq_none (by rw [Array.length_toList]; omega)]
      have hfit2 : k * 44 + 44 ≤ cur.size := by omega
      have heq := fun w => eq_ino w okx1 okx1
      simp [go_sem, f7, hki]
      refine v_draw' [(0, none), (1, none), (2, none), (3, none), (4, none), (5, none), (6, none), (7, some [0, 1, 2]), (8, none)] (by kernel_rfl) (by kernel_rfl) ?_
      simp [go_sem, f3, f5, f7, hki, b4, hsx, hfit, hget, q6, hfit2, hcur]
      refine (of_any x _ okx1).mono ?_
      rintro _ w5 ⟨rfl, c5⟩
      have c5' := (Ch.refl Nw wr).drew.trans c5
      have b5 := c5'.hp b4 id
      simp [go_sem, f3, f7, hki, b5, hsx, hfit, hget, heq, hwk]
      exact Rnd.intro _ (by omega) (hJ _ _ _ ⟨k + 1, by omega, rfl, by simp [f3], by simp [f4], by simp [f5], by simp, hc.trans c5'⟩)
    · obtain rfl : k = 4 := by omega
      simp [go_sem, f4, f7]
      refine (iwakes_any wr (hw.ch (cc.trans hc) id) (hl.ch (cc.trans hc) id)).mono ?_
      rintro _ w9 ⟨rfl, c9⟩
      simp [go_sem]
      exact hR _ _ ⟨rfl, (cc.trans hc).trans c9⟩
  · have b3 := c3.hp b2 id
    rw [not4_ib4 hno] at b3
    rw [not4_ib4 hno]
    have heq := fun w => eq_ib w ibz_ok ibz_ok
    have cc := c12.trans c3
    simp [go_sem, b3, hsz, haz, bld_ib0, heq]
    refine (iwakes_any w3 (hw.ch cc id) (hl.ch cc id)).mono ?_
    rintro _ w9 ⟨rfl, c9⟩
    simp [go_sem]
    exact hR _ _ ⟨rfl, cc.trans c9⟩
end Go.Proofs.YtfcoiboeohgimaaDoor
