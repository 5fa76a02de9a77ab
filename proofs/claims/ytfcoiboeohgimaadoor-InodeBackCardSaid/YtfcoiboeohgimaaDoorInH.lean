/- InodePuts, walked. Conditions: the variables ptr.wide and inode.leaves hold what the text lays. -/
import Derived.Test.YtfcoiboeohgimaaDoorInW
namespace Go.Proofs.YtfcoiboeohgimaaDoor
open Go.RowKit Go.Kin

def upto (xs : List In) (k : Nat) : List In := xs.take k ++ List.replicate (4 - k) inz
theorem upto_ok {xs : List In} (ok : IbOk xs) {k : Nat} (hk : k ≤ 4) : IbOk (upto xs k) := ⟨by simp [upto, ok.len]; omega, fun x hx => by
  rcases List.mem_append.1 hx with h | h
  · exact ok.all x (List.mem_of_mem_take h)
  · rw [(List.mem_replicate.1 h).2]; exact inz_ok⟩
theorem upto_set {xs : List In} (ok : IbOk xs) {k : Nat} (hk : k < 4) {x : In} (hx : xs[k]? = some x) : (upto xs k).set k x = upto xs (k + 1) := by
  unfold upto
  rw [List.set_append_right _ _ (by rw [List.length_take]; omega), List.length_take, ok.len, show k - min k 4 = 0 by omega, show 4 - k = (4 - (k + 1)) + 1 by omega, List.replicate_succ, List.set_cons_zero, List.take_add_one, hx]
  simp
theorem upto_at {xs : List In} (ok : IbOk xs) {k : Nat} (hk : k < 4) {x : In} (hx : xs[k]? = some x) : (upto xs (k + 1))[k]? = some x := by
  unfold upto
  rw [List.getElem?_append_left (by rw [List.length_take, ok.len]; omega), List.getElem?_take, if_pos (by omega), hx]
theorem upto_all {xs : List In} (ok : IbOk xs) : upto xs 4 = xs := by
  unfold upto
  rw [List.take_of_length_le (by rw [ok.len]; omega)]
  simp
theorem inodePuts_any (xs : List In) (w : World) (ok : IbOk xs) (hw : Lw w) (hl : Ll w) : Ret Tryd.prog 6 #[.agg (ib xs)] w fun v' w' => v' = .bool true ∧ Ch Nw w w' := by
  refine v_enter Tryd.func6 Tryd.ntmps6 rfl (by simp) fun R' hR => ?_
  have hsz := ib_size ok
  have hall := ib_all ok
  have sx := fun {w : World} {v : Value} {l : List UInt8} {n : Nat} (h : Sl w v n (bvs l)) (hn : l.length = n) => h.str (P := Tryd.prog) hn Tryd.underlying30 Tryd.underlying5 Tryd.underlying9
  simp [go_sem, hz_ib, zc_ib]
  have c1 := ((Ch.refl Nw w).alloc (.cells (ib xs) 52)).alloc (.cells (ib ibz) 55)
  have b0 := al2_0 w (.cells (ib xs) 52) (.cells (ib ibz) 55)
  have b1 := al2_1 w (.cells (ib xs) 52) (.cells (ib ibz) 55)
  revert c1 b0 b1
  generalize (w.alloc (.cells (ib xs) 52)).alloc (.cells (ib ibz) 55) = w1
  generalize hg : w.heap.size = g
  intro c1 b0 b1
  have hz1 := lt_of_block b1
  refine v_loop (fun r f wr => ∃ k, k ≤ 4 ∧ r = 4 - k ∧ f 1 = .pointer (some ⟨g, 0, none⟩) ∧ f 3 = .pointer (some ⟨g + 1, 0, none⟩) ∧ f 4 = .bool ((xs.take k).all mayI) ∧ f 5 = .int .i64 k ∧
    wr.heap[g]? = some (.cells (ib xs) 52 (0, 0)) ∧ wr.heap[g + 1]? = some (.cells (ib (upto xs k)) 55 (0, 0)) ∧ Ch Nw w wr) 4
    ⟨0, by omega, rfl, by simp, by simp, by simp, by simp, b0, by simpa [upto, ibz] using b1, c1⟩ ?_
  clear b0 b1
  rintro J hJ _ f wr ⟨k, hk, rfl, f1, f3, f4, f5, b0, b1, hc⟩
  by_cases hk4 : k < 4
  · have hki : (k : Int) < 4 := by omega
    obtain ⟨x, hx, okx⟩ := ok.at' hk4
    have hs1 := ino_size okx
    have ha1 := ino_all okx
    have hget := ib_get ok hx
    have hfit : k * 44 + 44 ≤ 176 := by omega
    have hwk : IntKind.i64.wrap ((k : Int) + 1) = ((k + 1 : Nat) : Int) := by simp [IntKind.wrap_i64]; omega
    have htk : xs.take (k + 1) = xs.take k ++ [x] := by rw [List.take_add_one, hx]; rfl
    have haS : (xs.take (k + 1)).all mayI = ((xs.take k).all mayI && mayI x) := by rw [htk, List.all_append]; simp
    have okU := upto_ok ok hk
    have okV := upto_ok ok (k := k + 1) (by omega)
    have hsU := ib_size okU
    have hsV := ib_size okV
    have hbl := ib_blit okU hk4 okx
    rw [upto_set ok hk4 hx] at hbl
    have hgetV := ib_get okV (upto_at ok hk4 hx)
    simp [go_sem, f1, f5, hki, b0, hsz, hfit, hget]
    refine (of_any x wr okx).mono ?_
    rintro _ w2 ⟨rfl, c2⟩
    have b0 := c2.hp b0 id
    have b1 := c2.hp b1 id
    have cR := (Ch.refl (only (g + 1)) w2).setRow (g := g + 1) (.inl rfl) (ib (upto xs (k + 1)))
    have b0 := cR.hp b0 (by simp only [only]; omega)
    have b1' : (w2.setRow (g + 1) (ib (upto xs (k + 1)))).heap[g + 1]? = some (.cells (ib (upto xs (k + 1))) 55 (0, 0)) := by rw [hp_setRow, b1]; rfl
    have hc := (hc.trans c2).setRow (g := g + 1) (.inr (by omega)) (ib (upto xs (k + 1)))
    have next : ∀ (b : Bool) f' u, (xs.take (k + 1)).all mayI = b → f' 1 = .pointer (some ⟨g, 0, none⟩) → f' 3 = .pointer (some ⟨g + 1, 0, none⟩) → f' 4 = .bool b → f' 5 = .int .i64 ((k + 1 : Nat) : Int) → Ch Nw (w2.setRow (g + 1) (ib (upto xs (k + 1)))) u → J (4 - (k + 1)) f' u := fun b f' u e a1 a3 a4 a5 cu =>
      hJ _ _ _ ⟨k + 1, by omega, rfl, a1, a3, by rw [e]; exact a4, a5, cu.hp b0 id, cu.hp b1' id, hc.trans cu⟩
    clear hJ
    have cQ : Ch Nw (w2.setRow (g + 1) (ib (upto xs (k + 1)))) (w2.setRow (g + 1) (ib (upto xs (k + 1)))) := Ch.refl _ _
    obtain ⟨u3, hu3⟩ : ∃ u, w2.setRow (g + 1) (ib (upto xs (k + 1))) = u := ⟨_, rfl⟩
    rw [hu3] at b0 b1' hc next
    have rest : ∀ (bb : Bool) (u : World), Ch Nw u3 u → u.heap[g]? = some (.cells (ib xs) 52 (0, 0)) ∧ u.heap[g + 1]? = some (.cells (ib (upto xs (k + 1))) 55 (0, 0)) ∧ Lw u := fun _ u h => ⟨h.hp b0 id, h.hp b1' id, hw.ch (hc.trans h) id⟩
    cases hak : (xs.take k).all mayI
    · rw [hak] at f4 haS
      simp only [Bool.false_and] at haS
      simp [go_sem, f1, f3, f4, f5, hki, b1, hsU, hs1, hfit, hbl, hu3]
      refine v_draw' [(0, none), (1, none), (2, none), (4, none), (5, none), (6, none), (3, some [4, 5, 6]), (7, some []), (8, none)] (by kernel_rfl) (by kernel_rfl) ?_
      simp [go_sem, f1, f3, f5, hki, b0, b1', hsV, hsz, hfit, hget, hgetV]
      refine (imay_any x _ okx (hw.ch hc.drew id)).mono ?_
      rintro _ w3 ⟨rfl, c3⟩
      have c3 := (Ch.refl Nw u3).drew.trans c3
      obtain ⟨b0, _, _⟩ := rest true w3 c3
      simp [go_sem, f1, f5, hki, b0, hsz, hfit, hget]
      refine (rimay_any x w3 okx).mono ?_
      rintro _ w4 ⟨rfl, c4⟩
      simp [go_sem, f5, hwk]
      exact Rnd.intro _ (by omega) (next false _ _ haS (by simp [f1]) (by simp [f3]) (by simp) (by simp) (c3.trans c4))
    · rw [hak] at f4 haS
      simp only [Bool.true_and] at haS
      simp [go_sem, f1, f3, f4, f5, hki, b1, hsU, hs1, hfit, hbl, hu3, b0, hsz, hget]
      refine (rimay_any x u3 okx).mono ?_
      rintro _ w5 ⟨rfl, c5⟩
      obtain ⟨b0, b1', hw5⟩ := rest true w5 c5
      simp [go_sem]
      refine v_draw' [(0, none), (1, none), (2, none), (4, none), (5, none), (6, none), (3, some [4, 5, 6]), (7, some []), (8, none)] (by kernel_rfl) (by kernel_rfl) ?_
      simp [go_sem, f1, f3, f5, hki, b0, b1', hsV, hsz, hfit, hget, hgetV]
      refine (imay_any x _ okx (hw5.ch (Ch.refl Nw w5).drew id)).mono ?_
      rintro _ w3 ⟨rfl, c3⟩
      have c3 := (c5.drew).trans c3
      obtain ⟨b0, _, _⟩ := rest true w3 c3
      simp [go_sem, f1, f5, hki, b0, hsz, hfit, hget]
      refine (rimay_any x w3 okx).mono ?_
      rintro _ w4 ⟨rfl, c4⟩
      simp [go_sem, f5, hwk]
      exact Rnd.intro _ (by omega) (next (mayI x) _ _ haS (by simp [f1]) (by simp [f3]) (by simp) (by simp) (c3.trans c4))
  · obtain rfl : k = 4 := by omega
    rw [List.take_of_length_le (by rw [ok.len]; omega)] at f4
    rw [upto_all ok] at b1
    have hw2 := hw.ch hc id
    simp [go_sem, f3, f5, b1, hsz, hall]
    refine (ibput_any xs wr ok hw2).mono ?_
    rintro _ w3 ⟨s, e, rfl, c3, ⟨rfl, ha, hsl⟩ | ⟨rfl, ha, rfl⟩⟩
    · have hbl : (bytesI xs).length = 512 := by rw [bytesI_length _ ok.all, ok.len]
      have b0 := c3.hp b0 id
      rw [ha] at f4
      simp [go_sem, f4]
      refine v_draw' [(0, none), (1, none), (2, none), (3, none), (4, none), (5, none), (6, some [3, 4]), (7, none), (8, none), (9, none), (10, none), (11, some []), (12, none), (13, none)] (by kernel_rfl) (by kernel_rfl) ?_
      have s1 := sx (show Sl w3.drew s _ _ from hsl) rfl
      simp [go_sem, f1, s1]
      refine (rblock_any g _ xs w3.drew ok b0).mono ?_
      intro v4 w4 h4
      have cD := (Ch.refl Nw w3).drew.trans h4.ch
      have s2 := sx h4.sl hbl
      have s3 := sx (hsl.ch cD fun _ _ e => e) rfl
      simp [go_sem, s2, s3]
      refine (iwakes_any w4 (hw2.ch (c3.trans cD) id) (hl.ch ((hc.trans c3).trans cD) id)).mono ?_
      rintro _ w5 ⟨rfl, c5⟩
      simp [go_sem]
      exact hR _ _ ⟨rfl, ((hc.trans c3).trans cD).trans c5⟩
    · rw [ha] at f4
      simp [go_sem, f4]
      refine (iwakes_any w3 (hw2.ch c3 id) (hl.ch (hc.trans c3) id)).mono ?_
      rintro _ w4 ⟨rfl, c4⟩
      simp [go_sem]
      exact hR _ _ ⟨rfl, (hc.trans c3).trans c4⟩
end Go.Proofs.YtfcoiboeohgimaaDoor
