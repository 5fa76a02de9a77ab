/- PtrTakes, walked. Conditions: the variables sha.constants and ptr.wide hold what the text lays. -/
import Derived.Test.YtfcoiboeohgimaaDoorPtK
import Derived.Test.YtfcoiboeohgimaaDoorPtH
namespace Go.Proofs.YtfcoiboeohgimaaDoor
open Go.RowKit Go.Kin

theorem pS_ok (l : List UInt8) (e : Int) : PtOk (ptS l e).1 := by
  unfold ptS
  split
  · exact ptz_ok
  · split
    · refine ptOf_ok ?_
      rename_i h _
      have : (rawS l e 64).1.length ≤ 64 := by
        unfold rawS
        split
        · exact Nat.zero_le _
        · split
          · exact Nat.zero_le _
          · exact List.length_take_le _ _
      omega
    · exact ptz_ok
theorem own_or' {own o : Option Nat} {n : Nat} (hn : ∀ k, own = some k → k < n) (ho : o = own ∨ o = none) : ∀ k, o = some k → k < n := by
  intro k hk
  rcases ho with rfl | rfl
  · exact hn k hk
  · cases hk
theorem ptake_nil (w : World) : Ret Tryd.prog 42 #[.pointer none] w fun v' w' => v' = .agg (pt ptz) ∧ Ch Nw w w' := by
  refine v_enter Tryd.func42 Tryd.ntmps42 rfl (by simp) fun R' hR => ?_
  simp [go_sem, hz_pt, zc_pt]
  have hb1 := hp_alloc w (.cells (pt ptz) 28)
  have hc1 := (Ch.refl Nw w).alloc (.cells (pt ptz) 28)
  revert hb1 hc1
  generalize w.alloc (.cells (pt ptz) 28) = w1
  generalize hq : w.heap.size = q at *
  intro hb1 hc1
  refine (raw_nil 64 w1).mono ?_
  rintro _ w1 ⟨rfl, rfl⟩
  have hsz := pt_size ptz_ok
  have hall := pt_all ptz_ok
  have hb0 := fun w K => bld_pt0 (w := w) (K := K)
  have b9 : (w1.setRow q (pt ptz)).heap[q]? = some (.cells (pt ptz) 28 (0, 0)) := by rw [hp_setRow, hb1]; rfl
  simp [go_sem, hb0, hb1, hsz, hall, blit_whole, b9]
  exact hR _ _ ⟨rfl, hc1.setRow (g := q) (.inr (by omega)) _⟩
theorem ptakes_any (v : Value) (l : List UInt8) (w : World) (hs : Sl w v l.length (bvs l)) (hv : ∀ k, v.ownBlock = some k → k < w.heap.size) (hw : Lw w) (hk : Lk w) :
    Ret Tryd.prog 11 #[v] w fun v' w' => v' = .bool true ∧ Ch Nw w w' := by
  have hlen := hs.len Tryd.underlying30 3
  refine v_enter Tryd.func11 Tryd.ntmps11 rfl (by simp) fun R' hR => ?_
  by_cases h200 : (200 : Int) < l.length
  · simp [go_sem, hlen, h200]
    refine (pwakes_any w hw hk).mono ?_
    rintro _ w2 ⟨rfl, c2⟩
    simp [go_sem]
    exact hR _ _ ⟨rfl, c2⟩
  simp [go_sem, hlen, h200]
  refine (new_any v l w (by omega) hs).mono ?_
  rintro _ w1 ⟨g, o, rfl, hg, ho, ho1, hr, c1⟩
  simp [go_sem]
  refine (ptake_any g o l 0 w1 (by omega) (hw.ch c1 id) (by have := hw.lt; omega) hr ho1).mono ?_
  rintro _ w2 ⟨rfl, hr2, c2⟩
  have hglt := hr.lt
  have c2' : Ch Nw w w2 := c1.trans' c2 fun j hj e => by simp only [only] at e; omega
  have okp := pS_ok l 0
  have hsp := pt_size okp
  have hap := pt_all okp
  have hsz := pt_size ptz_ok
  obtain ⟨P, hP⟩ : ∃ P, (ptS l 0).1 = P := ⟨_, rfl⟩
  rw [hP] at okp hsp hap ⊢
  simp [go_sem, hz_pt, zc_pt, hsz, hsp, blit_whole]
  have c3 := (Ch.refl Nw w2).alloc (.cells (pt P) 28)
  have b4 := hp_alloc w2 (.cells (pt P) 28)
  have hs3 := hs.ch (c2'.trans c3) fun _ _ e => e
  have hr3 := hr2.ch c3 id id
  have c3' := c2'.trans c3
  have hgq : g < w2.heap.size := by have := c2.size; omega
  have hoq : o < w2.heap.size := by have := c2.size; omega
  revert b4 hs3 hr3 c3' hgq hoq
  generalize w2.alloc (.cells (pt P) 28) = w3
  generalize w2.heap.size = q4
  intro b4 hs3 hr3 c3' hgq hoq
  clear c3
  obtain ⟨A, cA, rfl, hle⟩ := id hs
  simp [go_sem]
  refine (rtake_any _ l 0 (Value.slice A l.length cA).ownBlock w3 (by omega) ⟨_, rfl, hs3, .inl rfl⟩ (fun k hk' => by have := hv k hk'; have := c3'.size; omega)).mono ?_
  rintro _ u1 ⟨_, rfl, ⟨s3, rfl, hs4, ho4⟩, cu⟩
  obtain ⟨A4, c4, rfl, _⟩ := id hs4
  rw [hP]
  have b4 := cu.hp b4 id
  have hr4 := hr3.ch cu id id
  have cU := c3'.trans cu
  have hq4 := lt_of_block b4
  simp [go_sem, hz_pt, zc_pt, hsz, hsp, blit_whole]
  have cA' := ((Ch.refl Nw u1).alloc (.cells (pt ptz) 28)).alloc (.cells #[.slice none 0 0, .int .i64 0] 43)
  have b8 := al2_0 u1 (.cells (pt ptz) 28) (.cells #[.slice none 0 0, .int .i64 0] 43)
  have b9 := al2_1 u1 (.cells (pt ptz) 28) (.cells #[.slice none 0 0, .int .i64 0] 43)
  have b4 := cA'.hp b4 id
  have hr4 := hr4.ch cA' id id
  have cc := cU.trans cA'
  have hzz : ((u1.alloc (.cells (pt ptz) 28)).alloc (.cells #[.slice none 0 0, .int .i64 0] 43)).heap.size = u1.heap.size + 2 := by simp
  have hou : o < u1.heap.size := by omega
  have hgu : g < u1.heap.size := by omega
  clear cA'
  revert b8 b9 b4 hr4 cc hzz hou hgu
  generalize (u1.alloc (.cells (pt ptz) 28)).alloc (.cells #[.slice none 0 0, .int .i64 0] 43) = uA
  generalize u1.heap.size = q8 at *
  intro b8 b9 b4 hr4 cc hzz hou hgu
  generalize hE : (ptS l 0).2.2 = E at *
  generalize hL : (ptS l 0).2.1 = L at *
  have cB := (Ch.refl (only q8) uA).setRow (g := q8) (.inl rfl) (pt P)
  have nq : ∀ j, j ≠ q8 → ¬ only q8 j := fun j h e => h e
  have hown8 : ∀ k, (Value.slice A4 L.length c4).ownBlock = some k → k < q8 := own_or' (fun k hk' => by have := hv k hk'; have := cU.size; omega) ho4
  have b9 := cB.hp b9 (nq _ (by omega))
  have b4 := cB.hp b4 (nq _ (by omega))
  have hr4 := hr4.ch cB (nq _ (by omega)) (nq _ (by omega))
  have cc := cc.setRow (g := q8) (.inr (by have := cU.size; omega)) (pt P)
  have b8 : (uA.setRow q8 (pt P)).heap[q8]? = some (.cells (pt P) 28 (0, 0)) := by rw [hp_setRow, b8]; rfl
  clear cB
  revert b8 b9 b4 hr4 cc
  generalize uA.setRow q8 (pt P) = uB
  intro b9 b4 hr4 cc b8
  have cB := put2_ch (s := .slice A4 L.length c4) (e := E) (q := q8 + 1) (Ch.refl (only (q8 + 1)) uB) (.inl rfl)
  have nq : ∀ j, j ≠ q8 + 1 → ¬ only (q8 + 1) j := fun j h e => h e
  have q9 := fun i => cell_blk b9 i
  have z9 := fun i => frz_blk b9 i
  have b8 := cB.hp b8 (nq _ (by omega))
  have b4 := cB.hp b4 (nq _ (by omega))
  have hr4 := hr4.ch cB (nq _ (by omega)) (nq _ (by omega))
  have cc := put2_ch (s := .slice A4 L.length c4) (e := E) (q := q8 + 1) cc (.inr (by have := cU.size; omega))
  have b9 : (put2 uB (q8 + 1) (.slice A4 L.length c4) E).heap[q8 + 1]? = some (.cells #[.slice A4 L.length c4, .int .i64 E] 43 (0, 0)) := blk_set1 (blk_set0 b9)
  obtain ⟨u2, hu2⟩ : ∃ u, put2 uB (q8 + 1) (.slice A4 L.length c4) E = u := ⟨_, rfl⟩
  rw [hu2] at b8 b9 b4 hr4 cc
  simp only [put2] at hu2
  clear cB
  simp [go_sem, q9, z9, hu2]
  refine v_draw' [(0, none), (1, none), (2, none), (3, none), (4, none), (6, none), (7, none), (5, some [6, 7]), (8, none), (9, none), (10, none), (11, none), (13, none), (14, none), (15, none), (12, some [13, 14, 15]), (16, none), (17, none), (18, none), (20, none), (19, some [20]), (21, none), (22, none), (23, none), (24, some []), (25, none), (26, none)] (by kernel_rfl) (by kernel_rfl) ?_
  have cc := cc.drew
  replace hr4 : Rdr u2.drew g o L E := hr4
  replace b4 : u2.drew.heap[q4]? = _ := b4
  replace b8 : u2.drew.heap[q8]? = _ := b8
  replace b9 : u2.drew.heap[q8 + 1]? = _ := b9
  clear hu2
  revert cc hr4 b4 b8 b9
  generalize u2.drew = u2
  intro cc hr4 b4 b8 b9
  have q9 := fun i => cell_blk b9 i
  have heq := fun w => eq_pt w okp okp
  have heqz := fun w => eq_pt w ptz_ok ptz_ok
  have hb0 := fun w K => bld_pt0 (w := w) (K := K)
  simp [go_sem, b4, b8, q9, hsp, hap, heq]
  refine (err_any g L E u2 hr4).mono ?_
  rintro _ u2 ⟨rfl, rfl⟩
  simp [go_sem, b4, b8, q9, hsp, hap, heq]
  refine (left_any g L E u2 hr4).mono ?_
  rintro _ u2 ⟨rfl, rfl⟩
  simp [go_sem, b4, b8, q9, hsp, hap, heq, hb0]
  refine (ptake_nil u2).mono ?_
  rintro _ u3 ⟨rfl, c3⟩
  simp [go_sem, hb0, heqz]
  refine (pwakes_any u3 (hw.ch (cc.trans c3) id) (hk.ch (cc.trans c3) id)).mono ?_
  rintro _ u4 ⟨rfl, c4⟩
  simp [go_sem]
  exact hR _ _ ⟨rfl, (cc.trans c3).trans c4⟩
end Go.Proofs.YtfcoiboeohgimaaDoor
