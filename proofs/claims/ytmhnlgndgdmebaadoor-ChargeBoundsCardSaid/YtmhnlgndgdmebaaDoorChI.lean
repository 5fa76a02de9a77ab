/- ChargeBounds walked: what objects take is never more than their charge; one object more makes neither less. Condition: the variable inode.leaves holds what the text lays. -/
import Derived.Test.YtmhnlgndgdmebaaDoorChH
namespace Go.Proofs.YtmhnlgndgdmebaaDoor
open Go.RowKit Go.Kin

theorem one_objs {w : World} {g : Nat} {x : Ob} {A : Option Addr} {c : Nat} {T : TypeId} {fr : Nat × Nat} (hb : w.heap[g]? = some (.cells #[.int .u16 x.1, .int .u8 x.2.1, .slice A x.2.2.length c] T fr)) (hx : x.1 < 65536 ∧ x.2.1 < 256 ∧ ∀ n ∈ x.2.2, n < 4294967296) (hs : Sl w (.slice A x.2.2.length c) x.2.2.length (u32s x.2.2)) :
    Objs w (.slice (some ⟨g, 0, none⟩) 1 1) [x] := by
  refine ⟨_, 1, rfl, Nat.le_refl _, by decide, fun _ => ⟨g, 0, rfl, fun j y hy => ?_⟩⟩
  match j, hy with
  | 0, hy => cases hy; exact ⟨hx, cell_blk hb 0, cell_blk hb 1, _, _, cell_blk hb 2, hs⟩
  | j + 1, hy => simp at hy
theorem oneQ {wq w : World} {g : Nat} {x : Ob} {A : Option Addr} {c : Nat} {T : TypeId} {fr : Nat × Nat} (hb : w.heap[g]? = some (.cells #[.int .u16 x.1, .int .u8 x.2.1, .slice A x.2.2.length c] T fr)) (hs : Sl wq (.slice A x.2.2.length c) x.2.2.length (u32s x.2.2)) :
    ObjQ wq w (.slice (some ⟨g, 0, none⟩) 1 1) [x] := by
  intro bb bo n c' hv j y hy s hc
  simp at hv
  obtain ⟨⟨rfl, rfl⟩, -, -⟩ := hv
  match j, hy with
  | 0, hy =>
    cases hy
    rw [cell_blk hb] at hc
    cases hc
    exact hs
  | j + 1, hy => simp at hy
/-- two rows, joined -/
theorem app_objs {w1 : World} {l : List Ob} {x : Ob} {v1 v2 : Value} {c1 c2 : List Value} {wa wb wc : World} {K : Value → World → Prop} {ty : TypeId} (hl : l.length ≤ 300) (m1 : MineS 64 3 wa v1 l.length c1 w1) (o1 : ObL wa c1 l) (m2 : MineS 64 3 wb v2 1 c2 w1) (o2 : ObL wc c2 [x])
    (hwa : Ch Nw wc wa) (hf : ∀ k, v1.ownBlock = some k → wc.heap.size ≤ k) (hc : Ch Nw wc w1)
    (h : ∀ v' w', Objs w' v' (l ++ [x]) → Ch Nw wc w' → K v' w') : VB Tryd.prog .append #[35, 35] ty #[v1, v2] w1 K := by
  obtain ⟨g2, cap, cur, rfl, h1, h2, hb, h3, h4⟩ := ownS_blk m2.own (by omega)
  have hlen := o2.len
  refine VB_appS tyOb m1.own (m := 1) (by simpa using hlen) (fun j u hu => by rw [Addr.add_lit, Nat.zero_add]; exact h4 j u hu) (fun u hu => ?_) (by unfold maxLen; omega) (by omega) fun v' w' k1 k2 k3 => ?_
  · match c2, o2 with
    | [a, b, s], o2 =>
      obtain ⟨rfl, rfl, ⟨A, c, rfl⟩, _⟩ := o2
      simp at hu
      rcases hu with rfl | rfl | rfl <;> rfl
    | a :: b :: s :: d :: r, o2 => simp at hlen
  · have hcc := hc.trans' k2 fun j hj e => by have := hf _ e; omega
    refine h _ _ (objs_of_own (by simpa using k1) ?_) hcc
    exact (o1.keep fun p u hp => (m1.ch.trans' k2 fun j hj e => by have := m1.fresh _ e; omega).cell hp id).app (o2.keep fun p u hp => hcc.cell hp id)
theorem cbounds_any (v : Value) (l : List Ob) (x : Ob) (A : Option Addr) (c : Nat) (w : World) (ho : Objs w v l) (hx : x.1 < 65536 ∧ x.2.1 < 256 ∧ ∀ n ∈ x.2.2, n < 4294967296) (hs : Sl w (.slice A x.2.2.length c) x.2.2.length (u32s x.2.2)) (hlv : Lv w) :
    Ret Tryd.prog 4 #[v, .agg #[.int .u16 x.1, .int .u8 x.2.1, .slice A x.2.2.length c]] w fun v' w' => v' = .bool true ∧ Ch Nw w w' := by
  refine v_enter Tryd.func4 Tryd.ntmps4 rfl (by simp) fun R' hR => ?_
  simp [go_sem]
  have hb0 := hp_alloc w (.cells #[.int .u16 x.1, .int .u8 x.2.1, .slice A x.2.2.length c] 33)
  have hc := (Ch.refl Nw w).alloc (.cells #[.int .u16 x.1, .int .u8 x.2.1, .slice A x.2.2.length c] 33)
  have hlv0 := hlv.ch hc id
  have ho0 := ho.keep hc
  have hs0 := hs.keep fun p u hp => hc.cell hp id
  revert hb0 hc hlv0 ho0 hs0
  generalize w.alloc (.cells #[.int .u16 x.1, .int .u8 x.2.1, .slice A x.2.2.length c] 33) = w0
  generalize hg : w.heap.size = g
  intro hb0 hc hlv0 ho0 hs0
  refine (great_any v l w0 ho0).mono ?_
  rintro _ w0 ⟨rfl, rfl⟩
  have cel := fun i => cell_blk hb0 i
  by_cases hgr : greatB l = true
  · simp [go_sem, hgr]
    refine (cwakes_any w0 hlv0).mono ?_
    rintro _ w1 ⟨rfl, c1⟩
    simp [go_sem]
    exact hR _ _ ⟨rfl, hc.trans c1⟩
  have hgr : greatB l = false := by simpa using hgr
  by_cases h100 : 100 < x.2.2.length
  · have h100' : (100 : Int) < x.2.2.length := by omega
    simp [go_sem, hgr, cel, h100']
    refine (cwakes_any w0 hlv0).mono ?_
    rintro _ w1 ⟨rfl, c1⟩
    simp [go_sem]
    exact hR _ _ ⟨rfl, hc.trans c1⟩
  have h100' : ¬ (100 : Int) < x.2.2.length := by omega
  obtain ⟨hl, hol⟩ := great_no hgr
  simp [go_sem, hgr, cel, h100']
  refine (of_law v l w0 (by omega) ho0).mono ?_
  rintro va w1 ⟨csa, ma, oba⟩
  have hla := objs_of_own ma.own oba
  have hlv1 := hlv0.ch ma.ch id
  have ho1 := ho0.keep ma.ch
  have hs1 := hs0.keep fun p u hp => ma.ch.cell hp id
  have hb1 := ma.ch.hp hb0 id
  have cel1 := fun i => cell_blk hb1 i
  have c01 := hc.trans ma.ch
  simp [go_sem]
  refine v_join (fun f u => f 5 = va ∧ Objs u (f 6) (l ++ [x]) ∧ Ch Nw w1 u) [[(0,none),(2,none),(1,some [2]),(3,some []),(4,some []),(5,some []),(6,none)], [(0,none),(2,none),(3,some [0]),(1,some []),(4,some []),(5,some []),(6,none)]] (by kernel_rfl) (by kernel_rfl) ?_ ?_
  · intro plan hp
    simp only [List.mem_cons, List.not_mem_nil, or_false] at hp
    rcases hp with rfl | rfl
    · simp [go_sem, cel1]
      refine (of_law' v l w1.drew (by omega) (ho1.keep (Ch.refl Nw w1).drew)).mono ?_
      rintro vb w2 ⟨csb, mb, obb⟩
      have d2 := (Ch.refl Nw w1).drew.trans mb.ch
      have cel2 := fun i => cell_blk (d2.hp hb1 id) i
      simp [go_sem, cel2]
      have hq := hp_alloc w2 (.cells #[.int .u16 x.1, .int .u8 x.2.1, .slice A x.2.2.length c] 33)
      have d3 := d2.alloc (.cells #[.int .u16 x.1, .int .u8 x.2.1, .slice A x.2.2.length c] 33)
      refine (of_law' _ [x] _ (by simp) (one_objs hq hx (hs1.keep fun p u hp => d3.cell hp id))).mono ?_
      rintro vc w3 ⟨csc, mc, obc⟩
      have d23 := ((Ch.refl Nw w2).alloc (.cells #[.int .u16 x.1, .int .u8 x.2.1, .slice A x.2.2.length c] 33)).trans mc.ch
      simp [go_sem]
      refine app_objs (wa := w1.drew) (wc := w1) hl (mb.step d23) (obb _ (.own (ho1.keep (Ch.refl Nw w1).drew))) mc (obc _ ?_) (Ch.refl Nw w1).drew mb.fresh (d2.trans d23) ?_
      · exact oneQ hq hs1
      · intro v' w' k1 k2
        simp [go_sem]
        exact ⟨k1, k2⟩
    · simp [go_sem, cel1]
      have hq := hp_alloc w1 (.cells #[.int .u16 x.1, .int .u8 x.2.1, .slice A x.2.2.length c] 33)
      have d1 := ((Ch.refl Nw w1).alloc (.cells #[.int .u16 x.1, .int .u8 x.2.1, .slice A x.2.2.length c] 33)).drew
      refine (of_law' v l _ (by omega) (ho1.keep d1)).mono ?_
      rintro vb w2 ⟨csb, mb, obb⟩
      have d2 := d1.trans mb.ch
      simp [go_sem]
      refine (of_law' _ [x] _ (by simp) (one_objs (mb.ch.hp (by rw [hp_drew]; exact hq) id) hx (hs1.keep fun p u hp => d2.cell hp id))).mono ?_
      rintro vc w3 ⟨csc, mc, obc⟩
      simp [go_sem]
      refine app_objs (wa := (w1.alloc (.cells #[.int .u16 x.1, .int .u8 x.2.1, .slice A x.2.2.length c] 33)).drew) (wc := w1) hl (mb.step mc.ch) (obb _ (.own (ho1.keep d1))) mc (obc _ ?_) d1 (fun k hk => ?_) (d2.trans mc.ch) ?_
      · exact oneQ (mb.ch.hp (by rw [hp_drew]; exact hq) id) hs1
      · have := mb.fresh k hk
        simp at this
        omega
      · intro v' w' k1 k2
        simp [go_sem]
        exact ⟨k1, k2⟩
  clear ho1 hs1 hb1 cel1
  rintro f u ⟨f5, hob, cu⟩
  have hlv2 := hlv1.ch cu id
  have hoa := hla.keep cu
  have hl1 : (l ++ [x]).length ≤ 1000 := by simp; omega
  have hol0 : ∀ y ∈ l, y.2.2.length ≤ 1000 := fun y hy => by have := hol y hy; omega
  have hol1 : ∀ y ∈ l ++ [x], y.2.2.length ≤ 1000 := fun y hy => by
    simp at hy
    rcases hy with hy | rfl
    · exact hol0 y hy
    · omega
  have t0 := takes_le l
  have t1 := takes_le (l ++ [x])
  have t2 : (takesN (selO l).1 : Int) ≤ (takesN (selO (l ++ [x])).1 : Nat) := Int.ofNat_le.2 (takes_more l x)
  have t3 := charge_more l x
  have b0 := fiS_le (selO l).1
  have b1 := meS_le (selO l).1
  have b2 := selO_count l
  have b3 := fiS_le (selO (l ++ [x])).1
  have b4 := meS_le (selO (l ++ [x])).1
  have b5 := selO_count (l ++ [x])
  have mf0 : mid (fiS (selO l).1 : Nat) := ⟨by omega, by omega⟩
  have mm0 : mid (meS (selO l).1 : Nat) := ⟨by omega, by omega⟩
  have mo0 : mid ((selO l).1.length : Nat) := ⟨by omega, by omega⟩
  have mf1 : mid (fiS (selO (l ++ [x])).1 : Nat) := ⟨by omega, by omega⟩
  have mm1 : mid (meS (selO (l ++ [x])).1 : Nat) := ⟨by omega, by omega⟩
  have mo1 : mid ((selO (l ++ [x])).1.length : Nat) := ⟨by omega, by omega⟩
  generalize hvb : f 6 = vb at hob
  simp [go_sem, f5]
  refine (takes_any va l u (by omega) hol0 hoa hlv2).mono ?_
  rintro _ u1 ⟨rfl, c1⟩
  have hv1 := hlv2.ch c1 id
  have oa1 := hoa.keep c1
  have ob1 := hob.keep c1
  simp [go_sem, f5]
  refine (of_any va l u1 (by omega) hol0 oa1 hv1).mono ?_
  rintro _ u2 ⟨rfl, c2⟩
  have hv2 := hv1.ch c2 id
  have oa2 := oa1.keep c2
  have ob2 := ob1.keep c2
  simp [go_sem]
  refine (charge_any _ _ _ u2 mf0 mm0 mo0).mono ?_
  rintro _ u3 ⟨rfl, c3⟩
  have hv3 := hv2.ch c3 id
  have oa3 := oa2.keep c3
  have ob3 := ob2.keep c3
  simp [go_sem, t0, hvb]
  refine (takes_any vb (l ++ [x]) u3 hl1 hol1 ob3 hv3).mono ?_
  rintro _ u4 ⟨rfl, c4⟩
  have hv4 := hv3.ch c4 id
  have oa4 := oa3.keep c4
  have ob4 := ob3.keep c4
  simp [go_sem, hvb]
  refine (of_any vb (l ++ [x]) u4 hl1 hol1 ob4 hv4).mono ?_
  rintro _ u5 ⟨rfl, c5⟩
  have hv5 := hv4.ch c5 id
  have oa5 := oa4.keep c5
  have ob5 := ob4.keep c5
  simp [go_sem]
  refine (charge_any _ _ _ u5 mf1 mm1 mo1).mono ?_
  rintro _ u6 ⟨rfl, c6⟩
  have hv6 := hv5.ch c6 id
  have oa6 := oa5.keep c6
  have ob6 := ob5.keep c6
  simp [go_sem, t1, f5]
  refine (takes_any va l u6 (by omega) hol0 oa6 hv6).mono ?_
  rintro _ u7 ⟨rfl, c7⟩
  have hv7 := hv6.ch c7 id
  have oa7 := oa6.keep c7
  have ob7 := ob6.keep c7
  simp [go_sem, hvb]
  refine (takes_any vb (l ++ [x]) u7 hl1 hol1 ob7 hv7).mono ?_
  rintro _ u8 ⟨rfl, c8⟩
  have hv8 := hv7.ch c8 id
  have oa8 := oa7.keep c8
  have ob8 := ob7.keep c8
  simp [go_sem, t2, f5]
  refine (of_any va l u8 (by omega) hol0 oa8 hv8).mono ?_
  rintro _ u9 ⟨rfl, c9⟩
  have hv9 := hv8.ch c9 id
  have ob9 := ob8.keep c9
  simp [go_sem]
  refine (charge_any _ _ _ u9 mf0 mm0 mo0).mono ?_
  rintro _ u10 ⟨rfl, c10⟩
  have hv10 := hv9.ch c10 id
  have ob10 := ob9.keep c10
  simp [go_sem, hvb]
  refine (of_any vb (l ++ [x]) u10 hl1 hol1 ob10 hv10).mono ?_
  rintro _ u11 ⟨rfl, c11⟩
  have hv11 := hv10.ch c11 id
  simp [go_sem]
  refine (charge_any _ _ _ u11 mf1 mm1 mo1).mono ?_
  rintro _ u12 ⟨rfl, c12⟩
  have hv12 := hv11.ch c12 id
  simp [go_sem, t3]
  refine (cwakes_any u12 hv12).mono ?_
  rintro _ u13 ⟨rfl, c13⟩
  simp [go_sem]
  exact hR _ _ ⟨rfl, c01.trans (cu.trans (c1.trans (c2.trans (c3.trans (c4.trans (c5.trans (c6.trans (c7.trans (c8.trans (c9.trans (c10.trans (c11.trans (c12.trans c13)))))))))))))⟩
end Go.Proofs.YtmhnlgndgdmebaaDoor
