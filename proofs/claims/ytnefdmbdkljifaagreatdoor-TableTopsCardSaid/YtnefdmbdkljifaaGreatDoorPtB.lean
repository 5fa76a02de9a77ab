/- How many copies a kind has; whether a pointer may be: ptr's own answer, and the document's. Condition: the variable ptr.wide holds what the text lays. -/
import Derived.Test.YtnefdmbdkljifaaGreatDoorChecked
import Derived.Test.YtnefdmbdkljifaaGreatDoorSpH
set_option linter.unusedSimpArgs false
set_option linter.unusedVariables false

/- A pointer's cells; its copies as an iterator; whether it has one. No condition but that the values are of their types. -/
namespace Go.Proofs.YtnefdmbdkljifaaGreatDoor
open Go.RowKit Go.Kin

/-- a pointer: kind, level, object, offset, birth, hash, addresses -/
structure Pt where
  k : Nat
  l : Nat
  o : Nat
  f : Nat
  b : Nat
  h : List UInt8
  a : List Nat
deriving DecidableEq
def pt (p : Pt) : Array Value := (.int .u8 p.k :: .int .u8 p.l :: .int .u16 p.o :: .int .u32 p.f :: .int .u64 p.b :: (bvs p.h ++ u16s p.a)).toArray
structure PtOk (p : Pt) : Prop where
  k : p.k < 256
  l : p.l < 256
  o : p.o < 65536
  f : p.f < 4294967296
  b : p.b < 18446744073709551616
  h : p.h.length = 32
  a : p.a.length = 4
  at' : ∀ x ∈ p.a, x < 65536
section
variable {p : Pt}
theorem pt_size (ok : PtOk p) : (pt p).size = 41 := by simp [pt, bvs_length, u16s_length, ok.h, ok.a]
theorem pt_ones (p : Pt) : ones (pt p) = true := ones_of (by
  intro u hu
  simp only [List.mem_cons, List.mem_append] at hu
  rcases hu with rfl | rfl | rfl | rfl | rfl | hu | hu
  · rfl
  · rfl
  · rfl
  · rfl
  · rfl
  · exact bvs_one _ u hu
  · exact u16s_one _ u hu)
theorem pt_all (ok : PtOk p) : (pt p).extract 0 41 = pt p := by rw [← pt_size ok]; simp
theorem pt_k : (pt p)[0]? = some (.int .u8 p.k) := by simp [pt]
theorem pt_l : (pt p)[1]? = some (.int .u8 p.l) := by simp [pt]
theorem pt_o : (pt p)[2]? = some (.int .u16 p.o) := by simp [pt]
theorem pt_f : (pt p)[3]? = some (.int .u32 p.f) := by simp [pt]
theorem pt_b : (pt p)[4]? = some (.int .u64 p.b) := by simp [pt]
theorem pt_a (ok : PtOk p) {i x : Nat} (h : p.a[i]? = some x) : (pt p)[37 + i]? = some (.int .u16 x) := by
  simp only [pt, List.getElem?_toArray]
  rw [show 37 + i = (32 + i) + 1 + 1 + 1 + 1 + 1 by omega]
  simp only [List.getElem?_cons_succ]
  rw [List.getElem?_append_right (by rw [bvs_length, ok.h]; omega), bvs_length, ok.h, show 32 + i - 32 = i by omega, u16s, List.getElem?_map, h]
  rfl
theorem a4 (ok : PtOk p) : ∃ a0 a1 a2 a3, p.a = [a0, a1, a2, a3] ∧ a0 < 65536 ∧ a1 < 65536 ∧ a2 < 65536 ∧ a3 < 65536 := by
  have h := ok.a
  have hx := ok.at'
  match ha : p.a, h with
  | [a0, a1, a2, a3], _ =>
    rw [ha] at hx
    exact ⟨a0, a1, a2, a3, rfl, hx _ (by simp), hx _ (by simp), hx _ (by simp), hx _ (by simp)⟩
end
/-- the places of the copies -/
def cseq (a : List Nat) (k : Nat) : List Nat := (List.range k).filter fun i => a.getD i 0 != 0
def cenc (a : List Nat) (i : Nat) : List Value := [.int .i64 ((i : Int) / 2), .int .u16 (a.getD i 0)]
theorem cseq_succ (a : List Nat) (k : Nat) : cseq a (k + 1) = if a.getD k 0 = 0 then cseq a k else cseq a k ++ [k] := by
  unfold cseq
  rw [List.range_succ, List.filter_append]
  by_cases h : a.getD k 0 = 0
  · rw [if_pos h, List.filter_cons_of_neg (by rw [h]; simp)]; simp
  · rw [if_neg h, List.filter_cons_of_pos (by simpa using h)]; simp
theorem cseq_pre (a : List Nat) {k : Nat} (h : k ≤ 4) : ∃ m, m ≤ (cseq a 4).length ∧ cseq a k = (cseq a 4).take m := by
  have key : ∀ j, cseq a k <+: cseq a (k + j) := fun j => by
    induction j with
    | zero => exact List.prefix_refl _
    | succ j ih =>
      rw [← Nat.add_assoc, cseq_succ]
      split
      · exact ih
      · exact ih.trans (List.prefix_append _ _)
  have := key (4 - k)
  rw [show k + (4 - k) = 4 by omega] at this
  exact ⟨_, this.length_le, (List.prefix_iff_eq_take.1 this)⟩

theorem copies_iter (p : Pt) (g : Nat) (T : TypeId) (fr : Nat × Nat) (S : Nat → Prop) (w : World) (ok : PtOk p) (hb : w.heap[g]? = some (.cells (pt p) T fr)) :
    Iter Tryz.prog 103 [.pointer (some ⟨g, 0, none⟩)] 2 (cenc p.a) (cseq p.a 4) S w := by
  refine ⟨fun x => rfl, fun args w => by simp [go_sem], ?_⟩
  intro l J Jx W hW hJ hJx hY h0
  obtain ⟨a0, a1, a2, a3, ha, _⟩ := a4 ok
  have hbW := hW.obj hb id
  have c0 := (cell_blk hbW 37).trans (pt_a ok (i := 0) (x := a0) (by rw [ha]; rfl))
  have c1 := (cell_blk hbW 38).trans (pt_a ok (i := 1) (x := a1) (by rw [ha]; rfl))
  have c2 := (cell_blk hbW 39).trans (pt_a ok (i := 2) (x := a2) (by rw [ha]; rfl))
  have c3 := (cell_blk hbW 40).trans (pt_a ok (i := 3) (x := a3) (by rw [ha]; rfl))
  refine v_enter Tryz.func103 Tryz.ntmps103 rfl (by simp) fun R' hR => ?_
  simp [go_sem, c0, c1, c2, c3]
  refine v_loop (fun r f wr => ∃ k, k ≤ 4 ∧ r = 4 - k ∧ f 0 = .func (.yield l) #[] #[] ∧ f 6 = .agg #[.int .u16 a0, .int .u16 a1, .int .u16 a2, .int .u16 a3] ∧ f 7 = .int .i64 k ∧ J (cseq p.a k) wr) 4
    ⟨0, by omega, rfl, by simp, by simp, by simp, h0⟩ ?_
  rintro I hI _ f wr ⟨k, hk, rfl, e0, e6, e7, hj⟩
  by_cases hk4 : k < 4
  · have hki : (k : Int) < 4 := by omega
    have hcell : ∃ x, p.a.getD k 0 = x ∧ #[Value.int .u16 a0, Value.int .u16 a1, Value.int .u16 a2, Value.int .u16 a3][k]? = some (.int .u16 x) := by
      refine ⟨_, rfl, ?_⟩
      rw [ha]
      match k, hk4 with
      | 0, _ => rfl
      | 1, _ => rfl
      | 2, _ => rfl
      | 3, _ => rfl
    obtain ⟨x, hx, hcx⟩ := hcell
    have hidx := fun w => run_index_agg (P := Tryz.prog) (kd := .i64) Tryz.underlying35 Tryz.sizeOf31 Tryz.isAgg31 hk4 hcx w
    have hwk : IntKind.i64.wrap ((k : Int) + 1) = ((k + 1 : Nat) : Int) := by simp [IntKind.wrap_i64]; omega
    have hwq : IntKind.i64.wrap ((k : Int) / 2) = (k : Int) / 2 := by simp [IntKind.wrap_i64]; omega
    by_cases hx0 : x = 0
    · subst hx0
      simp [go_sem, e0, e6, e7, hki, hidx, hwk]
      refine Rnd.intro (4 - (k + 1)) (by omega) (hI _ _ _ ⟨k + 1, by omega, rfl, by simp [e0], by simp [e6], by simp, ?_⟩)
      rw [cseq_succ, hx, if_pos rfl]
      exact hj
    · have hx1 : ((x : Int) == 0) = false := by simp; omega
      simp [go_sem, e0, e6, e7, hki, hidx, hwk, hwq, bne, hx1]
      have hlen : (cseq p.a k).length < (cseq p.a 4).length := by
        obtain ⟨m, hm, he⟩ := cseq_pre p.a (k := k + 1) (by omega)
        have h1 := congrArg List.length he
        rw [cseq_succ, hx, if_neg hx0, List.length_append, List.length_take] at h1
        simp at h1
        omega
      have hy := hY (cseq p.a k) k wr hj hlen
      simp only [cenc, hx] at hy
      refine VCall_yield _ _ _ hy ?_
      rintro _ w' (⟨rfl, hj', _⟩ | ⟨rfl, hjx⟩)
      · simp [go_sem, e7, hwk]
        refine Rnd.intro (4 - (k + 1)) (by omega) (hI _ _ _ ⟨k + 1, by omega, rfl, by simp [e0], by simp [e6], by simp, ?_⟩)
        rw [cseq_succ, hx, if_neg hx0]
        exact hj'
      · simp [go_sem]
        refine hR _ _ (.inr ?_)
        obtain ⟨m, hm, he⟩ := cseq_pre p.a (k := k + 1) (by omega)
        refine ⟨m, hm, ?_⟩
        rw [← he, cseq_succ, hx, if_neg hx0]
        exact hjx
  · obtain rfl : k = 4 := by omega
    simp [go_sem, e7]
    exact hR _ _ (.inl hj)

theorem any_of_cseq {p : Pt} (ok : PtOk p) (h : cseq p.a 4 = []) : ∀ x ∈ p.a, ¬ (x != 0) = true := by
  intro x hx
  obtain ⟨i, hi, rfl⟩ := List.mem_iff_getElem.1 hx
  have hi4 : i < 4 := by have := ok.a; omega
  unfold cseq at h
  rw [List.filter_eq_nil_iff] at h
  have := h i (List.mem_range.2 hi4)
  rw [List.getD_eq_getElem?_getD, List.getElem?_eq_getElem hi] at this
  exact this
theorem any_of_cseq' {p : Pt} (ok : PtOk p) (h : cseq p.a 4 ≠ []) : ∃ x ∈ p.a, (x != 0) = true := by
  obtain ⟨i, hi⟩ := List.exists_mem_of_ne_nil _ h
  unfold cseq at hi
  rw [List.mem_filter, List.mem_range] at hi
  have hi4 : i < p.a.length := by have := ok.a; omega
  refine ⟨p.a[i], List.getElem_mem _, ?_⟩
  have := hi.2
  rw [List.getD_eq_getElem?_getD, List.getElem?_eq_getElem hi4] at this
  exact this
theorem copies_any (p : Pt) (w : World) : Ret Tryz.prog 89 #[.agg (pt p)] w fun v' w' => v' = .func (.func 103) #[] #[.pointer (some ⟨w.heap.size, 0, none⟩)] ∧ w' = w.alloc (.cells (pt p) 37) := by
  refine v_enter Tryz.func89 Tryz.ntmps89 rfl (by simp) fun R' hR => ?_
  simp [go_sem]
  exact hR _ _ ⟨rfl, rfl⟩
/-- has a pointer a copy? -/
theorem some_any (p : Pt) (w : World) (ok : PtOk p) : Ret Tryz.prog 75 #[.agg (pt p)] w fun v' w' => v' = .bool (p.a.any (· != 0)) ∧ Ch Nw w w' := by
  refine v_enter Tryz.func75 Tryz.ntmps75 rfl (by simp) fun R' hR => ?_
  simp [go_sem, pt_size ok, pt_all ok]
  have hc := ((Ch.refl Nw w).alloc (.cells (pt p) 37)).alloc (.cells #[.bool false] 4)
  have hb2 := al2_1 w (.cells (pt p) 37) (.cells #[.bool false] 4)
  revert hc hb2
  generalize (w.alloc (.cells (pt p) 37)).alloc (.cells #[.bool false] 4) = w1
  intro hc hb2
  refine (copies_any p w1).mono ?_
  rintro _ w2 ⟨rfl, rfl⟩
  simp [go_sem]
  have hb := hp_alloc w1 (.cells (pt p) 37)
  have hc1 := (Ch.refl Nw w1).alloc (.cells (pt p) 37)
  have hb2 := hc1.obj hb2 id
  have hc := hc.trans hc1
  have hlt := lt_of_block hb2
  revert hb hb2 hc hlt
  generalize w1.alloc (.cells (pt p) 37) = w2
  generalize w1.heap.size = g
  intro hb hb2 hc hlt
  generalize hG : w.heap.size + 1 = G
  rw [hG] at hb2 hlt
  refine v_range (copies_iter p g _ _ (Kin.one G) w2 ok hb) (Ch.refl _ _) rfl rfl (by kernel_rfl) (fun k hk => by cases hk; exact hlt)
    (fun pre W => pre = [] ∧ W.heap[G]? = some (.cells #[.bool false] 4 (0, 0)) ∧ Ch Nw w W) (fun c pre W => c = .ret ∧ pre ≠ [] ∧ W.heap[G]? = some (.cells #[.bool true] 4 (0, 0)) ∧ Ch Nw w W) (fun _ f' _ => f' 2 = .pointer (some ⟨G, 0, none⟩)) ?_ ?_ ?_ ?_ ?_ ?_ ?_ ?_
  · rintro pre W W' ⟨h0, h1, h2⟩ hr
    exact ⟨h0, hr.blk h1, hr.since h2 hc.size⟩
  · rintro c pre W W' ⟨h0, h0', h1, h2⟩ hr
    exact ⟨h0, h0', hr.blk h1, hr.since h2 hc.size⟩
  · exact fun _ _ _ _ h _ => h
  · exact ⟨rfl, hb2, hc⟩
  · rintro pre x W hI
    simp [go_sem]
    exact ⟨Ch.refl _ _, hI, by simp [cenc]⟩
  · rintro pre x f' W ⟨h0, h1, h2⟩ hf
    have hcl := fun i => cell_blk h1 i
    have hfz := fun i => frz_blk h1 i
    simp [go_sem, hf, hcl, hfz]
    refine ⟨(Ch.refl (Kin.one G) W).setCell (.inl (by simp [Kin.one])) _, ?_, ?_⟩
    · simp [h1, setOf]
    · exact h2.setCell (.inr (by show w.heap.size ≤ G; omega)) _
  · rintro D W hD ⟨h0, h1, h2⟩ hd
    have hne : D ≠ G := fun e => by rw [e, h1] at hd; cases hd
    have hcl := fun i => cell_blk h1 i
    have hfz := fun i => frz_blk h1 i
    have h3 : ((W.setCell ⟨G, 0, none⟩ (.bool false)).putObj D (.deferred none)).heap[G]? = some (.cells #[.bool false] 4 (0, 0)) := by
      rw [hp_putObj hne.symm]; simp [h1, setOf]
    have hcl3 := fun i => cell_blk h3 i
    simp [go_sem, hG, hcl, hfz, VEnd_normal', VEnd_ret', hne, hd, hcl3]
    refine hR _ _ ⟨?_, (h2.setCell (.inr (by show w.heap.size ≤ G; omega)) _).putObj (.inr (by have := hc.size; omega)) _⟩
    congr 1
    symm
    rw [List.any_eq_false]
    exact any_of_cseq ok h0
  · rintro D c k W hD hk ⟨rfl, h0, h1, h2⟩ hd
    have hne : D ≠ G := fun e => by rw [e, h1] at hd; cases hd
    have h3 : (W.putObj D (.deferred none)).heap[G]? = some (.cells #[.bool true] 4 (0, 0)) := by
      rw [hp_putObj hne.symm]; exact h1
    have hcl3 := fun i => cell_blk h3 i
    simp [go_sem, hG, VEnd_ret', hd, hcl3]
    refine hR _ _ ⟨?_, h2.putObj (.inr (by have := hc.size; omega)) _⟩
    congr 1
    symm
    rw [List.any_eq_true]
    exact any_of_cseq' ok fun e => h0 (by rw [e]; simp)
end Go.Proofs.YtnefdmbdkljifaaGreatDoor

namespace Go.Proofs.YtnefdmbdkljifaaGreatDoor
open Go.RowKit Go.Kin

/-- the variable ptr.wide as the text lays it -/
def Lw (w : World) : Prop := ∀ i z, ([0, 1, 2, 2, 2, 2] : List Int)[i]? = some z → w.cell? ⟨1, i, none⟩ = some (.int .i64 z)
theorem Lw.ch {S : Nat → Prop} {w w' : World} (h : Lw w) (hc : Ch S w w') (hn : ¬ S 1) : Lw w' := fun i z hz => hc.cell (h i z hz) hn
theorem Lw.lt {w : World} (h : Lw w) : 1 < w.heap.size := World.block_lt_of_cell? w _ (h 0 _ rfl)
def wideN (k : Nat) : Nat := if k = 0 ∨ 6 ≤ k then 0 else if k = 1 then 1 else 2
theorem wide_any (k : Nat) (w : World) (hk : k < 256) (hl : Lw w) : Ret Tryz.prog 74 #[.int .u8 k] w fun v' w' => v' = .int .i64 (wideN k) ∧ w' = w := by
  refine v_enter Tryz.func74 Tryz.ntmps74 rfl (by simp) fun R' hR => ?_
  have hw : IntKind.i64.wrap (k : Int) = k := by simp [IntKind.wrap_i64]; omega
  by_cases h6 : 6 ≤ k
  · have h6' : (6 : Int) ≤ k := by omega
    simp [go_sem, hw, h6']
    exact hR _ _ ⟨by simp [wideN, h6], rfl⟩
  · have h6' : ¬ (6 : Int) ≤ k := by omega
    have l0 := hl 0 _ rfl
    have l1 := hl 1 _ rfl
    have l2 := hl 2 _ rfl
    have l3 := hl 3 _ rfl
    have l4 := hl 4 _ rfl
    have l5 := hl 5 _ rfl
    have hki : (k : Int) < 6 := by omega
    have hcl : w.cell? ⟨1, k, none⟩ = some (.int .i64 (wideN k)) := by
      obtain rfl | rfl | rfl | rfl | rfl | rfl : k = 0 ∨ k = 1 ∨ k = 2 ∨ k = 3 ∨ k = 4 ∨ k = 5 := by omega
      · exact l0
      · exact l1
      · exact l2
      · exact l3
      · exact l4
      · exact l5
    simp [go_sem, hw, h6', hki, hcl]
    exact hR _ _ ⟨rfl, rfl⟩
def badP (n x y : Nat) : Bool := (x == y && x != 0) || (n == 1 && y != 0)
def levB (p : Pt) : Bool := if p.k = 3 then (p.l == 1 || p.l == 2) else p.l == 0
def mayP (p : Pt) : Bool := !(badP (wideN p.k) (p.a.getD 0 0) (p.a.getD 1 0)) && !(badP (wideN p.k) (p.a.getD 2 0) (p.a.getD 3 0)) && (0 < wideN p.k && levB p && p.a.any (· != 0))
theorem mayP_eq {p : Pt} {a0 a1 a2 a3 n : Nat} (ha : p.a = [a0, a1, a2, a3]) (hn : wideN p.k = n) : mayP p = (!(badP n a0 a1) && !(badP n a2 a3) && (decide (0 < n) && levB p && p.a.any (· != 0))) := by
  subst hn
  unfold mayP
  rw [ha]
  rfl
theorem may_any (p : Pt) (w : World) (ok : PtOk p) (hl : Lw w) : Ret Tryz.prog 46 #[.agg (pt p)] w fun v' w' => v' = .bool (mayP p) ∧ Ch Nw w w' := by
  obtain ⟨a0, a1, a2, a3, ha, _⟩ := a4 ok
  refine v_enter Tryz.func46 Tryz.ntmps46 rfl (by simp) fun R' hR => ?_
  simp [go_sem, pt_l, pt_k]
  have hb := hp_alloc w (.cells (pt p) 37)
  have hc := (Ch.refl Nw w).alloc (.cells (pt p) 37)
  have hl1 := hl.ch hc id
  revert hb hc hl1
  generalize w.alloc (.cells (pt p) 37) = w1
  generalize w.heap.size = g
  intro hb hc hl1
  have ck := (cell_blk hb 0).trans pt_k
  have cl := (cell_blk hb 1).trans pt_l
  have c0 := (cell_blk hb 37).trans (pt_a ok (i := 0) (x := a0) (by rw [ha]; rfl))
  have c1 := (cell_blk hb 38).trans (pt_a ok (i := 1) (x := a1) (by rw [ha]; rfl))
  have c2 := (cell_blk hb 39).trans (pt_a ok (i := 2) (x := a2) (by rw [ha]; rfl))
  have c3 := (cell_blk hb 40).trans (pt_a ok (i := 3) (x := a3) (by rw [ha]; rfl))
  refine v_meet (fun f u => f 1 = .pointer (some ⟨g, 0, none⟩) ∧ f 3 = .bool (levB p) ∧ u = w1) ?_ ?_
  · by_cases h3 : p.k = 3
    · have h3' : ((p.k : Int) == 3) = true := by simp; omega
      by_cases h1 : p.l = 1
      · have h1' : ((p.l : Int) == 1) = true := by simp; omega
        simp [go_sem, h3', cl, h1', levB, h3, h1]
      · have h1' : ((p.l : Int) == 1) = false := by simp; omega
        have h2' : ((p.l : Int) == 2) = (p.l == 2) := by
          by_cases h2 : p.l = 2
          · simp [h2]
          · rw [beq_false_of_ne h2, beq_false_of_ne (by omega)]
        simp [go_sem, h3', cl, h1', h2', levB, h3, h1]
    · have h3' : ((p.k : Int) == 3) = false := by simp; omega
      have h0' : ((p.l : Int) == 0) = (p.l == 0) := by
        by_cases h2 : p.l = 0
        · simp [h2]
        · rw [beq_false_of_ne h2, beq_false_of_ne (by omega)]
      simp [go_sem, h3', h0', levB, h3]
  rintro f _ ⟨e1, e3, rfl⟩
  simp [go_sem, e1, ck]
  refine (wide_any p.k _ ok.k hl1).mono ?_
  rintro _ w1 ⟨rfl, rfl⟩
  simp [go_sem, e1, c0, c1, c2, c3]
  generalize hn : wideN p.k = n
  refine v_loop (fun r f wr => ∃ k, k ≤ 2 ∧ r = 2 - k ∧ f 1 = .pointer (some ⟨g, 0, none⟩) ∧ f 3 = .bool (levB p) ∧ f 4 = .int .i64 n ∧ f 38 = .agg #[.int .u16 a0, .int .u16 a1, .int .u16 a2, .int .u16 a3] ∧ f 39 = .int .i64 k ∧
      (0 < k → badP n a0 a1 = false) ∧ (1 < k → badP n a2 a3 = false) ∧ Ch Nw w wr ∧ wr.heap[g]? = some (.cells (pt p) 37 (0, 0))) 2
    ⟨0, by omega, rfl, by simp [e1], by simp [e3], by simp, by simp, by simp, by simp, by simp, hc, hb⟩ ?_
  have hbad : ∀ x y : Nat, badP n x y = ((((x : Int) == (y : Int)) && !((x : Int) == 0)) || (((n : Int) == 1) && !((y : Int) == 0))) := fun x y => by
    have q : ∀ a b : Nat, ((a : Int) == (b : Int)) = (a == b) := fun a b => by
      by_cases h : a = b
      · simp [h]
      · rw [beq_false_of_ne h, beq_false_of_ne (by omega)]
    have q0 : ∀ a : Nat, ((a : Int) == 0) = (a == 0) := fun a => q a 0
    have q1 : ∀ a : Nat, ((a : Int) == 1) = (a == 1) := fun a => q a 1
    rw [q, q0, q0, q1]
    rfl
  have hix0 : ∀ w, (Instr.index 158 (.agg #[.int .u16 a0, .int .u16 a1, .int .u16 a2, .int .u16 a3]) (.int .i64 0)).run Tryz.prog w = .ok (.agg #[.int .u16 a0, .int .u16 a1]) w := fun w => by
    simp [Instr.index, asIntOf, run_underlying Tryz.underlying158, part, Tryz.sizeOf157, Tryz.isAgg157]
  have hix1 : ∀ w, (Instr.index 158 (.agg #[.int .u16 a0, .int .u16 a1, .int .u16 a2, .int .u16 a3]) (.int .i64 1)).run Tryz.prog w = .ok (.agg #[.int .u16 a2, .int .u16 a3]) w := fun w => by
    simp [Instr.index, asIntOf, run_underlying Tryz.underlying158, part, Tryz.sizeOf157, Tryz.isAgg157]
  rintro I hI _ f wr ⟨k, hk, rfl, d1, d3, d4, d38, d39, hp0, hp1, hcc, hbb⟩
  obtain rfl | rfl | rfl : k = 0 ∨ k = 1 ∨ k = 2 := by omega
  · simp [go_sem, d38, d39, hix0]
    have hcA := hcc.alloc (.cells #[.int .u16 a0, .int .u16 a1] 157)
    have hbA := ((Ch.refl Nw wr).alloc (.cells #[.int .u16 a0, .int .u16 a1] 157)).obj hbb id
    have hbd := hbad a0 a1
    cases hb1 : ((a0 : Int) == (a1 : Int)) <;> cases hb2 : ((a0 : Int) == 0) <;> cases hb3 : ((n : Int) == 1) <;> cases hb4 : ((a1 : Int) == 0) <;> rw [hb1, hb2, hb3, hb4] at hbd <;> simp at hbd <;> simp [go_sem, bne, hb1, hb2, hb3, hb4, d4, d39]
    all_goals first
      | exact hR _ _ ⟨by rw [mayP_eq ha hn, hbd]; simp, hcA⟩
      | exact Rnd.intro 1 (by omega) (hI _ _ _ ⟨1, by omega, rfl, by simp [d1], by simp [d3], by simp [d4], by simp [d38], by simp [IntKind.wrap_i64], fun _ => hbd, fun h => absurd h (by omega), hcA, hbA⟩)
  · simp [go_sem, d38, d39, hix1]
    have hcA := hcc.alloc (.cells #[.int .u16 a2, .int .u16 a3] 157)
    have hbA := ((Ch.refl Nw wr).alloc (.cells #[.int .u16 a2, .int .u16 a3] 157)).obj hbb id
    have hbd := hbad a2 a3
    cases hb1 : ((a2 : Int) == (a3 : Int)) <;> cases hb2 : ((a2 : Int) == 0) <;> cases hb3 : ((n : Int) == 1) <;> cases hb4 : ((a3 : Int) == 0) <;> rw [hb1, hb2, hb3, hb4] at hbd <;> simp at hbd <;> simp [go_sem, bne, hb1, hb2, hb3, hb4, d4, d39]
    all_goals first
      | exact hR _ _ ⟨by rw [mayP_eq ha hn, hbd]; simp, hcA⟩
      | exact Rnd.intro 0 (by omega) (hI _ _ _ ⟨2, by omega, rfl, by simp [d1], by simp [d3], by simp [d4], by simp [d38], by simp [IntKind.wrap_i64], fun _ => hp0 (by omega), fun _ => hbd, hcA, hbA⟩)
  · have hf0 := hp0 (by omega)
    have hf1 := hp1 (by omega)
    have hm : mayP p = (decide (0 < n) && levB p && p.a.any (· != 0)) := by rw [mayP_eq ha hn, hf0, hf1]; rfl
    by_cases hn0 : 0 < n
    · have hn0' : (0 : Int) < n := by omega
      cases hlv : levB p
      · simp [go_sem, d39, d3, d4, hn0, hn0', hlv]
        exact hR _ _ ⟨by rw [hm, hlv]; simp, hcc⟩
      · simp [go_sem, d1, d39, d3, d4, hn0, hn0', hlv, hbb, pt_size ok, pt_all ok]
        refine (some_any p wr ok).mono ?_
        rintro _ w3 ⟨rfl, c3⟩
        simp [go_sem]
        exact hR _ _ ⟨by rw [hm, hlv, decide_eq_true hn0]; simp, hcc.trans c3⟩
    · have hn0' : ¬ (0 : Int) < n := by omega
      simp [go_sem, d39, d3, d4, hn0, hn0']
      exact hR _ _ ⟨by rw [hm, decide_eq_false hn0]; simp, hcc⟩
/-- the document's answer -/
def mayR (p : Pt) : Bool :=
  if p.k < 1 ∨ 5 < p.k then false
  else if (p.k = 3 ∧ (p.l < 1 ∨ 2 < p.l)) ∨ (p.k ≠ 3 ∧ p.l ≠ 0) then false
  else if p.a = [0, 0, 0, 0] then false
  else if (p.a.getD 0 0 ≠ 0 ∧ p.a.getD 0 0 = p.a.getD 1 0) ∨ (p.a.getD 2 0 ≠ 0 ∧ p.a.getD 2 0 = p.a.getD 3 0) then false
  else decide (p.k ≠ 1 ∨ (p.a.getD 1 0 = 0 ∧ p.a.getD 3 0 = 0))
theorem mayR_eq (p : Pt) (ok : PtOk p) : mayR p = mayP p := by
  obtain ⟨a0, a1, a2, a3, ha, _⟩ := a4 ok
  rw [mayP_eq ha rfl]
  unfold mayR levB badP wideN
  rw [ha]
  simp only [List.getD_cons_zero, List.getD_cons_succ]
  by_cases h1 : p.k < 1 ∨ 5 < p.k
  · rw [if_pos h1]
    have : p.k = 0 ∨ 6 ≤ p.k := by omega
    simp [this]
  · rw [if_neg h1, if_neg (show ¬ (p.k = 0 ∨ 6 ≤ p.k) by omega), Bool.eq_iff_iff]
    by_cases h2 : p.k = 1
    · simp [h2]
      grind
    · by_cases h3 : p.k = 3
      · simp [h2, h3]
        grind
      · simp [h2, h3]
        grind
end Go.Proofs.YtnefdmbdkljifaaGreatDoor
