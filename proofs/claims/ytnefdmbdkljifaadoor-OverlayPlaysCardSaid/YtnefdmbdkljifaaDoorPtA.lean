/- A pointer's cells; its copies as an iterator; whether it has one. No condition but that the values are of their types. -/
import Derived.Test.YtnefdmbdkljifaaDoorChecked
import Derived.Test.YtnefdmbdkljifaaDoorRng
set_option linter.unusedSimpArgs false
set_option linter.unusedVariables false

namespace Go.Proofs.YtnefdmbdkljifaaDoor
open Go.RowKit Go.Kin

/-- a pointer: kind, level, object, offset, birth, hash, addresses -/
structure Pt where
  k : Nat
  l : Nat
  o : Nat
  f : Nat
  b : Nat
  h : List UInt8
  a : List Nat
deriving DecidableEq
def pt (p : Pt) : Array Value := (.int .u8 p.k :: .int .u8 p.l :: .int .u16 p.o :: .int .u32 p.f :: .int .u64 p.b :: (bvs p.h ++ u16s p.a)).toArray
structure PtOk (p : Pt) : Prop where
  k : p.k < 256
  l : p.l < 256
  o : p.o < 65536
  f : p.f < 4294967296
  b : p.b < 18446744073709551616
  h : p.h.length = 32
  a : p.a.length = 4
  at' : ∀ x ∈ p.a, x < 65536
section
variable {p : Pt}
theorem pt_size (ok : PtOk p) : (pt p).size = 41 := by simp [pt, bvs_length, u16s_length, ok.h, ok.a]
theorem pt_ones (p : Pt) : ones (pt p) = true := ones_of (by
  intro u hu
  simp only [List.mem_cons, List.mem_append] at hu
  rcases hu with rfl | rfl | rfl | rfl | rfl | hu | hu
  · rfl
  · rfl
  · rfl
  · rfl
  · rfl
  · exact bvs_one _ u hu
  · exact u16s_one _ u hu)
theorem pt_all (ok : PtOk p) : (pt p).extract 0 41 = pt p := by rw [← pt_size ok]; simp
theorem pt_k : (pt p)[0]? = some (.int .u8 p.k) := by simp [pt]
theorem pt_l : (pt p)[1]? = some (.int .u8 p.l) := by simp [pt]
theorem pt_o : (pt p)[2]? = some (.int .u16 p.o) := by simp [pt]
theorem pt_f : (pt p)[3]? = some (.int .u32 p.f) := by simp [pt]
theorem pt_b : (pt p)[4]? = some (.int .u64 p.b) := by simp [pt]
theorem pt_a (ok : PtOk p) {i x : Nat} (h : p.a[i]? = some x) : (pt p)[37 + i]? = some (.int .u16 x) := by
  simp only [pt, List.getElem?_toArray]
  rw [show 37 + i = (32 + i) + 1 + 1 + 1 + 1 + 1 by omega]
  simp only [List.getElem?_cons_succ]
  rw [List.getElem?_append_right (by rw [bvs_length, ok.h]; omega), bvs_length, ok.h, show 32 + i - 32 = i by omega, u16s, List.getElem?_map, h]
  rfl
theorem a4 (ok : PtOk p) : ∃ a0 a1 a2 a3, p.a = [a0, a1, a2, a3] ∧ a0 < 65536 ∧ a1 < 65536 ∧ a2 < 65536 ∧ a3 < 65536 := by
  have h := ok.a
  have hx := ok.at'
  match ha : p.a, h with
  | [a0, a1, a2, a3], _ =>
    rw [ha] at hx
    exact ⟨a0, a1, a2, a3, rfl, hx _ (by simp), hx _ (by simp), hx _ (by simp), hx _ (by simp)⟩
end
/-- the places of the copies -/
def cseq (a : List Nat) (k : Nat) : List Nat := (List.range k).filter fun i => a.getD i 0 != 0
def cenc (a : List Nat) (i : Nat) : List Value := [.int .i64 ((i : Int) / 2), .int .u16 (a.getD i 0)]
theorem cseq_succ (a : List Nat) (k : Nat) : cseq a (k + 1) = if a.getD k 0 = 0 then cseq a k else cseq a k ++ [k] := by
  unfold cseq
  rw [List.range_succ, List.filter_append]
  by_cases h : a.getD k 0 = 0
  · rw [if_pos h, List.filter_cons_of_neg (by rw [h]; simp)]; simp
  · rw [if_neg h, List.filter_cons_of_pos (by simpa using h)]; simp
theorem cseq_pre (a : List Nat) {k : Nat} (h : k ≤ 4) : ∃ m, m ≤ (cseq a 4).length ∧ cseq a k = (cseq a 4).take m := by
  have key : ∀ j, cseq a k <+: cseq a (k + j) := fun j => by
    induction j with
    | zero => exact List.prefix_refl _
    | succ j ih =>
      rw [← Nat.add_assoc, cseq_succ]
      split
      · exact ih
      · exact ih.trans (List.prefix_append _ _)
  have := key (4 - k)
  rw [show k + (4 - k) = 4 by omega] at this
  exact ⟨_, this.length_le, (List.prefix_iff_eq_take.1 this)⟩

theorem copies_iter (p : Pt) (g : Nat) (T : TypeId) (fr : Nat × Nat) (S : Nat → Prop) (w : World) (ok : PtOk p) (hb : w.heap[g]? = some (.cells (pt p) T fr)) :
    Iter Tryd.prog 73 [.pointer (some ⟨g, 0, none⟩)] 2 (cenc p.a) (cseq p.a 4) S w := by
  refine ⟨fun x => rfl, fun args w => by simp [go_sem], ?_⟩
  intro l J Jx W hW hJ hJx hY h0
  obtain ⟨a0, a1, a2, a3, ha, _⟩ := a4 ok
  have hbW := hW.obj hb id
  have c0 := (cell_blk hbW 37).trans (pt_a ok (i := 0) (x := a0) (by rw [ha]; rfl))
  have c1 := (cell_blk hbW 38).trans (pt_a ok (i := 1) (x := a1) (by rw [ha]; rfl))
  have c2 := (cell_blk hbW 39).trans (pt_a ok (i := 2) (x := a2) (by rw [ha]; rfl))
  have c3 := (cell_blk hbW 40).trans (pt_a ok (i := 3) (x := a3) (by rw [ha]; rfl))
  refine v_enter Tryd.func73 Tryd.ntmps73 rfl (by simp) fun R' hR => ?_
  simp [go_sem, c0, c1, c2, c3]
  refine v_loop (fun r f wr => ∃ k, k ≤ 4 ∧ r = 4 - k ∧ f 0 = .func (.yield l) #[] #[] ∧ f 6 = .agg #[.int .u16 a0, .int .u16 a1, .int .u16 a2, .int .u16 a3] ∧ f 7 = .int .i64 k ∧ J (cseq p.a k) wr) 4
    ⟨0, by omega, rfl, by simp, by simp, by simp, h0⟩ ?_
  rintro I hI _ f wr ⟨k, hk, rfl, e0, e6, e7, hj⟩
  by_cases hk4 : k < 4
  · have hki : (k : Int) < 4 := by omega
    have hcell : ∃ x, p.a.getD k 0 = x ∧ #[Value.int .u16 a0, Value.int .u16 a1, Value.int .u16 a2, Value.int .u16 a3][k]? = some (.int .u16 x) := by
      refine ⟨_, rfl, ?_⟩
      rw [ha]
      match k, hk4 with
      | 0, _ => rfl
      | 1, _ => rfl
      | 2, _ => rfl
      | 3, _ => rfl
    obtain ⟨x, hx, hcx⟩ := hcell
    have hidx := fun w => run_index_agg (P := Tryd.prog) (kd := .i64) Tryd.underlying37 Tryd.sizeOf22 Tryd.isAgg22 hk4 hcx w
    have hwk : IntKind.i64.wrap ((k : Int) + 1) = ((k + 1 : Nat) : Int) := by simp [IntKind.wrap_i64]; omega
    have hwq : IntKind.i64.wrap ((k : Int) / 2) = (k : Int) / 2 := by simp [IntKind.wrap_i64]; omega
    by_cases hx0 : x = 0
    · subst hx0
      simp [go_sem, e0, e6, e7, hki, hidx, hwk]
      refine Rnd.intro (4 - (k + 1)) (by omega) (hI _ _ _ ⟨k + 1, by omega, rfl, by simp [e0], by simp [e6], by simp, ?_⟩)
      rw [cseq_succ, hx, if_pos rfl]
      exact hj
    · have hx1 : ((x : Int) == 0) = false := by simp; omega
      simp [go_sem, e0, e6, e7, hki, hidx, hwk, hwq, bne, hx1]
      have hlen : (cseq p.a k).length < (cseq p.a 4).length := by
        obtain ⟨m, hm, he⟩ := cseq_pre p.a (k := k + 1) (by omega)
        have h1 := congrArg List.length he
        rw [cseq_succ, hx, if_neg hx0, List.length_append, List.length_take] at h1
        simp at h1
        omega
      have hy := hY (cseq p.a k) k wr hj hlen
      simp only [cenc, hx] at hy
      refine VCall_yield _ _ _ hy ?_
      rintro _ w' (⟨rfl, hj', _⟩ | ⟨rfl, hjx⟩)
      · simp [go_sem, e7, hwk]
        refine Rnd.intro (4 - (k + 1)) (by omega) (hI _ _ _ ⟨k + 1, by omega, rfl, by simp [e0], by simp [e6], by simp, ?_⟩)
        rw [cseq_succ, hx, if_neg hx0]
        exact hj'
      · simp [go_sem]
        refine hR _ _ (.inr ?_)
        obtain ⟨m, hm, he⟩ := cseq_pre p.a (k := k + 1) (by omega)
        refine ⟨m, hm, ?_⟩
        rw [← he, cseq_succ, hx, if_neg hx0]
        exact hjx
  · obtain rfl : k = 4 := by omega
    simp [go_sem, e7]
    exact hR _ _ (.inl hj)

theorem any_of_cseq {p : Pt} (ok : PtOk p) (h : cseq p.a 4 = []) : ∀ x ∈ p.a, ¬ (x != 0) = true := by
  intro x hx
  obtain ⟨i, hi, rfl⟩ := List.mem_iff_getElem.1 hx
  have hi4 : i < 4 := by have := ok.a; omega
  unfold cseq at h
  rw [List.filter_eq_nil_iff] at h
  have := h i (List.mem_range.2 hi4)
  rw [List.getD_eq_getElem?_getD, List.getElem?_eq_getElem hi] at this
  exact this
theorem any_of_cseq' {p : Pt} (ok : PtOk p) (h : cseq p.a 4 ≠ []) : ∃ x ∈ p.a, (x != 0) = true := by
  obtain ⟨i, hi⟩ := List.exists_mem_of_ne_nil _ h
  unfold cseq at hi
  rw [List.mem_filter, List.mem_range] at hi
  have hi4 : i < p.a.length := by have := ok.a; omega
  refine ⟨p.a[i], List.getElem_mem _, ?_⟩
  have := hi.2
  rw [List.getD_eq_getElem?_getD, List.getElem?_eq_getElem hi4] at this
  exact this
theorem copies_any (p : Pt) (w : World) : Ret Tryd.prog 60 #[.agg (pt p)] w fun v' w' => v' = .func (.func 73) #[] #[.pointer (some ⟨w.heap.size, 0, none⟩)] ∧ w' = w.alloc (.cells (pt p) 39) := by
  refine v_enter Tryd.func60 Tryd.ntmps60 rfl (by simp) fun R' hR => ?_
  simp [go_sem]
  exact hR _ _ ⟨rfl, rfl⟩
/-- has a pointer a copy? -/
theorem some_any (p : Pt) (w : World) (ok : PtOk p) : Ret Tryd.prog 52 #[.agg (pt p)] w fun v' w' => v' = .bool (p.a.any (· != 0)) ∧ Ch Nw w w' := by
  refine v_enter Tryd.func52 Tryd.ntmps52 rfl (by simp) fun R' hR => ?_
  simp [go_sem, pt_size ok, pt_all ok]
  have hc := ((Ch.refl Nw w).alloc (.cells (pt p) 39)).alloc (.cells #[.bool false] 4)
  have hb2 := al2_1 w (.cells (pt p) 39) (.cells #[.bool false] 4)
  revert hc hb2
  generalize (w.alloc (.cells (pt p) 39)).alloc (.cells #[.bool false] 4) = w1
  intro hc hb2
  refine (copies_any p w1).mono ?_
  rintro _ w2 ⟨rfl, rfl⟩
  simp [go_sem]
  have hb := hp_alloc w1 (.cells (pt p) 39)
  have hc1 := (Ch.refl Nw w1).alloc (.cells (pt p) 39)
  have hb2 := hc1.obj hb2 id
  have hc := hc.trans hc1
  have hlt := lt_of_block hb2
  revert hb hb2 hc hlt
  generalize w1.alloc (.cells (pt p) 39) = w2
  generalize w1.heap.size = g
  intro hb hb2 hc hlt
  generalize hG : w.heap.size + 1 = G
  rw [hG] at hb2 hlt
  refine v_range (copies_iter p g _ _ (Kin.one G) w2 ok hb) (Ch.refl _ _) rfl rfl (by kernel_rfl) (fun k hk => by cases hk; exact hlt)
    (fun pre W => pre = [] ∧ W.heap[G]? = some (.cells #[.bool false] 4 (0, 0)) ∧ Ch Nw w W) (fun c pre W => c = .ret ∧ pre ≠ [] ∧ W.heap[G]? = some (.cells #[.bool true] 4 (0, 0)) ∧ Ch Nw w W) (fun _ f' _ => f' 2 = .pointer (some ⟨G, 0, none⟩)) ?_ ?_ ?_ ?_ ?_ ?_ ?_ ?_
  · rintro pre W W' ⟨h0, h1, h2⟩ hr
    exact ⟨h0, hr.blk h1, hr.since h2 hc.size⟩
  · rintro c pre W W' ⟨h0, h0', h1, h2⟩ hr
    exact ⟨h0, h0', hr.blk h1, hr.since h2 hc.size⟩
  · exact fun _ _ _ _ h _ => h
  · exact ⟨rfl, hb2, hc⟩
  · rintro pre x W hI
    simp [go_sem]
    exact ⟨Ch.refl _ _, hI, by simp [cenc]⟩
  · rintro pre x f' W ⟨h0, h1, h2⟩ hf
    have hcl := fun i => cell_blk h1 i
    have hfz := fun i => frz_blk h1 i
    simp [go_sem, hf, hcl, hfz]
    refine ⟨(Ch.refl (Kin.one G) W).setCell (.inl (by simp [Kin.one])) _, ?_, ?_⟩
    · simp [h1, setOf]
    · exact h2.setCell (.inr (by show w.heap.size ≤ G; omega)) _
  · rintro D W hD ⟨h0, h1, h2⟩ hd
    have hne : D ≠ G := fun e => by rw [e, h1] at hd; cases hd
    have hcl := fun i => cell_blk h1 i
    have hfz := fun i => frz_blk h1 i
    have h3 : ((W.setCell ⟨G, 0, none⟩ (.bool false)).putObj D (.deferred none)).heap[G]? = some (.cells #[.bool false] 4 (0, 0)) := by
      rw [hp_putObj hne.symm]; simp [h1, setOf]
    have hcl3 := fun i => cell_blk h3 i
    simp [go_sem, hG, hcl, hfz, VEnd_normal', VEnd_ret', hne, hd, hcl3]
    refine hR _ _ ⟨?_, (h2.setCell (.inr (by show w.heap.size ≤ G; omega)) _).putObj (.inr (by have := hc.size; omega)) _⟩
    congr 1
    symm
    rw [List.any_eq_false]
    exact any_of_cseq ok h0
  · rintro D c k W hD hk ⟨rfl, h0, h1, h2⟩ hd
    have hne : D ≠ G := fun e => by rw [e, h1] at hd; cases hd
    have h3 : (W.putObj D (.deferred none)).heap[G]? = some (.cells #[.bool true] 4 (0, 0)) := by
      rw [hp_putObj hne.symm]; exact h1
    have hcl3 := fun i => cell_blk h3 i
    simp [go_sem, hG, VEnd_ret', hd, hcl3]
    refine hR _ _ ⟨?_, h2.putObj (.inr (by have := hc.size; omega)) _⟩
    congr 1
    symm
    rw [List.any_eq_true]
    exact any_of_cseq' ok fun e => h0 (by rw [e]; simp)
end Go.Proofs.YtnefdmbdkljifaaDoor
