/- What an overlay has of a number; how much it has; cleared. No condition but on sizes. -/
import Derived.Test.YtnefdmbdkljifaaDoorOwB
set_option linter.unusedSimpArgs false
set_option linter.unusedVariables false

namespace Go.Proofs.YtnefdmbdkljifaaDoor
open Go.RowKit Go.Kin Go.Maps

theorem VB_clear {P : Program} {w w' : World} {ts : Array TypeId} {ty : TypeId} {args : Array Value} {v : Value} {K : Value → World → Prop} (h : (Builtin.clear_ ts ty args).run P w = .ok v w') (hk : K v w') : VB P .clear ts ty args w K := by
  unfold VB VR
  simp only [h]
  exact hk
section
variable {w w' : World} {S : Nat → Prop} {o n : Nat} {base of : Value} {D : Ov} {X Y : Nat → Prop} {z : Oz}
set_option maxRecDepth 100000 in
theorem owni_any (h : OvP w o base of n D X Y z) (num : Num) : Ret Tryd.prog 36 #[.pointer (some ⟨o, 0, none⟩), .int .u16 num.val] w fun v' w' => v' = .tuple #[.agg (ino ((D.ino num).getD inz)), .bool (D.ino num).isSome] ∧ Ch Nw w w' := by
  refine v_enter Tryd.func36 Tryd.ntmps36 rfl (by simp) fun R' hR => ?_
  have hs := ino_size inz_ok
  have b0 := hp_alloc w (.cells (ino inz) 49)
  have c0 := (Ch.refl Nw w).alloc (.cells (ino inz) 49)
  simp [go_sem, VAl_big, hz_ino, zc_ino, hs]
  obtain ⟨V, hV⟩ : ∃ V, w.heap.size = V := ⟨_, rfl⟩
  rw [hV] at b0 ⊢
  generalize w.alloc (.cells (ino inz) 49) = w1 at *
  have hV1 := lt_of_block b0
  have h1 := h.ch c0 (fun _ _ e => e) fun _ _ e => e
  have c2 : w1.cell? ⟨o, 2, none⟩ = some (.map (some z.bi)) := cell_blk h1.blk 2
  have hl : (Instr.lookup 66 (.map (some z.bi)) (.int .u16 num.val) true).run Tryd.prog w1 = _ := h1.ino.look_ok kysU Tryd.underlying66 (zI w1) num
  obtain ⟨y, hy⟩ : ∃ y : In, (D.ino num).getD inz = y := ⟨_, rfl⟩
  have hyok : InOk y := by
    rw [← hy]
    cases hi : D.ino num with
    | none => exact inz_ok
    | some x => exact h.inOk _ _ hi
  have hyv : ((D.ino num).map inoV).getD (.agg (ino inz)) = .agg (ino y) := by
    rw [← hy]
    cases hi : D.ino num <;> rfl
  rw [hy] at hR
  have hsy := ino_size hyok
  have hay := ino_all hyok
  rw [hyv] at hl
  have b1 := hp_alloc w1 (.cells (ino y) 49)
  have ca := (Ch.refl Nw w1).alloc (.cells (ino y) 49)
  have b0a := ca.obj b0 id
  simp at hl
  simp [go_sem, c2, hl, VAl_big, hz_ino, zc_ino, hs, hsy, blit_whole]
  obtain ⟨X1, hX1⟩ : ∃ X1, w1.heap.size = X1 := ⟨_, rfl⟩
  rw [hX1] at b1 ⊢
  generalize w1.alloc (.cells (ino y) 49) = w3 at *
  simp [go_sem, b1, b0a, hs, hsy, hay, blit_whole]
  exact hR _ _ ⟨rfl, (c0.trans ca).setRow (.inr (by omega)) _⟩
/-- the leaves, and the inodes, of which it has any -/
def DirtyAre (D : Ov) (xs : List (Num × Off)) (ys : List Num) : Prop := xs.Nodup ∧ (∀ a, a ∈ xs ↔ ∃ b, D.lf a = some b ∧ b ≠ []) ∧ ys.Nodup ∧ ∀ a, a ∈ ys ↔ (D.ino a).isSome = true
set_option maxRecDepth 100000 in
theorem dirty_any (h : OvP w o base of n D X Y z) (hn : n ≤ 1000000) : Ret Tryd.prog 40 #[.pointer (some ⟨o, 0, none⟩)] w fun v' w' => ∃ xs ys, DirtyAre D xs ys ∧ v' = .tuple #[.int .i64 xs.length, .int .i64 ys.length] ∧ Ch Nw w w' := by
  refine v_enter Tryd.func40 Tryd.ntmps40 rfl (by simp) fun R' hR => ?_
  have c3 : w.cell? ⟨o, 3, none⟩ = some (.map (some z.bl)) := cell_blk h.blk 3
  obtain ⟨FL, hF, hL⟩ := h.lf
  obtain ⟨w2, cnt, hr, hg, hcnt, c12, s2⟩ := hF.range kysP Tryd.underlying67
  obtain ⟨r, hrr⟩ : ∃ r, w.heap.size = r := ⟨_, rfl⟩
  rw [hrr] at hr hg
  simp [go_sem, c3, hr]
  obtain ⟨I, hI⟩ : ∃ I : (Nat → Value) → World → Prop, I = fun f u => ∃ xs : List (Num × Off), xs.Nodup ∧ (∀ a, a ∈ xs ↔ ∃ b, D.lf a = some b ∧ b ≠ []) ∧ f 0 = .pointer (some ⟨o, 0, none⟩) ∧ f 4 = .int .i64 xs.length ∧ Ch Nw w u := ⟨_, rfl⟩
  refine v_meetL I ?_ ?_
  · refine v_loop (fun t f u => ∃ (left : Num × Off → Bool) (xs : List (Num × Off)), xs.Nodup ∧ (∀ a, a ∈ xs ↔ (left a = false ∧ ∃ b, D.lf a = some b ∧ b ≠ [])) ∧ f 0 = .pointer (some ⟨o, 0, none⟩) ∧ f 4 = .int .i64 xs.length ∧ f 13 = .pointer (some ⟨r, 0, none⟩) ∧ RngV u Tryd.prog 76 kP z.bl r n FL left t ∧ xs.length + t ≤ n ∧ Ch Nw w u) cnt
      ⟨_, [], List.nodup_nil, fun a => ?_, by simp, by simp, by simp, hg, by simp; omega, c12⟩ ?_
    · simp only [List.not_mem_nil, false_iff]
      rintro ⟨e, b, hb, _⟩
      obtain ⟨v, hv, _⟩ := (hL a).2 b hb
      rw [hv] at e
      cases e
    rintro J hJ t f u ⟨left, xs, hnd, hxs, f0, f4, f13, hru, hlen, cu⟩
    rcases hru.next kysP 0 with ⟨hl, hnx⟩ | ⟨a, v, u2, t2, hl, hGa, hnx, hru2, ht2, c2', _, hen⟩
    · simp [go_sem, f13, hnx]
      rw [hI]
      exact ⟨xs, hnd, fun a => by rw [hxs a]; simp [hl a], by simp [f0], by simp [f4], cu⟩
    · have cu2 : Ch Nw w u2 := cu.trans' c2' fun j hj e => by simp only [Kin.one] at e; omega
      cases hh : D.lf a with
      | none => rw [(hL a).1 hh] at hGa; cases hGa
      | some b =>
        obtain ⟨v', hv, hsl, hY⟩ := (hL a).2 b hh
        rw [hv] at hGa
        cases hGa
        have hln := (hsl.ch cu2 fun k hk e => e).len Tryd.underlying44 3
        have hax : a ∉ xs := fun e => by
          have := ((hxs a).1 e).1
          rw [hl] at this
          cases this
        by_cases hb0 : b = []
        · have hl0 : ¬ (0 : Int) < b.length := by simp [hb0]
          simp [go_sem, f13, hnx, hen, hln, hl0, hb0]
          refine Rnd.intro t2 ht2 (hJ _ _ _ ⟨_, xs, hnd, fun c => ?_, by simp [f0], by simp [f4], by simp [f13], hru2, by omega, cu2⟩)
          rw [hxs c]
          by_cases hca : c = a
          · subst hca
            simp [hl, hh, hb0]
          · simp [hca]
        · have hl0 : (0 : Int) < b.length := by have := List.length_pos_iff.2 hb0; omega
          have hl1 : 0 < b.length := List.length_pos_iff.2 hb0
          have hw1 := S16.wi ((xs.length : Int) + 1) (xs.length + 1) (by omega) (by omega)
          simp [go_sem, f13, f4, hnx, hen, hln, hl0, hl1, hb0, hw1]
          refine Rnd.intro t2 ht2 (hJ _ _ _ ⟨_, a :: xs, List.nodup_cons.2 ⟨hax, hnd⟩, fun c => ?_, by simp [f0], by simp, by simp [f13], hru2, by simp; omega, cu2⟩)
          rw [List.mem_cons, hxs c]
          by_cases hca : c = a
          · subst hca
            simp [hh, hb0]
          · simp [hca]
  rw [hI]
  rintro f u ⟨xs, hnd, hxs, f0, f4, cu⟩
  have hu := h.ch cu (fun _ _ e => e) fun _ _ e => e
  have c2 : u.cell? ⟨o, 2, none⟩ = some (.map (some z.bi)) := cell_blk hu.blk 2
  obtain ⟨ys, hy1, hy2, hy3, hln⟩ := hu.ino.count kysU Tryd.underlying66 3
  simp [go_sem, f0, f4, c2, hln]
  exact hR _ _ ⟨xs, ys, ⟨hnd, hxs, hy1, fun a => by rw [hy2 a]; simp⟩, rfl, cu⟩
set_option maxRecDepth 100000 in
theorem clear_any (h : OvP w o base of n D X Y z) (bt : TypeId) (bv : Value) : Ret Tryd.prog 16 #[.pointer (some ⟨o, 0, none⟩), .iface bt bv] w fun v' w' => v' = .int .i64 0 ∧ OvP w' o (.iface bt bv) of 0 Ov.new X Y z ∧ Ch X w w' := by
  refine v_enter Tryd.func16 Tryd.ntmps16 rfl (by simp) fun R' hR => ?_
  have hXo := h.x _ (.inl rfl)
  have hXi := h.x _ (.inr (.inl rfl))
  have hXl := h.x _ (.inr (.inr (.inl rfl)))
  have hXw := h.x _ (.inr (.inr (.inr rfl)))
  obtain ⟨FL, hF, hL⟩ := h.lf
  have c0 := fun i => cell_blk h.blk i
  have f0 := frz_blk h.blk 0
  have k1 : Ch (Kin.one o) w (w.setCell ⟨o, 0, none⟩ (.iface bt bv)) := (Ch.refl (Kin.one o) w).setCell (p := ⟨o, 0, none⟩) (.inl rfl) _
  have b1 : (w.setCell ⟨o, 0, none⟩ (.iface bt bv)).heap[o]? = some (.cells #[.iface bt bv, of, .map (some z.bi), .map (some z.bl), .map (some z.bw)] 70 (0, 0)) := by
    rw [hp_setCell, h.blk, setOf_cells]
    rfl
  simp [go_sem, c0, f0]
  revert k1 b1
  generalize w.setCell ⟨o, 0, none⟩ (.iface bt bv) = w1
  intro k1 b1
  have ne := h.ne
  have d1 := fun i => cell_blk b1 i
  obtain ⟨w2, e2, m2, k2, s2⟩ := (h.ino.ch k1 fun e => ne.2.2.2.1 e.symm).clear Tryd.underlying66 0
  have b2 := k2.obj b1 fun e => ne.2.2.2.1 e
  have d2 := fun i => cell_blk b2 i
  obtain ⟨w3, e3, m3, k3, s3⟩ := ((hF.ch k1 fun e => ne.2.2.2.2.1 e.symm).ch k2 fun e => ne.1 e.symm).clear Tryd.underlying67 0
  have b3 := k3.obj b2 fun e => ne.2.2.2.2.1 e
  have d3 := fun i => cell_blk b3 i
  obtain ⟨w4, e4, m4, k4, s4⟩ := (((h.wp.ch k1 fun e => ne.2.2.2.2.2 e.symm).ch k2 fun e => ne.2.1 e.symm).ch k3 fun e => ne.2.2.1 e.symm).clear Tryd.underlying68 0
  have b4 := k4.obj b3 fun e => ne.2.2.2.2.2 e
  have m2' := (m2.ch k3 ne.1).ch k4 ne.2.1
  have m3' := m3.ch k4 ne.2.2.1
  have kk : ∀ {a : Nat} {u u' : World}, X a → Ch (Kin.one a) u u' → Ch X u u' := fun {a u u'} ha c => c.mono fun j _ e => by simp only [Kin.one] at e; subst e; exact ha
  refine VB_clear e2 ?_
  simp [go_sem, d2]
  refine VB_clear e3 ?_
  simp [go_sem, d3]
  refine VB_clear e4 ?_
  simp [go_sem]
  refine hR _ _ ⟨rfl, ⟨b4, by simpa [Ov.new] using m2', by simp [Ov.new], ⟨_, m3', fun a => ⟨fun _ => rfl, by simp [Ov.new]⟩⟩, by simp [Ov.new], by simpa [Ov.new] using m4, by simp [Ov.new], h.x, h.ne, h.yx, fun k hk => ?_⟩, (((kk hXo k1).trans (kk hXi k2)).trans (kk hXl k3)).trans (kk hXw k4)⟩
  have := h.lt k hk
  have := (((kk hXo k1).trans (kk hXi k2)).trans (kk hXl k3)).trans (kk hXw k4)
  have := this.size
  omega
end
end Go.Proofs.YtnefdmbdkljifaaDoor
