/- Overlays one over another: asked, changed, begun, ended; an overlay that is known. Condition: the variable ptr.wide holds what the text lays. -/
import Derived.Test.YtnefdmbdkljifaaDoorOvK
set_option linter.unusedSimpArgs false
set_option linter.unusedVariables false

namespace Go.Proofs.YtnefdmbdkljifaaDoor
open Go.RowKit Go.Kin Go.Maps

abbrev gV (g : Nat) : Value := .iface 26 (.pointer (some ⟨g, 0, none⟩))
abbrev oP (o : Nat) : Value := .pointer (some ⟨o, 0, none⟩)
abbrev oV (o : Nat) : Value := .iface 29 (oP o)
/-- the blocks of a layer -/
def Rg (g s : Nat) : Nat → Prop := fun k => g < k ∧ k < s
theorem TlAt.mono {w : World} {g bad : Nat} {Z Z' : Nat → Prop} (hZ : ∀ k, Z k → Z' k) : ∀ (d : Nat) (v : Value) (tl : Tl), TlAt w g bad Z d v tl → TlAt w g bad Z' d v tl
  | 0, _, _, h => h
  | d + 1, v, tl, h => by
    obtain ⟨o, bt, bv, of, n, D, X, Y, z, tl', h1, h2, h3, h4, h5⟩ := h
    exact ⟨o, bt, bv, of, n, D, X, Y, z, tl', h1, h2, TlAt.mono hZ d _ _ h3, h4, fun k hk => hZ k (h5 k hk)⟩
theorem gT_bnd (bad : Nat) : Bnd (gT bad) := fun num off => by
  unfold gT
  simp only
  split
  · simp
  · split
    · simp only [gLeaf, List.length_set, z512_len]; omega
    · simp
theorem ovT_bnd {D : Ov} {tl : Tl} (h : Bnd tl) (hD : ∀ a b, D.lf a = some b → b.length ≤ 512) : Bnd (ovT D tl) := fun num off => by
  unfold ovT
  simp only
  split
  · split
    · rename_i x hx
      exact hD _ _ hx
    · split
      · simp
      · exact h num off
  · simp
/-- a layer over what tells tl; the blocks of all that is under it lie behind g, ahead of s -/
structure Tp (W u : World) (g bad d s : Nat) (base of : Value) (tl : Tl) (o n : Nat) (D : Ov) (X Y : Nat → Prop) (z : Oz) : Prop where
  ov : OvP u o base of n D X Y z
  lo : ∀ k, X k ∨ Y k → s ≤ k
  un : TlAt u g bad (Rg g s) d base tl
  bd : Bnd tl
  gr : GrAt u g bad
  g0 : W.heap.size ≤ g
  gs : g < s
  ch : Ch Nw W u
section
variable {W u u' : World} {g bad d s s' o n t m : Nat} {base of base' of' : Value} {tl tl' : Tl} {D E : Ov} {X Y X' Y' S : Nat → Prop} {z z' : Oz}
theorem Tp.gl (h : Tp W u g bad d s base of tl o n D X Y z) : g < u.heap.size := by
  obtain ⟨x, hx⟩ := h.gr
  exact lt_of_block hx
theorem Tp.up (h : Tp W u g bad d s base of tl o n D X Y z) {e : Nat} (hse : s ≤ e) (hi : ∀ k, X k ∨ Y k → k < e) : TlAt u g bad (Rg g e) (d + 1) (oV o) (ovT D tl) := by
  obtain ⟨bt, bv, rfl⟩ := h.un.iface
  exact ⟨o, bt, bv, of, n, D, X, Y, z, tl, rfl, h.ov, TlAt.mono (fun k hk => ⟨hk.1, by have := hk.2; omega⟩) _ _ _ h.un, rfl, fun k hk => ⟨by have := h.lo k hk; have := h.gs; omega, hi k hk⟩⟩
theorem Tp.bnd (h : Tp W u g bad d s base of tl o n D X Y z) : Bnd (ovT D tl) := ovT_bnd h.bd h.ov.lfOk
theorem Tp.ask (h : Tp W u g bad d s base of tl o n D X Y z) (hc : Ch (Kin.one g) u u') (hg : GrAt u' g bad) : Tp W u' g bad d s base of tl o n D X Y z := by
  have hgs := h.gs
  refine ⟨h.ov.ch hc (fun k hk e => ?_) (fun k hk e => ?_), h.lo, TlAt.ch hc (fun k hk e => ?_) _ _ _ h.un, h.bd, hg, h.g0, h.gs, h.ch.trans' hc fun k hk e => ?_⟩
  · simp only [Kin.one] at e; have := h.lo k (.inl hk); omega
  · simp only [Kin.one] at e; have := h.lo k (.inr hk); omega
  · simp only [Kin.one] at e; have := hk.1; omega
  · simp only [Kin.one] at e; have := h.g0; omega
/-- what is done to layers above -/
theorem Tp.chg (h : Tp W u g bad d s base of tl o n D X Y z) {e : Nat} (hse : s ≤ e) (hi : ∀ k, X k ∨ Y k → k < e) (hc : Ch S u u') (hS : ∀ k, S k → e ≤ k) : Tp W u' g bad d s base of tl o n D X Y z := by
  have hgs := h.gs
  have hg0 := h.g0
  refine ⟨h.ov.ch hc (fun k hk e => ?_) (fun k hk e => ?_), h.lo, TlAt.ch hc (fun k hk e => ?_) _ _ _ h.un, h.bd, h.gr.ch hc fun e => ?_, h.g0, h.gs, h.ch.trans' hc fun k hk e => ?_⟩
  · have := hS k e; have := hi k (.inl hk); omega
  · have := hS k e; have := hi k (.inr hk); omega
  · have := hS k e; have := hk.2; omega
  · have := hS g e; omega
  · have := hS k e; omega
theorem Tp.leaf (h : Tp W u g bad d s base of tl o n D X Y z) (num : Num) (off : Off) : Ret Tryd.prog 17 #[oP o, .int .u16 num.val, .int .u32 off.val] u fun v' w' => LfR u ((ovT D tl).lf num off) v' w' ∧ GrAt w' g bad ∧ Ch (Kin.one g) u w' := by
  have hgl := h.gl
  exact t_leaf (h.up (e := max s u.heap.size) (by omega) fun k hk => by have := h.ov.lt k hk; omega) h.gr (fun e => by have := e.1; omega) num off
theorem Tp.put (h : Tp W u g bad d s base of tl o n D X Y z) (h1 : OvP u' o base of m E X Y' z) (hY : ∀ k, Y' k → Y k ∨ s ≤ k) (c1 : Ch X u u') : Tp W u' g bad d s base of tl o m E X Y' z := by
  have hgs := h.gs
  have hg0 := h.g0
  have hX : ∀ k, X k → s ≤ k := fun k hk => h.lo k (.inl hk)
  refine ⟨h1, fun k hk => ?_, TlAt.ch c1 (fun k hk e => ?_) _ _ _ h.un, h.bd, h.gr.ch c1 fun e => ?_, h.g0, h.gs, h.ch.trans' c1 fun k hk e => ?_⟩
  · rcases hk with hk | hk
    · exact h.lo k (.inl hk)
    · rcases hY k hk with hk | hk
      · exact h.lo k (.inr hk)
      · exact hk
  · have := hX k e; have := hk.2; omega
  · have := hX g e; omega
  · have := hX k e; omega
theorem Tp.begin (h : Tp W u g bad d s base of tl o n D X Y z) (hsu : s ≤ u.heap.size) : Ret Tryd.prog 12 #[oP o] u fun v' u' => ∃ t zt Xt, v' = oP t ∧ Tp W u' g bad (d + 1) u.heap.size (oV o) (oP o) (ovT D tl) t 0 Ov.new Xt (fun _ => False) zt ∧ Ch Nw u u' ∧ u.heap.size < u'.heap.size := by
  have hgl := h.gl
  refine (begin_any o u).mono ?_
  rintro v' u' ⟨t, zt, rfl, h1, c1⟩
  refine ⟨t, zt, _, rfl, ⟨h1, fun k hk => hk.elim (fun e => e.1) fun e => e.elim, TlAt.ch c1 (fun _ _ e => e) _ _ _ (h.up hsu h.ov.lt), h.bnd, h.gr.ch c1 id, h.g0, hgl, h.ch.trans c1⟩, c1, ?_⟩
  have := h1.x t (.inl rfl)
  omega
theorem Tp.end (h : Tp W u g bad d s base of tl o n D X Y z) (ht : Tp W u g bad (d + 1) s' base' (oP o) tl' t m E X' Y' z') (hse : s ≤ s') (hi : ∀ k, X k ∨ Y k → k < s') (hn : n + m + m ≤ 1000000) :
    Ret Tryd.prog 13 #[oP o, oP t] u fun v' u' => v' = .int .i64 0 ∧ Tp W u' g bad d s base of tl o (n + m + m) (D.merge E) X (fun k => Y k ∨ Y' k) z ∧ OvP u' t base' (.pointer none) m E X' Y' z' ∧ Ch (fun k => X k ∨ k = t) u u' := by
  have hgs := h.gs
  have hg0 := h.g0
  refine (end_any h.ov ht.ov (fun k hk e => ?_) (fun k hk e => ?_) (fun k hk e => ?_) hn).mono ?_
  · have := hi k (.inl hk); have := ht.lo k (.inl e); omega
  · have := hi k (.inl e); have := ht.lo k (.inr hk); omega
  · have := hi k (.inr hk); have := ht.lo k (.inl e); omega
  rintro v' u' ⟨rfl, h1, h2, c1⟩
  have hS : ∀ k, X k ∨ k = t → s ≤ k := fun k hk => hk.elim (fun e => h.lo k (.inl e)) fun e => by subst e; have := ht.lo k (.inl (ht.ov.x k (.inl rfl))); omega
  refine ⟨rfl, ⟨h1, fun k hk => ?_, TlAt.ch c1 (fun k hk e => ?_) _ _ _ h.un, h.bd, h.gr.ch c1 fun e => ?_, h.g0, h.gs, h.ch.trans' c1 fun k hk e => ?_⟩, h2, c1⟩
  · rcases hk with hk | hk | hk
    · exact h.lo k (.inl hk)
    · exact h.lo k (.inr hk)
    · have := ht.lo k (.inr hk); omega
  · have := hS k e; have := hk.2; omega
  · have := hS g e; omega
  · have := hS k e; omega
/-- a new one, over a new ground -/
theorem tp_new (W w1 : World) (g bad : Nat) (hg : g = W.heap.size) (hgr : w1.heap[g]? = some (.cells #[.int .u16 bad, .int .i64 0] 28 (0, 0))) (hs : w1.heap.size = g + 1) (hc : Ch Nw W w1) :
    Ret Tryd.prog 5 #[gV g] w1 fun v' w' => ∃ o zo Xo, v' = .tuple #[oP o, .int .i64 0] ∧ Tp W w' g bad 0 (g + 1) (gV g) (.pointer none) (gT bad) o 0 Ov.new Xo (fun _ => False) zo ∧ Ch Nw W w' ∧ g + 1 < w'.heap.size := by
  refine (new_any _ _ w1).mono ?_
  rintro v' u' ⟨t, zt, rfl, h1, c1⟩
  refine ⟨t, zt, _, rfl, ⟨h1, fun k hk => hk.elim (fun e => by have := e.1; omega) fun e => e.elim, ⟨rfl, rfl⟩, gT_bnd bad, GrAt.ch ⟨_, hgr⟩ c1 id, by omega, by omega, hc.trans c1⟩, hc.trans c1, ?_⟩
  have := h1.x t (.inl rfl)
  omega
theorem wiped_any {w : World} (h : OvP w o base of n D X Y z) (num : Num) : Ret Tryd.prog 18 #[oP o, .int .u16 num.val] w fun v' w' => v' = .bool (D.wiped num) ∧ w' = w := by
  refine v_enter Tryd.func18 Tryd.ntmps18 rfl (by simp) fun R' hR => ?_
  have c4 : w.cell? ⟨o, 4, none⟩ = some (.map (some z.bw)) := cell_blk h.blk 4
  have hw : (Instr.lookup 68 (.map (some z.bw)) (.int .u16 num.val) false).run Tryd.prog w = _ := h.wp.look kysU Tryd.underlying68 (zB w) num
  cases hwp : D.wiped num with
  | true =>
    rw [hwp] at hw
    simp at hw
    simp [go_sem, c4, hw]
    exact hR _ _ ⟨by rw [hwp], rfl⟩
  | false =>
    rw [hwp] at hw
    simp at hw
    simp [go_sem, c4, hw]
    exact hR _ _ ⟨by rw [hwp], rfl⟩
end
end Go.Proofs.YtnefdmbdkljifaaDoor
