/- Package disk's small functions, as contracts on calls. No condition. -/
import Derived.Test.YtmhnlgndgdmebaaDkA
namespace Go.Proofs.Ytmhnlgndgdmebaa
open Go.RowKit Go.Kin

section
variable {w : World} {d p n : Nat} {D : Dk} {O Y : Nat → Prop} {z : Dn} {vs : List (Nat × Value)}
theorem has_any (a : Nat) (ha : a < 65536) (h : DkP w d p n D O z vs Y) : Ret Try.prog 57 #[.pointer (some ⟨d, 0, none⟩), .int .u16 a] w fun v' w' => v' = .bool (decide (a < n)) ∧ w' = w := by
  refine v_enter Try.func57 Try.ntmps57 rfl (by simp) fun R' hR => ?_
  have c0 : w.cell? ⟨d, 0, none⟩ = some (.int .i64 n) := cell_blk h.blk 0
  have hw : IntKind.i64.wrap (a : Int) = a := by rw [IntKind.wrap_i64]; omega
  simp [go_sem, c0, hw]
  exact hR _ _ ⟨rfl, rfl⟩
theorem dead_any (h : DkP w d p n D O z vs Y) : Ret Try.prog 43 #[.pointer (some ⟨d, 0, none⟩)] w fun v' w' => v' = .bool D.dead ∧ w' = w := by
  refine v_enter Try.func43 Try.ntmps43 rfl (by simp) fun R' hR => ?_
  have c6 : w.cell? ⟨d, 6, none⟩ = some (.bool D.dead) := cell_blk h.blk 6
  simp [go_sem, c6]
  exact hR _ _ ⟨rfl, rfl⟩
theorem dead_nil (w : World) : Ret Try.prog 43 #[.pointer none] w fun v' w' => v' = .bool true ∧ w' = w := by
  refine v_enter Try.func43 Try.ntmps43 rfl (by simp) fun R' hR => ?_
  simp [go_sem]
  exact hR _ _ ⟨rfl, rfl⟩
theorem blocks_any (h : DkP w d p n D O z vs Y) : Ret Try.prog 47 #[.pointer (some ⟨d, 0, none⟩)] w fun v' w' => v' = .int .i64 n ∧ w' = w := by
  refine v_enter Try.func47 Try.ntmps47 rfl (by simp) fun R' hR => ?_
  have c0 : w.cell? ⟨d, 0, none⟩ = some (.int .i64 n) := cell_blk h.blk 0
  simp [go_sem, c0]
  exact hR _ _ ⟨rfl, rfl⟩
theorem blocks_nil (w : World) : Ret Try.prog 47 #[.pointer none] w fun v' w' => v' = .int .i64 0 ∧ w' = w := by
  refine v_enter Try.func47 Try.ntmps47 rfl (by simp) fun R' hR => ?_
  simp [go_sem]
  exact hR _ _ ⟨rfl, rfl⟩
theorem own_len {w : World} {e s n : Nat} {v : Value} {xs : List Value} (h : w.ownsRow 0 e s v n xs) {t e' : TypeId} (ht : Try.prog.underlying t = some (.slice e')) (ty : TypeId) (w' : World) : (Builtin.len_ #[t] ty #[v]).run Try.prog w' = .ok (.int .i64 n) w' := by
  rcases h.2 with ⟨rfl, rfl⟩ | ⟨g, cap, cur, rfl, _⟩ <;> simp [Builtin.len_, run_underlying ht, goInt]
theorem cached_any (h : DkP w d p n D O z vs Y) : Ret Try.prog 30 #[.pointer (some ⟨d, 0, none⟩)] w fun v' w' => v' = .int .i64 D.cache.length ∧ w' = w := by
  refine v_enter Try.func30 Try.ntmps30 rfl (by simp) fun R' hR => ?_
  have c3 : w.cell? ⟨d, 3, none⟩ = some z.cv := cell_blk h.blk 3
  have hl := own_len h.cache.own Try.underlying110 3
  simp [go_sem, c3, hl]
  exact hR _ _ ⟨rfl, rfl⟩
theorem cached_nil (w : World) : Ret Try.prog 30 #[.pointer none] w fun v' w' => v' = .int .i64 0 ∧ w' = w := by
  refine v_enter Try.func30 Try.ntmps30 rfl (by simp) fun R' hR => ?_
  simp [go_sem]
  exact hR _ _ ⟨rfl, rfl⟩
/-- the error of a disk that isn't able -/
def ableE (D : Dk) (P : Pwr) : Int := if D.able P then 0 else 3
theorem able_any (P : Pwr) (h : DkP w d p n D O z vs Y) (hp : PwAt w p P) : Ret Try.prog 56 #[.pointer (some ⟨d, 0, none⟩)] w fun v' w' => v' = .int .i64 (ableE D P) ∧ w' = w := by
  refine v_enter Try.func56 Try.ntmps56 rfl (by simp) fun R' hR => ?_
  have c1 : w.cell? ⟨d, 1, none⟩ = some (.pointer (some ⟨p, 0, none⟩)) := cell_blk h.blk 1
  have c6 : w.cell? ⟨d, 6, none⟩ = some (.bool D.dead) := cell_blk h.blk 6
  cases hd : D.dead with
  | true =>
    rw [hd] at c6
    simp [go_sem, c1, c6]
    exact hR _ _ ⟨by simp [ableE, Dk.able, hd], rfl⟩
  | false =>
    rw [hd] at c6
    simp [go_sem, c1, c6]
    refine (is_any p P.off P.fuse w hp).mono ?_
    rintro _ w' ⟨rfl, hw⟩
    subst w'
    cases ho : P.off
    · simp [go_sem]
      exact hR _ _ ⟨by simp [ableE, Dk.able, hd, ho], rfl⟩
    · simp [go_sem]
      exact hR _ _ ⟨by simp [ableE, Dk.able, hd, ho], rfl⟩
theorem able_nil (w : World) : Ret Try.prog 56 #[.pointer none] w fun v' w' => v' = .int .i64 2 ∧ w' = w := by
  refine v_enter Try.func56 Try.ntmps56 rfl (by simp) fun R' hR => ?_
  simp [go_sem]
  exact hR _ _ ⟨rfl, rfl⟩
/-- a change of the disk's own block alone -/
theorem DkP.own (h : DkP w d p n D O z vs Y) {w' : World} {D' : Dk} {z' : Dn} (hb : w'.heap[d]? = some (.cells (dcs n p z' D') 113 (0, 0))) (hc : Ch (fun k => k = d ∨ z.cv.ownBlock = some k) w w')
    (hm : D'.m = D.m) (hba : D'.bad = D.bad) (hst : D'.stuck = D.stuck) (hz : z'.bm = z.bm ∧ z'.bb = z.bb ∧ z'.bs = z.bs) {vs' : List (Nat × Value)} {Y' O' : Nat → Prop} (hca : CacheAt w' z'.cv D'.cache Y' vs') (has : AstrayAt w' z'.av D'.astray Y') (hok : D'.Ok n)
    (hcv : ∀ k, z'.cv.ownBlock = some k → O' k ∧ ¬ Y' k ∧ k ≠ d) (hO : ∀ k, O k → O' k) (hY : ∀ k, Y k → Y' k) (hY2 : ∀ k, Y' k → O' k ∧ k ≠ d ∧ k ≠ z.bm ∧ k ≠ z.bb ∧ k ≠ z.bs) (hOl : ∀ k, O' k → k < w'.heap.size) : DkP w' d p n D' O' z' vs' Y' := by
  obtain ⟨e1, e2, e3⟩ := hz
  obtain ⟨n1, n2, n3⟩ := h.dbm
  have hyd : ∀ k, Y k → ¬ (k = d ∨ z.cv.ownBlock = some k) := fun k hk e => e.elim (hY2 k (hY k hk)).2.1 fun e => h.yx k hk (.inr (.inr (.inr (.inr e))))
  have hg : ∀ g, g ≠ d → (g = z.bm ∨ g = z.bb ∨ g = z.bs) → ¬ (g = d ∨ z.cv.ownBlock = some g) := fun g h1 h2 e => e.elim h1 fun e => by
    obtain ⟨_, g1, g2, g3⟩ := h.dcv g e
    rcases h2 with h2 | h2 | h2
    · exact g1 h2
    · exact g2 h2
    · exact g3 h2
  refine ⟨hb, ?_, ?_, ?_, hca, has, ?_, fun k hk => (hY2 k hk).1, ?_, ?_, hok, hOl⟩
  · rw [e1, hm]; exact (h.mem.ch hc (hg _ n1 (.inl rfl)) hyd).mono hY
  · rw [e2, hba]; exact h.bad.ch hc (hg _ n2 (.inr (.inl rfl)))
  · rw [e3, hst]; exact h.stuck.ch hc (hg _ n3 (.inr (.inr rfl)))
  · rintro k (hk | hk | hk | hk | hk)
    · exact hO k (h.ox k (.inl hk))
    · exact hO k (h.ox k (.inr (.inl (by rw [← e1]; exact hk))))
    · exact hO k (h.ox k (.inr (.inr (.inl (by rw [← e2]; exact hk)))))
    · exact hO k (h.ox k (.inr (.inr (.inr (.inl (by rw [← e3]; exact hk))))))
    · exact (hcv k hk).1
  · rintro k hk (hx | hx | hx | hx | hx)
    · exact (hY2 k hk).2.1 hx
    · exact (hY2 k hk).2.2.1 (by rw [← e1]; exact hx)
    · exact (hY2 k hk).2.2.2.1 (by rw [← e2]; exact hx)
    · exact (hY2 k hk).2.2.2.2 (by rw [← e3]; exact hx)
    · exact (hcv k hx).2.1 hk
  · rw [e1, e2, e3]
    exact ⟨h.ne.1, h.ne.2.1, h.ne.2.2.1, fun e => (hcv d e).2.2 rfl⟩
theorem DkP.yne (h : DkP w d p n D O z vs Y) : ∀ k, Y k → O k ∧ k ≠ d ∧ k ≠ z.bm ∧ k ≠ z.bb ∧ k ≠ z.bs := fun k hk =>
  ⟨h.oy k hk, fun e => h.yx k hk (.inl e), fun e => h.yx k hk (.inr (.inl e)), fun e => h.yx k hk (.inr (.inr (.inl e))), fun e => h.yx k hk (.inr (.inr (.inr (.inl e))))⟩
theorem DkP.cvs (h : DkP w d p n D O z vs Y) : ∀ k, z.cv.ownBlock = some k → O k ∧ ¬ Y k ∧ k ≠ d := fun k hk => ⟨h.ox k (.inr (.inr (.inr (.inr hk)))), fun hy => h.yx k hy (.inr (.inr (.inr (.inr hk)))), (h.dcv k hk).1⟩
/-- a cell of the disk's own block set, of those that are told at once -/
theorem DkP.flag (h : DkP w d p n D O z vs Y) {i : Nat} {u : Value} {D' : Dk} (hs : (dcs n p z D).setIfInBounds i u = dcs n p z D') (hm : D'.m = D.m) (hc : D'.cache = D.cache) (hb : D'.bad = D.bad) (hst : D'.stuck = D.stuck) (ha : D'.astray = D.astray) :
    DkP (w.setCell ⟨d, i, none⟩ u) d p n D' O z vs Y := by
  have hch : Ch (one d) w (w.setCell ⟨d, i, none⟩ u) := (Ch.refl (one d) w).setCell (p := ⟨d, i, none⟩) (.inl rfl) _
  have hyd : ∀ k, Y k → ¬ one d k := fun k hk e => by simp only [one] at e; exact (h.yne k hk).2.1 e
  refine h.own ?_ (hch.mono fun _ _ e => .inl e) hm hb hst ⟨rfl, rfl, rfl⟩ ?_ ?_ ⟨by rw [hm]; exact h.ok.m, by rw [hc]; exact h.ok.cache⟩ h.cvs (fun _ => id) (fun _ => id) h.yne (fun k hk => Nat.lt_of_lt_of_le (h.olt k hk) hch.size)
  · rw [hp_setCell, h.blk, setOf_cells, ← hs]
  · rw [hc]; exact h.cache.ch hch (fun k hk e => by simp only [one] at e; exact (h.dcv k hk).1 e) hyd
  · rw [ha]; exact h.astray.ch hch hyd
theorem lose_any (h : DkP w d p n D O z vs Y) : Ret Try.prog 37 #[.pointer (some ⟨d, 0, none⟩)] w fun v' w' => v' = .tuple #[] ∧ DkP w' d p n { D with lose := true } O z vs Y ∧ Ch (one d) w w' := by
  refine v_enter Try.func37 Try.ntmps37 rfl (by simp) fun R' hR => ?_
  have c7 : w.cell? ⟨d, 7, none⟩ = some (.bool D.lose) := cell_blk h.blk 7
  have f7 := frz_blk h.blk 7
  simp [go_sem, c7, f7]
  exact hR _ _ ⟨rfl, h.flag rfl rfl rfl rfl rfl rfl, (Ch.refl (one d) w).setCell (p := ⟨d, 7, none⟩) (.inl rfl) _⟩
theorem lose_nil (w : World) : Ret Try.prog 37 #[.pointer none] w fun v' w' => v' = .tuple #[] ∧ w' = w := by
  refine v_enter Try.func37 Try.ntmps37 rfl (by simp) fun R' hR => ?_
  simp [go_sem]
  exact hR _ _ ⟨rfl, rfl⟩
theorem die_any (h : DkP w d p n D O z vs Y) : Ret Try.prog 42 #[.pointer (some ⟨d, 0, none⟩)] w fun v' w' => v' = .tuple #[] ∧ DkP w' d p n { D with dead := true } O z vs Y ∧ Ch (one d) w w' := by
  refine v_enter Try.func42 Try.ntmps42 rfl (by simp) fun R' hR => ?_
  have c6 : w.cell? ⟨d, 6, none⟩ = some (.bool D.dead) := cell_blk h.blk 6
  have f6 := frz_blk h.blk 6
  simp [go_sem, c6, f6]
  exact hR _ _ ⟨rfl, h.flag rfl rfl rfl rfl rfl rfl, (Ch.refl (one d) w).setCell (p := ⟨d, 6, none⟩) (.inl rfl) _⟩
theorem die_nil (w : World) : Ret Try.prog 42 #[.pointer none] w fun v' w' => v' = .tuple #[] ∧ w' = w := by
  refine v_enter Try.func42 Try.ntmps42 rfl (by simp) fun R' hR => ?_
  simp [go_sem]
  exact hR _ _ ⟨rfl, rfl⟩
theorem astray_nil (a : Nat) (w : World) : Ret Try.prog 38 #[.pointer none, .int .u16 a] w fun v' w' => v' = .tuple #[] ∧ Ch Nw w w' := by
  refine v_enter Try.func38 Try.ntmps38 rfl (by simp) fun R' hR => ?_
  simp [go_sem]
  exact hR _ _ ⟨rfl, (Ch.refl Nw w).alloc _⟩
end
end Go.Proofs.Ytmhnlgndgdmebaa
