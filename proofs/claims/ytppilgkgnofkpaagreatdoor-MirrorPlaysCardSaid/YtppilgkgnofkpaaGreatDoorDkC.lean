/- Package disk's block and comes, as contracts on calls. No condition. -/
import Derived.Test.YtppilgkgnofkpaaGreatDoorDkA
set_option linter.unusedSimpArgs false
set_option linter.unusedVariables false

/- Package disk's small functions, as contracts on calls. No condition. -/
namespace Go.Proofs.YtppilgkgnofkpaaGreatDoor
open Go.RowKit Go.Kin

section
variable {w : World} {d p n : Nat} {D : Dk} {O Y : Nat → Prop} {z : Dn} {vs : List (Nat × Value)}
theorem has_any (a : Nat) (ha : a < 65536) (h : DkP w d p n D O z vs Y) : Ret Tryz.prog 69 #[.pointer (some ⟨d, 0, none⟩), .int .u16 a] w fun v' w' => v' = .bool (decide (a < n)) ∧ w' = w := by
  refine v_enter Tryz.func69 Tryz.ntmps69 rfl (by simp) fun R' hR => ?_
  have c0 : w.cell? ⟨d, 0, none⟩ = some (.int .i64 n) := cell_blk h.blk 0
  have hw : IntKind.i64.wrap (a : Int) = a := by rw [IntKind.wrap_i64]; omega
  simp [go_sem, c0, hw]
  exact hR _ _ ⟨rfl, rfl⟩
theorem dead_any (h : DkP w d p n D O z vs Y) : Ret Tryz.prog 27 #[.pointer (some ⟨d, 0, none⟩)] w fun v' w' => v' = .bool D.dead ∧ w' = w := by
  refine v_enter Tryz.func27 Tryz.ntmps27 rfl (by simp) fun R' hR => ?_
  have c6 : w.cell? ⟨d, 6, none⟩ = some (.bool D.dead) := cell_blk h.blk 6
  simp [go_sem, c6]
  exact hR _ _ ⟨rfl, rfl⟩
theorem dead_nil (w : World) : Ret Tryz.prog 27 #[.pointer none] w fun v' w' => v' = .bool true ∧ w' = w := by
  refine v_enter Tryz.func27 Tryz.ntmps27 rfl (by simp) fun R' hR => ?_
  simp [go_sem]
  exact hR _ _ ⟨rfl, rfl⟩
theorem own_len {w : World} {e s n : Nat} {v : Value} {xs : List Value} (h : w.ownsRow 0 e s v n xs) {t e' : TypeId} (ht : Tryz.prog.underlying t = some (.slice e')) (ty : TypeId) (w' : World) : (Builtin.len_ #[t] ty #[v]).run Tryz.prog w' = .ok (.int .i64 n) w' := by
  rcases h.2 with ⟨rfl, rfl⟩ | ⟨g, cap, cur, rfl, _⟩ <;> simp [Builtin.len_, run_underlying ht, goInt]
/-- the error of a disk that isn't able -/
def ableE (D : Dk) (P : Pwr) : Int := if D.able P then 0 else 3
theorem able_any (P : Pwr) (h : DkP w d p n D O z vs Y) (hp : PwAt w p P) : Ret Tryz.prog 66 #[.pointer (some ⟨d, 0, none⟩)] w fun v' w' => v' = .int .i64 (ableE D P) ∧ w' = w := by
  refine v_enter Tryz.func66 Tryz.ntmps66 rfl (by simp) fun R' hR => ?_
  have c1 : w.cell? ⟨d, 1, none⟩ = some (.pointer (some ⟨p, 0, none⟩)) := cell_blk h.blk 1
  have c6 : w.cell? ⟨d, 6, none⟩ = some (.bool D.dead) := cell_blk h.blk 6
  cases hd : D.dead with
  | true =>
    rw [hd] at c6
    simp [go_sem, c1, c6]
    exact hR _ _ ⟨by simp [ableE, Dk.able, hd], rfl⟩
  | false =>
    rw [hd] at c6
    simp [go_sem, c1, c6]
    refine (is_any p P.off P.fuse w hp).mono ?_
    rintro _ w' ⟨rfl, hw⟩
    subst w'
    cases ho : P.off
    · simp [go_sem]
      exact hR _ _ ⟨by simp [ableE, Dk.able, hd, ho], rfl⟩
    · simp [go_sem]
      exact hR _ _ ⟨by simp [ableE, Dk.able, hd, ho], rfl⟩
theorem able_nil (w : World) : Ret Tryz.prog 66 #[.pointer none] w fun v' w' => v' = .int .i64 2 ∧ w' = w := by
  refine v_enter Tryz.func66 Tryz.ntmps66 rfl (by simp) fun R' hR => ?_
  simp [go_sem]
  exact hR _ _ ⟨rfl, rfl⟩
/-- a change of the disk's own block alone -/
theorem DkP.own (h : DkP w d p n D O z vs Y) {w' : World} {D' : Dk} {z' : Dn} (hb : w'.heap[d]? = some (.cells (dcs n p z' D') 138 (0, 0))) (hc : Ch (fun k => k = d ∨ z.cv.ownBlock = some k) w w')
    (hm : D'.m = D.m) (hba : D'.bad = D.bad) (hst : D'.stuck = D.stuck) (hz : z'.bm = z.bm ∧ z'.bb = z.bb ∧ z'.bs = z.bs) {vs' : List (Nat × Value)} {Y' O' : Nat → Prop} (hca : CacheAt w' z'.cv D'.cache Y' vs') (has : AstrayAt w' z'.av D'.astray Y') (hok : D'.Ok n)
    (hcv : ∀ k, z'.cv.ownBlock = some k → O' k ∧ ¬ Y' k ∧ k ≠ d) (hO : ∀ k, O k → O' k) (hY : ∀ k, Y k → Y' k) (hY2 : ∀ k, Y' k → O' k ∧ k ≠ d ∧ k ≠ z.bm ∧ k ≠ z.bb ∧ k ≠ z.bs) (hOl : ∀ k, O' k → k < w'.heap.size) : DkP w' d p n D' O' z' vs' Y' := by
  obtain ⟨e1, e2, e3⟩ := hz
  obtain ⟨n1, n2, n3⟩ := h.dbm
  have hyd : ∀ k, Y k → ¬ (k = d ∨ z.cv.ownBlock = some k) := fun k hk e => e.elim (hY2 k (hY k hk)).2.1 fun e => h.yx k hk (.inr (.inr (.inr (.inr e))))
  have hg : ∀ g, g ≠ d → (g = z.bm ∨ g = z.bb ∨ g = z.bs) → ¬ (g = d ∨ z.cv.ownBlock = some g) := fun g h1 h2 e => e.elim h1 fun e => by
    obtain ⟨_, g1, g2, g3⟩ := h.dcv g e
    rcases h2 with h2 | h2 | h2
    · exact g1 h2
    · exact g2 h2
    · exact g3 h2
  refine ⟨hb, ?_, ?_, ?_, hca, has, ?_, fun k hk => (hY2 k hk).1, ?_, ?_, hok, hOl⟩
  · rw [e1, hm]; exact (h.mem.ch hc (hg _ n1 (.inl rfl)) hyd).mono hY
  · rw [e2, hba]; exact h.bad.ch hc (hg _ n2 (.inr (.inl rfl)))
  · rw [e3, hst]; exact h.stuck.ch hc (hg _ n3 (.inr (.inr rfl)))
  · rintro k (hk | hk | hk | hk | hk)
    · exact hO k (h.ox k (.inl hk))
    · exact hO k (h.ox k (.inr (.inl (by rw [← e1]; exact hk))))
    · exact hO k (h.ox k (.inr (.inr (.inl (by rw [← e2]; exact hk)))))
    · exact hO k (h.ox k (.inr (.inr (.inr (.inl (by rw [← e3]; exact hk))))))
    · exact (hcv k hk).1
  · rintro k hk (hx | hx | hx | hx | hx)
    · exact (hY2 k hk).2.1 hx
    · exact (hY2 k hk).2.2.1 (by rw [← e1]; exact hx)
    · exact (hY2 k hk).2.2.2.1 (by rw [← e2]; exact hx)
    · exact (hY2 k hk).2.2.2.2 (by rw [← e3]; exact hx)
    · exact (hcv k hx).2.1 hk
  · rw [e1, e2, e3]
    exact ⟨h.ne.1, h.ne.2.1, h.ne.2.2.1, fun e => (hcv d e).2.2 rfl⟩
theorem DkP.yne (h : DkP w d p n D O z vs Y) : ∀ k, Y k → O k ∧ k ≠ d ∧ k ≠ z.bm ∧ k ≠ z.bb ∧ k ≠ z.bs := fun k hk =>
  ⟨h.oy k hk, fun e => h.yx k hk (.inl e), fun e => h.yx k hk (.inr (.inl e)), fun e => h.yx k hk (.inr (.inr (.inl e))), fun e => h.yx k hk (.inr (.inr (.inr (.inl e))))⟩
theorem DkP.cvs (h : DkP w d p n D O z vs Y) : ∀ k, z.cv.ownBlock = some k → O k ∧ ¬ Y k ∧ k ≠ d := fun k hk => ⟨h.ox k (.inr (.inr (.inr (.inr hk)))), fun hy => h.yx k hy (.inr (.inr (.inr (.inr hk)))), (h.dcv k hk).1⟩
/-- a cell of the disk's own block set, of those that are told at once -/
theorem DkP.flag (h : DkP w d p n D O z vs Y) {i : Nat} {u : Value} {D' : Dk} (hs : (dcs n p z D).setIfInBounds i u = dcs n p z D') (hm : D'.m = D.m) (hc : D'.cache = D.cache) (hb : D'.bad = D.bad) (hst : D'.stuck = D.stuck) (ha : D'.astray = D.astray) :
    DkP (w.setCell ⟨d, i, none⟩ u) d p n D' O z vs Y := by
  have hch : Ch (one d) w (w.setCell ⟨d, i, none⟩ u) := (Ch.refl (one d) w).setCell (p := ⟨d, i, none⟩) (.inl rfl) _
  have hyd : ∀ k, Y k → ¬ one d k := fun k hk e => by simp only [one] at e; exact (h.yne k hk).2.1 e
  refine h.own ?_ (hch.mono fun _ _ e => .inl e) hm hb hst ⟨rfl, rfl, rfl⟩ ?_ ?_ ⟨by rw [hm]; exact h.ok.m, by rw [hc]; exact h.ok.cache⟩ h.cvs (fun _ => id) (fun _ => id) h.yne (fun k hk => Nat.lt_of_lt_of_le (h.olt k hk) hch.size)
  · rw [hp_setCell, h.blk, setOf_cells, ← hs]
  · rw [hc]; exact h.cache.ch hch (fun k hk e => by simp only [one] at e; exact (h.dcv k hk).1 e) hyd
  · rw [ha]; exact h.astray.ch hch hyd
theorem lose_any (h : DkP w d p n D O z vs Y) : Ret Tryz.prog 57 #[.pointer (some ⟨d, 0, none⟩)] w fun v' w' => v' = .tuple #[] ∧ DkP w' d p n { D with lose := true } O z vs Y ∧ Ch (one d) w w' := by
  refine v_enter Tryz.func57 Tryz.ntmps57 rfl (by simp) fun R' hR => ?_
  have c7 : w.cell? ⟨d, 7, none⟩ = some (.bool D.lose) := cell_blk h.blk 7
  have f7 := frz_blk h.blk 7
  simp [go_sem, c7, f7]
  exact hR _ _ ⟨rfl, h.flag rfl rfl rfl rfl rfl rfl, (Ch.refl (one d) w).setCell (p := ⟨d, 7, none⟩) (.inl rfl) _⟩
theorem lose_nil (w : World) : Ret Tryz.prog 57 #[.pointer none] w fun v' w' => v' = .tuple #[] ∧ w' = w := by
  refine v_enter Tryz.func57 Tryz.ntmps57 rfl (by simp) fun R' hR => ?_
  simp [go_sem]
  exact hR _ _ ⟨rfl, rfl⟩
theorem die_any (h : DkP w d p n D O z vs Y) : Ret Tryz.prog 59 #[.pointer (some ⟨d, 0, none⟩)] w fun v' w' => v' = .tuple #[] ∧ DkP w' d p n { D with dead := true } O z vs Y ∧ Ch (one d) w w' := by
  refine v_enter Tryz.func59 Tryz.ntmps59 rfl (by simp) fun R' hR => ?_
  have c6 : w.cell? ⟨d, 6, none⟩ = some (.bool D.dead) := cell_blk h.blk 6
  have f6 := frz_blk h.blk 6
  simp [go_sem, c6, f6]
  exact hR _ _ ⟨rfl, h.flag rfl rfl rfl rfl rfl rfl, (Ch.refl (one d) w).setCell (p := ⟨d, 6, none⟩) (.inl rfl) _⟩
theorem die_nil (w : World) : Ret Tryz.prog 59 #[.pointer none] w fun v' w' => v' = .tuple #[] ∧ w' = w := by
  refine v_enter Tryz.func59 Tryz.ntmps59 rfl (by simp) fun R' hR => ?_
  simp [go_sem]
  exact hR _ _ ⟨rfl, rfl⟩
theorem astray_nil (a : Nat) (w : World) : Ret Tryz.prog 58 #[.pointer none, .int .u16 a] w fun v' w' => v' = .tuple #[] ∧ Ch Nw w w' := by
  refine v_enter Tryz.func58 Tryz.ntmps58 rfl (by simp) fun R' hR => ?_
  simp [go_sem]
  exact hR _ _ ⟨rfl, (Ch.refl Nw w).alloc _⟩
end
end Go.Proofs.YtppilgkgnofkpaaGreatDoor

namespace Go.Kin
open Go Go.RowKit
/-- copy onto the first elements of a row of the call's own -/
theorem VB_copyOwn {P : Program} {w : World} {t e ty : TypeId} {z : Value} {bytes : Nat} {K : Value → World → Prop} (T : Ty1 P t e z bytes) {v y : Value} {n m : Nat} {xs ys : List Value} (hown : w.ownsRow 0 e 1 v n xs) (hn : 0 < n) (hy : Sl w y m ys) (hm : ys.length = m) (hmn : m ≤ n) (h1 : ∀ u ∈ ys, u.oneCell' = true)
    (h : ∀ w', w'.ownsRow 0 e 1 v n (ys ++ xs.drop m) → Ch (fun k => v.ownBlock = some k) w w' → K (.int .i64 m) w') : VB P .copy #[t, t] ty #[v, y] w K := by
  obtain ⟨i, hi, hz, hsz, hby⟩ := info_parts T.info
  have hs : (P.info? e).map (·.size) = some 1 := by rw [hi]; simp [hsz]
  have go : ∀ w', (Builtin.copy_ #[t, t] ty #[v, y]).run P w = .ok (.int .i64 m) w' → K (.int .i64 m) w' → VB P .copy #[t, t] ty #[v, y] w K := fun w' hr hk => by
    unfold VB VR
    simp only [hr]
    exact hk
  obtain ⟨hl, hd⟩ := hown
  rcases hd with ⟨_, h0⟩ | ⟨g, cap, cur, rfl, hg0, hg, hnc, hcm, hcs, hct⟩
  · omega
  obtain ⟨A, c, rfl, hle, hcm2, hr⟩ := hy
  by_cases hm0 : m = 0
  · subst hm0
    obtain rfl : ys = [] := List.eq_nil_of_length_eq_zero hm
    refine go w (run_copy_none (P := P) w t t ty e (some ⟨g, 0, none⟩) A n cap 0 c T.und hs (by simp [Nat.min])) (h w ⟨by simpa using hl, .inr ⟨g, cap, cur, rfl, hg0, hg, hnc, hcm, hcs, by simpa using hct⟩⟩ (Ch.refl _ _))
  · obtain ⟨ad, rfl, hsrc⟩ := hr (by omega)
    have hfit : 0 + ys.length ≤ cur.size := by omega
    have hrun := run_copy_row (P := P) w t t ty e g 0 n cap ad m c cur e ys T.und hs hg (by rw [hm]; exact (Nat.min_eq_left hmn).symm) hsrc hfit h1
    rw [hm] at hrun
    have hgl := lt_of_block hg
    refine go _ hrun (h _ ⟨by simp; omega, .inr ⟨g, cap, _, rfl, hg0, by rw [hp_setRow, hg]; rfl, hnc, hcm, by simp; omega, ?_⟩⟩ (Ch.setRow (S := fun k => (Value.slice (some ⟨g, 0, none⟩) n cap).ownBlock = some k) (Ch.refl _ w) (.inl rfl) _))
    rw [Nat.mul_one] at hct ⊢
    simp only [List.take_zero, List.nil_append, Nat.zero_add]
    rw [List.take_append, List.take_of_length_le (by omega), ← hct, List.drop_take, hm]
theorem VB_delete {P : Program} {w w' : World} {ts : Array TypeId} {ty : TypeId} {args : Array Value} {v : Value} {K : Value → World → Prop} (h : (Builtin.delete_ ts ty args).run P w = .ok v w') (hk : K v w') : VB P .delete ts ty args w K := by
  unfold VB VR
  simp only [h]
  exact hk
end Go.Kin
namespace Go.Proofs.YtppilgkgnofkpaaGreatDoor
open Go.RowKit Go.Kin

theorem mkz (n : Nat) (w : World) (hn : n ≤ 1000000) : (Instr.makeSlice 59 (.int .i64 n) (.int .i64 n)).run Tryz.prog w = .ok (.slice (some ⟨w.heap.size, 0, none⟩) n n) (w.alloc (.cells (bvs (List.replicate n 0)).toArray 5)) := by
  have h1 : (Tryz.prog.info? 5).isSome = true := by kernel_rfl
  obtain ⟨i, hi⟩ := Option.isSome_iff_exists.1 h1
  have h2 : (Tryz.prog.info? 5).map (·.size) = some 1 := by kernel_rfl
  have h3 : (Tryz.prog.info? 5).map (·.bytes) = some 1 := by kernel_rfl
  have h4 : (Tryz.prog.info? 5).bind (·.zero) = some (.int .u8 0) := by kernel_rfl
  rw [hi] at h2 h3 h4
  simp at h2 h3 h4
  have := run_makeSlice (P := Tryz.prog) w 59 5 i _ Tryz.underlying59 hi h4 .i64 .i64 n n (by omega) (Int.le_refl _) (by rw [h2]; omega) (by rw [h3]; omega) (by omega)
  rw [this, h2]
  have e : madeCells (Value.int .u8 0).cells (n * 1) = (bvs (List.replicate n 0)).toArray := by
    apply Array.ext'
    apply List.ext_getElem?
    intro i
    simp [madeCells, bvs, bv, Value.cells]
    by_cases h : i < n
    · simp [h, Nat.mod_one]
    · simp [h]
  simp only [Int.toNat_natCast, e]
theorem mkzb (w : World) : (Instr.makeSlice 59 (.int .i64 512) (.int .i64 512)).run Tryz.prog w = .ok (.slice (some ⟨w.heap.size, 0, none⟩) 512 512) (w.alloc (.cells (bvs Go.Kin.zb).toArray 5)) := mkz 512 w (by decide)
theorem slzb (w : World) : Sl (w.alloc (.cells (bvs Go.Kin.zb).toArray 5)) (.slice (some ⟨w.heap.size, 0, none⟩) 512 512) 512 (bvs Go.Kin.zb) := Sl.of_own (Sl.lit w 5 Go.Kin.zb 512 zb_len (by decide))
theorem zS (w : World) : (zeroValue 59).run Tryz.prog w = .ok (.slice none 0 0) w := by
  have h4 : (Tryz.prog.info? 59).bind (·.zero) = some (.slice none 0 0) := by kernel_rfl
  cases hi : Tryz.prog.info? 59 with
  | none => rw [hi] at h4; cases h4
  | some i =>
    rw [hi] at h4
    simp at h4
    simp [zeroValue, typeInfo, hi, h4]
theorem zB (w : World) : (zeroValue 4).run Tryz.prog w = .ok (.bool false) w := by
  have h4 : (Tryz.prog.info? 4).bind (·.zero) = some (.bool false) := by kernel_rfl
  cases hi : Tryz.prog.info? 4 with
  | none => rw [hi] at h4; cases h4
  | some i =>
    rw [hi] at h4
    simp at h4
    simp [zeroValue, typeInfo, hi, h4]
section
variable {w : World} {d p n : Nat} {D : Dk} {O Y : Nat → Prop} {z : Dn} {vs : List (Nat × Value)}
theorem block_any (a : Nat) (h : DkP w d p n D O z vs Y) : Ret Tryz.prog 72 #[.pointer (some ⟨d, 0, none⟩), .int .u16 a] w fun v' w' => Sl w' v' 512 (bvs (blockM D.m a)) ∧ (blockM D.m a).length = 512 ∧ Ch Nw w w' := by
  refine v_enter Tryz.func72 Tryz.ntmps72 rfl (by simp) fun R' hR => ?_
  have c2 : w.cell? ⟨d, 2, none⟩ = some (.map (some z.bm)) := cell_blk h.blk 2
  obtain ⟨F, hm, hF⟩ := h.mem
  have hlk := hm.look_ok Tryz.underlying133 Tryz.underlying52 (zS w) a
  have hlen := h.ok.block a
  cases hma : D.m a with
  | none =>
    have hFa := (hF a).1 hma
    rw [hFa] at hlk
    have hbm : blockM D.m a = Go.Kin.zb := by simp [blockM, hma]
    have hmk := mkzb w
    simp at hlk
    simp [go_sem, c2, hlk, hmk]
    exact hR _ _ ⟨by rw [hbm]; exact slzb w, hlen, (Ch.refl Nw w).alloc _⟩
  | some b =>
    obtain ⟨v, hFa, hv⟩ := (hF a).2 b hma
    rw [hFa] at hlk
    have hbm : blockM D.m a = b := by simp [blockM, hma]
    have hb := h.ok.m a b hma
    simp at hlk
    simp [go_sem, c2, hlk]
    exact hR _ _ ⟨by rw [hbm, ← hb]; exact hv.1, hlen, Ch.refl _ _⟩
/-- a change of the map of blocks and of what is bad -/
theorem DkP.maps (h : DkP w d p n D O z vs Y) {w' : World} {D' : Dk} {S Y' O' : Nat → Prop} (hc : Ch S w w') (hS : ∀ k, S k → k = z.bm ∨ k = z.bb ∨ k = z.bs) (hm : MemAt w' z.bm D'.m Y') (hb : SetAt w' z.bb D'.bad) (hst : SetAt w' z.bs D'.stuck)
    (e : D'.cache = D.cache ∧ D'.dead = D.dead ∧ D'.lose = D.lose ∧ D'.astray = D.astray) (hok : D'.Ok n) (hY : ∀ k, Y k → Y' k) (hO : ∀ k, O k → O' k) (hY2 : ∀ k, Y' k → Y k ∨ w.heap.size ≤ k) (hYO : ∀ k, Y' k → O' k) (hOl : ∀ k, O' k → k < w'.heap.size) : DkP w' d p n D' O' z vs Y' := by
  obtain ⟨e1, e2, e3, e4⟩ := e
  obtain ⟨n1, n2, n3⟩ := h.dbm
  have hx : ∀ k, z.X d k → k < w.heap.size := by
    obtain ⟨F, m1, _⟩ := h.mem
    obtain ⟨F2, m2, _⟩ := h.bad
    obtain ⟨F3, m3, _⟩ := h.stuck
    rintro k (rfl | rfl | rfl | rfl | hk)
    · exact h.lt
    · exact m1.lt
    · exact m2.lt
    · exact m3.lt
    · rcases h.cache.own.2 with ⟨hv, _⟩ | ⟨g, cap, cur, hv, _, hg, _⟩
      · rw [hv] at hk; simp [Value.ownBlock] at hk
      · rw [hv] at hk
        simp [Value.ownBlock] at hk
        rw [← hk]; exact lt_of_block hg
  have hyS : ∀ k, Y k → ¬ S k := fun k hk hs => by
    rcases hS k hs with e | e | e
    · exact (h.yne k hk).2.2.1 e
    · exact (h.yne k hk).2.2.2.1 e
    · exact (h.yne k hk).2.2.2.2 e
  refine ⟨?_, hm, hb, hst, ?_, ?_, fun k hk => hO k (h.ox k hk), hYO, ?_, h.ne, hok, hOl⟩
  · have := hc.hp h.blk (fun hs => by
      rcases hS d hs with e | e | e
      · exact n1 e.symm
      · exact n2 e.symm
      · exact n3 e.symm)
    rw [this]
    unfold dcs
    rw [e2, e3]
  · rw [e1]
    exact (h.cache.ch hc (fun k hk hs => by
      obtain ⟨_, g1, g2, g3⟩ := h.dcv k hk
      rcases hS k hs with e | e | e
      · exact g1 e
      · exact g2 e
      · exact g3 e) hyS).mono hY
  · rw [e4]; exact (h.astray.ch hc hyS).mono hY
  · intro k hk hxk
    rcases hY2 k hk with hy | hy
    · exact h.yx k hy hxk
    · have := hx k hxk; omega
theorem comes_any (a : Nat) (v : Value) (b : Byts) (k : Nat) (hb : b.length = 512) (hk : k ≤ 512) (h : DkP w d p n D O z vs Y) (hv : Sl w v 512 (bvs b)) (hlt : ∀ j, v.ownBlock = some j → j < w.heap.size) :
    Ret Tryz.prog 68 #[.pointer (some ⟨d, 0, none⟩), .agg #[.int .u16 a, v], .int .i64 k] w fun v' w' => v' = .tuple #[] ∧ (∃ Y', DkP w' d p n (D.comes (a, b) k) (Gr O w w') z vs Y' ∧ (∀ j, Y j → Y' j) ∧ ∀ j, Y' j → Y j ∨ w.heap.size ≤ j) ∧ Ch (fun j => j = z.bm ∨ j = z.bb) w w' := by
  refine v_enter Tryz.func68 Tryz.ntmps68 rfl (by simp) fun R' hR => ?_
  have hq := (Ch.refl Nw w).alloc (.cells #[.int .u16 a, v] 140)
  have hb1 := hp_alloc w (.cells #[.int .u16 a, v] 140)
  have h1 := h.ch hq fun _ _ e => e
  have cel := fun i => cell_blk hb1 i
  simp [go_sem, cel]
  revert hq hb1 h1 cel
  generalize w.alloc (.cells #[.int .u16 a, v] 140) = w1
  generalize hg : w.heap.size = g
  intro hq hb1 h1 cel
  refine (block_any a h1).mono ?_
  rintro v2 w2 ⟨s2, l2, c2⟩
  simp [go_sem]
  refine (clone_any v2 512 (blockM D.m a) w2 (by omega) l2 s2).mono ?_
  rintro v3 w3 ⟨o3, c3, f3⟩
  have c23 := c2.trans c3
  have cel3 := fun i => cell_blk (c23.hp hb1 id) i
  have c03 := hq.trans c23
  obtain ⟨v4, s4, b4, r4⟩ := (hv.ch c03 fun _ _ e => e).cut3 tyB (by rw [bvs_length]; exact hb) k hk
  simp [go_sem, cel3, r4]
  refine VB_copyOwn tyB o3 (by decide) s4 (by rw [List.length_take, bvs_length]; omega) hk (fun u hu => bvs_one _ u (List.mem_of_mem_take hu)) fun w4 o4 c4 => ?_
  have hv3 : ∀ j, v3.ownBlock = some j → w.heap.size ≤ j := fun j hj => Nat.le_trans (Nat.le_trans hq.size c2.size) (f3 j hj) |> fun e => by have := hg; omega
  have c04 : Ch Nw w w4 := c03.trans' c4 fun j hj e => absurd (hv3 j e) (by omega)
  have c14 : Ch Nw w1 w4 := c23.trans' c4 fun j hj e => by have := f3 j e; have := c2.size; omega
  have h4 := h1.ch c14.drew fun _ _ e => e
  have d2 : w4.drew.cell? ⟨d, 2, none⟩ = some (.map (some z.bm)) := cell_blk h4.blk 2
  have g4 : w4.drew.heap[g]? = some (.cells #[.int .u16 a, v] 140 (0, 0)) := c14.hp hb1 id
  have cel4 := fun i => cell_blk g4 i
  obtain ⟨F, hm, hF⟩ := h4.mem
  obtain ⟨w5, hu, hm5, cu, zu⟩ := hm.upd Tryz.underlying133 Tryz.underlying52 a v3
  simp [go_sem]
  refine v_draw' [(0, none), (1, none), (2, none), (3, none), (4, none), (5, none), (6, none), (7, some [])] (by kernel_rfl) (by kernel_rfl) ?_
  simp [go_sem, d2, cel4, hu]
  have nbm : d ≠ z.bm ∧ d ≠ z.bb ∧ d ≠ z.bs := ⟨h.dbm.1.symm, h.dbm.2.1.symm, h.dbm.2.2.symm⟩
  have ltbm := hm.lt
  have gne : g ≠ z.bm ∧ g ≠ z.bb := by
    obtain ⟨F0, m0, _⟩ := h.mem
    obtain ⟨F1, m1, _⟩ := h.bad
    have := m0.lt
    have := m1.lt
    omega
  have b5 := cu.drew.hp h4.blk nbm.1
  have d4 : w5.drew.cell? ⟨d, 4, none⟩ = some (.map (some z.bb)) := cell_blk b5 4
  have cel5 := fun i => cell_blk (cu.drew.hp g4 gne.1) i
  obtain ⟨F2, hm2, hF2⟩ := h4.bad.ch cu.drew h.ne.1.symm
  obtain ⟨w6, hdl, hm6, cd, zd⟩ := hm2.del Tryz.underlying135 Tryz.underlying52 a 0
  refine v_draw' [(0, none), (1, none), (2, none), (3, none), (4, none), (5, none), (6, some [])] (by kernel_rfl) (by kernel_rfl) ?_
  simp [go_sem, d4, cel5]
  refine VB_delete hdl ?_
  simp [go_sem]
  have c06 : Ch (fun j => j = z.bm ∨ j = z.bb) w w6 := ((c04.drew.mono fun _ _ e => e.elim).trans' cu fun j _ e => .inl e).drew.trans' cd fun j _ e => .inr e
  have hyn : ∀ j, Y j → j ≠ z.bm ∧ j ≠ z.bb := fun j hj => ⟨(h.yne j hj).2.2.1, (h.yne j hj).2.2.2.1⟩
  have c46 : Ch (fun j => j = z.bm ∨ j = z.bb) w4.drew w6 := ((cu.mono fun j _ e => .inl e).drew.trans' cd fun j _ e => .inr e)
  have hbmlt : z.bm < w.heap.size ∧ z.bb < w.heap.size := by
    obtain ⟨F0, m0, _⟩ := h.mem
    obtain ⟨F1, m1, _⟩ := h.bad
    exact ⟨m0.lt, m1.lt⟩
  have h3n : ∀ j, v3.ownBlock = some j → ¬ (j = z.bm ∨ j = z.bb) := fun j hj e => by have := hv3 j hj; omega
  have blt : ∀ j, v3.ownBlock = some j → j < w6.heap.size := fun j hj => by
    have : j < w4.heap.size := by
      rcases o4.2 with ⟨_, h0⟩ | ⟨g, cap, cur, hv, _, hg, _⟩
      · omega
      · rw [hv] at hj
        simp [Value.ownBlock] at hj
        rw [← hj]; exact lt_of_block hg
    have : w5.heap.size = w4.heap.size := zu
    have : w6.heap.size = w5.heap.size := zd
    omega
  have hnew : Sl w6 v3 512 (bvs (b.take k ++ (blockM D.m a).drop k)) := by
    have e : bvs (b.take k ++ (blockM D.m a).drop k) = (bvs b).take k ++ (bvs (blockM D.m a)).drop k := by rw [bvs_append]; simp [bvs, List.map_take, List.map_drop]
    rw [e]
    exact (Sl.of_own (own_ch (own_ch o4 (Ch.refl Nw w4).drew fun _ _ e => e) c46 h3n))
  have hlen : (b.take k ++ (blockM D.m a).drop k).length = 512 := by simp; omega
  refine hR _ _ ⟨rfl, ⟨fun j => Y j ∨ v3.ownBlock = some j, ?_, fun j => .inl, ?_⟩, c06⟩
  · refine h.maps c06 (fun j e => e.imp id .inl) ⟨_, hm5.ch (Ch.refl Nw w5).drew id |>.ch cd h.ne.1, fun x => ?_⟩ ⟨_, hm6, fun x => ?_⟩ (h.stuck.ch c06 ?_) ⟨rfl, rfl, rfl, rfl⟩ (h.ok.comes (e := (a, b)) hb k hk) (fun j => .inl) (fun j => .inl) ?_ ?_ (Gr.lt h.olt c06.size)
    · by_cases hx : x = a
      · subst hx
        simp only [Dk.comes, if_true]
        refine ⟨fun e => by simp at e, fun c hc => ⟨v3, rfl, ?_⟩⟩
        simp only [Option.some.injEq] at hc
        subst hc
        exact ⟨by rw [hlen]; exact hnew, fun j hj => ⟨.inr hj, blt j hj⟩⟩
      · simp only [Dk.comes, if_neg hx]
        refine ⟨(hF x).1, fun c hc => ?_⟩
        obtain ⟨u, hu1, hu2⟩ := (hF x).2 c hc
        exact ⟨u, hu1, (hu2.ch c46 fun j hj e => by have := hyn j hj; omega).mono fun j => .inl⟩
    · show ((if x = a then none else F2 x).getD (.bool false)) = .bool ((D.comes (a, b) k).bad x)
      by_cases hx : x = a
      · simp [hx, Dk.comes]
      · simp only [Dk.comes, if_neg hx]; exact hF2 x
    · intro e
      rcases e with e | e
      · exact h.ne.2.1 e.symm
      · exact h.ne.2.2.1 e.symm
    · rintro j (hj | hj)
      · exact .inl hj
      · exact .inr (hv3 j hj)
    · rintro j (hj | hj)
      · exact .inl (h.oy j hj)
      · exact .inr ⟨hv3 j hj, blt j hj⟩
  · rintro j (hj | hj)
    · exact .inl hj
    · exact .inr (hg ▸ hv3 j hj)
end
end Go.Proofs.YtppilgkgnofkpaaGreatDoor
