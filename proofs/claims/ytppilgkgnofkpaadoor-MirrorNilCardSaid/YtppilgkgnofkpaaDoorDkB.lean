/- Package disk's small functions, as contracts on calls. No condition. -/
import Derived.Test.YtppilgkgnofkpaaDoorChecked
import Derived.Test.YtppilgkgnofkpaaDoorAgg
import Derived.Test.YtppilgkgnofkpaaDoorDkL
import Derived.Test.YtppilgkgnofkpaaDoorMapU
import Derived.Test.YtppilgkgnofkpaaDoorBsl
import Derived.Test.YtppilgkgnofkpaaDoorWireA
import Derived.Test.YtppilgkgnofkpaaDoorKeep
set_option linter.unusedSimpArgs false
set_option linter.unusedVariables false

/- Power that is shared: what package disk's On, Is, Fuse, Back, Step do, as contracts on calls. No condition. -/
namespace Go.Proofs.YtppilgkgnofkpaaDoor
open Go.RowKit Go.Kin

/-- block g is power: off, and its fuse -/
def Pw (w : World) (g : Nat) (off : Bool) (fuse : Int) : Prop := w.heap[g]? = some (.cells #[.bool off, .int .i64 fuse] 148 (0, 0))
theorem Pw.ch {S : Nat → Prop} {w w' : World} {g : Nat} {off : Bool} {fuse : Int} (h : Pw w g off fuse) (hc : Ch S w w') (hn : ¬ S g) : Pw w' g off fuse := hc.obj h hn
theorem Pw.lt {w : World} {g : Nat} {off : Bool} {fuse : Int} (h : Pw w g off fuse) : g < w.heap.size := lt_of_block h

theorem on_any (w : World) : Ret Tryd.prog 35 #[] w fun v' w' => v' = .pointer (some ⟨w.heap.size, 0, none⟩) ∧ Pw w' w.heap.size false (-1) ∧ Ch Nw w w' ∧ w'.heap.size = w.heap.size + 1 := by
  refine v_enter Tryd.func35 Tryd.ntmps35 rfl (by simp) fun R' hR => ?_
  simp [go_sem]
  exact hR _ _ ⟨rfl, heap_alloc_new w _, (Ch.refl Nw w).alloc _, by simp⟩
theorem is_nil (w : World) : Ret Tryd.prog 90 #[.pointer none] w fun v' w' => v' = .bool false ∧ w' = w := by
  refine v_enter Tryd.func90 Tryd.ntmps90 rfl (by simp) fun R' hR => ?_
  simp [go_sem]
  exact hR _ _ ⟨rfl, rfl⟩
theorem is_any (g : Nat) (off : Bool) (fuse : Int) (w : World) (h : Pw w g off fuse) : Ret Tryd.prog 90 #[.pointer (some ⟨g, 0, none⟩)] w fun v' w' => v' = .bool (!off) ∧ w' = w := by
  have h0 := cell_blk h 0
  refine v_enter Tryd.func90 Tryd.ntmps90 rfl (by simp) fun R' hR => ?_
  simp [go_sem, h0]
  exact hR _ _ ⟨rfl, rfl⟩
/-- a step: was it made; what power is behind it -/
def stepS (off : Bool) (fuse : Int) : Bool × Bool × Int := if off then (false, true, fuse) else if fuse = 0 then (false, true, -1) else if 0 < fuse then (true, false, fuse - 1) else (true, false, fuse)
theorem step_nil (w : World) : Ret Tryd.prog 73 #[.pointer none] w fun v' w' => v' = .bool false ∧ w' = w := by
  refine v_enter Tryd.func73 Tryd.ntmps73 rfl (by simp) fun R' hR => ?_
  simp [go_sem]
  refine (is_nil w).mono ?_
  rintro _ w ⟨rfl, rfl⟩
  simp [go_sem]
  exact hR _ _ ⟨rfl, rfl⟩
theorem step_any (g : Nat) (off : Bool) (fuse : Int) (w : World) (h : Pw w g off fuse) (hm : fuse ≤ 9223372036854775807) : Ret Tryd.prog 73 #[.pointer (some ⟨g, 0, none⟩)] w fun v' w' =>
    v' = .bool (stepS off fuse).1 ∧ Pw w' g (stepS off fuse).2.1 (stepS off fuse).2.2 ∧ Ch (one g) w w' ∧ w'.heap.size = w.heap.size := by
  have h0 := cell_blk h
  have hf := frz_blk h
  refine v_enter Tryd.func73 Tryd.ntmps73 rfl (by simp) fun R' hR => ?_
  simp [go_sem]
  refine (is_any g off fuse w h).mono ?_
  rintro _ w ⟨rfl, rfl⟩
  cases off
  · by_cases hz : fuse = 0
    · subst hz
      have e1 : (w.setCell ⟨g, 0, none⟩ (.bool true)).heap[g]? = some (.cells #[.bool true, .int .i64 0] 148 (0, 0)) := by rw [hp_setCell, h, setOf_cells]; simp
      have h1 := cell_blk e1
      have hf1 := frz_blk e1
      simp [go_sem, h0, hf, h1, hf1]
      refine hR _ _ ⟨rfl, ?_, ((Ch.refl (one g) _).setCell (p := ⟨g, 0, none⟩) (.inl rfl) _).setCell (p := ⟨g, 1, none⟩) (.inl rfl) _, by simp [World.setCell]⟩
      unfold Pw
      rw [hp_setCell, e1, setOf_cells]
      simp [stepS]
    · have hz' : (fuse == 0) = false := by simpa using hz
      by_cases hp : 0 < fuse
      · have hw : IntKind.i64.wrap (fuse - 1) = fuse - 1 := by simp [IntKind.wrap_i64]; omega
        simp [go_sem, h0, hf, hz', hp, hw]
        refine hR _ _ ⟨by simp [stepS, hz, hp], ?_, (Ch.refl (one g) _).setCell (p := ⟨g, 1, none⟩) (.inl rfl) _, by simp [World.setCell]⟩
        unfold Pw
        rw [hp_setCell, h, setOf_cells]
        simp [stepS, hz, hp]
      · simp [go_sem, h0, hz', hp]
        exact hR _ _ ⟨by simp [stepS, hz, hp], by simpa [stepS, hz, hp] using h, Ch.refl _ _, rfl⟩
  · simp [go_sem]
    exact hR _ _ ⟨by simp [stepS], by simpa [stepS] using h, Ch.refl _ _, rfl⟩
end Go.Proofs.YtppilgkgnofkpaaDoor

/- What a disk, and what power, is in memory. No condition. -/
namespace Go.Proofs.YtppilgkgnofkpaaDoor
open Go.RowKit Go.Kin

def PwAt (w : World) (p : Nat) (P : Pwr) : Prop := Pw w p P.off P.fuse
theorem stepS_eq (P : Pwr) : stepS P.off P.fuse = (P.made, P.step.off, P.step.fuse) := by
  obtain ⟨off, fuse⟩ := P
  unfold stepS Pwr.made Pwr.step
  cases off
  · by_cases h : fuse = 0
    · simp [h]
    · by_cases h2 : 0 < fuse <;> simp [h, h2]
  · simp
/-- bytes that lie in one of Y's blocks -/
def Yb (w : World) (Y : Nat → Prop) (v : Value) (b : Byts) : Prop := Sl w v b.length (bvs b) ∧ ∀ k, v.ownBlock = some k → Y k ∧ k < w.heap.size
def MemAt (w : World) (g : Nat) (m : Nat → Option Byts) (Y : Nat → Prop) : Prop := ∃ F, MapAt w g F ∧ ∀ a, (m a = none → F a = none) ∧ ∀ b, m a = some b → ∃ v, F a = some v ∧ Yb w Y v b
def SetAt (w : World) (g : Nat) (s : Nat → Bool) : Prop := ∃ F, MapAt w g F ∧ ∀ a, (F a).getD (.bool false) = .bool (s a)
def wc (x : Nat × Value) : Array Value := #[.int .u16 x.1, x.2]
theorem wc_size (l : List (Nat × Value)) : ∀ x ∈ l, (wc x).size = 2 := fun _ _ => rfl
structure CacheAt (w : World) (v : Value) (c : List (Nat × Byts)) (Y : Nat → Prop) (vs : List (Nat × Value)) : Prop where
  own : w.ownsRow 0 141 2 v c.length (rowsL wc vs)
  len : vs.length = c.length
  each : ∀ (i a : Nat) (b : Byts), c[i]? = some (a, b) → ∃ u, vs[i]? = some (a, u) ∧ Yb w Y u b
def AstrayAt (w : World) (v : Value) (a : Option Nat) (Y : Nat → Prop) : Prop := match a with
  | none => v = .pointer none
  | some a => ∃ x, v = .pointer (some ⟨x, 0, none⟩) ∧ w.heap[x]? = some (.cells #[.int .u16 a] 22 (0, 0)) ∧ Y x
/-- the blocks and values that a disk's own block names -/
structure Dn where
  bm : Nat
  bb : Nat
  bs : Nat
  cv : Value
  av : Value
def dcs (n p : Nat) (z : Dn) (D : Dk) : Array Value := #[.int .i64 n, .pointer (some ⟨p, 0, none⟩), .map (some z.bm), z.cv, .map (some z.bb), .map (some z.bs), .bool D.dead, .bool D.lose, z.av]
/-- the blocks that change -/
def Dn.X (z : Dn) (d : Nat) : Nat → Prop := fun k => k = d ∨ k = z.bm ∨ k = z.bb ∨ k = z.bs ∨ z.cv.ownBlock = some k
structure DkP (w : World) (d p n : Nat) (D : Dk) (O : Nat → Prop) (z : Dn) (vs : List (Nat × Value)) (Y : Nat → Prop) : Prop where
  blk : w.heap[d]? = some (.cells (dcs n p z D) 135 (0, 0))
  mem : MemAt w z.bm D.m Y
  bad : SetAt w z.bb D.bad
  stuck : SetAt w z.bs D.stuck
  cache : CacheAt w z.cv D.cache Y vs
  astray : AstrayAt w z.av D.astray Y
  ox : ∀ k, z.X d k → O k
  oy : ∀ k, Y k → O k
  yx : ∀ k, Y k → ¬ z.X d k
  ne : z.bm ≠ z.bb ∧ z.bm ≠ z.bs ∧ z.bb ≠ z.bs ∧ z.cv.ownBlock ≠ some d
  ok : D.Ok n
  olt : ∀ k, O k → k < w.heap.size
/-- a disk in the blocks O -/
def DkAt (w : World) (d p n : Nat) (D : Dk) (O : Nat → Prop) : Prop := ∃ z vs Y, DkP w d p n D O z vs Y

section
variable {w w' : World} {S Y Y' : Nat → Prop}
theorem Yb.ch {v : Value} {b : Byts} (h : Yb w Y v b) (hc : Ch S w w') (hn : ∀ k, Y k → ¬ S k) : Yb w' Y v b :=
  ⟨h.1.ch hc fun k hk => hn k (h.2 k hk).1, fun k hk => ⟨(h.2 k hk).1, Nat.lt_of_lt_of_le (h.2 k hk).2 hc.size⟩⟩
theorem Yb.mono {v : Value} {b : Byts} (h : Yb w Y v b) (hy : ∀ k, Y k → Y' k) : Yb w Y' v b := ⟨h.1, fun k hk => ⟨hy k (h.2 k hk).1, (h.2 k hk).2⟩⟩
theorem MemAt.ch {g : Nat} {m : Nat → Option Byts} (h : MemAt w g m Y) (hc : Ch S w w') (hg : ¬ S g) (hn : ∀ k, Y k → ¬ S k) : MemAt w' g m Y := by
  obtain ⟨F, h1, h2⟩ := h
  refine ⟨F, h1.ch hc hg, fun a => ⟨(h2 a).1, fun b hb => ?_⟩⟩
  obtain ⟨v, h3, h4⟩ := (h2 a).2 b hb
  exact ⟨v, h3, h4.ch hc hn⟩
theorem MemAt.mono {g : Nat} {m : Nat → Option Byts} (h : MemAt w g m Y) (hy : ∀ k, Y k → Y' k) : MemAt w g m Y' := by
  obtain ⟨F, h1, h2⟩ := h
  refine ⟨F, h1, fun a => ⟨(h2 a).1, fun b hb => ?_⟩⟩
  obtain ⟨v, h3, h4⟩ := (h2 a).2 b hb
  exact ⟨v, h3, h4.mono hy⟩
theorem SetAt.ch {g : Nat} {s : Nat → Bool} (h : SetAt w g s) (hc : Ch S w w') (hg : ¬ S g) : SetAt w' g s := by
  obtain ⟨F, h1, h2⟩ := h
  exact ⟨F, h1.ch hc hg, h2⟩
theorem CacheAt.ch {v : Value} {c : List (Nat × Byts)} {vs : List (Nat × Value)} (h : CacheAt w v c Y vs) (hc : Ch S w w') (hv : ∀ k, v.ownBlock = some k → ¬ S k) (hn : ∀ k, Y k → ¬ S k) : CacheAt w' v c Y vs := by
  refine ⟨own_ch h.own hc hv, h.len, fun i a b hi => ?_⟩
  obtain ⟨u, h1, h2⟩ := h.each i a b hi
  exact ⟨u, h1, h2.ch hc hn⟩
theorem CacheAt.mono {v : Value} {c : List (Nat × Byts)} {vs : List (Nat × Value)} (h : CacheAt w v c Y vs) (hy : ∀ k, Y k → Y' k) : CacheAt w v c Y' vs := by
  refine ⟨h.own, h.len, fun i a b hi => ?_⟩
  obtain ⟨u, h1, h2⟩ := h.each i a b hi
  exact ⟨u, h1, h2.mono hy⟩
theorem CacheAt.nil (w : World) (Y : Nat → Prop) : CacheAt w (.slice none 0 0) [] Y [] := ⟨World.ownsRow_nil _ _ _ _, rfl, fun i a b h => by simp at h⟩
theorem AstrayAt.ch {v : Value} {a : Option Nat} (h : AstrayAt w v a Y) (hc : Ch S w w') (hn : ∀ k, Y k → ¬ S k) : AstrayAt w' v a Y := by
  cases a with
  | none => exact h
  | some a =>
    obtain ⟨x, h1, h2, h3⟩ := h
    exact ⟨x, h1, hc.obj h2 (hn x h3), h3⟩
theorem AstrayAt.mono {v : Value} {a : Option Nat} (h : AstrayAt w v a Y) (hy : ∀ k, Y k → Y' k) : AstrayAt w v a Y' := by
  cases a with
  | none => exact h
  | some a =>
    obtain ⟨x, h1, h2, h3⟩ := h
    exact ⟨x, h1, h2, hy x h3⟩
variable {d p n : Nat} {D : Dk} {O O' : Nat → Prop} {z : Dn} {vs : List (Nat × Value)}
theorem DkP.lt (h : DkP w d p n D O z vs Y) : d < w.heap.size := lt_of_block h.blk
theorem DkP.dbm (h : DkP w d p n D O z vs Y) : z.bm ≠ d ∧ z.bb ≠ d ∧ z.bs ≠ d := by
  have key : ∀ g F, MapAt w g F → g ≠ d := fun g F hm e => by
    obtain ⟨es, clock, hb, _⟩ := hm
    rw [e, h.blk] at hb
    cases hb
  obtain ⟨F, h1, _⟩ := h.mem
  obtain ⟨F2, h2, _⟩ := h.bad
  obtain ⟨F3, h3, _⟩ := h.stuck
  exact ⟨key _ _ h1, key _ _ h2, key _ _ h3⟩
theorem DkP.dcv (h : DkP w d p n D O z vs Y) : ∀ k, z.cv.ownBlock = some k → k ≠ d ∧ k ≠ z.bm ∧ k ≠ z.bb ∧ k ≠ z.bs := by
  intro k hk
  have key : ∀ g F, MapAt w g F → k ≠ g := fun g F hm e => by
    obtain ⟨es, clock, hb, _⟩ := hm
    subst e
    rcases h.cache.own.2 with ⟨hv, _⟩ | ⟨g, cap, cur, hv, _, hg, _⟩
    · rw [hv] at hk; simp [Value.ownBlock] at hk
    · rw [hv] at hk
      simp [Value.ownBlock] at hk
      rw [hk, hb] at hg
      cases hg
  obtain ⟨F, h1, _⟩ := h.mem
  obtain ⟨F2, h2, _⟩ := h.bad
  obtain ⟨F3, h3, _⟩ := h.stuck
  exact ⟨fun e => h.ne.2.2.2 (by rw [hk, e]), key _ _ h1, key _ _ h2, key _ _ h3⟩
/-- what a change of other blocks leaves -/
theorem DkP.ch (h : DkP w d p n D O z vs Y) (hc : Ch S w w') (hn : ∀ k, O k → ¬ S k) : DkP w' d p n D O z vs Y :=
  ⟨hc.obj h.blk (hn _ (h.ox _ (.inl rfl))), h.mem.ch hc (hn _ (h.ox _ (.inr (.inl rfl)))) fun k hk => hn k (h.oy k hk), h.bad.ch hc (hn _ (h.ox _ (.inr (.inr (.inl rfl))))), h.stuck.ch hc (hn _ (h.ox _ (.inr (.inr (.inr (.inl rfl)))))),
    h.cache.ch hc (fun k hk => hn k (h.ox _ (.inr (.inr (.inr (.inr hk)))))) fun k hk => hn k (h.oy k hk), h.astray.ch hc fun k hk => hn k (h.oy k hk), h.ox, h.oy, h.yx, h.ne, h.ok, fun k hk => Nat.lt_of_lt_of_le (h.olt k hk) hc.size⟩
theorem DkP.mono (h : DkP w d p n D O z vs Y) (ho : ∀ k, O k → O' k) (hl : ∀ k, O' k → k < w.heap.size) : DkP w d p n D O' z vs Y := ⟨h.blk, h.mem, h.bad, h.stuck, h.cache, h.astray, fun k hk => ho k (h.ox k hk), fun k hk => ho k (h.oy k hk), h.yx, h.ne, h.ok, hl⟩
theorem DkAt.ch (h : DkAt w d p n D O) (hc : Ch S w w') (hn : ∀ k, O k → ¬ S k) : DkAt w' d p n D O := by
  obtain ⟨z, vs, Y, h⟩ := h
  exact ⟨z, vs, Y, h.ch hc hn⟩
theorem DkAt.mono (h : DkAt w d p n D O) (ho : ∀ k, O k → O' k) (hl : ∀ k, O' k → k < w.heap.size) : DkAt w d p n D O' := by
  obtain ⟨z, vs, Y, h⟩ := h
  exact ⟨z, vs, Y, h.mono ho hl⟩
theorem PwAt.ch {P : Pwr} (h : PwAt w p P) (hc : Ch S w w') (hn : ¬ S p) : PwAt w' p P := hc.obj h hn
end
end Go.Proofs.YtppilgkgnofkpaaDoor

namespace Go.Proofs.YtppilgkgnofkpaaDoor
open Go.RowKit Go.Kin

section
variable {w : World} {d p n : Nat} {D : Dk} {O Y : Nat → Prop} {z : Dn} {vs : List (Nat × Value)}
theorem has_any (a : Nat) (ha : a < 65536) (h : DkP w d p n D O z vs Y) : Ret Tryd.prog 62 #[.pointer (some ⟨d, 0, none⟩), .int .u16 a] w fun v' w' => v' = .bool (decide (a < n)) ∧ w' = w := by
  refine v_enter Tryd.func62 Tryd.ntmps62 rfl (by simp) fun R' hR => ?_
  have c0 : w.cell? ⟨d, 0, none⟩ = some (.int .i64 n) := cell_blk h.blk 0
  have hw : IntKind.i64.wrap (a : Int) = a := by rw [IntKind.wrap_i64]; omega
  simp [go_sem, c0, hw]
  exact hR _ _ ⟨rfl, rfl⟩
theorem dead_any (h : DkP w d p n D O z vs Y) : Ret Tryd.prog 47 #[.pointer (some ⟨d, 0, none⟩)] w fun v' w' => v' = .bool D.dead ∧ w' = w := by
  refine v_enter Tryd.func47 Tryd.ntmps47 rfl (by simp) fun R' hR => ?_
  have c6 : w.cell? ⟨d, 6, none⟩ = some (.bool D.dead) := cell_blk h.blk 6
  simp [go_sem, c6]
  exact hR _ _ ⟨rfl, rfl⟩
theorem dead_nil (w : World) : Ret Tryd.prog 47 #[.pointer none] w fun v' w' => v' = .bool true ∧ w' = w := by
  refine v_enter Tryd.func47 Tryd.ntmps47 rfl (by simp) fun R' hR => ?_
  simp [go_sem]
  exact hR _ _ ⟨rfl, rfl⟩
theorem own_len {w : World} {e s n : Nat} {v : Value} {xs : List Value} (h : w.ownsRow 0 e s v n xs) {t e' : TypeId} (ht : Tryd.prog.underlying t = some (.slice e')) (ty : TypeId) (w' : World) : (Builtin.len_ #[t] ty #[v]).run Tryd.prog w' = .ok (.int .i64 n) w' := by
  rcases h.2 with ⟨rfl, rfl⟩ | ⟨g, cap, cur, rfl, _⟩ <;> simp [Builtin.len_, run_underlying ht, goInt]
/-- the error of a disk that isn't able -/
def ableE (D : Dk) (P : Pwr) : Int := if D.able P then 0 else 3
theorem able_any (P : Pwr) (h : DkP w d p n D O z vs Y) (hp : PwAt w p P) : Ret Tryd.prog 72 #[.pointer (some ⟨d, 0, none⟩)] w fun v' w' => v' = .int .i64 (ableE D P) ∧ w' = w := by
  refine v_enter Tryd.func72 Tryd.ntmps72 rfl (by simp) fun R' hR => ?_
  have c1 : w.cell? ⟨d, 1, none⟩ = some (.pointer (some ⟨p, 0, none⟩)) := cell_blk h.blk 1
  have c6 : w.cell? ⟨d, 6, none⟩ = some (.bool D.dead) := cell_blk h.blk 6
  cases hd : D.dead with
  | true =>
    rw [hd] at c6
    simp [go_sem, c1, c6]
    exact hR _ _ ⟨by simp [ableE, Dk.able, hd], rfl⟩
  | false =>
    rw [hd] at c6
    simp [go_sem, c1, c6]
    refine (is_any p P.off P.fuse w hp).mono ?_
    rintro _ w' ⟨rfl, hw⟩
    subst w'
    cases ho : P.off
    · simp [go_sem]
      exact hR _ _ ⟨by simp [ableE, Dk.able, hd, ho], rfl⟩
    · simp [go_sem]
      exact hR _ _ ⟨by simp [ableE, Dk.able, hd, ho], rfl⟩
theorem able_nil (w : World) : Ret Tryd.prog 72 #[.pointer none] w fun v' w' => v' = .int .i64 2 ∧ w' = w := by
  refine v_enter Tryd.func72 Tryd.ntmps72 rfl (by simp) fun R' hR => ?_
  simp [go_sem]
  exact hR _ _ ⟨rfl, rfl⟩
/-- a change of the disk's own block alone -/
theorem DkP.own (h : DkP w d p n D O z vs Y) {w' : World} {D' : Dk} {z' : Dn} (hb : w'.heap[d]? = some (.cells (dcs n p z' D') 135 (0, 0))) (hc : Ch (fun k => k = d ∨ z.cv.ownBlock = some k) w w')
    (hm : D'.m = D.m) (hba : D'.bad = D.bad) (hst : D'.stuck = D.stuck) (hz : z'.bm = z.bm ∧ z'.bb = z.bb ∧ z'.bs = z.bs) {vs' : List (Nat × Value)} {Y' O' : Nat → Prop} (hca : CacheAt w' z'.cv D'.cache Y' vs') (has : AstrayAt w' z'.av D'.astray Y') (hok : D'.Ok n)
    (hcv : ∀ k, z'.cv.ownBlock = some k → O' k ∧ ¬ Y' k ∧ k ≠ d) (hO : ∀ k, O k → O' k) (hY : ∀ k, Y k → Y' k) (hY2 : ∀ k, Y' k → O' k ∧ k ≠ d ∧ k ≠ z.bm ∧ k ≠ z.bb ∧ k ≠ z.bs) (hOl : ∀ k, O' k → k < w'.heap.size) : DkP w' d p n D' O' z' vs' Y' := by
  obtain ⟨e1, e2, e3⟩ := hz
  obtain ⟨n1, n2, n3⟩ := h.dbm
  have hyd : ∀ k, Y k → ¬ (k = d ∨ z.cv.ownBlock = some k) := fun k hk e => e.elim (hY2 k (hY k hk)).2.1 fun e => h.yx k hk (.inr (.inr (.inr (.inr e))))
  have hg : ∀ g, g ≠ d → (g = z.bm ∨ g = z.bb ∨ g = z.bs) → ¬ (g = d ∨ z.cv.ownBlock = some g) := fun g h1 h2 e => e.elim h1 fun e => by
    obtain ⟨_, g1, g2, g3⟩ := h.dcv g e
    rcases h2 with h2 | h2 | h2
    · exact g1 h2
    · exact g2 h2
    · exact g3 h2
  refine ⟨hb, ?_, ?_, ?_, hca, has, ?_, fun k hk => (hY2 k hk).1, ?_, ?_, hok, hOl⟩
  · rw [e1, hm]; exact (h.mem.ch hc (hg _ n1 (.inl rfl)) hyd).mono hY
  · rw [e2, hba]; exact h.bad.ch hc (hg _ n2 (.inr (.inl rfl)))
  · rw [e3, hst]; exact h.stuck.ch hc (hg _ n3 (.inr (.inr rfl)))
  · rintro k (hk | hk | hk | hk | hk)
    · exact hO k (h.ox k (.inl hk))
    · exact hO k (h.ox k (.inr (.inl (by rw [← e1]; exact hk))))
    · exact hO k (h.ox k (.inr (.inr (.inl (by rw [← e2]; exact hk)))))
    · exact hO k (h.ox k (.inr (.inr (.inr (.inl (by rw [← e3]; exact hk))))))
    · exact (hcv k hk).1
  · rintro k hk (hx | hx | hx | hx | hx)
    · exact (hY2 k hk).2.1 hx
    · exact (hY2 k hk).2.2.1 (by rw [← e1]; exact hx)
    · exact (hY2 k hk).2.2.2.1 (by rw [← e2]; exact hx)
    · exact (hY2 k hk).2.2.2.2 (by rw [← e3]; exact hx)
    · exact (hcv k hx).2.1 hk
  · rw [e1, e2, e3]
    exact ⟨h.ne.1, h.ne.2.1, h.ne.2.2.1, fun e => (hcv d e).2.2 rfl⟩
theorem DkP.yne (h : DkP w d p n D O z vs Y) : ∀ k, Y k → O k ∧ k ≠ d ∧ k ≠ z.bm ∧ k ≠ z.bb ∧ k ≠ z.bs := fun k hk =>
  ⟨h.oy k hk, fun e => h.yx k hk (.inl e), fun e => h.yx k hk (.inr (.inl e)), fun e => h.yx k hk (.inr (.inr (.inl e))), fun e => h.yx k hk (.inr (.inr (.inr (.inl e))))⟩
theorem DkP.cvs (h : DkP w d p n D O z vs Y) : ∀ k, z.cv.ownBlock = some k → O k ∧ ¬ Y k ∧ k ≠ d := fun k hk => ⟨h.ox k (.inr (.inr (.inr (.inr hk)))), fun hy => h.yx k hy (.inr (.inr (.inr (.inr hk)))), (h.dcv k hk).1⟩
/-- a cell of the disk's own block set, of those that are told at once -/
theorem DkP.flag (h : DkP w d p n D O z vs Y) {i : Nat} {u : Value} {D' : Dk} (hs : (dcs n p z D).setIfInBounds i u = dcs n p z D') (hm : D'.m = D.m) (hc : D'.cache = D.cache) (hb : D'.bad = D.bad) (hst : D'.stuck = D.stuck) (ha : D'.astray = D.astray) :
    DkP (w.setCell ⟨d, i, none⟩ u) d p n D' O z vs Y := by
  have hch : Ch (one d) w (w.setCell ⟨d, i, none⟩ u) := (Ch.refl (one d) w).setCell (p := ⟨d, i, none⟩) (.inl rfl) _
  have hyd : ∀ k, Y k → ¬ one d k := fun k hk e => by simp only [one] at e; exact (h.yne k hk).2.1 e
  refine h.own ?_ (hch.mono fun _ _ e => .inl e) hm hb hst ⟨rfl, rfl, rfl⟩ ?_ ?_ ⟨by rw [hm]; exact h.ok.m, by rw [hc]; exact h.ok.cache⟩ h.cvs (fun _ => id) (fun _ => id) h.yne (fun k hk => Nat.lt_of_lt_of_le (h.olt k hk) hch.size)
  · rw [hp_setCell, h.blk, setOf_cells, ← hs]
  · rw [hc]; exact h.cache.ch hch (fun k hk e => by simp only [one] at e; exact (h.dcv k hk).1 e) hyd
  · rw [ha]; exact h.astray.ch hch hyd
end
end Go.Proofs.YtppilgkgnofkpaaDoor
