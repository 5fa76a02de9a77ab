/- What a disk, and what power, is in memory. No condition. -/
import Derived.Test.YtppilgkgnofkpaaGreatDoorAgg
import Derived.Test.YtppilgkgnofkpaaGreatDoorChecked
import Derived.Test.YtppilgkgnofkpaaGreatDoorMapU
import Derived.Test.YtppilgkgnofkpaaGreatDoorBsl
import Derived.Test.YtppilgkgnofkpaaGreatDoorWireE
import Derived.Test.YtppilgkgnofkpaaGreatDoorSpm
set_option linter.unusedSimpArgs false
set_option linter.unusedVariables false

/- Disks as the document has them, in plain Lean: what each act does and answers. They speak of no program. No condition. -/
namespace Go.Kin
open Go Go.RowKit

abbrev Byts := List UInt8
def zb : Byts := List.replicate 512 0
theorem zb_len : zb.length = 512 := List.length_replicate
/-- power -/
structure Pwr where
  off : Bool
  fuse : Int
def Pwr.on : Pwr := ⟨false, -1⟩
def Pwr.step (p : Pwr) : Pwr := if p.off then p else if p.fuse = 0 then ⟨true, -1⟩ else if 0 < p.fuse then ⟨false, p.fuse - 1⟩ else p
def Pwr.made (p : Pwr) : Bool := !p.off && decide (p.fuse ≠ 0)
def Pwr.fused (p : Pwr) (n : Int) : Pwr := ⟨p.off, if p.off then p.fuse else if n < -1 then -1 else n⟩
/-- a disk's own things -/
structure Dk where
  m : Nat → Option Byts
  cache : List (Nat × Byts)
  bad : Nat → Bool
  stuck : Nat → Bool
  dead : Bool
  lose : Bool
  astray : Option Nat
def Dk.new : Dk := ⟨fun _ => none, [], fun _ => false, fun _ => false, false, false, none⟩
def lastC : List (Nat × Byts) → Nat → Option Byts
  | [], _ => none
  | (a, b) :: l, x => match lastC l x with
    | some c => some c
    | none => if a = x then some b else none
def dropC (l : List (Nat × Byts)) (a : Nat) : List (Nat × Byts) := l.filter fun e => e.1 != a
theorem lastC_append (l : List (Nat × Byts)) (a : Nat) (b : Byts) (x : Nat) : lastC (l ++ [(a, b)]) x = if a = x then some b else lastC l x := by
  induction l with
  | nil => simp [lastC]
  | cons e l ih =>
    obtain ⟨c, d⟩ := e
    rw [List.cons_append, lastC, ih]
    by_cases h : a = x
    · simp [h]
    · simp [h, lastC]
theorem lastC_drop (l : List (Nat × Byts)) (a x : Nat) : lastC (dropC l a) x = if a = x then none else lastC l x := by
  induction l with
  | nil => simp [dropC, lastC]
  | cons e l ih =>
    obtain ⟨c, d⟩ := e
    unfold dropC at *
    by_cases h : c = a
    · subst h
      rw [List.filter_cons_of_neg (by simp), ih]
      by_cases h2 : c = x
      · simp [h2]
      · simp only [h2, if_false, lastC]
        cases lastC l x <;> rfl
    · rw [List.filter_cons_of_pos (by simpa using h), lastC, ih]
      by_cases h2 : a = x
      · subst h2
        simp [h]
      · simp [h2, lastC]
theorem lastC_none {l : List (Nat × Byts)} {x : Nat} (h : ∀ e ∈ l, e.1 ≠ x) : lastC l x = none := by
  induction l with
  | nil => rfl
  | cons e l ih =>
    obtain ⟨c, d⟩ := e
    have h1 : c ≠ x := h (c, d) (by simp)
    rw [lastC, ih fun e he => h e (by simp [he])]
    simp [h1]
theorem lastC_mem {l : List (Nat × Byts)} {x : Nat} {b : Byts} (h : lastC l x = some b) : (x, b) ∈ l := by
  induction l with
  | nil => simp [lastC] at h
  | cons e l ih =>
    obtain ⟨c, d⟩ := e
    rw [lastC] at h
    cases hl : lastC l x with
    | some y =>
      rw [hl] at h
      simp at h
      subst h
      exact List.mem_cons_of_mem _ (ih hl)
    | none =>
      rw [hl] at h
      simp only at h
      split at h
      · rename_i hx
        simp at h
        subst h hx
        simp
      · cases h
/-- looked at from behind: what the last k tell -/
theorem lastC_back {l : List (Nat × Byts)} {x k : Nat} {b : Byts} (h : l[k]? = some (x, b)) (hb : ∀ j e, k < j → l[j]? = some e → e.1 ≠ x) : lastC l x = some b := by
  induction l generalizing k with
  | nil => simp at h
  | cons e l ih =>
    obtain ⟨c, d⟩ := e
    rw [lastC]
    cases k with
    | zero =>
      simp at h
      obtain ⟨rfl, rfl⟩ := h
      rw [lastC_none fun e he => by
        obtain ⟨j, hj⟩ := List.mem_iff_getElem?.1 he
        exact hb (j + 1) e (by omega) (by simpa using hj)]
      simp
    | succ k =>
      rw [ih (k := k) (by simpa using h) fun j e hj he => hb (j + 1) e (by omega) (by simpa using he)]
def blockM (m : Nat → Option Byts) (a : Nat) : Byts := (m a).getD zb
def Dk.tells (d : Dk) (a : Nat) : Option Byts := match lastC d.cache a with
  | some b => some b
  | none => if d.bad a then none else some (blockM d.m a)
def Dk.look (n : Nat) (d : Dk) (a : Nat) : Option Byts := if d.dead || decide (n ≤ a) || d.stuck a then none else d.tells a
def Dk.comes (d : Dk) (e : Nat × Byts) (k : Nat) : Dk := { d with m := fun x => if x = e.1 then some (e.2.take k ++ (blockM d.m e.1).drop k) else d.m x, bad := fun x => if x = e.1 then false else d.bad x }
/-- the errors: OK 0, Arg, Nil, Dead, Bad -/
def Dk.able (d : Dk) (p : Pwr) : Bool := !d.dead && !p.off
/-- why a write is not made; or that it is -/
inductive Wr where
  | dead | arg | ok
  deriving DecidableEq
def Dk.writes (n : Nat) (d : Dk) (p : Pwr) (a : Nat) (b : Byts) : Wr := if !d.able p then .dead else if n ≤ a ∨ b.length ≠ 512 then .arg else if p.made then .ok else .dead
def Dk.wpow (n : Nat) (d : Dk) (p : Pwr) (a : Nat) (b : Byts) : Pwr := if !d.able p then p else if n ≤ a ∨ b.length ≠ 512 then p else p.step
def Dk.put (n : Nat) (d : Dk) (a : Nat) (b : Byts) : Dk := if d.lose then { d with lose := false } else
  let a' := d.astray.getD a
  if a' < n then { d with astray := none, cache := d.cache ++ [(a', b)] } else { d with astray := none }
def Dk.write (n : Nat) (d : Dk) (p : Pwr) (a : Nat) (b : Byts) : Dk := if d.writes n p a b = .ok then d.put n a b else d
def Dk.flush (d : Dk) : Dk := { d.cache.foldl (fun d e => d.comes e 512) d with cache := [] }
def pick1 (d : Dk) (e : Nat × Byts) (k : Int) : Dk := if k = 1 then d.comes e 512 else if 1 < k then d.comes e ((k - 2) % 512).toNat else d
def Dk.picks (d : Dk) : List ((Nat × Byts) × Int) → Dk
  | [] => d
  | (e, k) :: l => (pick1 d e k).picks l
def Dk.crash (d : Dk) (ps : List Int) : Dk := if d.dead then d else { d.picks (d.cache.zip ps) with cache := [], lose := false, astray := none }
def Dk.rot (d : Dk) (a : Nat) (b : Byts) : Dk := { d with cache := dropC d.cache a, m := fun x => if x = a then some b else d.m x }
def Dk.bads (d : Dk) (a : Nat) : Dk := { d with cache := dropC d.cache a, bad := fun x => if x = a then true else d.bad x }
def Dk.stick (d : Dk) (a : Nat) : Dk := { d with cache := dropC d.cache a, stuck := fun x => if x = a then true else d.stuck x }
/-- all that a disk has are whole blocks -/
structure Dk.Ok (n : Nat) (d : Dk) : Prop where
  m : ∀ a b, d.m a = some b → b.length = 512
  cache : ∀ e ∈ d.cache, e.2.length = 512 ∧ e.1 < n
section
variable {n : Nat} {d : Dk}
theorem Dk.Ok.new (n : Nat) : Dk.new.Ok n := ⟨by simp [Dk.new], by simp [Dk.new]⟩
theorem Dk.Ok.block (h : d.Ok n) (a : Nat) : (blockM d.m a).length = 512 := by
  unfold blockM
  cases hm : d.m a with
  | none => exact zb_len
  | some b => exact h.m a b hm
theorem Dk.Ok.comes (h : d.Ok n) {e : Nat × Byts} (he : e.2.length = 512) (k : Nat) (hk : k ≤ 512) : (d.comes e k).Ok n := by
  refine ⟨fun a b hb => ?_, h.cache⟩
  unfold Dk.comes at hb
  simp only at hb
  split at hb
  · simp at hb
    subst hb
    have := h.block e.1
    simp
    omega
  · exact h.m a b hb
theorem comes_cache (d : Dk) (e : Nat × Byts) (k : Nat) : (d.comes e k).cache = d.cache := rfl
theorem Dk.Ok.put (h : d.Ok n) (a : Nat) {b : Byts} (hb : b.length = 512) : (d.put n a b).Ok n := by
  unfold Dk.put
  split
  · exact ⟨h.m, h.cache⟩
  · simp only
    split
    · refine ⟨h.m, fun e he => ?_⟩
      simp only [List.mem_append, List.mem_singleton] at he
      rcases he with he | rfl
      · exact h.cache e he
      · exact ⟨hb, ‹_›⟩
    · exact ⟨h.m, h.cache⟩
theorem Dk.Ok.write (h : d.Ok n) (p : Pwr) (a : Nat) (b : Byts) : (d.write n p a b).Ok n := by
  unfold Dk.write
  split
  · rename_i hw
    have hb : b.length = 512 := by
      unfold Dk.writes at hw
      split at hw
      · cases hw
      · split at hw
        · cases hw
        · rename_i _ h2
          omega
    exact h.put a hb
  · exact h
theorem foldl_ok (l : List (Nat × Byts)) (hl : ∀ e ∈ l, e.2.length = 512) (h : d.Ok n) : (l.foldl (fun d e => d.comes e 512) d).Ok n := by
  induction l generalizing d with
  | nil => exact h
  | cons e l ih => exact ih (fun e he => hl e (by simp [he])) (h.comes (hl e (by simp)) 512 (by omega))
theorem Dk.Ok.flush (h : d.Ok n) : d.flush.Ok n := ⟨(foldl_ok d.cache (fun e he => (h.cache e he).1) h).m, by simp [Dk.flush]⟩
theorem Dk.Ok.pick1 (h : d.Ok n) {e : Nat × Byts} (he : e.2.length = 512) (k : Int) : (pick1 d e k).Ok n := by
  unfold Go.Kin.pick1
  split
  · exact h.comes he 512 (by omega)
  · split
    · exact h.comes he _ (by omega)
    · exact h
theorem Dk.Ok.picks (l : List ((Nat × Byts) × Int)) (hl : ∀ e ∈ l, e.1.2.length = 512) (h : d.Ok n) : (d.picks l).Ok n := by
  induction l generalizing d with
  | nil => exact h
  | cons e l ih =>
    obtain ⟨e, k⟩ := e
    exact ih (fun e he => hl e (by simp [he])) (h.pick1 (hl (e, k) (by simp)) k)
theorem Dk.Ok.crash (h : d.Ok n) (ps : List Int) : (d.crash ps).Ok n := by
  unfold Dk.crash
  split
  · exact h
  · exact ⟨(Dk.Ok.picks (d.cache.zip ps) (fun e he => (h.cache e.1 (List.of_mem_zip (show (e.1, e.2) ∈ _ from he)).1).1) h).m, by simp⟩
theorem dropC_ok {l : List (Nat × Byts)} {p : Nat × Byts → Prop} (h : ∀ e ∈ l, p e) (a : Nat) : ∀ e ∈ dropC l a, p e := fun e he => h e (List.mem_filter.1 he).1
theorem Dk.Ok.rot (h : d.Ok n) (a : Nat) {b : Byts} (hb : b.length = 512) : (d.rot a b).Ok n := by
  refine ⟨fun x c hc => ?_, dropC_ok h.cache a⟩
  unfold Dk.rot at hc
  simp only at hc
  split at hc
  · simp at hc
    subst hc
    exact hb
  · exact h.m x c hc
theorem Dk.Ok.bads (h : d.Ok n) (a : Nat) : (d.bads a).Ok n := ⟨h.m, dropC_ok h.cache a⟩
theorem Dk.Ok.stick (h : d.Ok n) (a : Nat) : (d.stick a).Ok n := ⟨h.m, dropC_ok h.cache a⟩
theorem Dk.Ok.look (h : d.Ok n) {a : Nat} {b : Byts} (hl : d.look n a = some b) : b.length = 512 := by
  unfold Dk.look at hl
  split at hl
  · cases hl
  · unfold Dk.tells at hl
    split at hl
    · rename_i c hc
      simp at hl
      subst hl
      exact (h.cache _ (lastC_mem hc)).1
    · split at hl
      · cases hl
      · simp at hl
        subst hl
        exact h.block a
end
end Go.Kin

/- Power that is shared: what package disk's On, Is, Fuse, Back, Step do, as contracts on calls. No condition. -/
namespace Go.Proofs.YtppilgkgnofkpaaGreatDoor
open Go.RowKit Go.Kin

/-- block g is power: off, and its fuse -/
def Pw (w : World) (g : Nat) (off : Bool) (fuse : Int) : Prop := w.heap[g]? = some (.cells #[.bool off, .int .i64 fuse] 129 (0, 0))
theorem Pw.ch {S : Nat → Prop} {w w' : World} {g : Nat} {off : Bool} {fuse : Int} (h : Pw w g off fuse) (hc : Ch S w w') (hn : ¬ S g) : Pw w' g off fuse := hc.obj h hn
theorem Pw.lt {w : World} {g : Nat} {off : Bool} {fuse : Int} (h : Pw w g off fuse) : g < w.heap.size := lt_of_block h

theorem on_any (w : World) : Ret Tryz.prog 37 #[] w fun v' w' => v' = .pointer (some ⟨w.heap.size, 0, none⟩) ∧ Pw w' w.heap.size false (-1) ∧ Ch Nw w w' ∧ w'.heap.size = w.heap.size + 1 := by
  refine v_enter Tryz.func37 Tryz.ntmps37 rfl (by simp) fun R' hR => ?_
  simp [go_sem]
  exact hR _ _ ⟨rfl, heap_alloc_new w _, (Ch.refl Nw w).alloc _, by simp⟩
theorem is_nil (w : World) : Ret Tryz.prog 20 #[.pointer none] w fun v' w' => v' = .bool false ∧ w' = w := by
  refine v_enter Tryz.func20 Tryz.ntmps20 rfl (by simp) fun R' hR => ?_
  simp [go_sem]
  exact hR _ _ ⟨rfl, rfl⟩
theorem is_any (g : Nat) (off : Bool) (fuse : Int) (w : World) (h : Pw w g off fuse) : Ret Tryz.prog 20 #[.pointer (some ⟨g, 0, none⟩)] w fun v' w' => v' = .bool (!off) ∧ w' = w := by
  have h0 := cell_blk h 0
  refine v_enter Tryz.func20 Tryz.ntmps20 rfl (by simp) fun R' hR => ?_
  simp [go_sem, h0]
  exact hR _ _ ⟨rfl, rfl⟩
theorem fuse_nil (n : Int) (w : World) : Ret Tryz.prog 60 #[.pointer none, .int .i64 n] w fun v' w' => v' = .tuple #[] ∧ w' = w := by
  refine v_enter Tryz.func60 Tryz.ntmps60 rfl (by simp) fun R' hR => ?_
  simp [go_sem]
  refine (is_nil w).mono ?_
  rintro _ w ⟨rfl, rfl⟩
  simp [go_sem]
  exact hR _ _ ⟨rfl, rfl⟩
theorem fuse_any (g : Nat) (off : Bool) (fuse n : Int) (w : World) (h : Pw w g off fuse) : Ret Tryz.prog 60 #[.pointer (some ⟨g, 0, none⟩), .int .i64 n] w fun v' w' =>
    v' = .tuple #[] ∧ Pw w' g off (if off then fuse else if n < -1 then -1 else n) ∧ Ch (one g) w w' ∧ w'.heap.size = w.heap.size := by
  have h1 := cell_blk h 1
  have hf := frz_blk h 1
  refine v_enter Tryz.func60 Tryz.ntmps60 rfl (by simp) fun R' hR => ?_
  simp [go_sem]
  refine (is_any g off fuse w h).mono ?_
  rintro _ w ⟨rfl, rfl⟩
  cases off
  · simp [go_sem, h1, hf]
    refine hR _ _ ⟨rfl, ?_, (Ch.refl (one g) _).setCell (p := ⟨g, 1, none⟩) (.inl rfl) _, by simp [World.setCell]⟩
    unfold Pw
    rw [hp_setCell, h, setOf_cells]
    simp
  · simp [go_sem]
    exact hR _ _ ⟨rfl, h, Ch.refl _ _, rfl⟩
theorem back_nil (w : World) : Ret Tryz.prog 24 #[.pointer none] w fun v' w' => v' = .tuple #[] ∧ w' = w := by
  refine v_enter Tryz.func24 Tryz.ntmps24 rfl (by simp) fun R' hR => ?_
  simp [go_sem]
  exact hR _ _ ⟨rfl, rfl⟩
theorem back_any (g : Nat) (off : Bool) (fuse : Int) (w : World) (h : Pw w g off fuse) : Ret Tryz.prog 24 #[.pointer (some ⟨g, 0, none⟩)] w fun v' w' =>
    v' = .tuple #[] ∧ Pw w' g false (-1) ∧ Ch (one g) w w' ∧ w'.heap.size = w.heap.size := by
  have h0 := cell_blk h
  have hf := frz_blk h
  refine v_enter Tryz.func24 Tryz.ntmps24 rfl (by simp) fun R' hR => ?_
  have e1 : (w.setCell ⟨g, 0, none⟩ (.bool false)).heap[g]? = some (.cells #[.bool false, .int .i64 fuse] 129 (0, 0)) := by rw [hp_setCell, h, setOf_cells]; simp
  have h1 := cell_blk e1
  have hf1 := frz_blk e1
  simp [go_sem, h0, hf, h1, hf1]
  refine hR _ _ ⟨rfl, ?_, ((Ch.refl (one g) _).setCell (p := ⟨g, 0, none⟩) (.inl rfl) _).setCell (p := ⟨g, 1, none⟩) (.inl rfl) _, by simp [World.setCell]⟩
  unfold Pw
  rw [hp_setCell, e1, setOf_cells]
  simp
/-- a step: was it made; what power is behind it -/
def stepS (off : Bool) (fuse : Int) : Bool × Bool × Int := if off then (false, true, fuse) else if fuse = 0 then (false, true, -1) else if 0 < fuse then (true, false, fuse - 1) else (true, false, fuse)
theorem step_nil (w : World) : Ret Tryz.prog 67 #[.pointer none] w fun v' w' => v' = .bool false ∧ w' = w := by
  refine v_enter Tryz.func67 Tryz.ntmps67 rfl (by simp) fun R' hR => ?_
  simp [go_sem]
  refine (is_nil w).mono ?_
  rintro _ w ⟨rfl, rfl⟩
  simp [go_sem]
  exact hR _ _ ⟨rfl, rfl⟩
theorem step_any (g : Nat) (off : Bool) (fuse : Int) (w : World) (h : Pw w g off fuse) (hm : fuse ≤ 9223372036854775807) : Ret Tryz.prog 67 #[.pointer (some ⟨g, 0, none⟩)] w fun v' w' =>
    v' = .bool (stepS off fuse).1 ∧ Pw w' g (stepS off fuse).2.1 (stepS off fuse).2.2 ∧ Ch (one g) w w' ∧ w'.heap.size = w.heap.size := by
  have h0 := cell_blk h
  have hf := frz_blk h
  refine v_enter Tryz.func67 Tryz.ntmps67 rfl (by simp) fun R' hR => ?_
  simp [go_sem]
  refine (is_any g off fuse w h).mono ?_
  rintro _ w ⟨rfl, rfl⟩
  cases off
  · by_cases hz : fuse = 0
    · subst hz
      have e1 : (w.setCell ⟨g, 0, none⟩ (.bool true)).heap[g]? = some (.cells #[.bool true, .int .i64 0] 129 (0, 0)) := by rw [hp_setCell, h, setOf_cells]; simp
      have h1 := cell_blk e1
      have hf1 := frz_blk e1
      simp [go_sem, h0, hf, h1, hf1]
      refine hR _ _ ⟨rfl, ?_, ((Ch.refl (one g) _).setCell (p := ⟨g, 0, none⟩) (.inl rfl) _).setCell (p := ⟨g, 1, none⟩) (.inl rfl) _, by simp [World.setCell]⟩
      unfold Pw
      rw [hp_setCell, e1, setOf_cells]
      simp [stepS]
    · have hz' : (fuse == 0) = false := by simpa using hz
      by_cases hp : 0 < fuse
      · have hw : IntKind.i64.wrap (fuse - 1) = fuse - 1 := by simp [IntKind.wrap_i64]; omega
        simp [go_sem, h0, hf, hz', hp, hw]
        refine hR _ _ ⟨by simp [stepS, hz, hp], ?_, (Ch.refl (one g) _).setCell (p := ⟨g, 1, none⟩) (.inl rfl) _, by simp [World.setCell]⟩
        unfold Pw
        rw [hp_setCell, h, setOf_cells]
        simp [stepS, hz, hp]
      · simp [go_sem, h0, hz', hp]
        exact hR _ _ ⟨by simp [stepS, hz, hp], by simpa [stepS, hz, hp] using h, Ch.refl _ _, rfl⟩
  · simp [go_sem]
    exact hR _ _ ⟨by simp [stepS], by simpa [stepS] using h, Ch.refl _ _, rfl⟩
end Go.Proofs.YtppilgkgnofkpaaGreatDoor

namespace Go.Proofs.YtppilgkgnofkpaaGreatDoor
open Go.RowKit Go.Kin

def PwAt (w : World) (p : Nat) (P : Pwr) : Prop := Pw w p P.off P.fuse
theorem stepS_eq (P : Pwr) : stepS P.off P.fuse = (P.made, P.step.off, P.step.fuse) := by
  obtain ⟨off, fuse⟩ := P
  unfold stepS Pwr.made Pwr.step
  cases off
  · by_cases h : fuse = 0
    · simp [h]
    · by_cases h2 : 0 < fuse <;> simp [h, h2]
  · simp
/-- bytes that lie in one of Y's blocks -/
def Yb (w : World) (Y : Nat → Prop) (v : Value) (b : Byts) : Prop := Sl w v b.length (bvs b) ∧ ∀ k, v.ownBlock = some k → Y k ∧ k < w.heap.size
def MemAt (w : World) (g : Nat) (m : Nat → Option Byts) (Y : Nat → Prop) : Prop := ∃ F, MapAt w g F ∧ ∀ a, (m a = none → F a = none) ∧ ∀ b, m a = some b → ∃ v, F a = some v ∧ Yb w Y v b
def SetAt (w : World) (g : Nat) (s : Nat → Bool) : Prop := ∃ F, MapAt w g F ∧ ∀ a, (F a).getD (.bool false) = .bool (s a)
def wc (x : Nat × Value) : Array Value := #[.int .u16 x.1, x.2]
theorem wc_size (l : List (Nat × Value)) : ∀ x ∈ l, (wc x).size = 2 := fun _ _ => rfl
structure CacheAt (w : World) (v : Value) (c : List (Nat × Byts)) (Y : Nat → Prop) (vs : List (Nat × Value)) : Prop where
  own : w.ownsRow 0 140 2 v c.length (rowsL wc vs)
  len : vs.length = c.length
  each : ∀ (i a : Nat) (b : Byts), c[i]? = some (a, b) → ∃ u, vs[i]? = some (a, u) ∧ Yb w Y u b
def AstrayAt (w : World) (v : Value) (a : Option Nat) (Y : Nat → Prop) : Prop := match a with
  | none => v = .pointer none
  | some a => ∃ x, v = .pointer (some ⟨x, 0, none⟩) ∧ w.heap[x]? = some (.cells #[.int .u16 a] 52 (0, 0)) ∧ Y x
/-- the blocks and values that a disk's own block names -/
structure Dn where
  bm : Nat
  bb : Nat
  bs : Nat
  cv : Value
  av : Value
def dcs (n p : Nat) (z : Dn) (D : Dk) : Array Value := #[.int .i64 n, .pointer (some ⟨p, 0, none⟩), .map (some z.bm), z.cv, .map (some z.bb), .map (some z.bs), .bool D.dead, .bool D.lose, z.av]
/-- the blocks that change -/
def Dn.X (z : Dn) (d : Nat) : Nat → Prop := fun k => k = d ∨ k = z.bm ∨ k = z.bb ∨ k = z.bs ∨ z.cv.ownBlock = some k
structure DkP (w : World) (d p n : Nat) (D : Dk) (O : Nat → Prop) (z : Dn) (vs : List (Nat × Value)) (Y : Nat → Prop) : Prop where
  blk : w.heap[d]? = some (.cells (dcs n p z D) 138 (0, 0))
  mem : MemAt w z.bm D.m Y
  bad : SetAt w z.bb D.bad
  stuck : SetAt w z.bs D.stuck
  cache : CacheAt w z.cv D.cache Y vs
  astray : AstrayAt w z.av D.astray Y
  ox : ∀ k, z.X d k → O k
  oy : ∀ k, Y k → O k
  yx : ∀ k, Y k → ¬ z.X d k
  ne : z.bm ≠ z.bb ∧ z.bm ≠ z.bs ∧ z.bb ≠ z.bs ∧ z.cv.ownBlock ≠ some d
  ok : D.Ok n
  olt : ∀ k, O k → k < w.heap.size
/-- a disk in the blocks O -/
def DkAt (w : World) (d p n : Nat) (D : Dk) (O : Nat → Prop) : Prop := ∃ z vs Y, DkP w d p n D O z vs Y

section
variable {w w' : World} {S Y Y' : Nat → Prop}
theorem Yb.ch {v : Value} {b : Byts} (h : Yb w Y v b) (hc : Ch S w w') (hn : ∀ k, Y k → ¬ S k) : Yb w' Y v b :=
  ⟨h.1.ch hc fun k hk => hn k (h.2 k hk).1, fun k hk => ⟨(h.2 k hk).1, Nat.lt_of_lt_of_le (h.2 k hk).2 hc.size⟩⟩
theorem Yb.mono {v : Value} {b : Byts} (h : Yb w Y v b) (hy : ∀ k, Y k → Y' k) : Yb w Y' v b := ⟨h.1, fun k hk => ⟨hy k (h.2 k hk).1, (h.2 k hk).2⟩⟩
theorem MemAt.ch {g : Nat} {m : Nat → Option Byts} (h : MemAt w g m Y) (hc : Ch S w w') (hg : ¬ S g) (hn : ∀ k, Y k → ¬ S k) : MemAt w' g m Y := by
  obtain ⟨F, h1, h2⟩ := h
  refine ⟨F, h1.ch hc hg, fun a => ⟨(h2 a).1, fun b hb => ?_⟩⟩
  obtain ⟨v, h3, h4⟩ := (h2 a).2 b hb
  exact ⟨v, h3, h4.ch hc hn⟩
theorem MemAt.mono {g : Nat} {m : Nat → Option Byts} (h : MemAt w g m Y) (hy : ∀ k, Y k → Y' k) : MemAt w g m Y' := by
  obtain ⟨F, h1, h2⟩ := h
  refine ⟨F, h1, fun a => ⟨(h2 a).1, fun b hb => ?_⟩⟩
  obtain ⟨v, h3, h4⟩ := (h2 a).2 b hb
  exact ⟨v, h3, h4.mono hy⟩
theorem SetAt.ch {g : Nat} {s : Nat → Bool} (h : SetAt w g s) (hc : Ch S w w') (hg : ¬ S g) : SetAt w' g s := by
  obtain ⟨F, h1, h2⟩ := h
  exact ⟨F, h1.ch hc hg, h2⟩
theorem CacheAt.ch {v : Value} {c : List (Nat × Byts)} {vs : List (Nat × Value)} (h : CacheAt w v c Y vs) (hc : Ch S w w') (hv : ∀ k, v.ownBlock = some k → ¬ S k) (hn : ∀ k, Y k → ¬ S k) : CacheAt w' v c Y vs := by
  refine ⟨own_ch h.own hc hv, h.len, fun i a b hi => ?_⟩
  obtain ⟨u, h1, h2⟩ := h.each i a b hi
  exact ⟨u, h1, h2.ch hc hn⟩
theorem CacheAt.mono {v : Value} {c : List (Nat × Byts)} {vs : List (Nat × Value)} (h : CacheAt w v c Y vs) (hy : ∀ k, Y k → Y' k) : CacheAt w v c Y' vs := by
  refine ⟨h.own, h.len, fun i a b hi => ?_⟩
  obtain ⟨u, h1, h2⟩ := h.each i a b hi
  exact ⟨u, h1, h2.mono hy⟩
theorem CacheAt.nil (w : World) (Y : Nat → Prop) : CacheAt w (.slice none 0 0) [] Y [] := ⟨World.ownsRow_nil _ _ _ _, rfl, fun i a b h => by simp at h⟩
theorem AstrayAt.ch {v : Value} {a : Option Nat} (h : AstrayAt w v a Y) (hc : Ch S w w') (hn : ∀ k, Y k → ¬ S k) : AstrayAt w' v a Y := by
  cases a with
  | none => exact h
  | some a =>
    obtain ⟨x, h1, h2, h3⟩ := h
    exact ⟨x, h1, hc.obj h2 (hn x h3), h3⟩
theorem AstrayAt.mono {v : Value} {a : Option Nat} (h : AstrayAt w v a Y) (hy : ∀ k, Y k → Y' k) : AstrayAt w v a Y' := by
  cases a with
  | none => exact h
  | some a =>
    obtain ⟨x, h1, h2, h3⟩ := h
    exact ⟨x, h1, h2, hy x h3⟩
variable {d p n : Nat} {D : Dk} {O O' : Nat → Prop} {z : Dn} {vs : List (Nat × Value)}
theorem DkP.lt (h : DkP w d p n D O z vs Y) : d < w.heap.size := lt_of_block h.blk
theorem DkP.dbm (h : DkP w d p n D O z vs Y) : z.bm ≠ d ∧ z.bb ≠ d ∧ z.bs ≠ d := by
  have key : ∀ g F, MapAt w g F → g ≠ d := fun g F hm e => by
    obtain ⟨es, clock, hb, _⟩ := hm
    rw [e, h.blk] at hb
    cases hb
  obtain ⟨F, h1, _⟩ := h.mem
  obtain ⟨F2, h2, _⟩ := h.bad
  obtain ⟨F3, h3, _⟩ := h.stuck
  exact ⟨key _ _ h1, key _ _ h2, key _ _ h3⟩
theorem DkP.dcv (h : DkP w d p n D O z vs Y) : ∀ k, z.cv.ownBlock = some k → k ≠ d ∧ k ≠ z.bm ∧ k ≠ z.bb ∧ k ≠ z.bs := by
  intro k hk
  have key : ∀ g F, MapAt w g F → k ≠ g := fun g F hm e => by
    obtain ⟨es, clock, hb, _⟩ := hm
    subst e
    rcases h.cache.own.2 with ⟨hv, _⟩ | ⟨g, cap, cur, hv, _, hg, _⟩
    · rw [hv] at hk; simp [Value.ownBlock] at hk
    · rw [hv] at hk
      simp [Value.ownBlock] at hk
      rw [hk, hb] at hg
      cases hg
  obtain ⟨F, h1, _⟩ := h.mem
  obtain ⟨F2, h2, _⟩ := h.bad
  obtain ⟨F3, h3, _⟩ := h.stuck
  exact ⟨fun e => h.ne.2.2.2 (by rw [hk, e]), key _ _ h1, key _ _ h2, key _ _ h3⟩
/-- what a change of other blocks leaves -/
theorem DkP.ch (h : DkP w d p n D O z vs Y) (hc : Ch S w w') (hn : ∀ k, O k → ¬ S k) : DkP w' d p n D O z vs Y :=
  ⟨hc.obj h.blk (hn _ (h.ox _ (.inl rfl))), h.mem.ch hc (hn _ (h.ox _ (.inr (.inl rfl)))) fun k hk => hn k (h.oy k hk), h.bad.ch hc (hn _ (h.ox _ (.inr (.inr (.inl rfl))))), h.stuck.ch hc (hn _ (h.ox _ (.inr (.inr (.inr (.inl rfl)))))),
    h.cache.ch hc (fun k hk => hn k (h.ox _ (.inr (.inr (.inr (.inr hk)))))) fun k hk => hn k (h.oy k hk), h.astray.ch hc fun k hk => hn k (h.oy k hk), h.ox, h.oy, h.yx, h.ne, h.ok, fun k hk => Nat.lt_of_lt_of_le (h.olt k hk) hc.size⟩
theorem DkP.mono (h : DkP w d p n D O z vs Y) (ho : ∀ k, O k → O' k) (hl : ∀ k, O' k → k < w.heap.size) : DkP w d p n D O' z vs Y := ⟨h.blk, h.mem, h.bad, h.stuck, h.cache, h.astray, fun k hk => ho k (h.ox k hk), fun k hk => ho k (h.oy k hk), h.yx, h.ne, h.ok, hl⟩
theorem DkAt.ch (h : DkAt w d p n D O) (hc : Ch S w w') (hn : ∀ k, O k → ¬ S k) : DkAt w' d p n D O := by
  obtain ⟨z, vs, Y, h⟩ := h
  exact ⟨z, vs, Y, h.ch hc hn⟩
theorem DkAt.mono (h : DkAt w d p n D O) (ho : ∀ k, O k → O' k) (hl : ∀ k, O' k → k < w.heap.size) : DkAt w d p n D O' := by
  obtain ⟨z, vs, Y, h⟩ := h
  exact ⟨z, vs, Y, h.mono ho hl⟩
theorem PwAt.ch {P : Pwr} (h : PwAt w p P) (hc : Ch S w w') (hn : ¬ S p) : PwAt w' p P := hc.obj h hn
end
end Go.Proofs.YtppilgkgnofkpaaGreatDoor
