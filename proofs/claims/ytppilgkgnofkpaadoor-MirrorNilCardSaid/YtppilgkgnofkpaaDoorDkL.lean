/- Disks as the document has them, in plain Lean: what each act does and answers. They speak of no program. No condition. -/
import Derived.Test.YtppilgkgnofkpaaDoorAgg
set_option linter.unusedSimpArgs false
set_option linter.unusedVariables false

namespace Go.Kin
open Go Go.RowKit

abbrev Byts := List UInt8
def zb : Byts := List.replicate 512 0
theorem zb_len : zb.length = 512 := List.length_replicate
/-- power -/
structure Pwr where
  off : Bool
  fuse : Int
def Pwr.on : Pwr := ⟨false, -1⟩
def Pwr.step (p : Pwr) : Pwr := if p.off then p else if p.fuse = 0 then ⟨true, -1⟩ else if 0 < p.fuse then ⟨false, p.fuse - 1⟩ else p
def Pwr.made (p : Pwr) : Bool := !p.off && decide (p.fuse ≠ 0)
def Pwr.fused (p : Pwr) (n : Int) : Pwr := ⟨p.off, if p.off then p.fuse else if n < -1 then -1 else n⟩
/-- a disk's own things -/
structure Dk where
  m : Nat → Option Byts
  cache : List (Nat × Byts)
  bad : Nat → Bool
  stuck : Nat → Bool
  dead : Bool
  lose : Bool
  astray : Option Nat
def Dk.new : Dk := ⟨fun _ => none, [], fun _ => false, fun _ => false, false, false, none⟩
def lastC : List (Nat × Byts) → Nat → Option Byts
  | [], _ => none
  | (a, b) :: l, x => match lastC l x with
    | some c => some c
    | none => if a = x then some b else none
def dropC (l : List (Nat × Byts)) (a : Nat) : List (Nat × Byts) := l.filter fun e => e.1 != a
theorem lastC_append (l : List (Nat × Byts)) (a : Nat) (b : Byts) (x : Nat) : lastC (l ++ [(a, b)]) x = if a = x then some b else lastC l x := by
  induction l with
  | nil => simp [lastC]
  | cons e l ih =>
    obtain ⟨c, d⟩ := e
    rw [List.cons_append, lastC, ih]
    by_cases h : a = x
    · simp [h]
    · simp [h, lastC]
theorem lastC_drop (l : List (Nat × Byts)) (a x : Nat) : lastC (dropC l a) x = if a = x then none else lastC l x := by
  induction l with
  | nil => simp [dropC, lastC]
  | cons e l ih =>
    obtain ⟨c, d⟩ := e
    unfold dropC at *
    by_cases h : c = a
    · subst h
      rw [List.filter_cons_of_neg (by simp), ih]
      by_cases h2 : c = x
      · simp [h2]
      · simp only [h2, if_false, lastC]
        cases lastC l x <;> rfl
    · rw [List.filter_cons_of_pos (by simpa using h), lastC, ih]
      by_cases h2 : a = x
      · subst h2
        simp [h]
      · simp [h2, lastC]
theorem lastC_none {l : List (Nat × Byts)} {x : Nat} (h : ∀ e ∈ l, e.1 ≠ x) : lastC l x = none := by
  induction l with
  | nil => rfl
  | cons e l ih =>
    obtain ⟨c, d⟩ := e
    have h1 : c ≠ x := h (c, d) (by simp)
    rw [lastC, ih fun e he => h e (by simp [he])]
    simp [h1]
theorem lastC_mem {l : List (Nat × Byts)} {x : Nat} {b : Byts} (h : lastC l x = some b) : (x, b) ∈ l := by
  induction l with
  | nil => simp [lastC] at h
  | cons e l ih =>
    obtain ⟨c, d⟩ := e
    rw [lastC] at h
    cases hl : lastC l x with
    | some y =>
      rw [hl] at h
      simp at h
      subst h
      exact List.mem_cons_of_mem _ (ih hl)
    | none =>
      rw [hl] at h
      simp only at h
      split at h
      · rename_i hx
        simp at h
        subst h hx
        simp
      · cases h
/-- looked at from behind: what the last k tell -/
theorem lastC_back {l : List (Nat × Byts)} {x k : Nat} {b : Byts} (h : l[k]? = some (x, b)) (hb : ∀ j e, k < j → l[j]? = some e → e.1 ≠ x) : lastC l x = some b := by
  induction l generalizing k with
  | nil => simp at h
  | cons e l ih =>
    obtain ⟨c, d⟩ := e
    rw [lastC]
    cases k with
    | zero =>
      simp at h
      obtain ⟨rfl, rfl⟩ := h
      rw [lastC_none fun e he => by
        obtain ⟨j, hj⟩ := List.mem_iff_getElem?.1 he
        exact hb (j + 1) e (by omega) (by simpa using hj)]
      simp
    | succ k =>
      rw [ih (k := k) (by simpa using h) fun j e hj he => hb (j + 1) e (by omega) (by simpa using he)]
def blockM (m : Nat → Option Byts) (a : Nat) : Byts := (m a).getD zb
def Dk.tells (d : Dk) (a : Nat) : Option Byts := match lastC d.cache a with
  | some b => some b
  | none => if d.bad a then none else some (blockM d.m a)
def Dk.look (n : Nat) (d : Dk) (a : Nat) : Option Byts := if d.dead || decide (n ≤ a) || d.stuck a then none else d.tells a
def Dk.comes (d : Dk) (e : Nat × Byts) (k : Nat) : Dk := { d with m := fun x => if x = e.1 then some (e.2.take k ++ (blockM d.m e.1).drop k) else d.m x, bad := fun x => if x = e.1 then false else d.bad x }
/-- the errors: OK 0, Arg, Nil, Dead, Bad -/
def Dk.able (d : Dk) (p : Pwr) : Bool := !d.dead && !p.off
/-- why a write is not made; or that it is -/
inductive Wr where
  | dead | arg | ok
  deriving DecidableEq
def Dk.writes (n : Nat) (d : Dk) (p : Pwr) (a : Nat) (b : Byts) : Wr := if !d.able p then .dead else if n ≤ a ∨ b.length ≠ 512 then .arg else if p.made then .ok else .dead
def Dk.wpow (n : Nat) (d : Dk) (p : Pwr) (a : Nat) (b : Byts) : Pwr := if !d.able p then p else if n ≤ a ∨ b.length ≠ 512 then p else p.step
def Dk.put (n : Nat) (d : Dk) (a : Nat) (b : Byts) : Dk := if d.lose then { d with lose := false } else
  let a' := d.astray.getD a
  if a' < n then { d with astray := none, cache := d.cache ++ [(a', b)] } else { d with astray := none }
def Dk.write (n : Nat) (d : Dk) (p : Pwr) (a : Nat) (b : Byts) : Dk := if d.writes n p a b = .ok then d.put n a b else d
def Dk.flush (d : Dk) : Dk := { d.cache.foldl (fun d e => d.comes e 512) d with cache := [] }
def pick1 (d : Dk) (e : Nat × Byts) (k : Int) : Dk := if k = 1 then d.comes e 512 else if 1 < k then d.comes e ((k - 2) % 512).toNat else d
def Dk.picks (d : Dk) : List ((Nat × Byts) × Int) → Dk
  | [] => d
  | (e, k) :: l => (pick1 d e k).picks l
def Dk.crash (d : Dk) (ps : List Int) : Dk := if d.dead then d else { d.picks (d.cache.zip ps) with cache := [], lose := false, astray := none }
def Dk.rot (d : Dk) (a : Nat) (b : Byts) : Dk := { d with cache := dropC d.cache a, m := fun x => if x = a then some b else d.m x }
def Dk.bads (d : Dk) (a : Nat) : Dk := { d with cache := dropC d.cache a, bad := fun x => if x = a then true else d.bad x }
def Dk.stick (d : Dk) (a : Nat) : Dk := { d with cache := dropC d.cache a, stuck := fun x => if x = a then true else d.stuck x }
/-- all that a disk has are whole blocks -/
structure Dk.Ok (n : Nat) (d : Dk) : Prop where
  m : ∀ a b, d.m a = some b → b.length = 512
  cache : ∀ e ∈ d.cache, e.2.length = 512 ∧ e.1 < n
section
variable {n : Nat} {d : Dk}
theorem Dk.Ok.new (n : Nat) : Dk.new.Ok n := ⟨by simp [Dk.new], by simp [Dk.new]⟩
theorem Dk.Ok.block (h : d.Ok n) (a : Nat) : (blockM d.m a).length = 512 := by
  unfold blockM
  cases hm : d.m a with
  | none => exact zb_len
  | some b => exact h.m a b hm
theorem Dk.Ok.comes (h : d.Ok n) {e : Nat × Byts} (he : e.2.length = 512) (k : Nat) (hk : k ≤ 512) : (d.comes e k).Ok n := by
  refine ⟨fun a b hb => ?_, h.cache⟩
  unfold Dk.comes at hb
  simp only at hb
  split at hb
  · simp at hb
    subst hb
    have := h.block e.1
    simp
    omega
  · exact h.m a b hb
theorem comes_cache (d : Dk) (e : Nat × Byts) (k : Nat) : (d.comes e k).cache = d.cache := rfl
theorem Dk.Ok.put (h : d.Ok n) (a : Nat) {b : Byts} (hb : b.length = 512) : (d.put n a b).Ok n := by
  unfold Dk.put
  split
  · exact ⟨h.m, h.cache⟩
  · simp only
    split
    · refine ⟨h.m, fun e he => ?_⟩
      simp only [List.mem_append, List.mem_singleton] at he
      rcases he with he | rfl
      · exact h.cache e he
      · exact ⟨hb, ‹_›⟩
    · exact ⟨h.m, h.cache⟩
theorem Dk.Ok.write (h : d.Ok n) (p : Pwr) (a : Nat) (b : Byts) : (d.write n p a b).Ok n := by
  unfold Dk.write
  split
  · rename_i hw
    have hb : b.length = 512 := by
      unfold Dk.writes at hw
      split at hw
      · cases hw
      · split at hw
        · cases hw
        · rename_i _ h2
          omega
    exact h.put a hb
  · exact h
theorem foldl_ok (l : List (Nat × Byts)) (hl : ∀ e ∈ l, e.2.length = 512) (h : d.Ok n) : (l.foldl (fun d e => d.comes e 512) d).Ok n := by
  induction l generalizing d with
  | nil => exact h
  | cons e l ih => exact ih (fun e he => hl e (by simp [he])) (h.comes (hl e (by simp)) 512 (by omega))
theorem Dk.Ok.flush (h : d.Ok n) : d.flush.Ok n := ⟨(foldl_ok d.cache (fun e he => (h.cache e he).1) h).m, by simp [Dk.flush]⟩
theorem Dk.Ok.pick1 (h : d.Ok n) {e : Nat × Byts} (he : e.2.length = 512) (k : Int) : (pick1 d e k).Ok n := by
  unfold Go.Kin.pick1
  split
  · exact h.comes he 512 (by omega)
  · split
    · exact h.comes he _ (by omega)
    · exact h
theorem Dk.Ok.picks (l : List ((Nat × Byts) × Int)) (hl : ∀ e ∈ l, e.1.2.length = 512) (h : d.Ok n) : (d.picks l).Ok n := by
  induction l generalizing d with
  | nil => exact h
  | cons e l ih =>
    obtain ⟨e, k⟩ := e
    exact ih (fun e he => hl e (by simp [he])) (h.pick1 (hl (e, k) (by simp)) k)
theorem Dk.Ok.crash (h : d.Ok n) (ps : List Int) : (d.crash ps).Ok n := by
  unfold Dk.crash
  split
  · exact h
  · exact ⟨(Dk.Ok.picks (d.cache.zip ps) (fun e he => (h.cache e.1 (List.of_mem_zip (show (e.1, e.2) ∈ _ from he)).1).1) h).m, by simp⟩
theorem dropC_ok {l : List (Nat × Byts)} {p : Nat × Byts → Prop} (h : ∀ e ∈ l, p e) (a : Nat) : ∀ e ∈ dropC l a, p e := fun e he => h e (List.mem_filter.1 he).1
theorem Dk.Ok.rot (h : d.Ok n) (a : Nat) {b : Byts} (hb : b.length = 512) : (d.rot a b).Ok n := by
  refine ⟨fun x c hc => ?_, dropC_ok h.cache a⟩
  unfold Dk.rot at hc
  simp only at hc
  split at hc
  · simp at hc
    subst hc
    exact hb
  · exact h.m x c hc
theorem Dk.Ok.bads (h : d.Ok n) (a : Nat) : (d.bads a).Ok n := ⟨h.m, dropC_ok h.cache a⟩
theorem Dk.Ok.stick (h : d.Ok n) (a : Nat) : (d.stick a).Ok n := ⟨h.m, dropC_ok h.cache a⟩
theorem Dk.Ok.look (h : d.Ok n) {a : Nat} {b : Byts} (hl : d.look n a = some b) : b.length = 512 := by
  unfold Dk.look at hl
  split at hl
  · cases hl
  · unfold Dk.tells at hl
    split at hl
    · rename_i c hc
      simp at hl
      subst hl
      exact (h.cache _ (lastC_mem hc)).1
    · split at hl
      · cases hl
      · simp at hl
        subst hl
        exact h.block a
end
end Go.Kin
