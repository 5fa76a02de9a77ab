/- A table of descriptors: its handles, and what New, Full, Close and those that tell answer. Contracts on calls; no condition but that the table stands in its block. -/
import Derived.Test.YtfcoiboeohgimaaChecked
import Derived.Test.YtfcoiboeohgimaaAgg
import Derived.Test.YtfcoiboeohgimaaLots
namespace Go.Proofs.Ytfcoiboeohgimaa
open Go.RowKit Go.Kin

/-- What a descriptor has. -/
inductive Hd where
  | file (n : Nat) (w : Bool)
  | dir (n : Nat)
  deriving DecidableEq
def Hd.num : Hd → Nat
  | .file n _ => n
  | .dir n => n
def fcs (n : Nat) (w : Bool) : Array Value := #[.int .u16 n, .bool w]
def dcs (n : Nat) : Array Value := #[.int .u16 n]
def hv : Option Hd → Value
  | none => .nilIface
  | some (.file n w) => .iface 36 (.agg #[.int .u16 n, .bool w])
  | some (.dir n) => .iface 38 (.agg #[.int .u16 n])
abbrev Tb := List (Option Hd)
def tb (l : Tb) : Array Value := (l.map hv).toArray
theorem tb_get {l : Tb} {i : Nat} {x : Option Hd} (h : l[i]? = some x) : (tb l)[i]? = some (hv x) := by simp [tb, h]
theorem tb_set (l : Tb) (i : Nat) (x : Option Hd) : (tb l).setIfInBounds i (hv x) = tb (l.set i x) := by
  apply Array.ext'
  simp [tb, List.map_set]
theorem tb_size (l : Tb) : (tb l).size = l.length := by simp [tb]
theorem VX_typeAssert (P : Program) (ρ : Operand → Value) (w : World) (K : Value → World → Prop) (d : Option Tmp) (ty : TypeId) (pos : String) (aft : Array Edge) (g : Option (Nat × Bool)) (x : Operand) (t u : TypeId) (ok : Bool) :
    VX P ρ ⟨d, .typeAssert x t u ok, ty, pos, aft, g⟩ w K = VR ((Instr.typeAssert (ρ x) t u ok).run P w) K := VX_s rfl
attribute [simp] VX_typeAssert
theorem as_file (w : World) (h : Option Hd) (t : TypeId) : (Instr.typeAssert (hv h) t 36 true).run Try.prog w = .ok (.tuple #[.agg (match h with | some (.file n w) => fcs n w | _ => fcs 0 false), .bool (match h with | some (.file _ _) => true | _ => false)]) w := by
  rcases h with _ | _ | _ <;> simp [hv, Instr.typeAssert, go_sem, fcs]
  all_goals rfl
theorem as_dir (w : World) (h : Option Hd) (t : TypeId) : (Instr.typeAssert (hv h) t 38 true).run Try.prog w = .ok (.tuple #[.agg (match h with | some (.dir n) => dcs n | _ => dcs 0), .bool (match h with | some (.dir _) => true | _ => false)]) w := by
  rcases h with _ | _ | _ <;> simp [hv, Instr.typeAssert, go_sem, dcs]
  all_goals rfl
theorem eqn (w : World) (h : Option Hd) : (do eqGuard .eql 20 (.tmp 0) (.const .nilIface) (hv h) .nilIface; binOp .eql 20 (hv h) .nilIface : Sem Value).run Try.prog w = .ok (.bool (h == none)) w := by
  rcases h with _ | _ | _ <;> simp [hv, go_sem]
  all_goals rfl
/-- what a table tells of a descriptor, and the error -/
def handleS (l : Tb) (fd : Int) : Option Hd × Int := if 0 ≤ fd ∧ fd < 16 then (match l[fd.toNat]? with | some (some h) => (some h, 0) | _ => (none, 22)) else (none, 22)
theorem handle_any (g : Nat) (fd : Int) (l : Tb) (w : World) (hl : l.length = 16) (hg : w.heap[g]? = some (.cells (tb l) 52 (0, 0))) :
    Ret Try.prog 15 #[.pointer (some ⟨g, 0, none⟩), .int .i64 fd] w fun v' w' => v' = .tuple #[hv (handleS l fd).1, .int .i64 (handleS l fd).2] ∧ w' = w := by
  refine v_enter Try.func15 Try.ntmps15 rfl (by simp) fun R' hR => ?_
  by_cases h0 : fd < 0
  · simp [go_sem, h0]
    exact hR _ _ ⟨by simp [handleS, show ¬ 0 ≤ fd by omega, hv], rfl⟩
  by_cases h16 : 16 ≤ fd
  · simp [go_sem, h0, h16]
    exact hR _ _ ⟨by simp [handleS, show ¬ fd < 16 by omega, hv], rfl⟩
  obtain ⟨k, rfl⟩ : ∃ k : Nat, fd = k := ⟨fd.toNat, by omega⟩
  have hk : (k : Int) < 16 := by omega
  obtain ⟨x, hx⟩ : ∃ x, l[k]? = some x := ⟨_, List.getElem?_eq_getElem (by omega)⟩
  have cx := (cell_blk hg k).trans (tb_get hx)
  have hs : handleS l (k : Int) = match x with | some h => (some h, 0) | none => (none, 22) := by
    simp only [handleS, Int.toNat_natCast, hx]
    rw [if_pos ⟨by omega, hk⟩]
    rcases x with _ | _ <;> rfl
  rcases x with _ | ⟨n, b⟩ | ⟨n⟩
  · simp [hv] at cx
    simp [go_sem, h0, h16, hk, cx]
    exact hR _ _ ⟨by simp [hs, hv], rfl⟩
  · simp only [hv] at cx
    simp [go_sem, h0, h16, hk, cx]
    exact hR _ _ ⟨by simp [hs, hv], rfl⟩
  · simp only [hv] at cx
    simp [go_sem, h0, h16, hk, cx]
    exact hR _ _ ⟨by simp [hs, hv], rfl⟩
theorem handle_nil (fd : Int) (w : World) : Ret Try.prog 15 #[.pointer none, .int .i64 fd] w fun v' w' => v' = .tuple #[.nilIface, .int .i64 2] ∧ w' = w := by
  refine v_enter Try.func15 Try.ntmps15 rfl (by simp) fun R' hR => ?_
  simp [go_sem]
  exact hR _ _ ⟨rfl, rfl⟩
/-- a pointer to a table, or none: what is told -/
def PTb (w : World) (p : Value) (h : Int → Option Hd × Int) : Prop :=
  (∃ g l, p = .pointer (some ⟨g, 0, none⟩) ∧ List.length l = 16 ∧ w.heap[g]? = some (.cells (tb l) 52 (0, 0)) ∧ h = handleS l) ∨ (p = .pointer none ∧ h = fun _ => (none, 2))
theorem PTb.ch {w w' : World} {p : Value} {h : Int → Option Hd × Int} (t : PTb w p h) (hc : Ch Nw w w') : PTb w' p h := by
  rcases t with ⟨g, l, rfl, h1, h2, rfl⟩ | ⟨rfl, rfl⟩
  · exact .inl ⟨g, l, rfl, h1, hc.hp h2 id, rfl⟩
  · exact .inr ⟨rfl, rfl⟩
theorem handle_p {p : Value} {h : Int → Option Hd × Int} (fd : Int) {w : World} (t : PTb w p h) :
    Ret Try.prog 15 #[p, .int .i64 fd] w fun v' w' => v' = .tuple #[hv (h fd).1, .int .i64 (h fd).2] ∧ w' = w := by
  rcases t with ⟨g, l, rfl, h1, h2, rfl⟩ | ⟨rfl, rfl⟩
  · exact handle_any g fd l w h1 h2
  · exact handle_nil fd w
theorem PTb.ok {w : World} {p : Value} {h : Int → Option Hd × Int} (t : PTb w p h) (fd : Int) : ((h fd).1 = none ∧ ((h fd).2 = 22 ∨ (h fd).2 = 2)) ∨ (∃ x, (h fd).1 = some x ∧ (h fd).2 = 0) := by
  rcases t with ⟨g, l, rfl, h1, h2, rfl⟩ | ⟨rfl, rfl⟩
  · unfold handleS
    split
    · split
      · exact .inr ⟨_, rfl, rfl⟩
      · exact .inl ⟨rfl, .inl rfl⟩
    · exact .inl ⟨rfl, .inl rfl⟩
  · exact .inl ⟨rfl, .inr rfl⟩
def fileS : Option Hd × Int → Nat × Bool × Int
  | (some (.file n b), _) => (n, b, 0)
  | (some (.dir _), _) => (0, false, 25)
  | (none, e) => (0, false, e)
def dirS : Option Hd × Int → Nat × Int
  | (some (.dir n), _) => (n, 0)
  | (some (.file _ _), _) => (0, 24)
  | (none, e) => (0, e)
def objS : Option Hd × Int → Nat × Int
  | (some h, _) => (h.num, 0)
  | (none, e) => (0, e)
theorem file_p {p : Value} {h : Int → Option Hd × Int} (fd : Int) {w : World} (t : PTb w p h) :
    Ret Try.prog 12 #[p, .int .i64 fd] w fun v' w' => v' = .tuple #[.agg (fcs (fileS (h fd)).1 (fileS (h fd)).2.1), .int .i64 (fileS (h fd)).2.2] ∧ Ch Nw w w' := by
  refine v_enter Try.func12 Try.ntmps12 rfl (by simp) fun R' hR => ?_
  simp [go_sem]
  have hc := (Ch.refl Nw w).alloc (.cells #[.int .u16 0, .bool false] 36)
  have hb := hp_alloc w (.cells #[.int .u16 0, .bool false] 36)
  have t1 := t.ch hc
  have ho := t1.ok fd
  revert hc hb t1
  generalize w.alloc (.cells #[.int .u16 0, .bool false] 36) = w1
  generalize hq : w.heap.size = q
  intro hc hb t1
  refine (handle_p fd t1).mono ?_
  rintro _ w1' ⟨rfl, hw1⟩
  subst w1'
  have cel := fun i => cell_blk hb i
  have fz := fun i => frz_blk hb i
  generalize h fd = r at *
  obtain ⟨r1, r2⟩ := r
  rcases ho with ⟨h1, h2⟩ | ⟨x, h1, h2⟩
  · simp only at h1 h2
    subst h1
    have hne : ((r2 == 0) = false) := beq_false_of_ne (by omega)
    simp [go_sem, hne, bne, hv, cel, fz]
    exact hR _ _ ⟨rfl, (hc.setCell (.inr (by simp; omega)) _).setCell (.inr (by simp; omega)) _⟩
  · simp only at h1 h2
    subst h1 h2
    rcases x with ⟨n, b⟩ | n
    · have ha := as_file w1 (some (.file n b))
      have cM := hc.alloc (.cells #[.int .u16 n, .bool b] 36)
      have bM := hp_alloc w1 (.cells #[.int .u16 n, .bool b] 36)
      have b4 := ((Ch.refl Nw w1).alloc (.cells #[.int .u16 n, .bool b] 36)).hp hb id
      have cel4 := fun i => cell_blk b4 i
      have fz4 := fun i => frz_blk b4 i
      have celM := fun i => cell_blk bM i
      have hlt := lt_of_block hb
      simp only [fcs, dcs] at ha
      simp [go_sem, ha, cel4, fz4, celM]
      exact hR _ _ ⟨rfl, (cM.setCell (.inr (by simp; omega)) _).setCell (.inr (by simp; omega)) _⟩
    · have ha := as_file w1 (some (.dir n))
      have cM := hc.alloc (.cells #[.int .u16 0, .bool false] 36)
      have bM := hp_alloc w1 (.cells #[.int .u16 0, .bool false] 36)
      have b4 := ((Ch.refl Nw w1).alloc (.cells #[.int .u16 0, .bool false] 36)).hp hb id
      have cel4 := fun i => cell_blk b4 i
      have fz4 := fun i => frz_blk b4 i
      have celM := fun i => cell_blk bM i
      have hlt := lt_of_block hb
      simp only [fcs, dcs] at ha
      simp [go_sem, ha, cel4, fz4, celM]
      exact hR _ _ ⟨rfl, (cM.setCell (.inr (by simp; omega)) _).setCell (.inr (by simp; omega)) _⟩
theorem dir_p {p : Value} {h : Int → Option Hd × Int} (fd : Int) {w : World} (t : PTb w p h) :
    Ret Try.prog 13 #[p, .int .i64 fd] w fun v' w' => v' = .tuple #[.agg (dcs (dirS (h fd)).1), .int .i64 (dirS (h fd)).2] ∧ Ch Nw w w' := by
  refine v_enter Try.func13 Try.ntmps13 rfl (by simp) fun R' hR => ?_
  simp [go_sem]
  have hc := (Ch.refl Nw w).alloc (.cells #[.int .u16 0] 38)
  have hb := hp_alloc w (.cells #[.int .u16 0] 38)
  have t1 := t.ch hc
  have ho := t1.ok fd
  revert hc hb t1
  generalize w.alloc (.cells #[.int .u16 0] 38) = w1
  generalize hq : w.heap.size = q
  intro hc hb t1
  refine (handle_p fd t1).mono ?_
  rintro _ w1' ⟨rfl, hw1⟩
  subst w1'
  have cel := fun i => cell_blk hb i
  have fz := fun i => frz_blk hb i
  generalize h fd = r at *
  obtain ⟨r1, r2⟩ := r
  rcases ho with ⟨h1, h2⟩ | ⟨x, h1, h2⟩
  · simp only at h1 h2
    subst h1
    have hne : ((r2 == 0) = false) := beq_false_of_ne (by omega)
    simp [go_sem, hne, bne, hv, cel, fz]
    exact hR _ _ ⟨rfl, hc.setCell (.inr (by simp; omega)) _⟩
  · simp only at h1 h2
    subst h1 h2
    rcases x with ⟨n, b⟩ | n
    · have ha := as_dir w1 (some (.file n b))
      have cM := hc.alloc (.cells #[.int .u16 0] 38)
      have bM := hp_alloc w1 (.cells #[.int .u16 0] 38)
      have b4 := ((Ch.refl Nw w1).alloc (.cells #[.int .u16 0] 38)).hp hb id
      have cel4 := fun i => cell_blk b4 i
      have fz4 := fun i => frz_blk b4 i
      have celM := fun i => cell_blk bM i
      have hlt := lt_of_block hb
      simp only [fcs, dcs] at ha
      simp [go_sem, ha, cel4, fz4, celM]
      exact hR _ _ ⟨rfl, cM.setCell (.inr (by simp; omega)) _⟩
    · have ha := as_dir w1 (some (.dir n))
      have cM := hc.alloc (.cells #[.int .u16 n] 38)
      have bM := hp_alloc w1 (.cells #[.int .u16 n] 38)
      have b4 := ((Ch.refl Nw w1).alloc (.cells #[.int .u16 n] 38)).hp hb id
      have cel4 := fun i => cell_blk b4 i
      have fz4 := fun i => frz_blk b4 i
      have celM := fun i => cell_blk bM i
      have hlt := lt_of_block hb
      simp only [fcs, dcs] at ha
      simp [go_sem, ha, cel4, fz4, celM]
      exact hR _ _ ⟨rfl, cM.setCell (.inr (by simp; omega)) _⟩
end Go.Proofs.Ytfcoiboeohgimaa
