/- The keys of a map, gathered and sorted. No condition but on their number. -/
import Derived.Test.YtnefdmbdkljifaaGreatDoorAgg
import Derived.RangeFuncNested
import Derived.Test.YtnefdmbdkljifaaGreatDoorSpG
set_option linter.unusedSimpArgs false
set_option linter.unusedVariables false

/- Ranges over a function: the iterator by a contract, the caller by one rule. They speak of no program. No condition. -/
namespace Go.Kin
open Go Go.RowKit

/-- the ranges' own records changed: what lies from B on and is no cells -/
def Rec (B : Nat) (W W' : World) : Prop := ∃ row, W.grownBy W' row ∧ ∀ r, row = some r → B ≤ r ∧ ∃ o : Obj, W.heap[r]? = some o ∧ o.isCells = false
theorem Rec.ch {B : Nat} {W W' : World} (h : Rec B W W') : Ch (fun k => B ≤ k) W W' := by
  obtain ⟨row, hg, hr⟩ := h
  exact (Ch.of_grown hg).mono fun j _ e => (hr j e).1
theorem Rec.blk {B : Nat} {W W' : World} (h : Rec B W W') {g : Nat} {cs : Array Value} {T : TypeId} {fr : Nat × Nat} (hb : W.heap[g]? = some (.cells cs T fr)) : W'.heap[g]? = some (.cells cs T fr) := by
  obtain ⟨row, hg, hr⟩ := h
  refine (hg.block g (lt_of_block hb) fun e => ?_).trans hb
  obtain ⟨_, o, ho, hc⟩ := hr g e.symm
  rw [hb] at ho
  cases ho
  cases hc
/-- what has changed since w, of what there was then -/
theorem Rec.since {S : Nat → Prop} {B : Nat} {w W W' : World} (h : Rec B W W') (hc : Ch S w W) (hB : w.heap.size ≤ B) : Ch S w W' :=
  hc.trans' h.ch fun j hj e => absurd e (by omega)

theorem hp_putObj {w : World} {D k : Nat} {o : Obj} (h : k ≠ D) : (w.putObj D o).heap[k]? = w.heap[k]? := World.putObj_heap_other h
theorem Ch.putObj {S : Nat → Prop} {w w' : World} (h : Ch S w w') {D : Nat} (hD : S D ∨ w.heap.size ≤ D) (o : Obj) : Ch S w (w'.putObj D o) :=
  h.trans' (Ch.of_grown (grownBy_putObj' w' D o)) fun j hj e => by
    cases e
    exact hD.resolve_right (by omega)
/-- what a round that goes on keeps -/
def KpS (S : Nat → Prop) (n0 : Nat) (W W' : World) : Prop := Ch (fun k => S k ∨ n0 ≤ k) W W'
/-- an iterator: what enc says of the numbers of seq, in their order, as long as it is asked to go on -/
structure Iter (P : Program) (gf : FuncId) (lb : List Value) (k : Nat) (enc : Nat → List Value) (seq : List Nat) (S : Nat → Prop) (w : World) : Prop where
  size : ∀ x, (enc x).length = k
  ent : ∀ args w, (callFunc gf args).run P w = .ok (.enter gf args) w
  run : ∀ (l : Nat) (J Jx : List Nat → World → Prop) (W : World), Ch Nw w W → (∀ pre W1 W2, J pre W1 → Ch Nw W1 W2 → J pre W2) → (∀ pre W1 W2, Jx pre W1 → Ch Nw W1 W2 → Jx pre W2) →
    (∀ pre x W1, J pre W1 → pre.length < seq.length → YieldW P l (enc x).toArray W1 fun v W' => (v = .bool true ∧ J (pre ++ [x]) W' ∧ KpS S w.heap.size W1 W') ∨ (v = .bool false ∧ Jx (pre ++ [x]) W')) →
    J [] W → Ret P gf (.func (.yield l) #[] #[] :: lb).toArray W fun _ W' => J seq W' ∨ ∃ k, k ≤ seq.length ∧ Jx (seq.take k) W'

theorem yieldW_of {P : Program} {m l : Nat} {args : Array Value} {W : World} {R : Ending → World → Prop} (h : YieldAt Fence.wide m P l args W R) : YieldAt Fence.wide 0 P l args W R := by
  obtain ⟨fn, tmps, a, b, h1, h2⟩ := h
  exact ⟨fn, tmps, a, b, h1, h2.1, fun c cs _ => h2.2 c cs (room_wide _)⟩
theorem Iter.stops {P : Program} {gf : FuncId} {lb : List Value} {k : Nat} {enc : Nat → List Value} {seq : List Nat} {S : Nat → Prop} {w : World} (h : Iter P gf lb k enc seq S w) (m : Nat) :
    SeqStopsK Fence.wide m P gf lb.toArray (fun x => (enc x).toArray) (KpS S w.heap.size) (fun xs => xs = seq) (fun pre => ∃ k, k ≤ seq.length ∧ pre = seq.take k) seq.length w := by
  intro l J Jx W hW hJ hJx hY h0
  have hg : ∀ W1 W2, Ch Nw W1 W2 → W1.grownBy W2 none := fun W1 W2 hc => ⟨hc.os, hc.tape, hc.output, hc.size, fun k hk _ => hc.block k hk id⟩
  have hw : Ch Nw w W := ⟨hW.os, hW.tape, hW.output, hW.size, fun k hk _ => hW.block k hk⟩
  have := h.run l J Jx W hw (fun pre W1 W2 hj hc => hJ pre W1 W2 none hj (hg _ _ hc) fun r e => by cases e) (fun pre W1 W2 hj hc => hJx pre W1 W2 none hj (hg _ _ hc) fun r e => by cases e) (fun pre x W1 hj hl => ?_) h0
  · rw [show #[Value.func (.yield l) #[] #[]] ++ lb.toArray = (.func (.yield l) #[] #[] :: lb).toArray by simp]
    refine callsIn_wide.2 (Calls.mono this.calls ?_)
    rintro e W' ⟨v, rfl, hv⟩
    refine ⟨⟨v, rfl⟩, ?_⟩
    rcases hv with hv | ⟨k, hk, hv⟩
    · exact .inl ⟨_, rfl, hv⟩
    · exact .inr ⟨_, ⟨k, hk, rfl⟩, hv⟩
  · obtain ⟨fn, tmps, a, b, h1, h2⟩ := yieldW_of (hY pre x W1 hj hl)
    refine ⟨fn, tmps, a, b, h1, RoundIn.mono h2 ?_⟩
    rintro e W' (⟨rfl, h3, h4⟩ | ⟨rfl, h3⟩)
    · exact ⟨_, rfl, .inl ⟨rfl, h3, h4⟩⟩
    · exact ⟨_, rfl, .inr ⟨rfl, h3⟩⟩

/-- yield's parameters, set -/
def updA (f : Nat → Value) : List Tmp → List Value → (Nat → Value)
  | p :: ps, v :: vs => updA (upd f (some p) v) ps vs
  | _, _ => f
@[simp] theorem updA_nil (f : Nat → Value) (vs : List Value) : updA f [] vs = f := by unfold updA; rfl
@[simp] theorem updA_cons (f : Nat → Value) (p : Tmp) (ps : List Tmp) (v : Value) (vs : List Value) : updA f (p :: ps) (v :: vs) = updA (upd f (some p) v) ps vs := rfl
theorem tm_updA (n : Nat) : ∀ (ps : List Tmp) (vs : List Value) (f : Nat → Value), (ps.zip vs).foldl (fun t (p, v) => t.setIfInBounds p v) (tm n f) = tm n (updA f ps vs)
  | [], _, f => by simp
  | p :: ps, [], f => by simp [updA]
  | p :: ps, v :: vs, f => by
    rw [List.zip_cons_cons, List.foldl_cons, updA_cons, ← tm_updA n ps vs]
    simp only [tm_put]
/-- how a round's body may be left -/
def Bd (S : Nat → Prop) (W : World) (I : World → Prop) (Ix : Code → World → Prop) : Post
  | .normal, _, _, W' => Ch S W W' ∧ I W'
  | .ret, _, _, W' => Ch S W W' ∧ Ix .ret W'
  | .exit id, _, _, W' => Ch S W W' ∧ Ix (.exit id) W'
  | _, _, _, _ => False
section
variable (S : Nat → Prop) (W : World) (I : World → Prop) (Ix : Code → World → Prop) (ms : List Nat) (f : Nat → Value) (W' : World)
@[simp] theorem Bd_normal : Bd S W I Ix .normal ms f W' = (Ch S W W' ∧ I W') := rfl
@[simp] theorem Bd_ret : Bd S W I Ix .ret ms f W' = (Ch S W W' ∧ Ix .ret W') := rfl
@[simp] theorem Bd_exit (id : Nat) : Bd S W I Ix (.exit id) ms f W' = (Ch S W W' ∧ Ix (.exit id) W') := rfl
end
theorem keeps_of {S : Nat → Prop} {B : Nat} {W W' : World} (h : Ch S W W') (hS : ∀ k, S k → k < B) : KeepsFrom B W W' :=
  ⟨h.size, fun k o hB hk _ => h.obj hk fun e => by have := hS k e; omega⟩
/-- The rule. -/
theorem v_range {P : Program} {n : Nat} {Q : Post} {g : Operand} {ps : List Tmp} {assign body : Code} {ms : List Nat} {f : Nat → Value} {w w0 : World} {gf : FuncId} {lb : List Value} {k : Nat} {enc : Nat → List Value} {seq : List Nat} {S : Nat → Prop}
    (hit : Iter P gf lb k enc seq S w0) (hw : Ch Nw w0 w) (hg : ev n f g = .func (.func gf) #[] lb.toArray) (hk : ps.length = k) (hnr : (nr' assign && nr' body) = true) (hS : ∀ k, S k → k < w.heap.size)
    (I : List Nat → World → Prop) (Ix : Code → List Nat → World → Prop) (Ax : Nat → (Nat → Value) → World → Prop)
    (hI : ∀ pre W W', I pre W → Rec w.heap.size W W' → I pre W') (hIx : ∀ c pre W W', Ix c pre W → Rec w.heap.size W W' → Ix c pre W') (hAx : ∀ x f W W', Ax x f W → Rec w.heap.size W W' → Ax x f W') (h0 : I [] w)
    (hassign : ∀ pre x W, I pre W → VC P n (Then (At [] fun f' W' => Ch Nw W W' ∧ I pre W' ∧ Ax x f' W') fun _ _ _ _ => False) assign [] (updA f ps (enc x)) W)
    (hbody : ∀ pre x f' W, I pre W → Ax x f' W → VC P n (Bd S W (I (pre ++ [x])) fun c => Ix c (pre ++ [x])) body [] f' W)
    (hdone : ∀ D W, w.heap.size ≤ D → I seq W → W.heap[D]? = some (.deferred (some [])) → Q .normal (D :: ms) f W)
    (hstop : ∀ D c k W, w.heap.size ≤ D → k ≤ seq.length → Ix c (seq.take k) W → W.heap[D]? = some (.deferred (some [])) → VC P n Q c (D :: ms) f W) :
    VOther P n Q (.rangeFunc g ps.toArray assign body) ms f w := by
  unfold VOther
  intro cx hr
  simp only [Bool.and_eq_true] at hnr
  have hF : cx.F = Fence.wide := by
    obtain ⟨r, m, d⟩ := cx
    cases r with
    | none => rfl
    | some r => cases hr
  rw [hF]
  have hn0 := hw.size
  have key : (Code.rangeFunc g ps.toArray assign body).wpIn Fence.wide 3 P (up cx n Q) (act cx n ms f) w := by
    refine wpIn_rangeFunc_ownH rfl (by omega) (by rw [act_eval]; exact hg) trivial hit.ent (hit.stops 2) (fun h1 h2 => Ch.trans h1 h2)
      (fun W l o o' hl _ _ _ => Ch.mono (Ch.of_grown (grownBy_putObj' W l o')) fun j _ e => .inr (by cases e; omega)) hw.below (fun x => by simp [hit.size, hk]) I Ix
      (fun pre W W' row h1 h2 h3 => hI pre W W' h1 ⟨row, h2, h3⟩) (fun c pre W W' row h1 h2 h3 => hIx c pre W W' h1 ⟨row, h2, h3⟩) h0
      (fun x a' W => ∃ f', a' = ⟨tm n f', []⟩ ∧ Ax x f' W) (fun x a' _ W W' row h1 h2 h3 => by obtain ⟨f', e, h1⟩ := h1; exact ⟨f', e, hAx x f' W W' h1 ⟨row, h2, h3⟩⟩) ?_ ?_ ?_ ?_
    · intro l pre x W K h1 h2
      have := VC.sound (cx := ⟨some l, 1, []⟩) _ _ _ _ _ (.inr hnr.1) (hassign pre x W h1)
      have e1 : ((ps.toArray.zip (enc x).toArray).foldl (fun t (p, v) => t.setIfInBounds p v) (act cx n ms f).tmps) = tm n (updA f ps (enc x)) := by
        rw [List.zip_toArray, List.foldl_toArray]
        exact tm_updA n ps (enc x) f
      rw [e1]
      refine wpIn_mono this ?_
      rintro e a w' ⟨ms', f', rfl, hq⟩
      unfold Then at hq
      cases e with
      | normal =>
        unfold At at hq
        obtain ⟨rfl, h3, h4, h5⟩ := hq
        exact h2 _ _ (keeps_of h3 fun k hk => hk.elim) (h3.mono fun j _ e => e.elim) h4 ⟨f', rfl, h5⟩
      | _ => exact hq
    · rintro l pre x a' W hl _ h1 ⟨f', rfl, h2⟩ hlt
      refine wpIn_mono (VC.sound (cx := ⟨some l, 1, []⟩) _ _ _ _ _ (.inr hnr.2) (hbody pre x f' W h1 h2)) ?_
      rintro e a w' ⟨ms', f'', rfl, hq⟩
      cases e with
      | normal => exact ⟨keeps_of hq.1 hS, hq.1.mono fun j _ e => .inl e, hq.2⟩
      | ret => exact ⟨keeps_of hq.1 hS, hq.2⟩
      | exit id => exact ⟨keeps_of hq.1 hS, hq.2⟩
      | _ => exact hq.elim
    · rintro D xs W hD rfl h1 h2
      exact ⟨D :: ms, f, rfl, hdone D W hD h1 h2⟩
    · rintro D c pre W hD ⟨k, hk, rfl⟩ h1 h2
      exact VC.sound (cx := ⟨none, 3, cx.d⟩) c Q (D :: ms) f W (.inl rfl) (hstop D c k W hD hk h1 h2)
  exact fun b k cs h1 h2 _ => key b k cs h1 h2 (room_wide _)
end Go.Kin

/- Ranges over a function whose order is not told ahead: the iterator by a contract, the caller by one rule. They speak of no program. No condition. -/
namespace Go.Kin
open Go Go.RowKit

/-- a row that an iterator's own walk over a map may be -/
def WalkRow (B : Nat) (W : World) (row : Option Nat) : Prop := ∀ r, row = some r → B ≤ r ∧ ∃ o : Obj, W.heap[r]? = some o ∧ o.isWalk = true
/-- what a round that goes on keeps: walks made since -/
def KpW (S : Nat → Prop) (n0 : Nat) (W W' : World) : Prop := Ch (fun k => S k ∨ (n0 ≤ k ∧ ∀ o, W.heap[k]? = some o → o.isWalk = false)) W W'
theorem KpW.trans {S : Nat → Prop} {n0 : Nat} {A B C : World} (h : KpW S n0 A B) (k : KpW S n0 B C) : KpW S n0 A C := by
  refine ⟨k.os.trans h.os, k.tape.trans h.tape, k.output.trans h.output, Nat.le_trans h.size k.size, fun j hj hn => ?_⟩
  have e1 := h.block j hj hn
  refine (k.block j (Nat.lt_of_lt_of_le hj h.size) fun e => hn ?_).trans e1
  rcases e with e | ⟨e, e2⟩
  · exact .inl e
  · exact .inr ⟨e, fun o ho => e2 o (e1.trans ho)⟩
/-- an iterator: what it says of the elements of some row, as long as it is asked to go on -/
structure IterQ {α : Type} (P : Program) (gf : FuncId) (lb : List Value) (k : Nat) (enc : α → List Value) (Fn Pt : List α → Prop) (N : Nat) (S : Nat → Prop) (w : World) : Prop where
  size : ∀ x, (enc x).length = k
  ent : ∀ args w, (callFunc gf args).run P w = .ok (.enter gf args) w
  run : ∀ (l : Nat) (J Jx : List α → World → Prop) (W : World), Ch Nw w W → (∀ pre W1 W2 row, J pre W1 → W1.grownBy W2 row → WalkRow W.heap.size W1 row → J pre W2) → (∀ pre W1 W2 row, Jx pre W1 → W1.grownBy W2 row → WalkRow W.heap.size W1 row → Jx pre W2) →
    (∀ pre x W1, J pre W1 → pre.length < N → YieldW P l (enc x).toArray W1 fun v W' => (v = .bool true ∧ J (pre ++ [x]) W' ∧ KpW S w.heap.size W1 W') ∨ (v = .bool false ∧ Jx (pre ++ [x]) W')) →
    J [] W → Ret P gf (.func (.yield l) #[] #[] :: lb).toArray W fun _ W' => (∃ xs, Fn xs ∧ J xs W') ∨ ∃ pre, Pt pre ∧ Jx pre W'
section
variable {α : Type} {P : Program} {gf : FuncId} {lb : List Value} {k : Nat} {enc : α → List Value} {Fn Pt : List α → Prop} {N : Nat} {S : Nat → Prop} {w : World}
theorem IterQ.stops (h : IterQ P gf lb k enc Fn Pt N S w) (m : Nat) :
    SeqStopsK Fence.wide m P gf lb.toArray (fun x => (enc x).toArray) (KpW S w.heap.size) Fn Pt N w := by
  intro l J Jx W hW hJ hJx hY h0
  have hw : Ch Nw w W := ⟨hW.os, hW.tape, hW.output, hW.size, fun k hk _ => hW.block k hk⟩
  have := h.run l J Jx W hw (fun pre W1 W2 row hj hg hr => hJ pre W1 W2 row hj hg hr) (fun pre W1 W2 row hj hg hr => hJx pre W1 W2 row hj hg hr) (fun pre x W1 hj hl => ?_) h0
  · rw [show #[Value.func (.yield l) #[] #[]] ++ lb.toArray = (.func (.yield l) #[] #[] :: lb).toArray by simp]
    refine callsIn_wide.2 (Calls.mono this.calls ?_)
    rintro e W' ⟨v, rfl, hv⟩
    exact ⟨⟨v, rfl⟩, hv⟩
  · obtain ⟨fn, tmps, a, b, h1, h2⟩ := yieldW_of (hY pre x W1 hj hl)
    refine ⟨fn, tmps, a, b, h1, RoundIn.mono h2 ?_⟩
    rintro e W' (⟨rfl, h3, h4⟩ | ⟨rfl, h3⟩)
    · exact ⟨_, rfl, .inl ⟨rfl, h3, h4⟩⟩
    · exact ⟨_, rfl, .inr ⟨rfl, h3⟩⟩
/-- what a round's body may change -/
def SC (S : Nat → Prop) (B : Nat) (W : World) : Nat → Prop := fun k => S k ∨ (B ≤ k ∧ ∀ o, W.heap[k]? = some o → o.isCells = true)
/-- how a round's body may be left -/
def BdC (S : Nat → Prop) (B : Nat) (W : World) (I : World → Prop) (Ix : Code → World → Prop) : Post
  | .normal, _, _, W' => Ch (SC S B W) W W' ∧ I W'
  | .ret, _, _, W' => Ch (SC S B W) W W' ∧ Ix .ret W'
  | .exit id, _, _, W' => Ch (SC S B W) W W' ∧ Ix (.exit id) W'
  | _, _, _, _ => False
@[simp] theorem BdC_normal (S : Nat → Prop) (B : Nat) (W : World) (I : World → Prop) (Ix : Code → World → Prop) (ms : List Nat) (f : Nat → Value) (W' : World) : BdC S B W I Ix .normal ms f W' = (Ch (SC S B W) W W' ∧ I W') := rfl
@[simp] theorem BdC_ret (S : Nat → Prop) (B : Nat) (W : World) (I : World → Prop) (Ix : Code → World → Prop) (ms : List Nat) (f : Nat → Value) (W' : World) : BdC S B W I Ix .ret ms f W' = (Ch (SC S B W) W W' ∧ Ix .ret W') := rfl
@[simp] theorem BdC_exit (S : Nat → Prop) (B : Nat) (W : World) (I : World → Prop) (Ix : Code → World → Prop) (id : Nat) (ms : List Nat) (f : Nat → Value) (W' : World) : BdC S B W I Ix (.exit id) ms f W' = (Ch (SC S B W) W W' ∧ Ix (.exit id) W') := rfl
theorem keeps_ofC {B : Nat} {W W' : World} (h : Ch (SC S B W) W W') (hS : ∀ k, S k → k < B) : KeepsFrom B W W' :=
  ⟨h.size, fun k o hB hk hc => h.obj hk fun e => by
    rcases e with e | ⟨_, e⟩
    · have := hS k e; omega
    · rw [e o hk] at hc; cases hc⟩
theorem cells_walk {o : Obj} (h : o.isCells = true) : o.isWalk = false := by
  cases hw : o.isWalk with
  | false => rfl
  | true => rw [Obj.not_cells_of_walk hw] at h; cases h
theorem v_rangeQ {n : Nat} {Q : Post} {g : Operand} {ps : List Tmp} {assign body : Code} {ms : List Nat} {f : Nat → Value} {w0 : World}
    (hit : IterQ P gf lb k enc Fn Pt N S w0) (hw : Ch Nw w0 w) (hg : ev n f g = .func (.func gf) #[] lb.toArray) (hk : ps.length = k) (hnr : (nr' assign && nr' body) = true) (hS : ∀ k, S k → k < w.heap.size)
    (I : List α → World → Prop) (Ix : Code → List α → World → Prop) (Ax : α → (Nat → Value) → World → Prop)
    (hI : ∀ pre W W', I pre W → Rec w.heap.size W W' → I pre W') (hIx : ∀ c pre W W', Ix c pre W → Rec w.heap.size W W' → Ix c pre W') (hAx : ∀ x f W W', Ax x f W → Rec w.heap.size W W' → Ax x f W') (h0 : I [] w)
    (hassign : ∀ pre x W, I pre W → VC P n (Then (At [] fun f' W' => Ch Nw W W' ∧ I pre W' ∧ Ax x f' W') fun _ _ _ _ => False) assign [] (updA f ps (enc x)) W)
    (hbody : ∀ pre x f' W, I pre W → Ax x f' W → pre.length < N → VC P n (BdC S w.heap.size W (I (pre ++ [x])) fun c => Ix c (pre ++ [x])) body [] f' W)
    (hdone : ∀ D xs W, w.heap.size ≤ D → Fn xs → I xs W → W.heap[D]? = some (.deferred (some [])) → Q .normal (D :: ms) f W)
    (hstop : ∀ D c pre W, w.heap.size ≤ D → Pt pre → Ix c pre W → W.heap[D]? = some (.deferred (some [])) → VC P n Q c (D :: ms) f W) :
    VOther P n Q (.rangeFunc g ps.toArray assign body) ms f w := by
  unfold VOther
  intro cx hr
  simp only [Bool.and_eq_true] at hnr
  have hF : cx.F = Fence.wide := by
    obtain ⟨r, m, d⟩ := cx
    cases r with
    | none => rfl
    | some r => cases hr
  rw [hF]
  have hn0 := hw.size
  have key : (Code.rangeFunc g ps.toArray assign body).wpIn Fence.wide 3 P (up cx n Q) (act cx n ms f) w := by
    refine wpIn_rangeFunc_ownH rfl (by omega) (by rw [act_eval]; exact hg) trivial hit.ent (hit.stops 2) (fun h1 h2 => KpW.trans h1 h2)
      (fun W l o o' hl ho hc hwk => Ch.mono (Ch.of_grown (grownBy_putObj' W l o')) fun j _ e => .inr (by cases e; exact ⟨by omega, fun o2 h2 => by rw [ho] at h2; cases h2; exact hwk⟩)) hw.below (fun x => by simp [hit.size, hk]) I Ix
      (fun pre W W' row h1 h2 h3 => hI pre W W' h1 ⟨row, h2, h3⟩) (fun c pre W W' row h1 h2 h3 => hIx c pre W W' h1 ⟨row, h2, h3⟩) h0
      (fun x a' W => ∃ f', a' = ⟨tm n f', []⟩ ∧ Ax x f' W) (fun x a' _ W W' row h1 h2 h3 => by obtain ⟨f', e, h1⟩ := h1; exact ⟨f', e, hAx x f' W W' h1 ⟨row, h2, h3⟩⟩) ?_ ?_ ?_ ?_
    · intro l pre x W K h1 h2
      have := VC.sound (cx := ⟨some l, 1, []⟩) _ _ _ _ _ (.inr hnr.1) (hassign pre x W h1)
      have e1 : ((ps.toArray.zip (enc x).toArray).foldl (fun t (p, v) => t.setIfInBounds p v) (act cx n ms f).tmps) = tm n (updA f ps (enc x)) := by
        rw [List.zip_toArray, List.foldl_toArray]
        exact tm_updA n ps (enc x) f
      rw [e1]
      refine wpIn_mono this ?_
      rintro e a w' ⟨ms', f', rfl, hq⟩
      unfold Then at hq
      cases e with
      | normal =>
        unfold At at hq
        obtain ⟨rfl, h3, h4, h5⟩ := hq
        exact h2 _ _ (keeps_of h3 fun k hk => hk.elim) (h3.mono fun j _ e => e.elim) h4 ⟨f', rfl, h5⟩
      | _ => exact hq
    · rintro l pre x a' W hl _ h1 ⟨f', rfl, h2⟩ hlt
      refine wpIn_mono (VC.sound (cx := ⟨some l, 1, []⟩) _ _ _ _ _ (.inr hnr.2) (hbody pre x f' W h1 h2 hlt)) ?_
      rintro e a w' ⟨ms', f'', rfl, hq⟩
      cases e with
      | normal => exact ⟨keeps_ofC hq.1 hS, hq.1.mono fun j _ e => e.imp id fun e => ⟨by omega, fun o ho => cells_walk (e.2 o ho)⟩, hq.2⟩
      | ret => exact ⟨keeps_ofC hq.1 hS, hq.2⟩
      | exit id => exact ⟨keeps_ofC hq.1 hS, hq.2⟩
      | _ => exact hq.elim
    · rintro D xs W hD hxs h1 h2
      exact ⟨D :: ms, f, rfl, hdone D xs W hD hxs h1 h2⟩
    · rintro D c pre W hD hk h1 h2
      exact VC.sound (cx := ⟨none, 3, cx.d⟩) c Q (D :: ms) f W (.inl rfl) (hstop D c pre W hD hk h1 h2)
  exact fun b k cs h1 h2 _ => key b k cs h1 h2 (room_wide _)
end
end Go.Kin

namespace Go.Proofs.YtnefdmbdkljifaaGreatDoor.S32
open Go.RowKit Go.Kin Go.Maps Go.Sort

theorem RngV_walk {P : Program} {k : TypeId} {κ : Type} {kv : κ → Value} {w : World} {b r n cnt : Nat} {F : κ → Option Value} {left : κ → Bool} (h : RngV w P k kv b r n F left cnt) : ∃ o : Obj, w.heap[r]? = some o ∧ o.isWalk = true := by
  obtain ⟨D, lf, h, h2⟩ := h
  obtain ⟨es, clock, since, seen, c0, g1, g2, g3, g4, g5, g6⟩ := h
  exact ⟨_, g5, rfl⟩
theorem RngV_mwalk {P : Program} {k : TypeId} {κ : Type} {kv : κ → Value} {w : World} {b r n cnt : Nat} {F : κ → Option Value} {left : κ → Bool} (h : RngV w P k kv b r n F left cnt) : ∃ o : Obj, w.heap[b]? = some o ∧ o.isWalk = true := by
  obtain ⟨D, lf, h, h2⟩ := h
  obtain ⟨es, clock, since, seen, c0, g1, g2, g3, g4, g5, g6⟩ := h
  exact ⟨_, g1, rfl⟩
/-- the keys, each once -/
def Keys (F : Off → Option Value) (xs : List Off) : Prop := xs.Nodup ∧ ∀ a, a ∈ xs ↔ (F a).isSome = true
section
variable {w u : World} {blk b q n : Nat} {F : Off → Option Value} {S : Nat → Prop}
set_option maxHeartbeats 1000000 in
theorem keys_iter (h : MapV w Tryz.prog 32 kO b n F) (hq : w.cell? ⟨q, 0, none⟩ = some (.map (some b))) (hSb : ¬ S b) (hS : ∀ k, S k → k < w.heap.size) :
    IterQ Tryz.prog 49 [.pointer (some ⟨q, 0, none⟩)] 1 (fun a => [Value.int .u32 (a : Off).val]) (Keys F) (fun _ => True) n S w := by
  refine ⟨fun x => rfl, fun args w => by simp [go_sem], ?_⟩
  intro l J Jx W hW hJ hJx hY h0
  have hlt := h.lt
  have hqW : W.cell? ⟨q, 0, none⟩ = some (.map (some b)) := hW.cell hq id
  obtain ⟨w1, cnt, hr, hg, hcnt, c1, s1⟩ := (h.ch hW id).range kysO Tryz.underlying79
  obtain ⟨r, hrr⟩ : ∃ r, W.heap.size = r := ⟨_, rfl⟩
  rw [hrr] at hr hg
  have hWs := hW.size
  have grown : ∀ {A B : World}, Ch Nw A B → A.grownBy B none := fun {A B} hc => ⟨hc.os, hc.tape, hc.output, hc.size, fun k hk _ => hc.block k hk id⟩
  have grownR : ∀ {A B : World}, Ch (one r) A B → A.grownBy B (some r) := fun {A B} hc => ⟨hc.os, hc.tape, hc.output, hc.size, fun k hk hn => hc.block k hk fun e => hn (by simp only [one] at e; rw [e])⟩
  refine v_enter Tryz.func49 Tryz.ntmps49 rfl (by simp) fun R' hR => ?_
  simp [go_sem, hqW, hr]
  refine v_loop (fun t f u => ∃ left pre, f 0 = .func (.yield l) #[] #[] ∧ f 5 = .pointer (some ⟨r, 0, none⟩) ∧ RngV u Tryz.prog 32 kO b r n F left t ∧ J pre u ∧ pre.Nodup ∧ (∀ a, left a = true ↔ ((F a).isSome = true ∧ a ∉ pre)) ∧ (∀ a ∈ pre, (F a).isSome = true) ∧ pre.length + t ≤ n) cnt
    ⟨_, [], by simp, by simp, hg, hJ _ _ _ none h0 (grown c1) (fun r e => by cases e), List.nodup_nil, fun a => by simp, fun a ha => by simp at ha, by simp; omega⟩ ?_
  rintro I hI t f u ⟨left, pre, f0, f5, hru, hj, hnd, hleft, hpre, hlen⟩
  rcases hru.next kysO 0 with ⟨hl, hnx⟩ | ⟨a, v, u2, t2, hl, hGa, hnx, hru2, ht2, c2, _, hen⟩
  · simp [go_sem, f5, hnx]
    refine hR _ _ (.inl ⟨pre, ⟨hnd, fun a => ⟨hpre a, fun ha => ?_⟩⟩, hj⟩)
    by_cases hap : a ∈ pre
    · exact hap
    · have := (hleft a).2 ⟨ha, hap⟩
      rw [hl a] at this
      cases this
  · obtain ⟨ha1, ha2⟩ := (hleft a).1 hl
    have hj2 := hJ pre u u2 (some r) hj (grownR c2) fun r' e => by
      cases e
      exact ⟨by omega, RngV_walk hru⟩
    have hy := hY pre a u2 hj2 (by omega)
    simp [go_sem, f5, hnx, hen, f0, kO]
    refine VCall_yield _ _ _ hy ?_
    rintro _ w' (⟨rfl, hj', hk⟩ | ⟨rfl, hjx⟩)
    · simp [go_sem]
      have hru3 : RngV w' Tryz.prog 32 kO b r n F (fun c => left c && decide (c ≠ a)) t2 := hru2.ch hk (fun e => by
        rcases e with e | ⟨e, e2⟩
        · exact hSb e
        · omega) (fun e => by
        rcases e with e | ⟨e, e2⟩
        · have := hS r e; omega
        · obtain ⟨o, ho, hwk⟩ := RngV_walk hru2
          rw [e2 o ho] at hwk
          cases hwk)
      refine Rnd.intro t2 ht2 (hI _ _ _ ⟨_, pre ++ [a], by simp [f0], by simp [f5], hru3, hj', ?_, fun c => ?_, fun c hc => ?_, by simp; omega⟩)
      · rw [List.nodup_append]
        refine ⟨hnd, by simp, ?_⟩
        rintro x hx y hy rfl
        simp at hy
        subst hy
        exact ha2 hx
      · rw [Bool.and_eq_true, hleft c, decide_eq_true_eq]
        simp only [List.mem_append, List.mem_singleton, not_or, and_assoc]
      · rcases List.mem_append.1 hc with hc | hc
        · exact hpre c hc
        · simp at hc
          subst hc
          exact ha1
    · simp [go_sem]
      exact hR _ _ (.inr ⟨_, trivial, hjx⟩)
theorem keysf_any (b : Nat) (w : World) : Ret Tryz.prog 28 #[.map (some b)] w fun v' w' => v' = .func (.func 49) #[] #[.pointer (some ⟨w.heap.size, 0, none⟩)] ∧ w' = w.alloc (.cells #[.map (some b)] 79) := by
  refine v_enter Tryz.func28 Tryz.ntmps28 rfl (by simp) fun R' hR => ?_
  simp [go_sem]
  exact hR _ _ ⟨rfl, rfl⟩
theorem ty : Ty1 Tryz.prog 85 32 (.int .u32 0) 4 := ⟨Tryz.underlying85, by kernel_rfl, rfl⟩
theorem own_rec {B : Nat} {W W' : World} {e s n : Nat} {v : Value} {xs : List Value} (h : W.ownsRow 0 e s v n xs) (hr : Rec B W W') : W'.ownsRow 0 e s v n xs := by
  refine ⟨h.1, h.2.imp id ?_⟩
  rintro ⟨g, cap, cur, h1, h2, h3, h4⟩
  exact ⟨g, cap, cur, h1, h2, hr.blk h3, h4⟩
theorem own_cells {W : World} {e s n : Nat} {v : Value} {xs : List Value} (h : W.ownsRow 0 e s v n xs) : ∀ k, v.ownBlock = some k → ∀ o, W.heap[k]? = some o → o.isCells = true := by
  rcases h.2 with ⟨rfl, _⟩ | ⟨g, cap, cur, rfl, _, hb, _⟩
  · intro k hk
    simp [Value.ownBlock] at hk
  · intro k hk o ho
    simp [Value.ownBlock] at hk
    subst hk
    rw [hb] at ho
    cases ho
    rfl
def ks (xs : List Off) : List Value := xs.map kO
set_option maxRecDepth 100000 in
theorem appseq_any {gf : FuncId} {lb : List Value} {Fn Pt : List Off → Prop} {n : Nat} (w : World) (hn : n ≤ 100000)
    (hit : ∀ g w1, Ch Nw w w1 → w.heap.size ≤ g → g < w1.heap.size → IterQ Tryz.prog gf lb 1 (fun a => [Value.int .u32 (a : Off).val]) Fn Pt n (one g) w1) :
    Ret Tryz.prog 76 #[.slice none 0 0, .func (.func gf) #[] lb.toArray] w fun v' w' => ∃ xs, Fn xs ∧ w'.ownsRow 0 32 1 v' xs.length (ks xs) ∧ Ch Nw w w' ∧ Fresh w.heap.size v' := by
  refine v_enter Tryz.func76 Tryz.ntmps76 rfl (by simp) fun R' hR => ?_
  have ba := hp_alloc w (.cells #[.slice none 0 0] 85)
  have ca := (Ch.refl Nw w).alloc (.cells #[.slice none 0 0] 85)
  simp [go_sem]
  obtain ⟨g, hg⟩ : ∃ g, w.heap.size = g := ⟨_, rfl⟩
  rw [hg] at ba ⊢
  generalize w.alloc (.cells #[.slice none 0 0] 85) = w1 at *
  have hgl := lt_of_block ba
  refine v_rangeQ (hit g w1 ca (by omega) hgl) (Ch.refl _ _) rfl rfl (by kernel_rfl) (fun k hk => by cases hk; exact hgl)
    (fun pre W => ∃ v, W.heap[g]? = some (.cells #[v] 85 (0, 0)) ∧ W.ownsRow 0 32 1 v pre.length (ks pre) ∧ Fresh w1.heap.size v ∧ Ch Nw w W ∧ w1.heap.size ≤ W.heap.size) (fun c pre W => False) (fun x f' _ => f' 2 = .pointer (some ⟨g, 0, none⟩) ∧ f' 5 = .int .u32 x.val) ?_ ?_ ?_ ?_ ?_ ?_ ?_ ?_
  · rintro pre W W' ⟨v, h1, h2, h3, h4, h5⟩ hr
    exact ⟨v, hr.blk h1, own_rec h2 hr, h3, hr.since h4 ca.size, Nat.le_trans h5 hr.ch.size⟩
  · exact fun _ _ _ _ h _ => h
  · exact fun _ _ _ _ h _ => h
  · exact ⟨_, ba, ⟨by simp [ks], .inl ⟨rfl, rfl⟩⟩, fun k hk => by simp [Value.ownBlock] at hk, ca, Nat.le_refl _⟩
  · rintro pre x W hI
    simp [go_sem]
    exact ⟨Ch.refl _ _, hI⟩
  · rintro pre x f' W ⟨v, h1, h2, h3, h4, h5⟩ ⟨hf2, hf5⟩ hlen
    have hcl := fun i => cell_blk h1 i
    have hfz := fun i => frz_blk h1 i
    have hone : ∀ u ∈ ks [x], u.oneCell' = true := by simp [ks, kO, Value.oneCell']
    have hsc := own_cells h2
    have hgv : v.ownBlock ≠ some g := fun e => by have := h3 g e; omega
    obtain ⟨A, m, c, hv⟩ : ∃ A m c, v = .slice A m c := by
      rcases h2.2 with ⟨e, _⟩ | ⟨g', cap, cur, e, _⟩
      · exact ⟨_, _, _, e⟩
      · exact ⟨_, _, _, e⟩
    rw [hv] at h1 h2 h3 hcl hsc hgv
    simp [go_sem, hf2, hf5, hcl]
    refine VB_app1 ty h2 rfl (by unfold maxLen; omega) (by omega) fun v' w' k1 k2 k3 => ?_
    have b1 := k2.obj h1 (fun e => hgv e)
    have hcl' := fun i => cell_blk b1 i
    have hfz' := fun i => frz_blk b1 i
    obtain ⟨A', m', c', hv'⟩ : ∃ A m c, v' = .slice A m c := by
      rcases k1.2 with ⟨e, _⟩ | ⟨g', cap, cur, e, _⟩
      · exact ⟨_, _, _, e⟩
      · exact ⟨_, _, _, e⟩
    have hfr : Fresh w1.heap.size v' := by
      rcases k3 with e | e
      · intro k hk
        rw [e] at hk
        exact h3 k hk
      · exact e.mono h5
    rw [hv'] at k1 k3 hfr ⊢
    simp [go_sem, hf2, hcl', hfz']
    have cs : Ch (one g) w' (w'.setCell ⟨g, 0, none⟩ (.slice A' m' c')) := (Ch.refl (one g) w').setCell (p := ⟨g, 0, none⟩) (.inl rfl) _
    have hne : ∀ k, (Value.slice A' m' c').ownBlock = some k → ¬ one g k := fun k hk e => by
      simp only [one] at e
      have := hfr k hk
      omega
    refine ⟨(k2.mono fun j hj e => .inr ⟨h3 j e, hsc j e⟩).trans' cs fun j hj e => .inl e, _, by rw [b1, setOf_cells]; rfl, ?_, hfr, (h4.trans' k2 fun j hj e => by have := h3 j e; omega).trans' cs fun j hj e => by simp only [one] at e; omega, ?_⟩
    · have := own_ch k1 cs hne
      simpa [ks, kO] using this
    · have := k2.size
      have := cs.size
      omega
  · rintro D xs W hD hxs ⟨v, h1, h2, h3, h4, h5⟩ hd
    have hcl := fun i => cell_blk h1 i
    obtain ⟨A, m, c, hv⟩ : ∃ A m c, v = .slice A m c := by
      rcases h2.2 with ⟨e, _⟩ | ⟨g', cap, cur, e, _⟩
      · exact ⟨_, _, _, e⟩
      · exact ⟨_, _, _, e⟩
    have hdg : D ≠ g := by omega
    rw [hv] at h1 h2 h3 hcl
    simp [go_sem, hcl, VEnd_ret', hd]
    refine hR _ _ ⟨xs, hxs, ?_, h4.putObj (.inr (by omega)) _, h3.mono (by omega)⟩
    have hc : Ch (one D) W (W.putObj D (.deferred none)) := (Ch.refl (one D) W).putObj (.inl rfl) _
    refine own_ch h2 hc fun k hk e => ?_
    simp only [one] at e
    subst e
    have := own_cells h2 k hk _ hd
    cases this
  · exact fun _ _ _ _ _ _ h => h.elim
theorem collect_any {gf : FuncId} {lb : List Value} {Fn Pt : List Off → Prop} {n : Nat} (w : World) (hn : n ≤ 100000)
    (hit : ∀ g w1, Ch Nw w w1 → w.heap.size ≤ g → g < w1.heap.size → IterQ Tryz.prog gf lb 1 (fun a => [Value.int .u32 (a : Off).val]) Fn Pt n (one g) w1) :
    Ret Tryz.prog 47 #[.func (.func gf) #[] lb.toArray] w fun v' w' => ∃ xs, Fn xs ∧ w'.ownsRow 0 32 1 v' xs.length (ks xs) ∧ Ch Nw w w' ∧ Fresh w.heap.size v' := by
  refine v_enter Tryz.func47 Tryz.ntmps47 rfl (by simp) fun R' hR => ?_
  simp [go_sem]
  refine (appseq_any w hn hit).mono ?_
  rintro v w1 ⟨xs, h1, h2, h3, h4⟩
  simp [go_sem]
  exact hR _ _ ⟨xs, h1, h2, h3, h4⟩
/-- the keys of a map, in order -/
theorem sorted_any (w : World) (h : MapV w Tryz.prog 32 kO b n F) (hn : n ≤ 100000) (h255 : ∀ xs, Keys F xs → xs.length ≤ 255) (w1 : World) (hw1 : Ch Nw w w1) (hq : w1.cell? ⟨q, 0, none⟩ = some (.map (some b))) :
    Ret Tryz.prog 27 #[.func (.func 49) #[] #[.pointer (some ⟨q, 0, none⟩)]] w1 fun v' w' => ∃ xs, Keys F xs ∧ xs.Pairwise (fun a b => a < b) ∧ Sl w' v' xs.length (ks xs) ∧ Ch Nw w1 w' ∧ Fresh w1.heap.size v' := by
  refine v_enter Tryz.func27 Tryz.ntmps27 rfl (by simp) fun R' hR => ?_
  have hb := (h.ch hw1 id).lt
  simp [go_sem]
  have hcol := collect_any (gf := 49) (lb := [.pointer (some ⟨q, 0, none⟩)]) (Fn := Keys F) (Pt := fun _ => True) w1 hn fun g w2 hc hg hgl =>
    keys_iter ((h.ch hw1 id).ch hc id) (hc.cell hq id) (fun e => by simp only [one] at e; omega) (fun k hk => by simp only [one] at hk; omega)
  refine hcol.mono ?_
  rintro v w2 ⟨xs, hK, hown, c2, hfr⟩
  have hlen := h255 xs hK
  simp [go_sem]
  by_cases h0 : 0 < xs.length
  · obtain ⟨g, cap, cur, hv, hb2, _⟩ := own_blk hown h0
    subst hv
    have hrw : Rw kO w2 g xs.toArray := Rw.of_own (cap := cap) (n := xs.length) hown (by simp [ks]) (by simp)
    have hs := sort_any hrw cap (by simpa using hlen)
    simp only [List.size_toArray] at hs
    refine hs.mono ?_
    rintro _ w3 ⟨d', h3, hP, hS, c3⟩
    simp [go_sem]
    have hsz : d'.size = xs.length := by rw [hP.1]; simp
    have hperm : d'.toList.Perm xs := by
      have := hP.2.2
      have e1 : (d'.extract 0 xs.length).toList = d'.toList := by rw [← hsz]; simp
      have e2 : (xs.toArray.extract 0 xs.length).toList = xs := by simp
      rw [e1, e2] at this
      exact this
    have hnd : d'.toList.Nodup := hperm.nodup_iff.2 hK.1
    have hgf : w1.heap.size ≤ g := hfr g rfl
    refine hR _ _ ⟨d'.toList, ⟨hnd, fun a => by rw [hperm.mem_iff]; exact hK.2 a⟩, ?_, ?_, c2.trans' c3 fun j hj e => by simp only [one] at e; omega, hfr⟩
    · rw [List.pairwise_iff_getElem]
      intro i j hi hj hij
      have hi' : i < d'.size := by simpa using hi
      have hj' : j < d'.size := by simpa using hj
      have h1 := hS i j (Nat.zero_le _) hij (by omega)
      have e1 : d'[i]! = d'.toList[i] := by simp [hi']
      have e2 : d'[j]! = d'.toList[j] := by simp [hj']
      rw [e1, e2] at h1
      have hne : d'.toList[i] ≠ d'.toList[j] := List.pairwise_iff_getElem.1 hnd i j hi hj hij
      simp only [lt, decide_eq_false_iff_not] at h1
      rcases Nat.lt_trichotomy (d'.toList[i]).val (d'.toList[j]).val with h2 | h2 | h2
      · exact h2
      · exact absurd (Fin.ext h2) hne
      · exact absurd h2 h1
    · obtain ⟨cur', T, hb3, hc3⟩ := h3
      have hcap : xs.length ≤ cap ∧ cap ≤ maxLen := by
        rcases hown.2 with ⟨e, _⟩ | ⟨g', cap', cur2, e, _, _, h1, h2, _⟩
        · cases e
        · cases e
          exact ⟨h1, h2⟩
      have hlt : d'.toList.length = xs.length := by simpa using hsz
      rw [hlt]
      refine ⟨_, cap, rfl, hcap.1, hcap.2, fun _ => ⟨_, rfl, fun j u hu => ?_⟩⟩
      unfold ks at hu
      rw [List.getElem?_map] at hu
      cases hd : d'.toList[j]? with
      | none => rw [hd] at hu; cases hu
      | some a =>
        rw [hd] at hu
        cases hu
        have hj : j < d'.size := by
          have := (List.getElem?_eq_some_iff.1 hd).1
          simpa using this
        have := hc3 j hj
        rw [Addr.add_lit, Nat.zero_add, cell_blk hb3, this]
        rw [Array.getElem?_toList] at hd
        simp [hj] at hd ⊢
        rw [hd]
  · obtain rfl : xs = [] := List.eq_nil_of_length_eq_zero (by omega)
    rcases hown.2 with ⟨hv, _⟩ | ⟨g, cap, cur, hv, _, hb2, _⟩
    · subst hv
      refine (sort_nil w2 none 0).mono ?_
      intro _ w3 c3
      simp [go_sem]
      exact hR _ _ ⟨[], hK, List.Pairwise.nil, Sl.nil _, c2.trans c3, fun k hk => by simp [Value.ownBlock] at hk⟩
    · subst hv
      refine (sort_nil w2 (some ⟨g, 0, none⟩) cap).mono ?_
      intro _ w3 c3
      simp [go_sem]
      exact hR _ _ ⟨[], hK, List.Pairwise.nil, (Sl.of_own hown).ch c3 fun _ _ e => e, c2.trans c3, hfr⟩
end
end Go.Proofs.YtnefdmbdkljifaaGreatDoor.S32
