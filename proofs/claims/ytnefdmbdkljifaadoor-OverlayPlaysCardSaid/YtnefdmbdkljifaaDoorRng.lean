/- Ranges over a function: the iterator by a contract, the caller by one rule. They speak of no program. No condition. -/
import Derived.Test.YtnefdmbdkljifaaDoorAgg
import Derived.RangeFuncNested
set_option linter.unusedSimpArgs false
set_option linter.unusedVariables false

namespace Go.Kin
open Go Go.RowKit

/-- the ranges' own records changed: what lies from B on and is no cells -/
def Rec (B : Nat) (W W' : World) : Prop := ∃ row, W.grownBy W' row ∧ ∀ r, row = some r → B ≤ r ∧ ∃ o : Obj, W.heap[r]? = some o ∧ o.isCells = false
theorem Rec.ch {B : Nat} {W W' : World} (h : Rec B W W') : Ch (fun k => B ≤ k) W W' := by
  obtain ⟨row, hg, hr⟩ := h
  exact (Ch.of_grown hg).mono fun j _ e => (hr j e).1
theorem Rec.blk {B : Nat} {W W' : World} (h : Rec B W W') {g : Nat} {cs : Array Value} {T : TypeId} {fr : Nat × Nat} (hb : W.heap[g]? = some (.cells cs T fr)) : W'.heap[g]? = some (.cells cs T fr) := by
  obtain ⟨row, hg, hr⟩ := h
  refine (hg.block g (lt_of_block hb) fun e => ?_).trans hb
  obtain ⟨_, o, ho, hc⟩ := hr g e.symm
  rw [hb] at ho
  cases ho
  cases hc
/-- what has changed since w, of what there was then -/
theorem Rec.since {S : Nat → Prop} {B : Nat} {w W W' : World} (h : Rec B W W') (hc : Ch S w W) (hB : w.heap.size ≤ B) : Ch S w W' :=
  hc.trans' h.ch fun j hj e => absurd e (by omega)

theorem hp_putObj {w : World} {D k : Nat} {o : Obj} (h : k ≠ D) : (w.putObj D o).heap[k]? = w.heap[k]? := World.putObj_heap_other h
theorem Ch.putObj {S : Nat → Prop} {w w' : World} (h : Ch S w w') {D : Nat} (hD : S D ∨ w.heap.size ≤ D) (o : Obj) : Ch S w (w'.putObj D o) :=
  h.trans' (Ch.of_grown (grownBy_putObj' w' D o)) fun j hj e => by
    cases e
    exact hD.resolve_right (by omega)
/-- what a round that goes on keeps -/
def KpS (S : Nat → Prop) (n0 : Nat) (W W' : World) : Prop := Ch (fun k => S k ∨ n0 ≤ k) W W'
/-- an iterator: what enc says of the numbers of seq, in their order, as long as it is asked to go on -/
structure Iter (P : Program) (gf : FuncId) (lb : List Value) (k : Nat) (enc : Nat → List Value) (seq : List Nat) (S : Nat → Prop) (w : World) : Prop where
  size : ∀ x, (enc x).length = k
  ent : ∀ args w, (callFunc gf args).run P w = .ok (.enter gf args) w
  run : ∀ (l : Nat) (J Jx : List Nat → World → Prop) (W : World), Ch Nw w W → (∀ pre W1 W2, J pre W1 → Ch Nw W1 W2 → J pre W2) → (∀ pre W1 W2, Jx pre W1 → Ch Nw W1 W2 → Jx pre W2) →
    (∀ pre x W1, J pre W1 → pre.length < seq.length → YieldW P l (enc x).toArray W1 fun v W' => (v = .bool true ∧ J (pre ++ [x]) W' ∧ KpS S w.heap.size W1 W') ∨ (v = .bool false ∧ Jx (pre ++ [x]) W')) →
    J [] W → Ret P gf (.func (.yield l) #[] #[] :: lb).toArray W fun _ W' => J seq W' ∨ ∃ k, k ≤ seq.length ∧ Jx (seq.take k) W'

theorem yieldW_of {P : Program} {m l : Nat} {args : Array Value} {W : World} {R : Ending → World → Prop} (h : YieldAt Fence.wide m P l args W R) : YieldAt Fence.wide 0 P l args W R := by
  obtain ⟨fn, tmps, a, b, h1, h2⟩ := h
  exact ⟨fn, tmps, a, b, h1, h2.1, fun c cs _ => h2.2 c cs (room_wide _)⟩
theorem Iter.stops {P : Program} {gf : FuncId} {lb : List Value} {k : Nat} {enc : Nat → List Value} {seq : List Nat} {S : Nat → Prop} {w : World} (h : Iter P gf lb k enc seq S w) (m : Nat) :
    SeqStopsK Fence.wide m P gf lb.toArray (fun x => (enc x).toArray) (KpS S w.heap.size) (fun xs => xs = seq) (fun pre => ∃ k, k ≤ seq.length ∧ pre = seq.take k) seq.length w := by
  intro l J Jx W hW hJ hJx hY h0
  have hg : ∀ W1 W2, Ch Nw W1 W2 → W1.grownBy W2 none := fun W1 W2 hc => ⟨hc.os, hc.tape, hc.output, hc.size, fun k hk _ => hc.block k hk id⟩
  have hw : Ch Nw w W := ⟨hW.os, hW.tape, hW.output, hW.size, fun k hk _ => hW.block k hk⟩
  have := h.run l J Jx W hw (fun pre W1 W2 hj hc => hJ pre W1 W2 none hj (hg _ _ hc) fun r e => by cases e) (fun pre W1 W2 hj hc => hJx pre W1 W2 none hj (hg _ _ hc) fun r e => by cases e) (fun pre x W1 hj hl => ?_) h0
  · rw [show #[Value.func (.yield l) #[] #[]] ++ lb.toArray = (.func (.yield l) #[] #[] :: lb).toArray by simp]
    refine callsIn_wide.2 (Calls.mono this.calls ?_)
    rintro e W' ⟨v, rfl, hv⟩
    refine ⟨⟨v, rfl⟩, ?_⟩
    rcases hv with hv | ⟨k, hk, hv⟩
    · exact .inl ⟨_, rfl, hv⟩
    · exact .inr ⟨_, ⟨k, hk, rfl⟩, hv⟩
  · obtain ⟨fn, tmps, a, b, h1, h2⟩ := yieldW_of (hY pre x W1 hj hl)
    refine ⟨fn, tmps, a, b, h1, RoundIn.mono h2 ?_⟩
    rintro e W' (⟨rfl, h3, h4⟩ | ⟨rfl, h3⟩)
    · exact ⟨_, rfl, .inl ⟨rfl, h3, h4⟩⟩
    · exact ⟨_, rfl, .inr ⟨rfl, h3⟩⟩

/-- yield's parameters, set -/
def updA (f : Nat → Value) : List Tmp → List Value → (Nat → Value)
  | p :: ps, v :: vs => updA (upd f (some p) v) ps vs
  | _, _ => f
@[simp] theorem updA_nil (f : Nat → Value) (vs : List Value) : updA f [] vs = f := by unfold updA; rfl
@[simp] theorem updA_cons (f : Nat → Value) (p : Tmp) (ps : List Tmp) (v : Value) (vs : List Value) : updA f (p :: ps) (v :: vs) = updA (upd f (some p) v) ps vs := rfl
theorem tm_updA (n : Nat) : ∀ (ps : List Tmp) (vs : List Value) (f : Nat → Value), (ps.zip vs).foldl (fun t (p, v) => t.setIfInBounds p v) (tm n f) = tm n (updA f ps vs)
  | [], _, f => by simp
  | p :: ps, [], f => by simp [updA]
  | p :: ps, v :: vs, f => by
    rw [List.zip_cons_cons, List.foldl_cons, updA_cons, ← tm_updA n ps vs]
    simp only [tm_put]
/-- how a round's body may be left -/
def Bd (S : Nat → Prop) (W : World) (I : World → Prop) (Ix : Code → World → Prop) : Post
  | .normal, _, _, W' => Ch S W W' ∧ I W'
  | .ret, _, _, W' => Ch S W W' ∧ Ix .ret W'
  | .exit id, _, _, W' => Ch S W W' ∧ Ix (.exit id) W'
  | _, _, _, _ => False
section
variable (S : Nat → Prop) (W : World) (I : World → Prop) (Ix : Code → World → Prop) (ms : List Nat) (f : Nat → Value) (W' : World)
@[simp] theorem Bd_normal : Bd S W I Ix .normal ms f W' = (Ch S W W' ∧ I W') := rfl
@[simp] theorem Bd_ret : Bd S W I Ix .ret ms f W' = (Ch S W W' ∧ Ix .ret W') := rfl
@[simp] theorem Bd_exit (id : Nat) : Bd S W I Ix (.exit id) ms f W' = (Ch S W W' ∧ Ix (.exit id) W') := rfl
end
theorem keeps_of {S : Nat → Prop} {B : Nat} {W W' : World} (h : Ch S W W') (hS : ∀ k, S k → k < B) : KeepsFrom B W W' :=
  ⟨h.size, fun k o hB hk _ => h.obj hk fun e => by have := hS k e; omega⟩
/-- The rule. -/
theorem v_range {P : Program} {n : Nat} {Q : Post} {g : Operand} {ps : List Tmp} {assign body : Code} {ms : List Nat} {f : Nat → Value} {w w0 : World} {gf : FuncId} {lb : List Value} {k : Nat} {enc : Nat → List Value} {seq : List Nat} {S : Nat → Prop}
    (hit : Iter P gf lb k enc seq S w0) (hw : Ch Nw w0 w) (hg : ev n f g = .func (.func gf) #[] lb.toArray) (hk : ps.length = k) (hnr : (nr' assign && nr' body) = true) (hS : ∀ k, S k → k < w.heap.size)
    (I : List Nat → World → Prop) (Ix : Code → List Nat → World → Prop) (Ax : Nat → (Nat → Value) → World → Prop)
    (hI : ∀ pre W W', I pre W → Rec w.heap.size W W' → I pre W') (hIx : ∀ c pre W W', Ix c pre W → Rec w.heap.size W W' → Ix c pre W') (hAx : ∀ x f W W', Ax x f W → Rec w.heap.size W W' → Ax x f W') (h0 : I [] w)
    (hassign : ∀ pre x W, I pre W → VC P n (Then (At [] fun f' W' => Ch Nw W W' ∧ I pre W' ∧ Ax x f' W') fun _ _ _ _ => False) assign [] (updA f ps (enc x)) W)
    (hbody : ∀ pre x f' W, I pre W → Ax x f' W → VC P n (Bd S W (I (pre ++ [x])) fun c => Ix c (pre ++ [x])) body [] f' W)
    (hdone : ∀ D W, w.heap.size ≤ D → I seq W → W.heap[D]? = some (.deferred (some [])) → Q .normal (D :: ms) f W)
    (hstop : ∀ D c k W, w.heap.size ≤ D → k ≤ seq.length → Ix c (seq.take k) W → W.heap[D]? = some (.deferred (some [])) → VC P n Q c (D :: ms) f W) :
    VOther P n Q (.rangeFunc g ps.toArray assign body) ms f w := by
  unfold VOther
  intro cx hr
  simp only [Bool.and_eq_true] at hnr
  have hF : cx.F = Fence.wide := by
    obtain ⟨r, m, d⟩ := cx
    cases r with
    | none => rfl
    | some r => cases hr
  rw [hF]
  have hn0 := hw.size
  have key : (Code.rangeFunc g ps.toArray assign body).wpIn Fence.wide 3 P (up cx n Q) (act cx n ms f) w := by
    refine wpIn_rangeFunc_ownH rfl (by omega) (by rw [act_eval]; exact hg) trivial hit.ent (hit.stops 2) (fun h1 h2 => Ch.trans h1 h2)
      (fun W l o o' hl _ _ _ => Ch.mono (Ch.of_grown (grownBy_putObj' W l o')) fun j _ e => .inr (by cases e; omega)) hw.below (fun x => by simp [hit.size, hk]) I Ix
      (fun pre W W' row h1 h2 h3 => hI pre W W' h1 ⟨row, h2, h3⟩) (fun c pre W W' row h1 h2 h3 => hIx c pre W W' h1 ⟨row, h2, h3⟩) h0
      (fun x a' W => ∃ f', a' = ⟨tm n f', []⟩ ∧ Ax x f' W) (fun x a' _ W W' row h1 h2 h3 => by obtain ⟨f', e, h1⟩ := h1; exact ⟨f', e, hAx x f' W W' h1 ⟨row, h2, h3⟩⟩) ?_ ?_ ?_ ?_
    · intro l pre x W K h1 h2
      have := VC.sound (cx := ⟨some l, 1, []⟩) _ _ _ _ _ (.inr hnr.1) (hassign pre x W h1)
      have e1 : ((ps.toArray.zip (enc x).toArray).foldl (fun t (p, v) => t.setIfInBounds p v) (act cx n ms f).tmps) = tm n (updA f ps (enc x)) := by
        rw [List.zip_toArray, List.foldl_toArray]
        exact tm_updA n ps (enc x) f
      rw [e1]
      refine wpIn_mono this ?_
      rintro e a w' ⟨ms', f', rfl, hq⟩
      unfold Then at hq
      cases e with
      | normal =>
        unfold At at hq
        obtain ⟨rfl, h3, h4, h5⟩ := hq
        exact h2 _ _ (keeps_of h3 fun k hk => hk.elim) (h3.mono fun j _ e => e.elim) h4 ⟨f', rfl, h5⟩
      | _ => exact hq
    · rintro l pre x a' W hl _ h1 ⟨f', rfl, h2⟩ hlt
      refine wpIn_mono (VC.sound (cx := ⟨some l, 1, []⟩) _ _ _ _ _ (.inr hnr.2) (hbody pre x f' W h1 h2)) ?_
      rintro e a w' ⟨ms', f'', rfl, hq⟩
      cases e with
      | normal => exact ⟨keeps_of hq.1 hS, hq.1.mono fun j _ e => .inl e, hq.2⟩
      | ret => exact ⟨keeps_of hq.1 hS, hq.2⟩
      | exit id => exact ⟨keeps_of hq.1 hS, hq.2⟩
      | _ => exact hq.elim
    · rintro D xs W hD rfl h1 h2
      exact ⟨D :: ms, f, rfl, hdone D W hD h1 h2⟩
    · rintro D c pre W hD ⟨k, hk, rfl⟩ h1 h2
      exact VC.sound (cx := ⟨none, 3, cx.d⟩) c Q (D :: ms) f W (.inl rfl) (hstop D c k W hD hk h1 h2)
  exact fun b k cs h1 h2 _ => key b k cs h1 h2 (room_wide _)
end Go.Kin
