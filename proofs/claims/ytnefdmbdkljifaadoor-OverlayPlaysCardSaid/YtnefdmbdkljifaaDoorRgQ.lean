/- Ranges over a function whose order is not told ahead: the iterator by a contract, the caller by one rule. They speak of no program. No condition. -/
import Derived.Test.YtnefdmbdkljifaaDoorRng
set_option linter.unusedSimpArgs false
set_option linter.unusedVariables false

namespace Go.Kin
open Go Go.RowKit

/-- a row that an iterator's own walk over a map may be -/
def WalkRow (B : Nat) (W : World) (row : Option Nat) : Prop := ∀ r, row = some r → B ≤ r ∧ ∃ o : Obj, W.heap[r]? = some o ∧ o.isWalk = true
/-- what a round that goes on keeps: walks made since -/
def KpW (S : Nat → Prop) (n0 : Nat) (W W' : World) : Prop := Ch (fun k => S k ∨ (n0 ≤ k ∧ ∀ o, W.heap[k]? = some o → o.isWalk = false)) W W'
theorem KpW.trans {S : Nat → Prop} {n0 : Nat} {A B C : World} (h : KpW S n0 A B) (k : KpW S n0 B C) : KpW S n0 A C := by
  refine ⟨k.os.trans h.os, k.tape.trans h.tape, k.output.trans h.output, Nat.le_trans h.size k.size, fun j hj hn => ?_⟩
  have e1 := h.block j hj hn
  refine (k.block j (Nat.lt_of_lt_of_le hj h.size) fun e => hn ?_).trans e1
  rcases e with e | ⟨e, e2⟩
  · exact .inl e
  · exact .inr ⟨e, fun o ho => e2 o (e1.trans ho)⟩
/-- an iterator: what it says of the elements of some row, as long as it is asked to go on -/
structure IterQ {α : Type} (P : Program) (gf : FuncId) (lb : List Value) (k : Nat) (enc : α → List Value) (Fn Pt : List α → Prop) (N : Nat) (S : Nat → Prop) (w : World) : Prop where
  size : ∀ x, (enc x).length = k
  ent : ∀ args w, (callFunc gf args).run P w = .ok (.enter gf args) w
  run : ∀ (l : Nat) (J Jx : List α → World → Prop) (W : World), Ch Nw w W → (∀ pre W1 W2 row, J pre W1 → W1.grownBy W2 row → WalkRow W.heap.size W1 row → J pre W2) → (∀ pre W1 W2 row, Jx pre W1 → W1.grownBy W2 row → WalkRow W.heap.size W1 row → Jx pre W2) →
    (∀ pre x W1, J pre W1 → pre.length < N → YieldW P l (enc x).toArray W1 fun v W' => (v = .bool true ∧ J (pre ++ [x]) W' ∧ KpW S w.heap.size W1 W') ∨ (v = .bool false ∧ Jx (pre ++ [x]) W')) →
    J [] W → Ret P gf (.func (.yield l) #[] #[] :: lb).toArray W fun _ W' => (∃ xs, Fn xs ∧ J xs W') ∨ ∃ pre, Pt pre ∧ Jx pre W'
section
variable {α : Type} {P : Program} {gf : FuncId} {lb : List Value} {k : Nat} {enc : α → List Value} {Fn Pt : List α → Prop} {N : Nat} {S : Nat → Prop} {w : World}
theorem IterQ.stops (h : IterQ P gf lb k enc Fn Pt N S w) (m : Nat) :
    SeqStopsK Fence.wide m P gf lb.toArray (fun x => (enc x).toArray) (KpW S w.heap.size) Fn Pt N w := by
  intro l J Jx W hW hJ hJx hY h0
  have hw : Ch Nw w W := ⟨hW.os, hW.tape, hW.output, hW.size, fun k hk _ => hW.block k hk⟩
  have := h.run l J Jx W hw (fun pre W1 W2 row hj hg hr => hJ pre W1 W2 row hj hg hr) (fun pre W1 W2 row hj hg hr => hJx pre W1 W2 row hj hg hr) (fun pre x W1 hj hl => ?_) h0
  · rw [show #[Value.func (.yield l) #[] #[]] ++ lb.toArray = (.func (.yield l) #[] #[] :: lb).toArray by simp]
    refine callsIn_wide.2 (Calls.mono this.calls ?_)
    rintro e W' ⟨v, rfl, hv⟩
    exact ⟨⟨v, rfl⟩, hv⟩
  · obtain ⟨fn, tmps, a, b, h1, h2⟩ := yieldW_of (hY pre x W1 hj hl)
    refine ⟨fn, tmps, a, b, h1, RoundIn.mono h2 ?_⟩
    rintro e W' (⟨rfl, h3, h4⟩ | ⟨rfl, h3⟩)
    · exact ⟨_, rfl, .inl ⟨rfl, h3, h4⟩⟩
    · exact ⟨_, rfl, .inr ⟨rfl, h3⟩⟩
/-- what a round's body may change -/
def SC (S : Nat → Prop) (B : Nat) (W : World) : Nat → Prop := fun k => S k ∨ (B ≤ k ∧ ∀ o, W.heap[k]? = some o → o.isCells = true)
/-- how a round's body may be left -/
def BdC (S : Nat → Prop) (B : Nat) (W : World) (I : World → Prop) (Ix : Code → World → Prop) : Post
  | .normal, _, _, W' => Ch (SC S B W) W W' ∧ I W'
  | .ret, _, _, W' => Ch (SC S B W) W W' ∧ Ix .ret W'
  | .exit id, _, _, W' => Ch (SC S B W) W W' ∧ Ix (.exit id) W'
  | _, _, _, _ => False
@[simp] theorem BdC_normal (S : Nat → Prop) (B : Nat) (W : World) (I : World → Prop) (Ix : Code → World → Prop) (ms : List Nat) (f : Nat → Value) (W' : World) : BdC S B W I Ix .normal ms f W' = (Ch (SC S B W) W W' ∧ I W') := rfl
@[simp] theorem BdC_ret (S : Nat → Prop) (B : Nat) (W : World) (I : World → Prop) (Ix : Code → World → Prop) (ms : List Nat) (f : Nat → Value) (W' : World) : BdC S B W I Ix .ret ms f W' = (Ch (SC S B W) W W' ∧ Ix .ret W') := rfl
@[simp] theorem BdC_exit (S : Nat → Prop) (B : Nat) (W : World) (I : World → Prop) (Ix : Code → World → Prop) (id : Nat) (ms : List Nat) (f : Nat → Value) (W' : World) : BdC S B W I Ix (.exit id) ms f W' = (Ch (SC S B W) W W' ∧ Ix (.exit id) W') := rfl
theorem keeps_ofC {B : Nat} {W W' : World} (h : Ch (SC S B W) W W') (hS : ∀ k, S k → k < B) : KeepsFrom B W W' :=
  ⟨h.size, fun k o hB hk hc => h.obj hk fun e => by
    rcases e with e | ⟨_, e⟩
    · have := hS k e; omega
    · rw [e o hk] at hc; cases hc⟩
theorem cells_walk {o : Obj} (h : o.isCells = true) : o.isWalk = false := by
  cases hw : o.isWalk with
  | false => rfl
  | true => rw [Obj.not_cells_of_walk hw] at h; cases h
theorem v_rangeQ {n : Nat} {Q : Post} {g : Operand} {ps : List Tmp} {assign body : Code} {ms : List Nat} {f : Nat → Value} {w0 : World}
    (hit : IterQ P gf lb k enc Fn Pt N S w0) (hw : Ch Nw w0 w) (hg : ev n f g = .func (.func gf) #[] lb.toArray) (hk : ps.length = k) (hnr : (nr' assign && nr' body) = true) (hS : ∀ k, S k → k < w.heap.size)
    (I : List α → World → Prop) (Ix : Code → List α → World → Prop) (Ax : α → (Nat → Value) → World → Prop)
    (hI : ∀ pre W W', I pre W → Rec w.heap.size W W' → I pre W') (hIx : ∀ c pre W W', Ix c pre W → Rec w.heap.size W W' → Ix c pre W') (hAx : ∀ x f W W', Ax x f W → Rec w.heap.size W W' → Ax x f W') (h0 : I [] w)
    (hassign : ∀ pre x W, I pre W → VC P n (Then (At [] fun f' W' => Ch Nw W W' ∧ I pre W' ∧ Ax x f' W') fun _ _ _ _ => False) assign [] (updA f ps (enc x)) W)
    (hbody : ∀ pre x f' W, I pre W → Ax x f' W → pre.length < N → VC P n (BdC S w.heap.size W (I (pre ++ [x])) fun c => Ix c (pre ++ [x])) body [] f' W)
    (hdone : ∀ D xs W, w.heap.size ≤ D → Fn xs → I xs W → W.heap[D]? = some (.deferred (some [])) → Q .normal (D :: ms) f W)
    (hstop : ∀ D c pre W, w.heap.size ≤ D → Pt pre → Ix c pre W → W.heap[D]? = some (.deferred (some [])) → VC P n Q c (D :: ms) f W) :
    VOther P n Q (.rangeFunc g ps.toArray assign body) ms f w := by
  unfold VOther
  intro cx hr
  simp only [Bool.and_eq_true] at hnr
  have hF : cx.F = Fence.wide := by
    obtain ⟨r, m, d⟩ := cx
    cases r with
    | none => rfl
    | some r => cases hr
  rw [hF]
  have hn0 := hw.size
  have key : (Code.rangeFunc g ps.toArray assign body).wpIn Fence.wide 3 P (up cx n Q) (act cx n ms f) w := by
    refine wpIn_rangeFunc_ownH rfl (by omega) (by rw [act_eval]; exact hg) trivial hit.ent (hit.stops 2) (fun h1 h2 => KpW.trans h1 h2)
      (fun W l o o' hl ho hc hwk => Ch.mono (Ch.of_grown (grownBy_putObj' W l o')) fun j _ e => .inr (by cases e; exact ⟨by omega, fun o2 h2 => by rw [ho] at h2; cases h2; exact hwk⟩)) hw.below (fun x => by simp [hit.size, hk]) I Ix
      (fun pre W W' row h1 h2 h3 => hI pre W W' h1 ⟨row, h2, h3⟩) (fun c pre W W' row h1 h2 h3 => hIx c pre W W' h1 ⟨row, h2, h3⟩) h0
      (fun x a' W => ∃ f', a' = ⟨tm n f', []⟩ ∧ Ax x f' W) (fun x a' _ W W' row h1 h2 h3 => by obtain ⟨f', e, h1⟩ := h1; exact ⟨f', e, hAx x f' W W' h1 ⟨row, h2, h3⟩⟩) ?_ ?_ ?_ ?_
    · intro l pre x W K h1 h2
      have := VC.sound (cx := ⟨some l, 1, []⟩) _ _ _ _ _ (.inr hnr.1) (hassign pre x W h1)
      have e1 : ((ps.toArray.zip (enc x).toArray).foldl (fun t (p, v) => t.setIfInBounds p v) (act cx n ms f).tmps) = tm n (updA f ps (enc x)) := by
        rw [List.zip_toArray, List.foldl_toArray]
        exact tm_updA n ps (enc x) f
      rw [e1]
      refine wpIn_mono this ?_
      rintro e a w' ⟨ms', f', rfl, hq⟩
      unfold Then at hq
      cases e with
      | normal =>
        unfold At at hq
        obtain ⟨rfl, h3, h4, h5⟩ := hq
        exact h2 _ _ (keeps_of h3 fun k hk => hk.elim) (h3.mono fun j _ e => e.elim) h4 ⟨f', rfl, h5⟩
      | _ => exact hq
    · rintro l pre x a' W hl _ h1 ⟨f', rfl, h2⟩ hlt
      refine wpIn_mono (VC.sound (cx := ⟨some l, 1, []⟩) _ _ _ _ _ (.inr hnr.2) (hbody pre x f' W h1 h2 hlt)) ?_
      rintro e a w' ⟨ms', f'', rfl, hq⟩
      cases e with
      | normal => exact ⟨keeps_ofC hq.1 hS, hq.1.mono fun j _ e => e.imp id fun e => ⟨by omega, fun o ho => cells_walk (e.2 o ho)⟩, hq.2⟩
      | ret => exact ⟨keeps_ofC hq.1 hS, hq.2⟩
      | exit id => exact ⟨keeps_ofC hq.1 hS, hq.2⟩
      | _ => exact hq.elim
    · rintro D xs W hD hxs h1 h2
      exact ⟨D :: ms, f, rfl, hdone D xs W hD hxs h1 h2⟩
    · rintro D c pre W hD hk h1 h2
      exact VC.sound (cx := ⟨none, 3, cx.d⟩) c Q (D :: ms) f W (.inl rfl) (hstop D c pre W hD hk h1 h2)
  exact fun b k cs h1 h2 _ => key b k cs h1 h2 (room_wide _)
end
end Go.Kin
