/- A walk by rewriting: the code of a function as a condition on its slots, given as a function from numbers to values, that simp lays open operation by operation; it implies the library's own Code.wp. And a statement whose order Go leaves open, by one walk in one order. It speaks of no program. No condition. -/
import Derived.Test.YtnefdmbdkljifaaGreatDoorBase
import Derived.Deep.LoopGhost
import Derived.Sort.LoopGhostIn
import Derived.OrdersIn
import Derived.TacticsIn
import Derived.RangeFuncCalls
import Derived.RangeFuncWrites
import Derived.RangeFuncLeaves
set_option linter.unusedSimpArgs false
set_option linter.unusedVariables false

namespace Go.Kin
open Go Go.RowKit

/-- An equation that simp is to use as a theorem, not as a computation. -/
theorem nr {α : Sort _} {a b : α} (h : a = b) : a = b := h
/-- Where code runs: in no round of a range over a function, or in one; what is to be done when the function is left. -/
structure Cx where
  r : Option Nat
  m : Nat
  d : List Deferred
def Cx.F (cx : Cx) : Fence := match cx.r with
  | none => Fence.wide
  | some l => Fence.wide.inRound l
theorem Cx.fn (cx : Cx) (g : FuncId) : cx.F.fn g := by
  obtain ⟨r, m, d⟩ := cx
  cases r <;> exact trivial
theorem Cx.depth (cx : Cx) : cx.F.depth = none := by
  obtain ⟨r, m, d⟩ := cx
  cases r <;> rfl
theorem Cx.calls (cx : Cx) (k : Nat) {P : Program} {f : FuncId} {args : Array Value} {w : World} {R : Ending → World → Prop} (h : Calls P f args w R) : CallsIn cx.F k P f args w R := by
  obtain ⟨r, m, d⟩ := cx
  cases r with
  | none => exact callsIn_wide.2 h
  | some l => exact CallsIn.inRound l (callsIn_wide.2 h)
/-- The slots of a frame as a function. -/
def tm (n : Nat) (f : Nat → Value) : Array Value := Array.ofFn fun i : Fin n => f i.1
/-- The marks that ranges over a function have left. -/
def marks (ms : List Nat) : List Deferred := ms.map fun D => { target := .collected D, args := #[] }
def act (cx : Cx) (n : Nat) (ms : List Nat) (f : Nat → Value) : Act := ⟨tm n f, marks ms ++ cx.d⟩
def upd (f : Nat → Value) (d : Option Nat) (v : Value) : Nat → Value := fun i => if d = some i then v else f i
@[simp] theorem upd_some (f : Nat → Value) (d : Nat) (v : Value) (i : Nat) : upd f (some d) v i = if d = i then v else f i := by
  unfold upd; simp
@[simp] theorem upd_none (f : Nat → Value) (v : Value) : upd f none v = f := by funext i; simp [upd]
theorem act_get (n : Nat) (f : Nat → Value) (t : Nat) : (tm n f)[t]? = if t < n then some (f t) else none := by
  unfold tm
  by_cases h : t < n <;> simp [h]
theorem tm_put (n : Nat) (f : Nat → Value) (d : Nat) (v : Value) : (tm n f).setIfInBounds d v = tm n (upd f (some d) v) := by
  apply Array.ext_getElem?
  intro i
  rw [Array.getElem?_setIfInBounds, act_get, act_get, upd_some]
  have hs : (tm n f).size = n := by simp [tm]
  rw [hs]
  by_cases h : d = i
  · subst h; by_cases h' : d < n <;> simp [h']
  · simp [h]
theorem act_put (cx : Cx) (n : Nat) (ms : List Nat) (f : Nat → Value) (d : Option Nat) (v : Value) : (act cx n ms f).put d v = act cx n ms (upd f d v) := by
  cases d with
  | none => simp [Act.put]
  | some d =>
    show (⟨(tm n f).setIfInBounds d v, marks ms ++ cx.d⟩ : Act) = ⟨_, _⟩
    rw [tm_put]
def ev (n : Nat) (f : Nat → Value) : Operand → Value
  | .tmp t => if t < n then f t else undef
  | .const v => v
  | .global g => .pointer (some ⟨g, 0, none⟩)
  | .func g => .func (.func g) #[] #[]
@[simp] theorem ev_tmp (n : Nat) (f : Nat → Value) (t : Nat) : ev n f (.tmp t) = if t < n then f t else undef := nr rfl
@[simp] theorem ev_const (n : Nat) (f : Nat → Value) (v : Value) : ev n f (.const v) = v := nr rfl
@[simp] theorem ev_global (n : Nat) (f : Nat → Value) (g : Nat) : ev n f (.global g) = .pointer (some ⟨g, 0, none⟩) := nr rfl
@[simp] theorem ev_func (n : Nat) (f : Nat → Value) (g : Nat) : ev n f (.func g) = .func (.func g) #[] #[] := nr rfl
theorem act_getD (n : Nat) (f : Nat → Value) (t : Nat) : (tm n f).getD t undef = if t < n then f t else undef := by
  rw [Array.getD_eq_getD_getElem?, act_get]
  split <;> rfl
theorem act_eval (cx : Cx) (n : Nat) (ms : List Nat) (f : Nat → Value) : (act cx n ms f).eval = ev n f := by
  funext x
  cases x with
  | tmp t => exact act_getD n f t
  | _ => rfl

/-- A call that returns. -/
def Ret (P : Program) (g : FuncId) (args : Array Value) (w : World) (R : Value → World → Prop) : Prop :=
  Calls P g args w fun e w' => ∃ v, e = .returned v ∧ R v w'
theorem Ret.calls {P : Program} {g : FuncId} {args : Array Value} {w : World} {R : Value → World → Prop} (h : Ret P g args w R) : Calls P g args w fun e w' => ∃ v, e = .returned v ∧ R v w' := h
theorem Ret.mono {P : Program} {g : FuncId} {args : Array Value} {w : World} {R R' : Value → World → Prop} (h : Ret P g args w R) (hr : ∀ v w', R v w' → R' v w') : Ret P g args w R' :=
  Calls.mono h fun _ w' ⟨v, he, hv⟩ => ⟨v, he, hr v w' hv⟩

/-- A round of a range over a function. -/
def VRound (P : Program) (l : Nat) (g : FuncId) (tmps : Array Value) (x y : Code) (w : World) (K : Value → World → Prop) : Prop :=
  RoundIn Fence.wide 0 P l g tmps x y w fun e w' => ∃ v, e = .returned v ∧ K v w'
theorem VRound.mono {P : Program} {l : Nat} {g : FuncId} {tmps : Array Value} {x y : Code} {w : World} {K K' : Value → World → Prop} (hk : ∀ v w', K v w' → K' v w') (h : VRound P l g tmps x y w K) : VRound P l g tmps x y w K' :=
  RoundIn.mono h fun _ w' ⟨v, he, hv⟩ => ⟨v, he, hk v w' hv⟩
theorem Cx.round (cx : Cx) (k : Nat) {P : Program} {l : Nat} {g : FuncId} {tmps : Array Value} {x y : Code} {w : World} {R : Ending → World → Prop} (h : RoundIn Fence.wide 0 P l g tmps x y w R) : RoundIn cx.F k P l g tmps x y w R := by
  obtain ⟨r, m, d⟩ := cx
  cases r with
  | none => exact ⟨h.1, fun c cs _ => h.2 c cs (room_wide _)⟩
  | some r => exact ⟨h.1, fun c cs _ => h.2 c cs (room_wide _)⟩
/-- One operation. -/
def VX (P : Program) (ρ : Operand → Value) (o : Oper) (w : World) (K : Value → World → Prop) : Prop :=
  match (execOp ρ o).run P w with
  | .ok (.value v) w' => K v w'
  | .ok .skip w' => K undef w'
  | .ok (.enter g args) w' => Ret P g args w' K
  | .ok (.round l g tmps x y) w' => VRound P l g tmps x y w' K
  | _ => False
theorem VX.nodefer {P : Program} {ρ : Operand → Value} {o : Oper} {w : World} {K : Value → World → Prop} (h : VX P ρ o w K) (c : Call) : o.op ≠ .defer c := by
  intro ho
  obtain ⟨d, op, ty, pos, aft, g⟩ := o
  subst ho
  unfold VX at h
  have he : execOp ρ ⟨d, .defer c, ty, pos, aft, g⟩ = (do pure (.defer (← resolve ρ c ty))) := rfl
  rw [he] at h
  generalize resolve ρ c ty = s at h
  cases hr : s.run P w <;> simp [go_sem, hr] at h
theorem VX.sound {P : Program} {cx : Cx} {n : Nat} {ms : List Nat} {f : Nat → Value} {o : Oper} {w : World} {K : Value → World → Prop} {K' : Act → World → Prop} {Q : Exit → Act → World → Prop}
    (hk : ∀ v w', K v w' → K' (act cx n ms (upd f o.dst v)) w') (h : VX P (ev n f) o w K) : o.wpIn cx.F cx.m P (act cx n ms f) w K' Q := by
  refine ⟨fun g _ => cx.fn g, ?_⟩
  rw [Oper.semAt_eq _ _ _ h.nodefer, act_eval]
  unfold VX at h
  split at h
  · rename_i v w' he; rw [he, Oper.uponIn_value, act_put]; exact hk _ _ h
  · rename_i w' he; rw [he, Oper.uponIn_skip, act_put]; exact hk _ _ h
  · rename_i g args w' he
    rw [he, Oper.uponIn_enter]
    refine ⟨fun hd => (by rw [cx.depth] at hd; cases hd), cx.calls _ (Calls.mono h ?_)⟩
    rintro e w'' ⟨v, rfl, hv⟩
    show K' ((act cx n ms f).put o.dst v) w''
    rw [act_put]; exact hk _ _ hv
  · rename_i l g tmps x y w' he
    rw [he, Oper.uponIn_round]
    refine ⟨fun hd => (by rw [cx.depth] at hd; cases hd), cx.round _ (RoundIn.mono h ?_)⟩
    rintro e w'' ⟨v, rfl, hv⟩
    show K' ((act cx n ms f).put o.dst v) w''
    rw [act_put]; exact hk _ _ hv
  · exact h.elim
theorem VX.mono {P : Program} {ρ : Operand → Value} {o : Oper} {w : World} {K K' : Value → World → Prop} (hk : ∀ v w', K v w' → K' v w') (h : VX P ρ o w K) : VX P ρ o w K' := by
  unfold VX at *
  split at h
  · exact hk _ _ h
  · exact hk _ _ h
  · exact h.mono hk
  · exact VRound.mono hk h
  · exact h.elim
theorem VX_of_run {P : Program} {ρ : Operand → Value} {o : Oper} {w w' : World} {v : Value} {K : Value → World → Prop} (h : (execOp ρ o).run P w = .ok (.value v) w') (hk : K v w') : VX P ρ o w K := by
  unfold VX; rw [h]; exact hk

/-- Operations in a row. -/
def V (P : Program) (ops : Array Oper) (n : Nat) (Q : (Nat → Value) → World → Prop) : List Oper → (Nat → Value) → World → Prop
  | [], f, w => Q f w
  | o :: rest, f, w =>
    if Region.wanted o (yielded ops (tm n f)) then VX P (ev n f) o w (fun v w' => V P ops n Q rest (upd f o.dst v) w')
    else V P ops n Q rest (upd f o.dst undef) w
theorem V.sound {P : Program} {ops : Array Oper} {cx : Cx} {n : Nat} {ms : List Nat} {Q : Exit → Act → World → Prop} {Q' : (Nat → Value) → World → Prop} (hq : ∀ f w, Q' f w → Q .normal (act cx n ms f) w) :
    ∀ (l : List Oper) (f : Nat → Value) (w : World), V P ops n Q' l f w → wpListIn cx.F cx.m P ops Q l (act cx n ms f) w
  | [], f, w, h => hq f w h
  | o :: rest, f, w, h => by
    refine wpListIn_step fun K hK => ?_
    unfold V at h
    split at h
    · rename_i hw
      rw [if_pos (show Region.wanted o (yielded ops (act cx n ms f).tmps) = true from hw)]
      exact h.sound fun v w' hv => hK _ _ (V.sound hq rest _ _ hv)
    · rename_i hw
      rw [if_neg (show ¬ Region.wanted o (yielded ops (act cx n ms f).tmps) = true from hw), act_put]
      exact ⟨fun g _ => cx.fn g, hK _ _ (V.sound hq rest _ _ h)⟩
/-- What follows an operation, as a constant: simp finds nothing to lay open in it. -/
def VK (P : Program) (ops : Array Oper) (n : Nat) (Q : (Nat → Value) → World → Prop) (rest : List Oper) (f : Nat → Value) (d : Option Tmp) (v : Value) (w : World) : Prop := V P ops n Q rest (upd f d v) w
@[simp] theorem VK_app (P : Program) (ops : Array Oper) (n : Nat) (Q : (Nat → Value) → World → Prop) (rest : List Oper) (f : Nat → Value) (d : Option Tmp) (v : Value) (w : World) : VK P ops n Q rest f d v w = V P ops n Q rest (upd f d v) w := nr rfl
@[simp] theorem V_nil (P : Program) (ops : Array Oper) (n : Nat) (Q : (Nat → Value) → World → Prop) (f : Nat → Value) (w : World) : V P ops n Q [] f w = Q f w := nr rfl
@[simp] theorem V_cons (P : Program) (ops : Array Oper) (n : Nat) (Q : (Nat → Value) → World → Prop) (d : Option Tmp) (op : Op) (ty : TypeId) (pos : String) (aft : Array Edge) (rest : List Oper) (f : Nat → Value) (w : World) :
    V P ops n Q (⟨d, op, ty, pos, aft, none⟩ :: rest) f w = VX P (ev n f) ⟨d, op, ty, pos, aft, none⟩ w (VK P ops n Q rest f d) := by
  show (if _ then _ else _) = _
  rw [if_pos (by simp [Region.wanted])]
  rfl

/-- Code. -/
abbrev Post := Exit → List Nat → (Nat → Value) → World → Prop
abbrev Nxt := List Nat → (Nat → Value) → World → Prop
def Then (K : Nxt) (Q : Post) : Post
  | .normal, ms, f, w => K ms f w
  | e, ms, f, w => Q e ms f w
/-- What holds where the marks are as they were. -/
def At (ms : List Nat) (I : (Nat → Value) → World → Prop) : Nxt := fun ms' f w => ms' = ms ∧ I f w
def InB (id : Nat) (Q : Post) : Post
  | .exit j, ms, f, w => if j = id then Q .normal ms f w else Q (.exit j) ms f w
  | e, ms, f, w => Q e ms f w
/-- Code without a range over a function. -/
def nr' : Code → Bool
  | .skip => true
  | .region .. => true
  | .seq a b => nr' a && nr' b
  | .cond _ a b => nr' a && nr' b
  | .block _ c => nr' c
  | .loop c => nr' c
  | .exit _ => true
  | .ret => true
  | _ => false
def up (cx : Cx) (n : Nat) (Q : Post) : Exit → Act → World → Prop := fun e a w => ∃ ms f, a = act cx n ms f ∧ Q e ms f w
def VLoop (P : Program) (n : Nat) (Q : Post) (c : Code) (ms : List Nat) (f : Nat → Value) (w : World) : Prop := ∀ cx : Cx, (cx.r = none ∨ nr' c = true) → (Code.loop c).wpIn cx.F cx.m P (up cx n Q) (act cx n ms f) w
def VDraw (P : Program) (n : Nat) (Q : Post) (id : Nat) (ops : Array Oper) (ms : List Nat) (f : Nat → Value) (w : World) : Prop := ∀ cx : Cx, (Code.region id ops true).wpIn cx.F cx.m P (up cx n Q) (act cx n ms f) w
def VOther (P : Program) (n : Nat) (Q : Post) (c : Code) (ms : List Nat) (f : Nat → Value) (w : World) : Prop := ∀ cx : Cx, cx.r = none → c.wpIn cx.F cx.m P (up cx n Q) (act cx n ms f) w
def VC (P : Program) (n : Nat) : Post → Code → Nxt
  | Q, .skip, ms, f, w => Q .normal ms f w
  | Q, .region _ ops false, ms, f, w => V P ops n (Q .normal ms) ops.toList f w
  | Q, .region id ops true, ms, f, w => VDraw P n Q id ops ms f w
  | Q, .seq a b, ms, f, w => VC P n (Then (VC P n Q b) Q) a ms f w
  | Q, .cond c a b, ms, f, w => (ev n f c = .bool true ∧ VC P n Q a ms f w) ∨ (ev n f c = .bool false ∧ VC P n Q b ms f w)
  | Q, .block id c, ms, f, w => VC P n (InB id Q) c ms f w
  | Q, .loop c, ms, f, w => VLoop P n Q c ms f w
  | Q, .exit id, ms, f, w => Q (.exit id) ms f w
  | Q, .ret, ms, f, w => Q .ret ms f w
  | Q, c, ms, f, w => VOther P n Q c ms f w

def VIf (P : Program) (n : Nat) (b : Value) (Q : Post) (x y : Code) (ms : List Nat) (f : Nat → Value) (w : World) : Prop := (b = .bool true ∧ VC P n Q x ms f w) ∨ (b = .bool false ∧ VC P n Q y ms f w)
theorem up_then {cx : Cx} {n : Nat} {K : Nxt} {K' : Act → World → Prop} {Q : Post} (h : ∀ ms f w, K ms f w → K' (act cx n ms f) w) (e : Exit) (a : Act) (w : World) (hu : up cx n (Then K Q) e a w) : Exit.then K' (up cx n Q) e a w := by
  obtain ⟨ms, f, rfl, hf⟩ := hu
  cases e
  case normal => exact h _ _ _ hf
  all_goals exact ⟨ms, f, rfl, hf⟩
theorem VC.sound {P : Program} {cx : Cx} {n : Nat} : ∀ (c : Code) (Q : Post) (ms : List Nat) (f : Nat → Value) (w : World), (cx.r = none ∨ nr' c = true) → VC P n Q c ms f w → c.wpIn cx.F cx.m P (up cx n Q) (act cx n ms f) w := by
  intro c
  induction c with
  | skip => exact fun Q ms f w _ h => wpIn_skip ⟨ms, f, rfl, h⟩
  | region id ops d =>
    intro Q ms f w _ h
    cases d with
    | true => exact h cx
    | false => exact wpIn_region_list (V.sound (fun f w hq => ⟨ms, f, rfl, hq⟩) _ _ _ h)
  | seq a b iha ihb =>
    intro Q ms f w hr h
    have ha : cx.r = none ∨ nr' a = true := hr.imp id fun h => by simp [nr'] at h; exact h.1
    have hb : cx.r = none ∨ nr' b = true := hr.imp id fun h => by simp [nr'] at h; exact h.2
    exact wpIn_seq (wpIn_mono (iha _ ms f w ha h) (up_then fun ms f w hw => ihb Q ms f w hb hw))
  | cond c a b iha ihb =>
    intro Q ms f w hr h
    have ha : cx.r = none ∨ nr' a = true := hr.imp id fun h => by simp [nr'] at h; exact h.1
    have hb : cx.r = none ∨ nr' b = true := hr.imp id fun h => by simp [nr'] at h; exact h.2
    rcases h with ⟨hc, h⟩ | ⟨hc, h⟩
    · exact wpIn_cond_true (by rw [act_eval]; exact hc) (iha Q ms f w ha h)
    · exact wpIn_cond_false (by rw [act_eval]; exact hc) (ihb Q ms f w hb h)
  | block id c ih =>
    intro Q ms f w hr h
    refine wpIn_block (wpIn_mono (ih _ ms f w hr h) ?_)
    rintro e a w ⟨ms, f, rfl, hf⟩
    cases e
    case exit j =>
      show if j = id then _ else _
      simp only [InB] at hf
      split <;> rename_i hj <;> simp only [hj, if_true, if_false] at hf <;> exact ⟨ms, f, rfl, hf⟩
    all_goals exact ⟨ms, f, rfl, hf⟩
  | loop c => exact fun Q ms f w hr h => h cx hr
  | rangeFunc => exact fun Q ms f w hr h => h cx (hr.resolve_right (by simp [nr']))
  | exit id => exact fun Q ms f w _ h => wpIn_exit ⟨ms, f, rfl, h⟩
  | scope => exact fun Q ms f w hr h => h cx (hr.resolve_right (by simp [nr']))
  | label => exact fun Q ms f w hr h => h cx (hr.resolve_right (by simp [nr']))
  | goto => exact fun Q ms f w hr h => h cx (hr.resolve_right (by simp [nr']))
  | ret => exact fun Q ms f w _ h => wpIn_ret ⟨ms, f, rfl, h⟩
  | refuse => exact fun Q ms f w hr h => h cx (hr.resolve_right (by simp [nr']))

section
variable (P : Program) (n : Nat) (Q : Post) (ms : List Nat) (f : Nat → Value) (w : World) (K : Nxt) (I : (Nat → Value) → World → Prop)
@[simp] theorem Then_normal : Then K Q .normal ms f w = K ms f w := nr rfl
@[simp] theorem Then_normal' : Then K Q .normal ms = K ms := nr rfl
@[simp] theorem Then_ret : Then K Q .ret ms f w = Q .ret ms f w := nr rfl
@[simp] theorem Then_exit (i : Nat) : Then K Q (.exit i) ms f w = Q (.exit i) ms f w := nr rfl
@[simp] theorem At_same : At ms I ms f w = I f w := propext ⟨fun h => h.2, fun h => ⟨rfl, h⟩⟩
@[simp] theorem At_same' : At ms I ms = I := funext fun f => funext fun w => At_same ms f w I
@[simp] theorem InB_normal (id : Nat) : InB id Q .normal ms f w = Q .normal ms f w := nr rfl
@[simp] theorem InB_ret (id : Nat) : InB id Q .ret ms f w = Q .ret ms f w := nr rfl
@[simp] theorem InB_exit (id j : Nat) : InB id Q (.exit j) ms f w = if j = id then Q .normal ms f w else Q (.exit j) ms f w := nr rfl
@[simp] theorem VC_skip : VC P n Q .skip ms f w = Q .normal ms f w := nr rfl
@[simp] theorem VC_region (id : Nat) (l : List Oper) : VC P n Q (.region id l.toArray false) ms f w = V P l.toArray n (Q .normal ms) l f w := nr rfl
@[simp] theorem VC_draw (id : Nat) (ops : Array Oper) : VC P n Q (.region id ops true) ms f w = VDraw P n Q id ops ms f w := nr rfl
@[simp] theorem VC_seq (a b : Code) : VC P n Q (.seq a b) ms f w = VC P n (Then (VC P n Q b) Q) a ms f w := nr rfl
@[simp] theorem VC_cond (c : Operand) (a b : Code) : VC P n Q (.cond c a b) ms f w = VIf P n (ev n f c) Q a b ms f w := nr rfl
@[simp] theorem VC_block (id : Nat) (c : Code) : VC P n Q (.block id c) ms f w = VC P n (InB id Q) c ms f w := nr rfl
@[simp] theorem VC_loop (c : Code) : VC P n Q (.loop c) ms f w = VLoop P n Q c ms f w := nr rfl
@[simp] theorem VC_range (g : Operand) (ps : Array Tmp) (a b : Code) : VC P n Q (.rangeFunc g ps a b) ms f w = VOther P n Q (.rangeFunc g ps a b) ms f w := nr rfl
@[simp] theorem VC_exit (id : Nat) : VC P n Q (.exit id) ms f w = Q (.exit id) ms f w := nr rfl
@[simp] theorem VC_ret : VC P n Q .ret ms f w = Q .ret ms f w := nr rfl
end
section
variable {P : Program} {n : Nat} {Q : Post} {x y : Code} {ms : List Nat} {f : Nat → Value} {w : World}
@[simp] theorem VIf_true : VIf P n (.bool true) Q x y ms f w = VC P n Q x ms f w := by simp [VIf]
@[simp] theorem VIf_false : VIf P n (.bool false) Q x y ms f w = VC P n Q y ms f w := by simp [VIf]
theorem VIf_intro {b : Bool} (ht : b = true → VC P n Q x ms f w) (hf : b = false → VC P n Q y ms f w) : VIf P n (.bool b) Q x y ms f w := by
  cases b
  · exact .inr ⟨rfl, hf rfl⟩
  · exact .inl ⟨rfl, ht rfl⟩
theorem VIf_dec {p : Prop} [Decidable p] (ht : p → VC P n Q x ms f w) (hf : ¬ p → VC P n Q y ms f w) : VIf P n (.bool (decide p)) Q x y ms f w :=
  VIf_intro (fun h => ht (of_decide_eq_true h)) (fun h => hf (of_decide_eq_false h))
end
/- Ways that meet again: what holds where they meet is proved of each, and what follows once. -/
theorem Then_mono {K K' : Nxt} {Q Q' : Post} (hk : ∀ ms f w, K ms f w → K' ms f w) (hq : ∀ e ms f w, Q e ms f w → Q' e ms f w) : ∀ e ms f w, Then K Q e ms f w → Then K' Q' e ms f w := by
  intro e ms f w h
  cases e
  case normal => exact hk _ _ _ h
  all_goals exact hq _ _ _ _ h
theorem InB_mono {id : Nat} {Q Q' : Post} (hq : ∀ e ms f w, Q e ms f w → Q' e ms f w) : ∀ e ms f w, InB id Q e ms f w → InB id Q' e ms f w := by
  intro e ms f w h
  cases e
  case exit j =>
    simp only [InB] at *
    split <;> rename_i hj <;> simp only [hj, if_true, if_false] at h <;> exact hq _ _ _ _ h
  all_goals exact hq _ _ _ _ h
theorem V.mono {P : Program} {ops : Array Oper} {n : Nat} {Q Q' : (Nat → Value) → World → Prop} (hq : ∀ f w, Q f w → Q' f w) : ∀ (l : List Oper) (f : Nat → Value) (w : World), V P ops n Q l f w → V P ops n Q' l f w
  | [], f, w, h => hq f w h
  | o :: rest, f, w, h => by
    unfold V at h ⊢
    split at h
    · rename_i hw
      rw [if_pos hw]
      exact h.mono fun v w' hv => V.mono hq rest _ _ hv
    · rename_i hw
      rw [if_neg hw]
      exact V.mono hq rest _ _ h
theorem up_mono {cx : Cx} {n : Nat} {Q Q' : Post} (hq : ∀ e ms f w, Q e ms f w → Q' e ms f w) : ∀ e a w, up cx n Q e a w → up cx n Q' e a w := by
  rintro e a w ⟨ms, f, rfl, h⟩
  exact ⟨ms, f, rfl, hq _ _ _ _ h⟩
theorem VC.mono {P : Program} {n : Nat} : ∀ (c : Code) {Q Q' : Post} (_ : ∀ e ms f w, Q e ms f w → Q' e ms f w) (ms : List Nat) (f : Nat → Value) (w : World), VC P n Q c ms f w → VC P n Q' c ms f w := by
  intro c
  induction c with
  | skip => exact fun hq ms f w h => hq _ _ _ _ h
  | region id ops d =>
    intro Q Q' hq ms f w h
    cases d with
    | true => exact fun cx => wpIn_mono (h cx) (up_mono hq)
    | false => exact V.mono (hq .normal ms) _ _ _ h
  | seq a b iha ihb => exact fun hq ms f w h => iha (Then_mono (fun ms f w h => ihb hq ms f w h) hq) ms f w h
  | cond c a b iha ihb =>
    intro Q Q' hq ms f w h
    rcases h with ⟨hc, h⟩ | ⟨hc, h⟩
    · exact .inl ⟨hc, iha hq ms f w h⟩
    · exact .inr ⟨hc, ihb hq ms f w h⟩
  | block id c ih => exact fun hq ms f w h => ih (InB_mono hq) ms f w h
  | loop c => exact fun hq ms f w h cx hr => wpIn_mono (h cx hr) (up_mono hq)
  | rangeFunc => exact fun hq ms f w h cx hr => wpIn_mono (h cx hr) (up_mono hq)
  | exit id => exact fun hq ms f w h => hq _ _ _ _ h
  | scope => exact fun hq ms f w h cx hr => wpIn_mono (h cx hr) (up_mono hq)
  | label => exact fun hq ms f w h cx hr => wpIn_mono (h cx hr) (up_mono hq)
  | goto => exact fun hq ms f w h cx hr => wpIn_mono (h cx hr) (up_mono hq)
  | ret => exact fun hq ms f w h => hq _ _ _ _ h
  | refuse => exact fun hq ms f w h cx hr => wpIn_mono (h cx hr) (up_mono hq)
theorem VIf.mono {P : Program} {n : Nat} {b : Value} {Q Q' : Post} {x y : Code} {ms : List Nat} {f : Nat → Value} {w : World} (hq : ∀ e ms f w, Q e ms f w → Q' e ms f w) (h : VIf P n b Q x y ms f w) : VIf P n b Q' x y ms f w := by
  rcases h with ⟨hc, h⟩ | ⟨hc, h⟩
  · exact .inl ⟨hc, VC.mono _ hq ms f w h⟩
  · exact .inr ⟨hc, VC.mono _ hq ms f w h⟩
theorem At.go {ms : List Nat} {I : (Nat → Value) → World → Prop} {K : Nxt} (h : ∀ f w, I f w → K ms f w) : ∀ ms' f w, At ms I ms' f w → K ms' f w := by
  rintro ms' f w ⟨rfl, hi⟩
  exact h f w hi
theorem v_meet {P : Program} {n : Nat} {b : Value} {Q : Post} {K : Nxt} {x y : Code} {ms : List Nat} {f : Nat → Value} {w : World} (I : (Nat → Value) → World → Prop) (h : VIf P n b (Then (At ms I) Q) x y ms f w) (hI : ∀ f w, I f w → K ms f w) : VIf P n b (Then K Q) x y ms f w :=
  VIf.mono (Then_mono (At.go hI) fun _ _ _ _ h => h) h
theorem v_meetB {P : Program} {n id : Nat} {b : Value} {Q : Post} {K : Nxt} {x y : Code} {ms : List Nat} {f : Nat → Value} {w : World} (I : (Nat → Value) → World → Prop) (h : VIf P n b (InB id (Then (At ms I) Q)) x y ms f w) (hI : ∀ f w, I f w → K ms f w) : VIf P n b (InB id (Then K Q)) x y ms f w :=
  VIf.mono (InB_mono (Then_mono (At.go hI) fun _ _ _ _ h => h)) h
theorem v_meetC {P : Program} {n : Nat} {Q : Post} {K : Nxt} {c : Code} {ms : List Nat} {f : Nat → Value} {w : World} (I : (Nat → Value) → World → Prop) (h : VC P n (Then (At ms I) Q) c ms f w) (hI : ∀ f w, I f w → K ms f w) : VC P n (Then K Q) c ms f w :=
  VC.mono _ (Then_mono (At.go hI) fun _ _ _ _ h => h) ms f w h
theorem v_meetS {P : Program} {n : Nat} {Q : Post} {a b c : Code} {ms : List Nat} {f : Nat → Value} {w : World} (I : (Nat → Value) → World → Prop) (h : VC P n (Then (At ms I) Q) (.seq a b) ms f w) (hI : ∀ f w, I f w → VC P n Q c ms f w) : VC P n Q (.seq a (.seq b c)) ms f w := by
  refine VC.mono a (fun e ms' f w h => ?_) ms f w h
  cases e with
  | normal => exact VC.mono b (fun e ms' f w h => by cases e with | normal => exact At.go hI ms' f w h | _ => exact h) ms' f w h
  | _ => exact h
/-- What a round hands on. -/
def Rnd (I : Nat → (Nat → Value) → World → Prop) (k : Nat) : (Nat → Value) → World → Prop := fun f w => ∃ k', k' < k ∧ I k' f w
theorem Rnd.intro {I : Nat → (Nat → Value) → World → Prop} {k : Nat} {f : Nat → Value} {w : World} (k' : Nat) (h : k' < k) (hi : I k' f w) : Rnd I k f w := ⟨k', h, hi⟩
/-- A loop, by what holds at each round's head; the number: at most so many rounds are to come. -/
theorem v_loop {P : Program} {n : Nat} {Q : Post} {c : Code} {ms : List Nat} {f : Nat → Value} {w : World} (I : Nat → (Nat → Value) → World → Prop) (k0 : Nat) (h0 : I k0 f w)
    (hs : ∀ J : Nat → (Nat → Value) → World → Prop, (∀ k f w, I k f w → J k f w) → ∀ k f w, I k f w → VC P n (Then (At ms (Rnd J k)) Q) c ms f w) : VLoop P n Q c ms f w := by
  intro cx hr
  refine wpIn_loop_ghost (fun k a w => ∃ f, a = act cx n ms f ∧ I k f w) k0 ⟨f, rfl, h0⟩ ?_
  rintro k a w ⟨f, rfl, hf⟩
  refine wpIn_mono (VC.sound _ _ _ _ _ hr (hs I (fun _ _ _ h => h) k f w hf)) (up_then ?_)
  rintro ms' f w ⟨rfl, k', hk, hi⟩
  exact ⟨k', hk, f, rfl, hi⟩

def VR (r : Result Value) (K : Value → World → Prop) : Prop := match r with | .ok v w => K v w | _ => False
/-- A run that must end well. -/
def VU (r : Result Unit) (K : World → Prop) : Prop := match r with | .ok _ w => K w | _ => False
@[simp] theorem VR_ok (v : Value) (w : World) (K : Value → World → Prop) : VR (.ok v w) K = K v w := nr rfl
@[simp] theorem VU_ok (v : Unit) (w : World) (K : World → Prop) : VU (.ok v w) K = K w := nr rfl
/- Values of many cells: loads, stores, new variables of a type of more than eight cells are laid open by what their block holds; what is smaller goes as the library's rules have it. -/
def szT (P : Program) (t : TypeId) (w : World) : Nat := match (sizeOf t).run P w with | .ok n _ => n | _ => 0
@[simp] theorem szT_eq (P : Program) (t : TypeId) (w : World) : szT P t w = match (sizeOf t).run P w with | .ok n _ => n | _ => 0 := nr rfl
/-- the cells of a type's zero value -/
def zc (P : Program) (t : TypeId) : Array Value := match (P.info? t).bind (·.zero) with | some v => v.cells | none => #[]
def VLd (P : Program) (t : TypeId) (v : Value) (w : World) (K : Value → World → Prop) : Prop := VR ((Instr.loadAt t v).run P w) K
def VSt (P : Program) (t : TypeId) (a v : Value) (w : World) (K : Value → World → Prop) : Prop := VU ((Instr.storeAt t a v).run P w) (K undef)
def VAl (P : Program) (t : TypeId) (w : World) (K : Value → World → Prop) : Prop := VR ((Instr.alloc t true (.tuple #[])).run P w) K
def VBld (P : Program) (t : TypeId) (parts : List (Nat × Value)) (w : World) (K : Value → World → Prop) : Prop := VR ((Instr.build t parts.toArray).run P w) K
/-- each is of one cell -/
def ones (us : Array Value) : Bool := us.all (·.oneCell')
def blit (cs : Array Value) (off : Nat) (us : Array Value) : Array Value := (cs.toList.take off ++ us.toList ++ cs.toList.drop (off + us.size)).toArray
theorem ones_of {l : List Value} (h : ∀ u ∈ l, u.oneCell' = true) : ones l.toArray = true := by
  show (l.toArray).all (·.oneCell') = true
  rw [Array.all_eq_true']
  intro u hu
  exact h u (by simpa using hu)
@[simp] theorem ones_bvs (l : List UInt8) : ones (bvs l).toArray = true := ones_of (bvs_one l)
section
variable (P : Program) (t : TypeId) (w : World) (K : Value → World → Prop)
@[simp] theorem VLd_small (v : Value) (h : szT P t w ≤ 8) : VLd P t v w K = VR ((Instr.loadAt t v).run P w) K := nr rfl
@[simp] theorem VSt_small (a v : Value) (h : szT P t w ≤ 8) : VSt P t a v w K = VU ((Instr.storeAt t a v).run P w) (K undef) := nr rfl
@[simp] theorem VAl_small (h : szT P t w ≤ 8) : VAl P t w K = VR ((Instr.alloc t true (.tuple #[])).run P w) K := nr rfl
@[simp] theorem VBld_small (parts : List (Nat × Value)) (h : szT P t w ≤ 8) : VBld P t parts w K = VR ((Instr.build t parts.toArray).run P w) K := nr rfl
def VLdO (g off : Nat) (o : Option Obj) : Prop := w.heap[g]? = o ∧ VLd P t (.pointer (some ⟨g, off, none⟩)) w K
def VStO (g off : Nat) (u : Value) (o : Option Obj) : Prop := w.heap[g]? = o ∧ VSt P t (.pointer (some ⟨g, off, none⟩)) u w K
@[simp] theorem VLd_big (g off : Nat) (h : 8 < szT P t w) : VLd P t (.pointer (some ⟨g, off, none⟩)) w K = VLdO P t w K g off (w.heap[g]?) := by simp [VLdO]
@[simp] theorem VSt_big (g off : Nat) (u : Value) (h : 8 < szT P t w) : VSt P t (.pointer (some ⟨g, off, none⟩)) u w K = VStO P t w K g off u (w.heap[g]?) := by simp [VStO]
variable {P t w} in
theorem sz_of_8 (h : 8 < szT P t w) : (sizeOf t).run P w = .ok (szT P t w) w := by
  simp only [szT, sizeOf, typeInfo, Sem.run_bind, run_program, Result.andThen_ok] at *
  cases hq : P.info? t with
  | none => simp [hq, Result.andThen] at h
  | some i => simp
@[simp] theorem VLdO_some (g off : Nat) (cs : Array Value) (T : TypeId) (fr : Nat × Nat) (h8 : 8 < szT P t w) (ha : (isAgg t).run P w = .ok true w) (hf : off + szT P t w ≤ cs.size) :
    VLdO P t w K g off (some (.cells cs T fr)) = (w.heap[g]? = some (.cells cs T fr) ∧ K (.agg (cs.extract off (off + szT P t w))) w) := by
  unfold VLdO
  refine propext (and_congr_right fun hb => ?_)
  have hz := sz_of_8 h8
  revert hz hf
  generalize szT P t w = n
  intro hf hz
  have hl : (loadCells ⟨g, off, none⟩ n).run P w = .ok (cs.extract off (off + n)) w := by
    have := run_loadCells_list (P := P) w ⟨g, off, none⟩ ((cs.toList.drop off).take n) fun j v hv => by
      rw [Addr.add_lit, cell_of_row w g _ cs T fr hb]
      rw [List.getElem?_take, List.getElem?_drop] at hv
      split at hv
      · simpa using hv
      · cases hv
    rw [show ((cs.toList.drop off).take n).length = n by simp; omega] at this
    rw [this]
    congr 1
    apply Array.ext'
    simp [Array.toList_extract, List.extract_eq_take_drop]
  unfold VLd VR
  simp [Instr.loadAt, Instr.sureAddr, loadVar, ha, hz, hl]
@[simp] theorem VStO_some (g off : Nat) (us cs : Array Value) (T : TypeId) (h8 : 8 < szT P t w) (hn : us.size = szT P t w) (hf : off + szT P t w ≤ cs.size) (h1 : ones us = true) :
    VStO P t w K g off (.agg us) (some (.cells cs T (0, 0))) = (w.heap[g]? = some (.cells cs T (0, 0)) ∧ K undef (w.setRow g (blit cs off us))) := by
  unfold VStO
  refine propext (and_congr_right fun hb => ?_)
  have hz := sz_of_8 h8
  rw [← hn] at hf hz
  have hs := run_storeCells_at P g off T us.toList 0 cs w hb (by simp; omega) (fun v hv => by
    have := Array.all_eq_true'.1 (show us.all (·.oneCell') = true from h1) v (by simpa using hv)
    exact this)
  unfold VSt VU
  simp [Instr.storeAt, Instr.sureAddr, storeVar, hz, Value.cells]
  simp at hs
  rw [hs]
  simp [blit]
@[simp] theorem VAl_big (h : 8 < szT P t w) (hz : (P.info? t).map (fun i => i.zero.isSome) = some true) : VAl P t w K = K (.pointer (some ⟨w.heap.size, 0, none⟩)) (w.alloc (.cells (zc P t) t)) := by
  unfold VAl VR
  cases hq : P.info? t with
  | none => simp [hq] at hz
  | some i =>
    cases hi : i.zero with
    | none => simp [hq, hi] at hz
    | some v => simp [Instr.alloc, zeroValue, typeInfo, hq, hi, newVar, newRow, zc]
end
/-- a result that lies in a variable -/
def VRc (P : Program) (t : TypeId) (v : Value) (w : World) (K : Value → World → Prop) : Prop := VR ((do loadVar t (← asAddr v) : Sem Value).run P w) K
@[simp] theorem VRc_small (P : Program) (t : TypeId) (v : Value) (w : World) (K : Value → World → Prop) (h : szT P t w ≤ 8) : VRc P t v w K = VR ((do loadVar t (← asAddr v) : Sem Value).run P w) K := nr rfl
@[simp] theorem VRc_big (P : Program) (t : TypeId) (a : Addr) (w : World) (K : Value → World → Prop) (h : 8 < szT P t w) : VRc P t (.pointer (some a)) w K = VLd P t (.pointer (some a)) w K := nr rfl
/-- Results. -/
def resSem (rs : Array ResultVar) (tmps : Array Value) : Sem Value := do
  let vs ← rs.mapM fun
    | .tmp t => pure (tmps.getD t undef)
    | .cell a t => do loadVar t (← asAddr (tmps.getD a undef))
  pure (if h : vs.size = 1 then vs[0] else .tuple vs)
def VRes (P : Program) (n : Nat) (rs : Array ResultVar) (f : Nat → Value) (w : World) (R : Value → World → Prop) : Prop :=
  ∃ v, (resSem rs (tm n f)).run P w = .ok v w ∧ R v w
/-- The way out: the blocks of the marks are shut. -/
def VLv : List Nat → World → (World → Prop) → Prop
  | [], w, K => K w
  | D :: ms, w, K => w.heap[D]? = some (.deferred (some [])) ∧ VLv ms (w.putObj D (.deferred none)) K
@[simp] theorem VLv_nil (w : World) (K : World → Prop) : VLv [] w K = K w := nr rfl
@[simp] theorem VLv_cons (D : Nat) (ms : List Nat) (w : World) (K : World → Prop) : VLv (D :: ms) w K = (w.heap[D]? = some (.deferred (some [])) ∧ VLv ms (w.putObj D (.deferred none)) K) := nr rfl
def VEnd (P : Program) (n : Nat) (fn : Func) (R : Value → World → Prop) : Post
  | .ret, ms, f, w => VLv ms w fun w => VRes P n fn.results f w R
  | .normal, ms, f, w => VLv ms w fun w => VRes P n fn.results f w R
  | _, _, _, _ => False
section
variable (P : Program) (n : Nat) (fn : Func) (R : Value → World → Prop) (f : Nat → Value) (w : World)
@[simp] theorem VEnd_ret : VEnd P n fn R .ret [] f w = VRes P n fn.results f w R := nr rfl
@[simp] theorem VEnd_normal : VEnd P n fn R .normal [] f w = VRes P n fn.results f w R := nr rfl
theorem VEnd_ret' (ms : List Nat) : VEnd P n fn R .ret ms f w = VLv ms w fun w => VRes P n fn.results f w R := nr rfl
theorem VEnd_normal' (ms : List Nat) : VEnd P n fn R .normal ms f w = VLv ms w fun w => VRes P n fn.results f w R := nr rfl
theorem VRes_0 : VRes P n #[] f w R = R (.tuple #[]) w := by simp [VRes, resSem]
theorem VRes_1 (t : Nat) : VRes P n #[.tmp t] f w R = R (ev n f (.tmp t)) w := by
  have h : (resSem #[.tmp t] (tm n f)).run P w = .ok (ev n f (.tmp t)) w := by simp [resSem, act_getD, - Array.getD_eq_getD_getElem?]
  simp [VRes, h]
theorem VRes_2 (t u : Nat) : VRes P n #[.tmp t, .tmp u] f w R = R (.tuple #[ev n f (.tmp t), ev n f (.tmp u)]) w := by
  have h : (resSem #[.tmp t, .tmp u] (tm n f)).run P w = .ok (.tuple #[ev n f (.tmp t), ev n f (.tmp u)]) w := by simp [resSem, act_getD, - Array.getD_eq_getD_getElem?]
  simp [VRes, h]
theorem VRes_3 (t u x : Nat) : VRes P n #[.tmp t, .tmp u, .tmp x] f w R = R (.tuple #[ev n f (.tmp t), ev n f (.tmp u), ev n f (.tmp x)]) w := by
  have h : (resSem #[.tmp t, .tmp u, .tmp x] (tm n f)).run P w = .ok (.tuple #[ev n f (.tmp t), ev n f (.tmp u), ev n f (.tmp x)]) w := by simp [resSem, act_getD, - Array.getD_eq_getD_getElem?]
  simp [VRes, h]
end
def ResK1 (R : Value → World → Prop) (w : World) (v : Value) (w' : World) : Prop := w' = w ∧ R v w
def ResK2 (R : Value → World → Prop) (w : World) (u v : Value) (w' : World) : Prop := w' = w ∧ R (.tuple #[u, v]) w
def ResK2' (R : Value → World → Prop) (w : World) (u v : Value) (w' : World) : Prop := w' = w ∧ R (.tuple #[v, u]) w
@[simp] theorem ResK1_app (R : Value → World → Prop) (w : World) (v : Value) (w' : World) : ResK1 R w v w' = (w' = w ∧ R v w) := nr rfl
@[simp] theorem ResK2_app (R : Value → World → Prop) (w : World) (u v : Value) (w' : World) : ResK2 R w u v w' = (w' = w ∧ R (.tuple #[u, v]) w) := nr rfl
@[simp] theorem ResK2'_app (R : Value → World → Prop) (w : World) (u v : Value) (w' : World) : ResK2' R w u v w' = (w' = w ∧ R (.tuple #[v, u]) w) := nr rfl
theorem VRes_c (P : Program) (n : Nat) (R : Value → World → Prop) (f : Nat → Value) (w : World) (a : Nat) (ty : TypeId) :
    VRes P n #[.cell a ty] f w R = VRc P ty (ev n f (.tmp a)) w (ResK1 R w) := by
  show _ = VR _ _
  unfold VRes VR
  simp only [resSem, List.mapM_toArray, List.mapM_cons, List.mapM_nil, act_getD, ev_tmp]
  simp only [Sem.run_bind, Sem.run_pure, Sem.run_map]
  cases h1 : (asAddr (if a < n then f a else undef)).run P w with
  | halt h w2 => simp
  | ok ad w2 =>
    simp only [Result.andThen_ok]
    cases h2 : (loadVar ty ad).run P w2 with
    | halt h w3 => simp
    | ok v w3 =>
      apply propext
      simp [ResK1]
      constructor
      · rintro ⟨_, ⟨rfl, hw⟩, h⟩; exact ⟨hw, h⟩
      · rintro ⟨hw, h⟩; exact ⟨_, ⟨rfl, hw⟩, h⟩
theorem VRes_tc (P : Program) (n : Nat) (R : Value → World → Prop) (f : Nat → Value) (w : World) (t a : Nat) (ty : TypeId) :
    VRes P n #[.tmp t, .cell a ty] f w R = VRc P ty (ev n f (.tmp a)) w (ResK2 R w (ev n f (.tmp t))) := by
  show _ = VR _ _
  unfold VRes VR
  simp only [resSem, List.mapM_toArray, List.mapM_cons, List.mapM_nil, act_getD, ev_tmp]
  simp only [Sem.run_bind, Sem.run_pure, Sem.run_map, Result.andThen_ok]
  cases h1 : (asAddr (if a < n then f a else undef)).run P w with
  | halt h w2 => simp
  | ok ad w2 =>
    simp only [Result.andThen_ok]
    cases h2 : (loadVar ty ad).run P w2 with
    | halt h w3 => simp
    | ok v w3 =>
      apply propext
      simp [ResK2]
      constructor
      · rintro ⟨_, ⟨rfl, hw⟩, h⟩; exact ⟨hw, h⟩
      · rintro ⟨hw, h⟩; exact ⟨_, ⟨rfl, hw⟩, h⟩
theorem VRes_ct (P : Program) (n : Nat) (R : Value → World → Prop) (f : Nat → Value) (w : World) (t a : Nat) (ty : TypeId) :
    VRes P n #[.cell a ty, .tmp t] f w R = VRc P ty (ev n f (.tmp a)) w (ResK2' R w (ev n f (.tmp t))) := by
  show _ = VR _ _
  unfold VRes VR
  simp only [resSem, List.mapM_toArray, List.mapM_cons, List.mapM_nil, act_getD, ev_tmp]
  simp only [Sem.run_bind, Sem.run_pure, Sem.run_map, Result.andThen_ok]
  cases h1 : (asAddr (if a < n then f a else undef)).run P w with
  | halt h w2 => simp
  | ok ad w2 =>
    simp only [Result.andThen_ok]
    cases h2 : (loadVar ty ad).run P w2 with
    | halt h w3 => simp
    | ok v w3 =>
      apply propext
      simp [ResK2']
      constructor
      · rintro ⟨_, ⟨rfl, hw⟩, h⟩; exact ⟨hw, h⟩
      · rintro ⟨hw, h⟩; exact ⟨_, ⟨rfl, hw⟩, h⟩
def ResKc (P : Program) (ty : TypeId) (y : Value) (R : Value → World → Prop) (w : World) (v : Value) (w' : World) : Prop := VRc P ty y w' (ResK2 R w v)
@[simp] theorem ResKc_app (P : Program) (ty : TypeId) (y : Value) (R : Value → World → Prop) (w : World) (v : Value) (w' : World) : ResKc P ty y R w v w' = VRc P ty y w' (ResK2 R w v) := nr rfl
theorem VRes_cc (P : Program) (n : Nat) (R : Value → World → Prop) (f : Nat → Value) (w : World) (a b : Nat) (ta tb : TypeId) :
    VRes P n #[.cell a ta, .cell b tb] f w R = VRc P ta (ev n f (.tmp a)) w (ResKc P tb (ev n f (.tmp b)) R w) := by
  show _ = VR _ _
  unfold VRes VR
  simp only [resSem, List.mapM_toArray, List.mapM_cons, List.mapM_nil, act_getD, ev_tmp]
  simp only [Sem.run_bind, Sem.run_pure, Sem.run_map]
  cases h1 : (asAddr (if a < n then f a else undef)).run P w with
  | halt h w2 => simp
  | ok ad w2 =>
    simp only [Result.andThen_ok]
    cases h2 : (loadVar ta ad).run P w2 with
    | halt h w3 => simp
    | ok v w3 =>
      simp only [Result.andThen_ok]
      unfold ResKc VRc VR
      simp only [Sem.run_bind]
      cases h3 : (asAddr (if b < n then f b else undef)).run P w3 with
      | halt h w4 => simp
      | ok bd w4 =>
        simp only [Result.andThen_ok]
        cases h4 : (loadVar tb bd).run P w4 with
        | halt h w5 => simp
        | ok u w5 =>
          apply propext
          simp [ResK2]
          constructor
          · rintro ⟨_, ⟨rfl, hw⟩, h⟩; exact ⟨hw, h⟩
          · rintro ⟨hw, h⟩; exact ⟨_, ⟨rfl, hw⟩, h⟩
def argf (l : List Value) : Nat → Value := fun i => l.getD i undef
@[simp] theorem argf_at (l : List Value) (i : Nat) : argf l i = l.getD i undef := nr rfl
theorem act_args (args : Array Value) (n : Nat) (h : args.size ≤ n) : args ++ Array.replicate (n - args.size) undef = tm n (argf args.toList) := by
  apply Array.ext_getElem?
  intro i
  rw [act_get n (argf args.toList) i, Array.getElem?_append]
  unfold argf
  by_cases h1 : i < args.size
  · rw [if_pos h1, if_pos (by omega)]; simp [h1]
  · rw [if_neg h1, Array.getElem?_replicate]
    by_cases h3 : i < n
    · rw [if_pos h3, if_pos (by omega)]
      rw [List.getD_eq_getElem?_getD, List.getElem?_eq_none (by simpa using Nat.le_of_not_lt h1)]
      rfl
    · rw [if_neg h3, if_neg (by omega)]
theorem leaves_marks {P : Program} {n : Nat} {fn : Func} {f : Nat → Value} {R : Value → World → Prop} : ∀ (ms : List Nat) (w : World), VLv ms w (fun w => VRes P n fn.results f w R) → LeavesInM Fence.wide 0 P fn (tm n f) (fun e w' => ∃ v, e = .returned v ∧ R v w') (marks ms ++ []) .returning w
  | [], w, h => by
    obtain ⟨v, h1, h2⟩ := h
    exact ⟨v, h1, v, rfl, h2⟩
  | D :: ms, w, h => ⟨by simp, .inl ⟨D, _, rfl, run_takeDeferred h.1, leaves_marks ms _ h.2⟩⟩
/-- The way in. -/
theorem v_enter {P : Program} {g : FuncId} {fn : Func} {c : Code} {args : Array Value} {w : World} {R : Value → World → Prop} {n : Nat} (hf : P.funcs[g]? = some fn) (hn : fn.ntmps = n) (hb : fn.body = some c) (ha : args.size ≤ n)
    (h : ∀ R' : Value → World → Prop, (∀ v w', R v w' → R' v w') → VC P n (VEnd P n fn R') c [] (argf args.toList) w) : Ret P g args w R := by
  replace h := h R fun _ _ h => h
  refine (callsIn_wide (n := 0)).1 (callsIn_of_wp_marks hf hb trivial ?_ rfl)
  subst hn
  rw [act_args args _ ha]
  refine wpIn_mono (VC.sound (cx := ⟨none, 0, []⟩) _ _ _ _ _ (.inl rfl) h) ?_
  rintro e a w' ⟨ms, f, rfl, hq⟩
  cases e
  case normal => exact leaves_marks ms w' hq
  case ret => exact leaves_marks ms w' hq
  all_goals exact hq.elim

theorem VX_s {P : Program} {ρ : Operand → Value} {o : Oper} {w : World} {K : Value → World → Prop} {s : Sem Value} (h : execOp ρ o = (do pure (.value (← s)))) : VX P ρ o w K = VR (s.run P w) K := by
  unfold VX
  rw [h]
  simp only [Sem.run_bind, Sem.run_pure]
  cases s.run P w <;> rfl
theorem VX_u {P : Program} {ρ : Operand → Value} {o : Oper} {w : World} {K : Value → World → Prop} {s : Sem Unit} (h : execOp ρ o = (do s; pure .skip)) : VX P ρ o w K = VU (s.run P w) (K undef) := by
  unfold VX
  rw [h]
  simp only [Sem.run_bind, Sem.run_pure]
  cases s.run P w <;> rfl
section
variable (P : Program) (ρ : Operand → Value) (w : World) (K : Value → World → Prop) (d : Option Tmp) (ty : TypeId) (pos : String) (aft : Array Edge) (g : Option (Nat × Bool))
@[simp] theorem VX_move (x : Operand) : VX P ρ ⟨d, .move x, ty, pos, aft, g⟩ w K = K (ρ x) w := nr rfl
@[simp] theorem VX_assign (x : Operand) : VX P ρ ⟨d, .assign x, ty, pos, aft, g⟩ w K = K (ρ x) w := nr rfl
@[simp] theorem VX_pick (c a b : Operand) : VX P ρ ⟨d, .pick c a b, ty, pos, aft, g⟩ w K = VR ((do pure (if ← asBool (ρ c) then ρ a else ρ b) : Sem Value).run P w) K :=
  VX_s (by simp [execOp])
@[simp] theorem VX_alloc (e : TypeId) : VX P ρ ⟨d, .alloc e, ty, pos, aft, g⟩ w K = VAl P e w K := VX_s rfl
@[simp] theorem VX_box (e : TypeId) (x : Operand) : VX P ρ ⟨d, .box e x, ty, pos, aft, g⟩ w K = VR ((Instr.box e (ρ x)).run P w) K := VX_s rfl
@[simp] theorem VX_build (t : TypeId) (l : List (Nat × Operand)) : VX P ρ ⟨d, .build t l.toArray, ty, pos, aft, g⟩ w K = VBld P t (l.map fun (i, x) => (i, ρ x)) w K := VX_s (by simp [execOp])
@[simp] theorem VX_buildSlice (t : TypeId) (m : Nat) (l : List (Nat × Operand)) : VX P ρ ⟨d, .buildSlice t m l.toArray, ty, pos, aft, g⟩ w K = VR ((Instr.buildSlice t m (l.map fun (i, x) => (i, ρ x)).toArray).run P w) K := VX_s (by simp [execOp])
@[simp] theorem VX_load (t : TypeId) (x : Operand) : VX P ρ ⟨d, .load t x, ty, pos, aft, g⟩ w K = VLd P t (ρ x) w K := VX_s rfl
@[simp] theorem VX_store (t : TypeId) (a x : Operand) : VX P ρ ⟨d, .store t a x, ty, pos, aft, g⟩ w K = VSt P t (ρ a) (ρ x) w K := VX_u rfl
@[simp] theorem VX_binOp (op : BinOp) (t yt : TypeId) (x y : Operand) : VX P ρ ⟨d, .binOp op t x y yt, ty, pos, aft, g⟩ w K = VR ((do eqGuard op t x y (ρ x) (ρ y); binOp op t (ρ x) (ρ y) : Sem Value).run P w) K := VX_s rfl
@[simp] theorem VX_unOp (op : UnOp) (t : TypeId) (x : Operand) : VX P ρ ⟨d, .unOp op t x, ty, pos, aft, g⟩ w K = VR ((Op.unary op (ρ x)).run P w) K := VX_s rfl
@[simp] theorem VX_convert (s t : TypeId) (x : Operand) : VX P ρ ⟨d, .convert s t x, ty, pos, aft, g⟩ w K = VR ((convert s t (ρ x)).run P w) K := VX_s rfl
@[simp] theorem VX_slice (t : TypeId) (x : Operand) (l h m : Option Operand) : VX P ρ ⟨d, .slice t x l h m, ty, pos, aft, g⟩ w K = VR ((Instr.sliceAt t (ρ x) (l.map ρ) (h.map ρ) (m.map ρ)).run P w) K := VX_s rfl
@[simp] theorem VX_fieldAddr (t : TypeId) (x : Operand) (i : Nat) : VX P ρ ⟨d, .fieldAddr t x i, ty, pos, aft, g⟩ w K = VR ((Instr.fieldAt t (ρ x) i).run P w) K := VX_s rfl
@[simp] theorem VX_field (t : TypeId) (x : Operand) (i : Nat) : VX P ρ ⟨d, .field t x i, ty, pos, aft, g⟩ w K = VR ((Instr.field t (ρ x) i).run P w) K := VX_s rfl
@[simp] theorem VX_indexAddr (t : TypeId) (x i : Operand) : VX P ρ ⟨d, .indexAddr t x i, ty, pos, aft, g⟩ w K = VR ((Instr.indexAt t (ρ x) (ρ i)).run P w) K := VX_s rfl
@[simp] theorem VX_index (t : TypeId) (x i : Operand) : VX P ρ ⟨d, .index t x i, ty, pos, aft, g⟩ w K = VR ((Instr.index t (ρ x) (ρ i)).run P w) K := VX_s rfl
@[simp] theorem VX_extract (x : Operand) (i : Nat) : VX P ρ ⟨d, .extract x i, ty, pos, aft, g⟩ w K = VR ((Instr.extract (ρ x) i).run P w) K := VX_s rfl
@[simp] theorem VX_makeMap (t : TypeId) (r : Option Operand) : VX P ρ ⟨d, .makeMap t r, ty, pos, aft, g⟩ w K = VR ((Instr.makeMap t (r.map ρ)).run P w) K := VX_s rfl
@[simp] theorem VX_makeFunc (fn : Fn) (l m : List Operand) : VX P ρ ⟨d, .makeFunc fn l.toArray m.toArray, ty, pos, aft, g⟩ w K = VR ((Instr.makeFunc fn (l.map ρ).toArray (m.map ρ).toArray).run P w) K := VX_s (by simp [execOp])
@[simp] theorem VX_makeInterface (t : TypeId) (x : Operand) : VX P ρ ⟨d, .makeInterface t x, ty, pos, aft, g⟩ w K = VR ((Instr.makeInterface t (ρ x)).run P w) K := VX_s rfl
@[simp] theorem VX_arrayAt (t : TypeId) (x : Operand) : VX P ρ ⟨d, .sliceToArrayPointer t x, ty, pos, aft, g⟩ w K = VR ((Instr.arrayAt t (ρ x)).run P w) K := VX_s rfl
@[simp] theorem VX_lookup (t : TypeId) (x i : Operand) (ok : Bool) : VX P ρ ⟨d, .lookup t x i ok, ty, pos, aft, g⟩ w K = VR ((Instr.lookup t (ρ x) (ρ i) ok).run P w) K := VX_s rfl
@[simp] theorem VX_mapUpdate (t : TypeId) (m k x : Operand) : VX P ρ ⟨d, .mapUpdate t m k x, ty, pos, aft, g⟩ w K = VU ((Instr.mapUpdate t (ρ m) (ρ k) (ρ x)).run P w) (K undef) := VX_u rfl
@[simp] theorem VX_insert (t : TypeId) (m k x : Operand) : VX P ρ ⟨d, .insert t m k x, ty, pos, aft, g⟩ w K = VU ((Instr.mapUpdate t (ρ m) (ρ k) (ρ x)).run P w) (K undef) := VX_u rfl
@[simp] theorem VX_makeSlice (t : TypeId) (x y : Operand) : VX P ρ ⟨d, .makeSlice t x y, ty, pos, aft, g⟩ w K = VR ((Instr.makeSlice t (ρ x) (ρ y)).run P w) K := VX_s rfl
/-- nilCheck -/
def VNil (P : Program) (v : Value) (w : World) (K : Value → World → Prop) : Prop := VX P (fun _ => v) ⟨none, .nilCheck (.tmp 0), 0, "", #[], none⟩ w K
@[simp] theorem VX_nilCheck (x : Operand) : VX P ρ ⟨d, .nilCheck x, ty, pos, aft, g⟩ w K = VNil P (ρ x) w K := by
  unfold VNil VX
  rfl
@[simp] theorem VNil_ptr (a : Addr) : VNil P (.pointer (some a)) w K = K (.pointer (some a)) w := by
  unfold VNil VX; simp [execOp]
@[simp] theorem VNil_iface (t : TypeId) (v : Value) : VNil P (.iface t v) w K = K (.iface t v) w := by
  unfold VNil VX; simp [execOp]
@[simp] theorem VNil_func (f : FuncId) (x y : Array Value) : VNil P (.func (.func f) x y) w K = K (.func (.func f) x y) w := by
  unfold VNil VX; simp [execOp]
/-- builtins -/
def VB (P : Program) (b : Builtin) (ts : Array TypeId) (ty : TypeId) (args : Array Value) (w : World) (K : Value → World → Prop) : Prop :=
  VR ((match b with
    | .append => Builtin.append_ ts ty args
    | .cap => Builtin.cap_ ts ty args
    | .clear => Builtin.clear_ ts ty args
    | .copy => Builtin.copy_ ts ty args
    | .delete => Builtin.delete_ ts ty args
    | .len => Builtin.len_ ts ty args
    | .max => Builtin.max_ ts ty args
    | .min => Builtin.min_ ts ty args
    | _ => stuck "no" : Sem Value).run P w) K
theorem VX_builtin (b : Builtin) (hb : b = .append ∨ b = .cap ∨ b = .clear ∨ b = .copy ∨ b = .delete ∨ b = .len ∨ b = .max ∨ b = .min) (l : List Operand) (ts : Array TypeId) :
    VX P ρ ⟨d, .call ⟨.builtin b, l.toArray, ts⟩, ty, pos, aft, g⟩ w K = VB P b ts ty (l.map ρ).toArray w K := by
  unfold VB
  refine VX_s ?_
  rcases hb with rfl | rfl | rfl | rfl | rfl | rfl | rfl | rfl <;> simp [execOp, resolve, invoke, builtin]
@[simp] theorem VX_append (l : List Operand) (ts : Array TypeId) : VX P ρ ⟨d, .call ⟨.builtin .append, l.toArray, ts⟩, ty, pos, aft, g⟩ w K = VB P .append ts ty (l.map ρ).toArray w K := VX_builtin _ _ _ _ _ _ _ _ _ _ (by simp) _ _
@[simp] theorem VX_copy (l : List Operand) (ts : Array TypeId) : VX P ρ ⟨d, .call ⟨.builtin .copy, l.toArray, ts⟩, ty, pos, aft, g⟩ w K = VB P .copy ts ty (l.map ρ).toArray w K := VX_builtin _ _ _ _ _ _ _ _ _ _ (by simp) _ _
@[simp] theorem VX_delete (l : List Operand) (ts : Array TypeId) : VX P ρ ⟨d, .call ⟨.builtin .delete, l.toArray, ts⟩, ty, pos, aft, g⟩ w K = VB P .delete ts ty (l.map ρ).toArray w K := VX_builtin _ _ _ _ _ _ _ _ _ _ (by simp) _ _
@[simp] theorem VX_clear (l : List Operand) (ts : Array TypeId) : VX P ρ ⟨d, .call ⟨.builtin .clear, l.toArray, ts⟩, ty, pos, aft, g⟩ w K = VB P .clear ts ty (l.map ρ).toArray w K := VX_builtin _ _ _ _ _ _ _ _ _ _ (by simp) _ _
@[simp] theorem VX_len (x : Operand) (t : TypeId) : VX P ρ ⟨d, .call ⟨.builtin .len, #[x], #[t]⟩, ty, pos, aft, g⟩ w K = VR ((Builtin.len_ #[t] ty #[ρ x]).run P w) K := (VX_builtin P ρ w K d ty pos aft g .len (by simp) [x] #[t])
@[simp] theorem VX_max (x y : Operand) (ts : Array TypeId) : VX P ρ ⟨d, .call ⟨.builtin .max, #[x, y], ts⟩, ty, pos, aft, g⟩ w K = VR ((Builtin.max_ ts ty #[ρ x, ρ y]).run P w) K := (VX_builtin P ρ w K d ty pos aft g .max (by simp) [x, y] ts)
@[simp] theorem VX_min (x y : Operand) (ts : Array TypeId) : VX P ρ ⟨d, .call ⟨.builtin .min, #[x, y], ts⟩, ty, pos, aft, g⟩ w K = VR ((Builtin.min_ ts ty #[ρ x, ρ y]).run P w) K := (VX_builtin P ρ w K d ty pos aft g .min (by simp) [x, y] ts)
/-- calls of a function value -/
def VCall (P : Program) (fv : Value) (args : List Value) (w : World) (K : Value → World → Prop) : Prop :=
  match (do let d ← Deferred.ofValue fv args.toArray; invoke d.target d.args : Sem Go.Next).run P w with
  | .ok (.value v) w' => K v w'
  | .ok .skip w' => K undef w'
  | .ok (.enter g args) w' => Ret P g args w' K
  | .ok (.round l g tmps x y) w' => VRound P l g tmps x y w' K
  | _ => False
@[simp] theorem VX_call (x : Operand) (l : List Operand) (ts : Array TypeId) : VX P ρ ⟨d, .call ⟨.value x, l.toArray, ts⟩, ty, pos, aft, g⟩ w K = VCall P (ρ x) (l.map ρ) w K := by
  unfold VX VCall
  simp [execOp, resolve]
@[simp] theorem VCall_func (f : FuncId) (args : List Value) (h : (callFunc f args.toArray).run P w = .ok (.enter f args.toArray) w) : VCall P (.func (.func f) #[] #[]) args w K = Ret P f args.toArray w K := by
  unfold VCall
  simp [Deferred.ofValue, invoke, h]
theorem VCall_closure (f : FuncId) (c : List Value) (args : List Value) (h : (callFunc f (args ++ c).toArray).run P w = .ok (.enter f (args ++ c).toArray) w) : VCall P (.func (.func f) #[] c.toArray) args w K = Ret P f (args ++ c).toArray w K := by
  unfold VCall
  simp [Deferred.ofValue, invoke, h]
/-- yield, called in the iterator -/
def YieldW (P : Program) (l : Nat) (args : Array Value) (w : World) (R : Value → World → Prop) : Prop := YieldAt Fence.wide 0 P l args w fun e w' => ∃ v, e = .returned v ∧ R v w'
theorem VCall_yield {l : Nat} {args : List Value} {R : Value → World → Prop} (h : YieldW P l args.toArray w R) (hk : ∀ v w', R v w' → K v w') : VCall P (.func (.yield l) #[] #[]) args w K := by
  obtain ⟨fn, tmps, x, y, hy, hr⟩ := h
  unfold VCall
  simp [Deferred.ofValue, invoke, hy]
  exact VRound.mono hk hr
end

attribute [simp] VRes_0 VRes_1 VRes_2 VRes_3 VRes_c VRes_tc VRes_ct VRes_cc

section
variable {P : Program} {w : World} {t e ty : TypeId} {z : Value} {bytes : Nat} {K : Value → World → Prop}
theorem VB_append {ts : Array TypeId} {args : Array Value} {v : Value} {w' : World} (h : (Builtin.append_ ts ty args).run P w = .ok v w') (hk : K v w') : VB P .append ts ty args w K := by
  show VR _ _
  simp only [h]
  exact hk
theorem VB_app1 (T : Ty1 P t e z bytes) {v : Value} {n : Nat} {xs : List Value} {u : Value}
    (hown : w.ownsRow 0 e 1 v n xs) (h1 : u.oneCell' = true) (h63 : n + 1 ≤ maxLen) (hbytes : (n + 1) * bytes ≤ 140737488355328)
    (h : ∀ v' w', w'.ownsRow 0 e 1 v' (n + 1) (xs ++ [u]) → Ch (fun k => v.ownBlock = some k) w w' → (v'.ownBlock = v.ownBlock ∨ Fresh w.heap.size v') → K v' w') :
    VB P .append #[t, t] ty #[v, .slice (some ⟨w.heap.size, 0, none⟩) 1 1] (w.alloc (.cells #[u] e)) K := by
  obtain ⟨v', w', hr, k1, k2, k3⟩ := run_app1 T ty hown h1 h63 hbytes
  exact VB_append hr (h v' w' k1 k2 k3)
theorem VB_appn (T : Ty1 P t e z bytes) {v : Value} {n : Nat} {xs : List Value} {y : Value} {m : Nat} {ys : List Value}
    (hown : w.ownsRow 0 e 1 v n xs) (hy : Sl w y m ys) (hm : ys.length = m) (h1 : ∀ u ∈ ys, u.oneCell' = true) (h63 : n + m ≤ maxLen) (hbytes : (n + m) * bytes ≤ 140737488355328)
    (h : ∀ v' w', w'.ownsRow 0 e 1 v' (n + m) (xs ++ ys) → Ch (fun k => v.ownBlock = some k) w w' → (v'.ownBlock = v.ownBlock ∨ Fresh w.heap.size v') → K v' w') :
    VB P .append #[t, t] ty #[v, y] w K := by
  obtain ⟨v', w', hr, k1, k2, k3⟩ := run_appn T ty hown hy hm h1 h63 hbytes
  exact VB_append hr (h v' w' k1 k2 k3)
/-- append(nil, y...): a copy. -/
theorem VB_copyOf (T : Ty1 P t e z bytes) {y : Value} {m : Nat} {ys : List Value}
    (hy : Sl w y m ys) (hm : ys.length = m) (h1 : ∀ u ∈ ys, u.oneCell' = true) (h63 : m ≤ maxLen) (hbytes : m * bytes ≤ 140737488355328)
    (h : ∀ v' w', w'.ownsRow 0 e 1 v' m ys → Ch Nw w w' → Fresh w.heap.size v' → K v' w') :
    VB P .append #[t, t] ty #[.slice none 0 0, y] w K := by
  refine VB_appn T (World.ownsRow_nil _ _ _ _) hy hm h1 (by omega) (by rw [Nat.zero_add]; exact hbytes) fun v' w' k1 k2 k3 => h v' w' (by simpa using k1) (k2.mono fun j _ e => by simp [Value.ownBlock] at e) ?_
  rcases k3 with k3 | k3
  · intro j hj; rw [k3] at hj; simp [Value.ownBlock] at hj
  · exact k3
end

/- A STATEMENT WHOSE ORDER GO LEAVES OPEN, by one walk in one order: reads that are done again where an effect may stand ahead of them; the effects stand in a chain. -/
section
variable (P : Program) (ops : Array Oper) (n : Nat)

/-- Operation i, its guard looked at. -/
def VO (i : Nat) (f : Nat → Value) (w : World) (K : Value → World → Prop) : Prop :=
  match ops[i]? with
  | none => False
  | some o => if Region.wanted o (yielded ops (tm n f)) then VX P (ev n f) o w K else K undef w
def dstOf (i : Nat) : Option Tmp := (ops[i]?).bind (·.dst)
abbrev Fact := Nat × (Nat → Value) × Value
def Same (w : World) (F : Fact) : Prop := VO P ops n F.1 F.2.1 w fun v' w' => v' = F.2.2 ∧ w' = w
/-- The walk: reads; effects, behind which what is kept must read the same. -/
def Run (Q : (Nat → Value) → World → Prop) : List (Nat × Option (List Nat)) → List Fact → (Nat → Value) → World → Prop
  | [], _, f, w => Q f w
  | (i, none) :: rest, L, f, w => VO P ops n i f w fun v w' => w' = w ∧ Run Q rest ((i, f, v) :: L) (upd f (dstOf ops i) v) w
  | (i, some keep) :: rest, L, f, w => VO P ops n i f w fun v w' => (∀ F ∈ L, F.1 ∈ keep → Same P ops n w' F) ∧ Run Q rest (L.filter fun F => decide (F.1 ∈ keep)) (upd f (dstOf ops i) v) w'
end

/-- Is j ahead of i, by the edges that bind? -/
def anc (ops : Array Oper) (i j : Nat) : Bool := ((Region.before ops).getD i 0).testBit j

theorem fold_bit (acc : Array Nat) (b : Nat) : ∀ (l : List Edge) (s : Nat), (l.foldl (fun s e => if Region.binds .any e then s ||| 2 ^ e.on ||| acc.getD e.on 0 else s) s).testBit b = true →
    s.testBit b = true ∨ ∃ e ∈ l, Region.binds .any e = true ∧ (e.on = b ∨ (acc.getD e.on 0).testBit b = true) := by
  intro l
  induction l with
  | nil => intro s h; exact .inl h
  | cons e l ih =>
    intro s h
    rw [List.foldl_cons] at h
    rcases ih _ h with h1 | ⟨e', he', hb, hr⟩
    · split at h1
      · rename_i hb
        simp only [Nat.testBit_or, Bool.or_eq_true] at h1
        rcases h1 with (h1 | h1) | h1
        · exact .inl h1
        · refine .inr ⟨e, by simp, hb, .inl ?_⟩
          rw [Nat.testBit_two_pow] at h1
          simpa using h1
        · exact .inr ⟨e, by simp, hb, .inr h1⟩
      · exact .inl h1
    · exact .inr ⟨e', by simp [he'], hb, hr⟩

theorem before_bit (ops : Array Oper) : ∀ (i : Nat) (o : Oper) (b : Nat), ops[i]? = some o → anc ops i b = true →
    ∃ e ∈ o.after, Region.binds .any e = true ∧ (e.on = b ∨ (e.on < i ∧ anc ops e.on b = true)) := by
  have key : (Region.before ops).size = ops.size ∧ ∀ (i : Nat) (o : Oper) (b : Nat), i < ops.size → ops[i]? = some o → ((Region.before ops).getD i 0).testBit b = true →
      ∃ e ∈ o.after, Region.binds .any e = true ∧ (e.on = b ∨ (e.on < i ∧ ((Region.before ops).getD e.on 0).testBit b = true)) := by
    unfold Region.before
    refine Array.foldl_induction (motive := fun k (acc : Array Nat) => acc.size = k ∧ ∀ (i : Nat) (o : Oper) (b : Nat), i < k → ops[i]? = some o → (acc.getD i 0).testBit b = true →
      ∃ e ∈ o.after, Region.binds .any e = true ∧ (e.on = b ∨ (e.on < i ∧ (acc.getD e.on 0).testBit b = true))) ⟨rfl, fun i _ _ h => absurd h (by omega)⟩ ?_
    rintro k acc ⟨hs, hk⟩
    refine ⟨by simp [hs], fun i o b hi ho hb => ?_⟩
    have hold : ∀ j, j < acc.size → ∀ x : Nat, (acc.push x).getD j 0 = acc.getD j 0 := fun j hj x => by
      simp [Array.getElem?_push_lt hj, hj]
    by_cases hik : i < k
    · rw [hold i (by omega)] at hb
      obtain ⟨e, he, hb1, hb2⟩ := hk i o b hik ho hb
      refine ⟨e, he, hb1, hb2.imp id fun ⟨h1, h2⟩ => ⟨h1, ?_⟩⟩
      rw [hold e.on (by omega)]
      exact h2
    · have hik' : i = k.1 := by omega
      subst hik'
      have ho' : ops[k.1] = o := by
        have := Array.getElem?_eq_getElem k.2
        rw [ho] at this
        exact (Option.some.inj this).symm
      have hnew : ∀ x : Nat, (acc.push x).getD k.1 0 = x := fun x => by rw [← hs]; simp
      rw [hnew, ← Array.foldl_toList] at hb
      rcases fold_bit acc b _ _ hb with h1 | ⟨e, he, hb1, hb2⟩
      · simp at h1
      · refine ⟨e, by rw [← ho']; simpa using he, hb1, hb2.imp id fun h2 => ?_⟩
        have hlt : e.on < acc.size := by
          rcases Nat.lt_or_ge e.on acc.size with h | h
          · exact h
          · simp [Array.getElem?_eq_none h] at h2
        refine ⟨by omega, ?_⟩
        rw [hold e.on hlt]
        exact h2
  intro i o b ho hb
  exact key.2 i o b (Array.getElem?_eq_some_iff.1 ho).1 ho hb

theorem anc_closed {ops : Array Oper} {listed : Array Bool} (hc : ∀ j oj, ops[j]? = some oj → listed.getD j false = true → ∀ e ∈ oj.after, Region.binds .any e = true → listed.getD e.on false = true) (hsz : listed.size = ops.size) :
    ∀ (i j : Nat), anc ops i j = true → listed.getD i false = true → listed.getD j false = true := by
  intro i
  induction i using Nat.strongRecOn with
  | _ i ih =>
    intro j h hi
    have hlt : i < ops.size := by
      rcases Nat.lt_or_ge i listed.size with h' | h'
      · omega
      · simp [Array.getElem?_eq_none h'] at hi
    obtain ⟨e, he, hb, hr⟩ := before_bit ops i _ j (Array.getElem?_eq_getElem hlt) h
    have := hc i _ (Array.getElem?_eq_getElem hlt) hi e he hb
    rcases hr with hr | ⟨h1, h2⟩
    · rw [← hr]; exact this
    · exact ih _ h1 j h2 this

def isCallOp (o : Oper) : Bool := match o.op with
  | .move _ | .assign _ | .pick .. | .load .. | .nilCheck _ | .binOp .. | .unOp .. | .convert .. | .slice .. | .fieldAddr .. | .field .. | .indexAddr .. | .index .. | .extract .. | .lookup .. | .makeInterface .. | .makeFunc .. | .build .. | .sliceToArrayPointer .. => false
  | .call c => (match c.callee with | .builtin b => !(b == .cap || b == .len || b == .max || b == .min) | _ => true)
  | _ => true

/-- The closed facts on a plan: an operation stands behind what is ahead of it; a read is no call; all that stands behind an effect waits for it; what stands ahead of it is kept, or it or an earlier effect waits for it, or it is an effect itself. -/
def chkPlan (ops : Array Oper) (E : List Nat) : List Nat → Option Nat → List (Nat × Option (List Nat)) → Bool
  | _, _, [] => true
  | p, last, (i, m) :: rest =>
    (decide (i < ops.size) && (ops.getD i default).after.all (fun e => !Region.binds .any e || p.contains e.on)) && rest.all (fun k => k.1 != i && !anc ops i k.1) &&
    (match m with
    | none => !isCallOp (ops.getD i default) && !E.contains i && (match last with | none => true | some e => anc ops i e)
    | some keep => E.contains i && p.all (fun k => keep.contains k || anc ops i k || E.contains k || p.any fun e => E.contains e && anc ops e k)) &&
    chkPlan ops E (i :: p) (match m with | none => last | some _ => some i) rest
def effs (plan : List (Nat × Option (List Nat))) : List Nat := (plan.filter fun x => x.2.isSome).map (·.1)
def chkOps (ops : Array Oper) : Bool :=
  let all := List.range ops.size
  all.all (fun i => all.all fun j => i == j || (match dstOf ops i, dstOf ops j with | some d, some e => d != e | _, _ => true)) &&
  all.all (fun i => all.all fun j => match dstOf ops j with
    | some d => !((ops.getD i default).looksAt ops).contains d || (i != j && (anc ops i j || anc ops j i))
    | none => true) &&
  all.all (fun i => !(match (ops.getD i default).op with | .select .. => true | _ => false))
def planOk (ops : Array Oper) (E : List Nat) (plan : List (Nat × Option (List Nat))) : Bool :=
  (List.range ops.size).all (fun i => (plan.map (·.1)).contains i) && chkPlan ops E [] none plan
/-- All orders of effects that the edges allow. -/
def exts (ops : Array Oper) : Nat → List Nat → List (List Nat)
  | 0, _ => [[]]
  | k + 1, rem => if rem.isEmpty then [[]] else
    (rem.filter fun e => rem.all fun e' => e' == e || !anc ops e e').flatMap fun e => (exts ops k (rem.filter (· != e))).map (e :: ·)
def pathsOk (ops : Array Oper) (paths : List (List (Nat × Option (List Nat)))) : Bool :=
  let E := effs (paths.headD [])
  chkOps ops && !paths.isEmpty && paths.all (planOk ops E) && (exts ops E.length E).all fun s => paths.any fun pl => effs pl == s

/-- In p, the latest first, what an operation's edges name stands behind it. -/
def OrdP (ops : Array Oper) : List Nat → Prop
  | [] => True
  | i :: p => (i < ops.size ∧ ∀ e ∈ (ops.getD i default).after, Region.binds .any e = true → e.on ∈ p) ∧ OrdP ops p
theorem ordP_of_chk {ops : Array Oper} {i : Nat} {p : List Nat} (h1 : i < ops.size) (h : (ops.getD i default).after.all (fun e => !Region.binds .any e || p.contains e.on) = true) (ho : OrdP ops p) : OrdP ops (i :: p) := by
  refine ⟨⟨h1, fun e he hb => ?_⟩, ho⟩
  have := Array.all_eq_true'.1 h e he
  simpa [hb] using this
structure OpsOk (ops : Array Oper) : Prop where
  dst : ∀ i j d, dstOf ops i = some d → dstOf ops j = some d → i = j
  slot : ∀ i o j d, ops[i]? = some o → dstOf ops j = some d → d ∈ o.looksAt ops → i ≠ j ∧ (anc ops i j = true ∨ anc ops j i = true)
  sel : ∀ (i : Nat) (o : Oper) (cs : Array SelectCase) (b : Bool), ops[i]? = some o → o.op ≠ .select cs b

theorem dstOf_lt {ops : Array Oper} {i : Nat} {d : Tmp} (h : dstOf ops i = some d) : i < ops.size := by
  unfold dstOf at h
  rcases Nat.lt_or_ge i ops.size with h' | h'
  · exact h'
  · simp [Array.getElem?_eq_none h'] at h
theorem lt_of_get {ops : Array Oper} {i : Nat} {o : Oper} (h : ops[i]? = some o) : i < ops.size := (Array.getElem?_eq_some_iff.1 h).1
theorem getD_of_get {ops : Array Oper} {i : Nat} {o : Oper} (h : ops[i]? = some o) : ops.getD i default = o := by
  rw [Array.getD_eq_getD_getElem?, h]; rfl

theorem opsOk_of {ops : Array Oper} (h : chkOps ops = true) : OpsOk ops := by
  simp only [chkOps, Bool.and_eq_true, List.all_eq_true, List.mem_range] at h
  obtain ⟨⟨h1, h2⟩, h3⟩ := h
  refine ⟨fun i j d hi hj => ?_, fun i o j d ho hj hd => ?_, fun i o cs b ho he => ?_⟩
  · have := h1 i (dstOf_lt hi) j (dstOf_lt hj)
    rw [hi, hj] at this
    simpa using this
  · have := h2 i (lt_of_get ho) j (dstOf_lt hj)
    rw [hj, getD_of_get ho] at this
    simp only [Bool.or_eq_true, Bool.not_eq_true', Bool.and_eq_true, bne_iff_ne] at this
    rcases this with h | h
    · have : (o.looksAt ops).contains d = true := by simpa using hd
      rw [h] at this; cases this
    · exact h
  · have := h3 i (lt_of_get ho)
    rw [getD_of_get ho, he] at this
    simp at this

section
variable {P : Program} {ops : Array Oper} {n : Nat}
theorem VO_congr' {i : Nat} {f f' : Nat → Value} {w : World} {K : Value → World → Prop} (ok : OpsOk ops) (h : ∀ o, ops[i]? = some o → ∀ t ∈ o.looksAt ops, f t = f' t) : VO P ops n i f w K = VO P ops n i f' w K := by
  unfold VO
  cases ho : ops[i]? with
  | none => rfl
  | some o =>
    have hl := h o ho
    have he : execOp (ev n f) o = execOp (ev n f') o := by
      refine execOp_congr o (fun cs b => ok.sel i o cs b ho) fun x hx => ?_
      cases x with
      | tmp t =>
        have ht : t ∈ o.looksAt ops := by
          unfold Oper.looksAt
          rw [List.mem_append]
          exact .inl (List.mem_filterMap.2 ⟨.tmp t, by simpa using hx, rfl⟩)
        simp only [ev_tmp, hl t ht]
      | _ => rfl
    have hw : Region.wanted o (yielded ops (tm n f)) = Region.wanted o (yielded ops (tm n f')) := by
      unfold Region.wanted
      cases hg : o.guard with
      | none => rfl
      | some g =>
        obtain ⟨j, want⟩ := g
        simp only
        congr 1
        unfold yielded
        cases hd : (ops[j]?).bind (·.dst) with
        | none => rfl
        | some d =>
          have ht : d ∈ o.looksAt ops := by
            unfold Oper.looksAt
            rw [List.mem_append]
            refine .inr ?_
            simp [hg, hd]
          simp only [Option.bind_some, act_get, hl d ht]
    simp only [hw, VX, he]

theorem noenter {ρ : Operand → Value} {o : Oper} {w w' : World} {g : FuncId} {args : Array Value} (h : isCallOp o = false) : (execOp ρ o).run P w ≠ .ok (.enter g args) w' := by
  intro he
  have hv : ∀ s : Sem Value, (do pure (Next.value (← s)) : Sem Next).run P w ≠ .ok (.enter g args) w' := fun s e => by
    simp only [Sem.run_bind, Sem.run_pure] at e
    cases hs : s.run P w <;> rw [hs] at e <;> simp [Result.andThen] at e
  have hu : ∀ s : Sem Unit, (do s; pure Next.skip : Sem Next).run P w ≠ .ok (.enter g args) w' := fun s e => by
    simp only [Sem.run_bind, Sem.run_pure] at e
    cases hs : s.run P w <;> rw [hs] at e <;> simp [Result.andThen] at e
  obtain ⟨dst, op, type, pos, after, guard⟩ := o
  cases op <;> try (simp [isCallOp] at h; done)
  case call c =>
    obtain ⟨callee, args', ts⟩ := c
    cases callee
    case builtin b =>
      have hb : b = .cap ∨ b = .len ∨ b = .max ∨ b = .min := by
        revert h; cases b <;> simp [isCallOp]
      revert he
      rcases hb with rfl | rfl | rfl | rfl <;> simp only [execOp, resolve, invoke, builtin, Sem.run_bind, Sem.run_pure, Result.andThen_ok] <;> intro he <;> exact hv _ (by simp only [Sem.run_bind, Sem.run_pure]; exact he)
    all_goals simp [isCallOp] at h
  case nilCheck x =>
    cases hx : ρ x
    case pointer a =>
      cases a <;> simp [execOp, hx, runtimePanic] at he
    case func fn first captured =>
      cases fn
      case method name =>
        simp only [execOp, hx] at he
        split at he
        · simp [runtimePanic] at he
        · revert he
          simp only [Sem.run_bind, run_program, Result.andThen_ok]
          rename_i t v _
          cases (nilAhead (P.types.size + Made.depth) t v name).run P w with
          | halt h w => simp
          | ok b w2 =>
            simp only [Result.andThen_ok]
            split <;> simp
        · simp at he
      all_goals simp [execOp, hx] at he
    all_goals simp [execOp, hx, runtimePanic] at he
  case pick c a b => exact hv (do pure (if ← asBool (ρ c) then ρ a else ρ b)) (by simpa [execOp] using he)
  all_goals first
    | exact hv _ he
    | exact hu _ he
    | (simp [execOp] at he; done)

theorem noround {ρ : Operand → Value} {o : Oper} {w w' : World} {l : Nat} {g : FuncId} {tmps : Array Value} {x y : Code} (h : isCallOp o = false) : (execOp ρ o).run P w ≠ .ok (.round l g tmps x y) w' := by
  intro he
  have hv : ∀ s : Sem Value, (do pure (Next.value (← s)) : Sem Next).run P w ≠ .ok (.round l g tmps x y) w' := fun s e => by
    simp only [Sem.run_bind, Sem.run_pure] at e
    cases hs : s.run P w <;> rw [hs] at e <;> simp [Result.andThen] at e
  have hu : ∀ s : Sem Unit, (do s; pure Next.skip : Sem Next).run P w ≠ .ok (.round l g tmps x y) w' := fun s e => by
    simp only [Sem.run_bind, Sem.run_pure] at e
    cases hs : s.run P w <;> rw [hs] at e <;> simp [Result.andThen] at e
  obtain ⟨dst, op, type, pos, after, guard⟩ := o
  cases op <;> try (simp [isCallOp] at h; done)
  case call c =>
    obtain ⟨callee, args', ts⟩ := c
    cases callee
    case builtin b =>
      have hb : b = .cap ∨ b = .len ∨ b = .max ∨ b = .min := by
        revert h; cases b <;> simp [isCallOp]
      revert he
      rcases hb with rfl | rfl | rfl | rfl <;> simp only [execOp, resolve, invoke, builtin, Sem.run_bind, Sem.run_pure, Result.andThen_ok] <;> intro he <;> exact hv _ (by simp only [Sem.run_bind, Sem.run_pure]; exact he)
    all_goals simp [isCallOp] at h
  case nilCheck x =>
    cases hx : ρ x
    case pointer a =>
      cases a <;> simp [execOp, hx, runtimePanic] at he
    case func fn first captured =>
      cases fn
      case method name =>
        simp only [execOp, hx] at he
        split at he
        · simp [runtimePanic] at he
        · revert he
          simp only [Sem.run_bind, run_program, Result.andThen_ok]
          rename_i t v _
          cases (nilAhead (P.types.size + Made.depth) t v name).run P w with
          | halt h w => simp
          | ok b w2 =>
            simp only [Result.andThen_ok]
            split <;> simp
        · simp at he
      all_goals simp [execOp, hx] at he
    all_goals simp [execOp, hx, runtimePanic] at he
  case pick c a b => exact hv (do pure (if ← asBool (ρ c) then ρ a else ρ b)) (by simpa [execOp] using he)
  all_goals first
    | exact hv _ he
    | exact hu _ he
    | (simp [execOp] at he; done)

/-- A read, as a fact. -/
theorem read_fact {i : Nat} {f : Nat → Value} {w : World} {X : Value → Prop} (hc : isCallOp (ops.getD i default) = false) (h : VO P ops n i f w fun v w' => w' = w ∧ X v) : ∃ v, Same P ops n w (i, f, v) ∧ X v := by
  unfold VO at h
  unfold Same VO
  cases ho : ops[i]? with
  | none => rw [ho] at h; exact h.elim
  | some o =>
    rw [getD_of_get ho] at hc
    simp only [ho] at h ⊢
    split at h
    · rename_i hw
      unfold VX at h
      split at h
      · rename_i v w' hr
        refine ⟨v, ?_, h.2⟩
        rw [if_pos hw]
        unfold VX
        rw [hr]
        exact ⟨rfl, h.1⟩
      · rename_i w' hr
        refine ⟨undef, ?_, h.2⟩
        rw [if_pos hw]
        unfold VX
        rw [hr]
        exact ⟨rfl, h.1⟩
      · rename_i g args w' hr
        exact absurd hr (noenter hc)
      · rename_i l g tmps x y w' hr
        exact absurd hr (noround hc)
      · exact h.elim
    · rename_i hw
      exact ⟨undef, by simp [hw], h.2⟩

theorem wpOp_of_VO {i : Nat} {f : Nat → Value} {w : World} {Q : Exit → Act → World → Prop} {K : Value → World → Prop} {K' : Act → World → Prop} (cx : Cx) (ms : List Nat) (hk : ∀ v w', K v w' → K' (act cx n ms (upd f (dstOf ops i) v)) w') (h : VO P ops n i f w K) : wpOpIn cx.F cx.m P ops Q i K' (act cx n ms f) w := by
  unfold VO at h
  unfold wpOpIn
  cases ho : ops[i]? with
  | none => rw [ho] at h; exact h.elim
  | some o =>
    have hd : dstOf ops i = o.dst := by simp [dstOf, ho]
    rw [hd] at hk
    simp only [ho] at h ⊢
    split at h
    · rename_i hw
      rw [if_pos (show Region.wanted o (yielded ops (act cx n ms f).tmps) = true from hw)]
      exact h.sound hk
    · rename_i hw
      rw [if_neg (show ¬ Region.wanted o (yielded ops (act cx n ms f).tmps) = true from hw), act_put]
      exact ⟨fun g _ => cx.fn g, hk _ _ h⟩

/-- What holds in the midst of an order: p: what of the plan lies behind us. -/
structure Inv (P : Program) (ops : Array Oper) (n : Nat) (p : List Nat) (L : List Fact) (F : Nat → Value) (w : World) (listed : Array Bool) (f0 f : Nat → Value) : Prop where
  size : listed.size = ops.size
  closed : ∀ j oj, ops[j]? = some oj → listed.getD j false = true → ∀ e ∈ oj.after, Region.binds .any e = true → listed.getD e.on false = true
  sub : ∀ i, listed.getD i false = true → i ∈ p
  facts : ∀ i ∈ p, listed.getD i false = false → ∃ fi v, (i, fi, v) ∈ L ∧ Same P ops n w (i, fi, v) ∧ (∀ d, dstOf ops i = some d → F d = v) ∧ ∀ o, ops[i]? = some o → ∀ t ∈ o.looksAt ops,
    ((∃ j, dstOf ops j = some t ∧ anc ops i j = true) → fi t = F t) ∧ ((¬ ∃ j, dstOf ops j = some t ∧ anc ops i j = true) → fi t = f0 t)
  f_un : ∀ t i, i ∈ p → listed.getD i false = false → dstOf ops i = some t → f t = f0 t
  f_in : ∀ t, (∀ i ∈ p, dstOf ops i = some t → listed.getD i false = true) → f t = F t
  F_out : ∀ t, (∀ i ∈ p, dstOf ops i ≠ some t) → F t = f0 t

/-- All reads that can be done are taken into the facts: what is left begins with an effect. -/
theorem advance {Q : (Nat → Value) → World → Prop} (ok : OpsOk ops) {E : List Nat} {last : Option Nat} {listed : Array Bool} {f0 f : Nat → Value} {w : World} : ∀ (s : List (Nat × Option (List Nat))) (p : List Nat) (L : List Fact) (F : Nat → Value),
    chkPlan ops E p last s = true → OrdP ops p → (∀ i ∈ p, ∀ k ∈ s, i ≠ k.1 ∧ anc ops i k.1 = false) → (∀ k ∈ s, listed.getD k.1 false = false) → Run P ops n Q s L F w → Inv P ops n p L F w listed f0 f →
    ∃ s' p' L' F', chkPlan ops E p' last s' = true ∧ effs s' = effs s ∧ (∀ i ∈ p', i ∈ p ∨ E.contains i = false) ∧ OrdP ops p' ∧ (∀ i ∈ p', ∀ k ∈ s', i ≠ k.1 ∧ anc ops i k.1 = false) ∧ (∀ k ∈ s', listed.getD k.1 false = false) ∧ Run P ops n Q s' L' F' w ∧ Inv P ops n p' L' F' w listed f0 f ∧
      (∀ i, (i ∈ p ∨ i ∈ s.map (·.1)) → (i ∈ p' ∨ i ∈ s'.map (·.1))) ∧ (s' = [] ∨ ∃ e keep rest, s' = (e, some keep) :: rest) := by
  intro s
  induction s with
  | nil => intro p L F h1 ho h2 h3 h4 h5; exact ⟨[], p, L, F, h1, rfl, fun _ h => .inl h, ho, h2, h3, h4, h5, fun i h => h, .inl rfl⟩
  | cons x s ih =>
    obtain ⟨i, m⟩ := x
    intro p L F h1 hord h2 h3 h4 h5
    cases m with
    | some keep => exact ⟨_, p, L, F, h1, rfl, fun _ h => .inl h, hord, h2, h3, h4, h5, fun i h => h, .inr ⟨i, keep, s, rfl⟩⟩
    | none =>
      simp only [chkPlan, Bool.and_eq_true, decide_eq_true_eq, List.all_eq_true, Bool.not_eq_true', bne_iff_ne] at h1
      obtain ⟨⟨⟨⟨hi, hedge⟩, hrest⟩, ⟨⟨hcall, hEi⟩, _⟩⟩, hchk⟩ := h1
      have hrest : ∀ k ∈ s, k.1 ≠ i ∧ anc ops i k.1 = false := by
        intro k hk
        have := hrest k hk
        simpa using this
      obtain ⟨v, hs, hrun⟩ := read_fact hcall h4
      have hip : i ∉ p := fun hp => (h2 i hp (i, none) (by simp)).1 rfl
      have hiun : listed.getD i false = false := h3 (i, none) (by simp)
      have hFi : ∀ d, dstOf ops i = some d → F d = f0 d := fun d hd => h5.F_out d fun j hj hjd => hip (by rw [ok.dst i j d hd hjd]; exact hj)
      have hupd : ∀ t, dstOf ops i ≠ some t → upd F (dstOf ops i) v t = F t := fun t ht => by unfold upd; rw [if_neg ht]
      have hupd' : ∀ t, dstOf ops i = some t → upd F (dstOf ops i) v t = v := fun t ht => by unfold upd; rw [if_pos ht]
      obtain ⟨s', p', L', F', k1, ke, kp, k0, k2, k3, k4, k5, k6, k7⟩ := ih (i :: p) ((i, F, v) :: L) (upd F (dstOf ops i) v) hchk (ordP_of_chk hi hedge hord)
        (fun j hj k hk => by
          rcases List.mem_cons.1 hj with rfl | hj
          · exact ⟨fun e => (hrest k hk).1 e.symm, (hrest k hk).2⟩
          · exact h2 j hj k (by simp [hk]))
        (fun k hk => h3 k (by simp [hk])) hrun
        { size := h5.size
          closed := h5.closed
          sub := fun j hj => List.mem_cons_of_mem _ (h5.sub j hj)
          facts := by
            intro j hj hjl
            rcases List.mem_cons.1 hj with rfl | hj
            · refine ⟨F, v, by simp, hs, hupd', fun o ho t ht => ⟨fun ⟨k, hk1, hk2⟩ => ?_, fun hno => ?_⟩⟩
              · exact (hupd t fun e => (ok.slot j o j t ho e ht).1 rfl).symm
              · refine h5.F_out t fun k hk hkd => ?_
                have hne : j ≠ k := fun e => hip (by rw [e]; exact hk)
                rcases (ok.slot j o k t ho hkd ht).2 with ha | ha
                · exact hno ⟨k, hkd, ha⟩
                · have := (h2 k hk (j, none) (by simp)).2
                  rw [this] at ha; cases ha
            · obtain ⟨fi, u, g1, g2, g3, g4⟩ := h5.facts j hj hjl
              have hne : i ≠ j := fun e => hip (by rw [e]; exact hj)
              refine ⟨fi, u, by simp [g1], g2, fun d hd => ?_, fun o ho t ht => ⟨fun hex => ?_, (g4 o ho t ht).2⟩⟩
              · rw [hupd d fun e => hne (ok.dst i j d e hd)]
                exact g3 d hd
              · rw [hupd t fun e => ?_]
                · exact (g4 o ho t ht).1 hex
                · obtain ⟨k, hk1, hk2⟩ := hex
                  obtain rfl := ok.dst i k t e hk1
                  have := (h2 j hj (i, none) (by simp)).2
                  rw [this] at hk2; cases hk2
          f_un := by
            intro t j hj hjl hjd
            rcases List.mem_cons.1 hj with rfl | hj
            · rw [h5.f_in t fun k hk hkd => ?_]
              · exact hFi t hjd
              · exact absurd (by rw [ok.dst j k t hjd hkd]; exact hk) hip
            · exact h5.f_un t j hj hjl hjd
          f_in := by
            intro t ht
            have h6 : dstOf ops i ≠ some t := fun e => by
              have := ht i (by simp) e
              rw [hiun] at this; cases this
            rw [hupd t h6]
            exact h5.f_in t fun j hj hjd => ht j (by simp [hj]) hjd
          F_out := by
            intro t ht
            rw [hupd t (ht i (by simp))]
            exact h5.F_out t fun j hj => ht j (by simp [hj]) }
      refine ⟨s', p', L', F', k1, by rw [ke]; rfl, fun j hj => ?_, k0, k2, k3, k4, k5, fun j hj => k6 j ?_, k7⟩
      · rcases kp j hj with h | h
        · rcases List.mem_cons.1 h with rfl | h
          · exact .inr hEi
          · exact .inl h
        · exact .inr h
      rcases hj with hj | hj
      · exact .inl (by simp [hj])
      · simp only [List.map_cons, List.mem_cons] at hj
        rcases hj with rfl | hj
        · exact .inl (by simp)
        · exact .inr hj

def unl (N : Nat) (listed : Array Bool) : Nat := ((List.range N).filter fun i => !listed.getD i false).length
theorem filter_drop {p q : Nat → Bool} {i : Nat} : ∀ (l : List Nat), i ∈ l → p i = true → q i = false → (∀ j, q j = true → p j = true) → (l.filter q).length < (l.filter p).length := by
  intro l
  induction l with
  | nil => intro h; cases h
  | cons x l ih =>
    intro hm hp hq hpq
    have hle : (l.filter q).length ≤ (l.filter p).length := by
      clear ih hm
      induction l with
      | nil => simp
      | cons y l ih =>
        by_cases hy : q y = true
        · simp [hy, hpq y hy, ih]
        · by_cases hy' : p y = true
          · simp [hy, hy']; omega
          · simp [hy, hy', ih]
    rcases List.mem_cons.1 hm with rfl | hm
    · simp [hp, hq]; omega
    · have := ih hm hp hq hpq
      by_cases hy : q x = true
      · simp [hy, hpq x hy, this]
      · by_cases hy' : p x = true
        · simp [hy, hy']; omega
        · simp [hy, hy', this]
theorem getD_set_same {listed : Array Bool} {i : Nat} (h : i < listed.size) (b : Bool) : (listed.setIfInBounds i true).getD i b = true := by
  simp [h]
theorem unl_set {N i : Nat} {listed : Array Bool} (hi : i < N) (hs : listed.size = N) (h : listed.getD i false = false) : unl N (listed.setIfInBounds i true) < unl N listed := by
  unfold unl
  refine filter_drop _ (List.mem_range.2 hi) (by simp only [h]; rfl) (by rw [getD_set_same (by omega)]; rfl) fun j hj => ?_
  by_cases hij : i = j
  · subst hij; rw [getD_set_same (by omega)] at hj; cases hj
  · rwa [getD_set_ne false hij] at hj

theorem getD_both' {listed : Array Bool} {i : Nat} (h : listed.getD i true = false) : listed.getD i false = false := by
  rcases Nat.lt_or_ge i listed.size with h' | h'
  · simp [h'] at h ⊢; exact h
  · simp [Array.getElem?_eq_none h'] at h
theorem getD_in' {listed : Array Bool} {i : Nat} (hi : i < listed.size) (h : listed.getD i false = false) : listed.getD i true = false := by
  simp [hi] at h ⊢; exact h

theorem ready_of_ord {listed : Array Bool} (hs : listed.size = ops.size) : ∀ (p : List Nat), OrdP ops p → (∃ i ∈ p, listed.getD i false = false) → Region.ready .any ops listed ≠ [] := by
  intro p
  induction p with
  | nil => rintro _ ⟨i, hi, _⟩; cases hi
  | cons i p ih =>
    rintro ⟨⟨h1, h2⟩, ho⟩ ⟨j, hj, hl⟩
    by_cases hex : ∃ k ∈ p, listed.getD k false = false
    · exact ih ho hex
    · have hall : ∀ k ∈ p, listed.getD k false = true := fun k hk => by
        cases hh : listed.getD k false with
        | true => rfl
        | false => exact absurd ⟨k, hk, hh⟩ hex
      have hji : j = i := by
        rcases List.mem_cons.1 hj with h | h
        · exact h
        · rw [hall j h] at hl; cases hl
      subst hji
      intro hnil
      have : j ∈ Region.ready .any ops listed := mem_ready.2 ⟨getD_in' (by omega) hl, ops.getD j default, by rw [Array.getD_eq_getD_getElem?, Array.getElem?_eq_getElem h1]; rfl, fun e he hb => hall _ (h2 e he hb)⟩
      rw [hnil] at this
      cases this

def Sched (ops : Array Oper) : Array Bool → List Nat → Prop
  | listed, [] => Region.ready .any ops listed = []
  | listed, i :: rest => i ∈ Region.ready .any ops listed ∧ Sched ops (listed.setIfInBounds i true) rest
theorem all_listed {listed : Array Bool} (hu : unl ops.size listed = 0) : ∀ i, i < ops.size → listed.getD i false = true := by
  intro i hi
  cases hl : listed.getD i false with
  | true => rfl
  | false =>
    have : i ∈ (List.range ops.size).filter fun i => !listed.getD i false := List.mem_filter.2 ⟨List.mem_range.2 hi, by simp only [hl]; rfl⟩
    unfold unl at hu
    rw [List.eq_nil_of_length_eq_zero hu] at this
    cases this
theorem go_sched : ∀ (fuel t : Nat) (listed : Array Bool), listed.size = ops.size → unl ops.size listed ≤ fuel → Sched ops listed (Region.linearise.go .any ops fuel t listed []) := by
  intro fuel
  induction fuel with
  | zero =>
    intro t listed hs hu
    simp only [Region.linearise.go, List.reverse_nil, Sched]
    rw [List.eq_nil_iff_forall_not_mem]
    intro j hj
    obtain ⟨hj1, o, ho, _⟩ := mem_ready.1 hj
    have := all_listed (Nat.le_zero.1 hu) j (lt_of_get ho)
    rw [getD_both' hj1] at this; cases this
  | succ fuel ih =>
    intro t listed hs hu
    simp only [Region.linearise.go]
    change Sched ops listed (match (Region.ready .any ops listed)[t % (Region.ready .any ops listed).length]? with
      | some i => Region.linearise.go .any ops fuel (t / (Region.ready .any ops listed).length) (listed.setIfInBounds i true) [i]
      | none => [].reverse)
    cases hi : (Region.ready .any ops listed)[t % (Region.ready .any ops listed).length]? with
    | none =>
      show Region.ready .any ops listed = []
      cases hr : Region.ready .any ops listed with
      | nil => rfl
      | cons x xs =>
        rw [hr] at hi
        have hlt : t % (x :: xs).length < (x :: xs).length := Nat.mod_lt _ (by simp)
        rw [List.getElem?_eq_getElem hlt] at hi
        cases hi
    | some i =>
      simp only []
      rw [linearise_go_acc, List.reverse_singleton, List.singleton_append]
      have him := List.mem_of_getElem? hi
      refine ⟨him, ih _ _ (by simpa using hs) ?_⟩
      obtain ⟨h1, o, ho, _⟩ := mem_ready.1 him
      have := unl_set (lt_of_get ho) hs (getD_both' h1)
      omega

theorem later_read {E : List Nat} : ∀ (s : List (Nat × Option (List Nat))) (p : List Nat) (last : Option Nat), chkPlan ops E p last s = true → ∀ i, (i, none) ∈ s →
    (∃ k ∈ s, anc ops i k.1 = true) ∨ (∃ e, last = some e ∧ anc ops i e = true) ∨ last = none := by
  intro s
  induction s with
  | nil => intro _ _ _ i h; cases h
  | cons x s ih =>
    obtain ⟨j, m⟩ := x
    intro p last h i hi
    simp only [chkPlan, Bool.and_eq_true, decide_eq_true_eq] at h
    rcases List.mem_cons.1 hi with e | hi
    · injection e with e1 e2
      subst e1; subst e2
      have h := h.1.2
      simp only [Bool.and_eq_true] at h
      cases last with
      | none => exact .inr (.inr rfl)
      | some e => exact .inr (.inl ⟨e, rfl, h.2⟩)
    · rcases ih _ _ h.2 i hi with ⟨k, hk, ha⟩ | h2
      · exact .inl ⟨k, by simp [hk], ha⟩
      · cases m with
        | none => exact .inr h2
        | some keep =>
          rcases h2 with ⟨e, he, ha⟩ | h2
          · injection he with he
            subst he
            exact .inl ⟨(j, some keep), by simp, ha⟩
          · cases h2
theorem later_eff {E : List Nat} : ∀ (s : List (Nat × Option (List Nat))) (p : List Nat) (last : Option Nat), chkPlan ops E p last s = true → ∀ i keep, (i, some keep) ∈ s → E.contains i = true := by
  intro s
  induction s with
  | nil => intro _ _ _ i _ h; cases h
  | cons x s ih =>
    obtain ⟨j, m⟩ := x
    intro p last h i keep hi
    simp only [chkPlan, Bool.and_eq_true, decide_eq_true_eq] at h
    rcases List.mem_cons.1 hi with e | hi
    · injection e with e1 e2
      subst e1; subst e2
      have h := h.1.2
      simp only [Bool.and_eq_true] at h
      exact h.1
    · exact ih _ _ h.2 i keep hi

theorem run_sound {Q : (Nat → Value) → World → Prop} {Q' : Exit → Act → World → Prop} (cx : Cx) (ms : List Nat) (hQ : ∀ f w, Q f w → Q' .normal (act cx n ms f) w) (ok : OpsOk ops) {E : List Nat} {f0 : Nat → Value} :
    ∀ (order : List Nat) (s : List (Nat × Option (List Nat))) (p : List Nat) (last : Option Nat) (L : List Fact) (F f : Nat → Value) (w : World) (listed : Array Bool), Sched ops listed order → order.filter (E.contains ·) = effs s →
    chkPlan ops E p last s = true → OrdP ops p → (∀ i ∈ p, ∀ k ∈ s, i ≠ k.1 ∧ anc ops i k.1 = false) → (∀ k ∈ s, listed.getD k.1 false = false) → (∀ i, i < ops.size → i ∈ p ∨ i ∈ s.map (·.1)) →
    (∀ i ∈ p, E.contains i = true → listed.getD i false = true) →
    Run P ops n Q s L F w → Inv P ops n p L F w listed f0 f → wpOpsIn cx.F cx.m P ops Q' order (act cx n ms f) w := by
  intro order
  induction order with
  | nil =>
    intro s p last L F f w listed hsch heo h1 hord h2 h3 h4 _ h5 h6
    obtain ⟨s, p, L, F, h1, he1, _, hord, h2, h3, h5, h6, _, h8⟩ := advance ok s p L F h1 hord h2 h3 h5 h6
    have hall : ∀ i ∈ p, listed.getD i false = true := fun i hi => by
      cases hh : listed.getD i false with
      | true => rfl
      | false => exact absurd hsch (ready_of_ord h6.size p hord ⟨i, hi, hh⟩)
    rcases h8 with rfl | ⟨e, keep, rest, rfl⟩
    · have : f = F := funext fun t => h6.f_in t fun i hi _ => hall i hi
      rw [this]
      exact hQ _ _ h5
    · rw [← he1] at heo
      simp [effs] at heo
  | cons i order ih =>
    intro s pOld last L F f w listed hsch heo h1 hord h2 h3 h4 heff h5 h6
    obtain ⟨hi, hsch⟩ := hsch
    obtain ⟨s, p, L, F, h1, he1, hpE, hord, h2, h3, h5, h6, h7, h8⟩ := advance ok s pOld L F h1 hord h2 h3 h5 h6
    have h4 : ∀ i, i < ops.size → i ∈ p ∨ i ∈ s.map (·.1) := fun i hi => h7 i (h4 i hi)
    have heff : ∀ i ∈ p, E.contains i = true → listed.getD i false = true := fun j hj hjE => by
      rcases hpE j hj with h | h
      · exact heff j h hjE
      · rw [h] at hjE; cases hjE
    rw [← he1] at heo
    clear h7 hpE he1
    rw [wpOpsIn_cons]
    · obtain ⟨hi1, o, ho, hall⟩ := mem_ready.1 hi
      have hlt : i < ops.size := lt_of_get ho
      have hil : listed.getD i false = false := getD_both' hi1
      have hanc : ∀ j, anc ops i j = true → listed.getD j false = true := by
        intro j hj
        obtain ⟨e, he, hb, hr⟩ := before_bit ops i o j ho hj
        have := hall e he hb
        rcases hr with hr | ⟨_, hr⟩
        · rw [← hr]; exact this
        · exact anc_closed h6.closed h6.size _ _ hr this
      have hsz' : (listed.setIfInBounds i true).size = ops.size := by simpa using h6.size
      have hclosed' : ∀ j oj, ops[j]? = some oj → (listed.setIfInBounds i true).getD j false = true → ∀ e ∈ oj.after, Region.binds .any e = true → (listed.setIfInBounds i true).getD e.on false = true := by
        intro j oj hj hl e he hb
        by_cases hij : i = j
        · subst hij
          have : oj = o := Option.some.inj (hj.symm.trans ho)
          subst this
          exact getD_set_true (hall e he hb)
        · rw [getD_set_ne false hij] at hl
          exact getD_set_true (h6.closed j oj hj hl e he hb)
      have hset : ∀ j, (listed.setIfInBounds i true).getD j false = false → i ≠ j ∧ listed.getD j false = false := by
        intro j hj
        have hne : i ≠ j := by
          rintro rfl
          rw [getD_set_same (by rw [h6.size]; exact hlt)] at hj; cases hj
        exact ⟨hne, by rwa [getD_set_ne false hne] at hj⟩
      have hset' : ∀ j, listed.getD j false = true → (listed.setIfInBounds i true).getD j false = true := fun j hj => getD_set_true hj
      by_cases hip : i ∈ p
      · -- a read whose fact is known
        obtain ⟨fi, v, g1, g2, g3, g4⟩ := h6.facts i hip hil
        have hcongr : ∀ o', ops[i]? = some o' → ∀ t ∈ o'.looksAt ops, fi t = f t := by
          intro o' ho' t ht
          obtain rfl : o' = o := Option.some.inj (ho'.symm.trans ho)
          by_cases hex : ∃ j, dstOf ops j = some t ∧ anc ops i j = true
          · rw [(g4 o' ho' t ht).1 hex]
            obtain ⟨j, hj1, hj2⟩ := hex
            exact (h6.f_in t fun k hk hkd => by rw [← ok.dst j k t hj1 hkd]; exact hanc j hj2).symm
          · rw [(g4 o' ho' t ht).2 hex]
            by_cases hw : ∃ j, j ∈ p ∧ dstOf ops j = some t
            · obtain ⟨j, hjp, hjd⟩ := hw
              have hjl : listed.getD j false = false := by
                cases hl : listed.getD j false with
                | false => rfl
                | true =>
                  rcases (ok.slot i o' j t ho hjd ht).2 with ha | ha
                  · exact absurd ⟨j, hjd, ha⟩ hex
                  · have := anc_closed h6.closed h6.size _ _ ha hl
                    rw [hil] at this; cases this
              exact (h6.f_un t j hjp hjl hjd).symm
            · have hw' : ∀ j ∈ p, dstOf ops j ≠ some t := fun j hj hjd => hw ⟨j, hj, hjd⟩
              rw [h6.f_in t fun j hj hjd => absurd hjd (hw' j hj), h6.F_out t hw']
        have hVO : VO P ops n i f w fun v' w' => v' = v ∧ w' = w := by
          rw [← VO_congr' ok hcongr]
          exact g2
        refine wpOp_of_VO cx ms (K := fun v' w' => v' = v ∧ w' = w) ?_ hVO
        rintro v' w' ⟨rfl, rfl⟩
        have hupd : ∀ t, dstOf ops i ≠ some t → upd f (dstOf ops i) v' t = f t := fun t ht => by unfold upd; rw [if_neg ht]
        have hupd' : ∀ t, dstOf ops i = some t → upd f (dstOf ops i) v' t = v' := fun t ht => by unfold upd; rw [if_pos ht]
        have hEi : E.contains i = false := by
          cases hh : E.contains i with
          | false => rfl
          | true => have := heff i hip hh; rw [hil] at this; cases this
        refine ih s p last L F _ w' _ hsch ?_ h1 hord h2 (fun k hk => ?_) h4 (fun j hj hjE => hset' j (heff j hj hjE)) h5 ?_
        · rw [List.filter_cons, hEi] at heo
          simpa using heo
        · rw [getD_set_ne false fun e => (h2 i hip k hk).1 e]
          exact h3 k hk
        · refine ⟨hsz', hclosed', fun j hj => ?_, fun j hj hjl => h6.facts j hj (hset j hjl).2, fun t j hj hjl hjd => ?_, fun t ht => ?_, h6.F_out⟩
          · by_cases hij : i = j
            · rw [← hij]; exact hip
            · rw [getD_set_ne false hij] at hj
              exact h6.sub j hj
          · rw [hupd t fun e => (hset j hjl).1 (ok.dst i j t e hjd)]
            exact h6.f_un t j hj (hset j hjl).2 hjd
          · by_cases hd : dstOf ops i = some t
            · rw [hupd' t hd, g3 t hd]
            · rw [hupd t hd]
              refine h6.f_in t fun j hj hjd => ?_
              have := ht j hj hjd
              rwa [getD_set_ne false fun e => hd (by rw [e]; exact hjd)] at this
      · -- the next effect
        have his : i ∈ s.map (·.1) := (h4 i hlt).resolve_left hip
        rcases h8 with rfl | ⟨e, keep, rest, rfl⟩
        · cases his
        have h1' := h1
        simp only [chkPlan, Bool.and_eq_true, decide_eq_true_eq, List.all_eq_true, Bool.not_eq_true', bne_iff_ne, Bool.or_eq_true] at h1
        obtain ⟨⟨⟨⟨hlt', hedge⟩, hrest⟩, ⟨hEe, hkeep⟩⟩, hchk⟩ := h1
        have hel : listed.getD e false = false := h3 (e, some keep) (by simp)
        have hie : i = e := by
          cases hEi : E.contains i with
          | true =>
            rw [List.filter_cons, hEi] at heo
            simp [effs] at heo
            exact heo.1
          | false =>
            exfalso
            rcases List.mem_cons.1 his with h | h
            · have h : i = e := h
              rw [h, hEe] at hEi; cases hEi
            · obtain ⟨⟨k, m⟩, hk, hke⟩ := List.mem_map.1 h
              have hke : k = i := hke
              subst hke
              cases m with
              | some kp => have := later_eff _ _ _ hchk k kp hk; rw [hEi] at this; cases this
              | none =>
                rcases later_read _ _ _ hchk k hk with ⟨k', hk', ha⟩ | ⟨e', he', ha⟩ | h
                · have := hanc _ ha
                  rw [h3 k' (by simp [hk'])] at this; cases this
                · injection he' with he'
                  subst he'
                  have := hanc _ ha
                  rw [hel] at this; cases this
                · cases h
        subst hie
        have heo' : order.filter (E.contains ·) = effs rest := by
          rw [List.filter_cons, hEe] at heo
          simpa [effs] using heo
        have hcongr : ∀ o', ops[i]? = some o' → ∀ t ∈ o'.looksAt ops, F t = f t := by
          intro o' ho' t ht
          refine (h6.f_in t fun j hj hjd => ?_).symm
          rcases (ok.slot i o' j t ho' hjd ht).2 with ha | ha
          · exact hanc j ha
          · have := (h2 j hj (i, some keep) (by simp)).2
            rw [this] at ha; cases ha
        have hVO := h5
        unfold Run at hVO
        rw [VO_congr' ok hcongr] at hVO
        refine wpOp_of_VO cx ms ?_ hVO
        rintro v w' ⟨hk, hrun⟩
        have hupd : ∀ (g : Nat → Value) t, dstOf ops i ≠ some t → upd g (dstOf ops i) v t = g t := fun g t ht => by unfold upd; rw [if_neg ht]
        have hupd' : ∀ (g : Nat → Value) t, dstOf ops i = some t → upd g (dstOf ops i) v t = v := fun g t ht => by unfold upd; rw [if_pos ht]
        refine ih rest (i :: p) (some i) _ _ _ w' _ hsch heo' hchk (ordP_of_chk hlt' hedge hord) (fun j hj k hk => ?_) (fun k hk => ?_) (fun j hj => ?_) (fun j hj hjE => ?_) hrun ?_
        · rcases List.mem_cons.1 hj with rfl | hj
          · exact ⟨fun e => (hrest k hk).1 e.symm, (hrest k hk).2⟩
          · exact h2 j hj k (by simp [hk])
        · rw [getD_set_ne false fun e => (hrest k hk).1 e.symm]
          exact h3 k (by simp [hk])
        · rcases h4 j hj with h | h
          · exact .inl (by simp [h])
          · simp only [List.map_cons, List.mem_cons] at h
            rcases h with rfl | h
            · exact .inl (by simp)
            · exact .inr h
        · rcases List.mem_cons.1 hj with rfl | hj
          · exact getD_set_same (by rw [h6.size]; exact hlt) _
          · exact hset' j (heff j hj hjE)
        · refine ⟨hsz', hclosed', fun j hj => ?_, fun j hj hjl => ?_, fun t j hj hjl hjd => ?_, fun t ht => ?_, fun t ht => ?_⟩
          · by_cases hij : i = j
            · rw [hij]; simp
            · rw [getD_set_ne false hij] at hj
              exact List.mem_cons_of_mem _ (h6.sub j hj)
          · obtain ⟨hne, hjl⟩ := hset j hjl
            have hjp : j ∈ p := (List.mem_cons.1 hj).resolve_left fun e => hne e.symm
            obtain ⟨fi, u, g1, g2, g3, g4⟩ := h6.facts j hjp hjl
            have hjk : j ∈ keep := by
              rcases hkeep j hjp with ((h | h) | h) | h
              · simpa using h
              · have := hanc j h
                rw [hjl] at this; cases this
              · have := heff j hjp h
                rw [hjl] at this; cases this
              · obtain ⟨e, he, hE⟩ := List.any_eq_true.1 h
                simp only [Bool.and_eq_true] at hE
                have := anc_closed h6.closed h6.size _ _ hE.2 (heff e he hE.1)
                rw [hjl] at this; cases this
            refine ⟨fi, u, List.mem_filter.2 ⟨g1, by simpa using hjk⟩, hk _ g1 hjk, fun d hd => ?_, fun o ho t ht => ⟨fun hex => ?_, (g4 o ho t ht).2⟩⟩
            · rw [hupd F d fun e => hne (ok.dst i j d e hd)]
              exact g3 d hd
            · rw [hupd F t fun e => ?_]
              · exact (g4 o ho t ht).1 hex
              · obtain ⟨k, hk1, hk2⟩ := hex
                obtain rfl := ok.dst i k t e hk1
                have := (h2 j hjp (i, some keep) (by simp)).2
                rw [this] at hk2; cases hk2
          · obtain ⟨hne, hjl⟩ := hset j hjl
            have hjp : j ∈ p := (List.mem_cons.1 hj).resolve_left fun e => hne e.symm
            rw [hupd f t fun e => hne (ok.dst i j t e hjd)]
            exact h6.f_un t j hjp hjl hjd
          · by_cases hd : dstOf ops i = some t
            · rw [hupd' f t hd, hupd' F t hd]
            · rw [hupd f t hd, hupd F t hd]
              refine h6.f_in t fun j hj hjd => ?_
              have := ht j (by simp [hj]) hjd
              rwa [getD_set_ne false fun e => hd (by rw [e]; exact hjd)] at this
          · rw [hupd F t (ht i (by simp))]
            exact h6.F_out t fun j hj => ht j (by simp [hj])
end

/-- The rule: a plan for each order of the effects. -/
theorem filter_set {E : List Nat} {listed : Array Bool} {i : Nat} (hi : i < listed.size) : (E.filter fun e => !(listed.setIfInBounds i true).getD e false) = (E.filter fun e => !listed.getD e false).filter (· != i) := by
  rw [List.filter_filter]
  refine List.filter_congr fun e _ => ?_
  by_cases h : i = e
  · subst h; rw [getD_set_same hi]; simp
  · rw [getD_set_ne false h]
    have : (e != i) = true := by simpa using fun e' => h e'.symm
    rw [this]; simp
theorem order_in_exts {ops : Array Oper} {E : List Nat} {all : List Nat} (hord : OrdP ops all) (hcov : ∀ i, i < ops.size → i ∈ all) (hE : ∀ e ∈ E, e < ops.size) :
    ∀ (order : List Nat) (listed : Array Bool) (k : Nat), listed.size = ops.size → (∀ j oj, ops[j]? = some oj → listed.getD j false = true → ∀ e ∈ oj.after, Region.binds .any e = true → listed.getD e.on false = true) →
      Sched ops listed order → (E.filter fun e => !listed.getD e false).length ≤ k → order.filter (E.contains ·) = [] ∧ (E.filter fun e => !listed.getD e false) = [] ∨ order.filter (E.contains ·) ∈ exts ops k (E.filter fun e => !listed.getD e false) := by
  intro order
  induction order with
  | nil =>
    intro listed k hs hc hsch hk
    refine .inl ⟨rfl, ?_⟩
    rw [List.filter_eq_nil_iff]
    intro e he hl
    have hl : listed.getD e false = false := by simpa using hl
    exact ready_of_ord hs all hord ⟨e, hcov e (hE e he), hl⟩ hsch
  | cons i order ih =>
    intro listed k hs hc hsch hk
    obtain ⟨hi, hsch⟩ := hsch
    obtain ⟨hi1, o, ho, hall⟩ := mem_ready.1 hi
    have hlt : i < ops.size := lt_of_get ho
    have hil : listed.getD i false = false := getD_both' hi1
    have hc' : ∀ j oj, ops[j]? = some oj → (listed.setIfInBounds i true).getD j false = true → ∀ e ∈ oj.after, Region.binds .any e = true → (listed.setIfInBounds i true).getD e.on false = true := by
      intro j oj hj hl e he hb
      by_cases hij : i = j
      · subst hij
        have : oj = o := Option.some.inj (hj.symm.trans ho)
        subst this
        exact getD_set_true (hall e he hb)
      · rw [getD_set_ne false hij] at hl
        exact getD_set_true (hc j oj hj hl e he hb)
    have hanc : ∀ j, anc ops i j = true → listed.getD j false = true := by
      intro j hj
      obtain ⟨e, he, hb, hr⟩ := before_bit ops i o j ho hj
      have := hall e he hb
      rcases hr with hr | ⟨_, hr⟩
      · rw [← hr]; exact this
      · exact anc_closed hc hs _ _ hr this
    have hfs := filter_set (E := E) (listed := listed) (i := i) (by omega)
    cases hEi : E.contains i with
    | false =>
      have hsame : (E.filter fun e => !listed.getD e false).filter (· != i) = E.filter fun e => !listed.getD e false := by
        rw [List.filter_eq_self]
        intro e he
        have heE := (List.mem_filter.1 he).1
        have : e ≠ i := by
          rintro rfl
          have : E.contains e = true := by simpa using heE
          rw [hEi] at this; cases this
        simpa using this
      rw [hsame] at hfs
      have := ih (listed.setIfInBounds i true) k (by simpa using hs) hc' hsch (by rw [hfs]; exact hk)
      rw [hfs] at this
      rw [List.filter_cons, hEi]
      simpa using this
    | true =>
      have hiE : i ∈ E := by simpa using hEi
      have hir : i ∈ E.filter fun e => !listed.getD e false := List.mem_filter.2 ⟨hiE, by simp only [hil]; rfl⟩
      refine .inr ?_
      cases k with
      | zero => rw [List.eq_nil_of_length_eq_zero (Nat.le_zero.1 hk)] at hir; cases hir
      | succ k =>
        have hlen : ((E.filter fun e => !listed.getD e false).filter (· != i)).length < (E.filter fun e => !listed.getD e false).length := by
          have := filter_drop (p := fun _ => true) (q := (· != i)) (i := i) (E.filter fun e => !listed.getD e false) hir rfl (by simp) (fun _ _ => rfl)
          simpa using this
        have hrec := ih (listed.setIfInBounds i true) k (by simpa using hs) hc' hsch (by rw [hfs]; omega)
        rw [hfs] at hrec
        have hmem : order.filter (E.contains ·) ∈ exts ops k ((E.filter fun e => !listed.getD e false).filter (· != i)) := by
          rcases hrec with ⟨h1, h2⟩ | h
          · rw [h1, h2]
            cases k <;> simp [exts]
          · exact h
        have hfree : ((E.filter fun e => !listed.getD e false).all fun e' => e' == i || !anc ops i e') = true := by
          rw [List.all_eq_true]
          intro e' he'
          have hl : listed.getD e' false = false := by simpa using (List.mem_filter.1 he').2
          cases ha : anc ops i e' with
          | false => simp
          | true => have := hanc e' ha; rw [hl] at this; cases this
        rw [List.filter_cons, hEi]
        simp only [if_true]
        generalize E.filter (fun e => !listed.getD e false) = rem at *
        have hne : rem.isEmpty = false := by
          cases rem with
          | nil => cases hir
          | cons => rfl
        simp only [exts, hne, Bool.false_eq_true, if_false]
        exact List.mem_flatMap.2 ⟨i, List.mem_filter.2 ⟨hir, hfree⟩, List.mem_map.2 ⟨_, hmem, rfl⟩⟩
theorem ordP_all {ops : Array Oper} {E : List Nat} : ∀ (s : List (Nat × Option (List Nat))) (p : List Nat) (last : Option Nat), chkPlan ops E p last s = true → OrdP ops p → ∃ q, OrdP ops q ∧ (∀ i, (i ∈ p ∨ i ∈ s.map (·.1)) → i ∈ q) ∧ ∀ e ∈ effs s, e < ops.size := by
  intro s
  induction s with
  | nil => intro p last _ h; exact ⟨p, h, fun i hi => hi.resolve_right (by simp), fun e he => by simp [effs] at he⟩
  | cons x s ih =>
    obtain ⟨i, m⟩ := x
    intro p last h ho
    simp only [chkPlan, Bool.and_eq_true, decide_eq_true_eq] at h
    obtain ⟨q, h1, h2, h3⟩ := ih _ _ h.2 (ordP_of_chk h.1.1.1.1 h.1.1.1.2 ho)
    refine ⟨q, h1, fun j hj => h2 j ?_, fun e he => ?_⟩
    · rcases hj with hj | hj
      · exact .inl (by simp [hj])
      · simp only [List.map_cons, List.mem_cons] at hj
        rcases hj with rfl | hj
        · exact .inl (by simp)
        · exact .inr hj
    · cases m with
      | none => exact h3 e (by simpa [effs] using he)
      | some keep =>
        simp only [effs, List.filter_cons, Option.isSome_some, if_true, List.map_cons, List.mem_cons] at he
        rcases he with rfl | he
        · exact h.1.1.1.1
        · exact h3 e (by simpa [effs] using he)
theorem getD_replicate_false' (m j : Nat) : (Array.replicate m false).getD j false = false := by
  rcases Nat.lt_or_ge j m with h | h
  · simp [h]
  · simp [Array.getElem?_eq_none (show (Array.replicate m false).size ≤ j by simpa using h)]
theorem v_drawI {P : Program} {n : Nat} {Q : Post} {id : Nat} {l : List Oper} {ms : List Nat} {f : Nat → Value} {w : World} (paths : List (List (Nat × Option (List Nat)))) (I : (Nat → Value) → World → Prop) (hm : P.follows .mixedOrders = true) (hp : pathsOk l.toArray paths = true)
    (h : ∀ plan ∈ paths, Run P l.toArray n I plan [] f w.drew) (hI : ∀ f w, I f w → Q .normal ms f w) : VDraw P n Q id l.toArray ms f w := by
  simp only [pathsOk, Bool.and_eq_true] at hp
  obtain ⟨⟨⟨hops, hne⟩, hall⟩, hcov⟩ := hp
  have hrep : ∀ i, (Array.replicate l.toArray.size false).getD i false = false := fun i => getD_replicate_false' _ _
  have hc0 : ∀ j oj, l.toArray[j]? = some oj → (Array.replicate l.toArray.size false).getD j false = true → ∀ e ∈ oj.after, Region.binds .any e = true → (Array.replicate l.toArray.size false).getD e.on false = true := fun j oj _ hl => by
    rw [hrep] at hl; cases hl
  cases paths with
  | nil => simp at hne
  | cons p0 ps =>
    simp only [List.headD_cons] at hall hcov
    have hall' := List.all_eq_true.1 hall
    have hp0 := hall' p0 (by simp)
    simp only [planOk, Bool.and_eq_true, List.all_eq_true, List.mem_range] at hp0
    obtain ⟨q, hq1, hq2, hq3⟩ := ordP_all p0 [] none hp0.2 trivial
    intro cx
    refine wpIn_region_draw fun t => ?_
    simp only [Region.schedule, hm, Bool.true_or, if_true]
    have hsch : Sched l.toArray (Array.replicate l.toArray.size false) (Region.linearise .any l.toArray t) :=
      go_sched l.toArray.size t _ (by simp) (Nat.le_trans (List.length_filter_le _ _) (by simp))
    have hE0 : ((effs p0).filter fun e => !(Array.replicate l.toArray.size false).getD e false) = effs p0 := by
      rw [List.filter_eq_self]
      intro e _
      rw [hrep]; rfl
    have hex := order_in_exts (E := effs p0) hq1 (fun i hi => hq2 i (.inr (by simpa using hp0.1 i hi))) hq3 (Region.linearise .any l.toArray t) _ (effs p0).length (by simp) hc0 hsch (by rw [hE0]; exact Nat.le_refl _)
    rw [hE0] at hex
    have hplan : ∃ pl ∈ p0 :: ps, effs pl = (Region.linearise .any l.toArray t).filter ((effs p0).contains ·) := by
      rcases hex with ⟨h1, h2⟩ | h1
      · exact ⟨p0, by simp, by rw [h1, h2]⟩
      · have := List.all_eq_true.1 hcov _ h1
        obtain ⟨pl, hpl, he⟩ := List.any_eq_true.1 this
        exact ⟨pl, hpl, by simpa using he⟩
    obtain ⟨pl, hpl, he⟩ := hplan
    have hok := hall' pl hpl
    simp only [planOk, Bool.and_eq_true, List.all_eq_true, List.mem_range] at hok
    refine run_sound cx ms (E := effs p0) (f0 := f) (fun f w hq => ⟨ms, f, rfl, hI f w hq⟩) (opsOk_of hops) (Region.linearise .any l.toArray t) pl [] none [] f f _ _ hsch he.symm hok.2 trivial (fun _ h => by cases h) (fun k _ => hrep _)
      (fun i hi => .inr (by simpa using hok.1 i hi)) (fun _ h => by cases h) (h pl hpl) ?_
    refine ⟨by simp, hc0, fun i hl => ?_, fun _ h => (by cases h), fun _ _ h => (by cases h), fun _ _ => rfl, fun _ _ => rfl⟩
    rw [hrep] at hl; cases hl
theorem v_draw {P : Program} {n : Nat} {Q : Post} {id : Nat} {l : List Oper} {ms : List Nat} {f : Nat → Value} {w : World} (paths : List (List (Nat × Option (List Nat)))) (hm : P.follows .mixedOrders = true) (hp : pathsOk l.toArray paths = true)
    (h : ∀ plan ∈ paths, Run P l.toArray n (Q .normal ms) plan [] f w.drew) : VDraw P n Q id l.toArray ms f w := v_drawI paths (Q .normal ms) hm hp h fun _ _ h => h
/- The walk's own forms: constants, so that simp lays open one operation at a time. -/
section
variable (P : Program) (l : List Oper) (n : Nat) (Q : (Nat → Value) → World → Prop)
def yv (o : Option Oper) (f : Nat → Value) : Option Bool := match o.bind (·.dst) with
  | some d => if d < n then (match f d with | .bool b => some b | _ => none) else none
  | none => none
theorem yielded_eq (f : Nat → Value) (j : Nat) : yielded l.toArray (tm n f) j = yv n (l[j]?) f := by
  unfold yielded yv
  simp only [List.getElem?_toArray]
  cases hd : (l[j]?).bind (·.dst) with
  | none => rfl
  | some d =>
    simp only [Option.bind_some, act_get]
    by_cases h : d < n
    · rw [if_pos h, if_pos h]; cases f d <;> rfl
    · rw [if_neg h, if_neg h]
def VOo (o : Option Oper) (f : Nat → Value) (w : World) (K : Option Tmp → Value → World → Prop) : Prop :=
  match o with
  | none => False
  | some o => match o.guard with
    | none => VX P (ev n f) o w (K o.dst)
    | some (j, want) => if yv n (l[j]?) f = some want then VX P (ev n f) o w (K o.dst) else K o.dst undef w
def VOg (g : Option Bool) (want : Bool) (o : Oper) (f : Nat → Value) (w : World) (K : Option Tmp → Value → World → Prop) : Prop :=
  if g = some want then VX P (ev n f) o w (K o.dst) else K o.dst undef w
theorem VO_eq (i : Nat) (f : Nat → Value) (w : World) (K : Value → World → Prop) (K' : Option Tmp → Value → World → Prop) (hk : ∀ o, l[i]? = some o → K = K' o.dst) : VO P l.toArray n i f w K = VOo P l n (l[i]?) f w K' := by
  unfold VO VOo
  rw [List.getElem?_toArray]
  cases ho : l[i]? with
  | none => rfl
  | some o =>
    rw [hk o ho]
    simp only
    unfold Region.wanted
    cases hg : o.guard with
    | none => simp
    | some g =>
      obtain ⟨j, want⟩ := g
      simp only [yielded_eq, beq_iff_eq]
@[simp] theorem VOo_plain (d : Option Tmp) (op : Op) (ty : TypeId) (pos : String) (aft : Array Edge) (f : Nat → Value) (w : World) (K : Option Tmp → Value → World → Prop) :
    VOo P l n (some ⟨d, op, ty, pos, aft, none⟩) f w K = VX P (ev n f) ⟨d, op, ty, pos, aft, none⟩ w (K d) := nr rfl
@[simp] theorem VOo_guard (d : Option Tmp) (op : Op) (ty : TypeId) (pos : String) (aft : Array Edge) (j : Nat) (want : Bool) (f : Nat → Value) (w : World) (K : Option Tmp → Value → World → Prop) :
    VOo P l n (some ⟨d, op, ty, pos, aft, some (j, want)⟩) f w K = VOg P n (yv n (l[j]?) f) want ⟨d, op, ty, pos, aft, some (j, want)⟩ f w K := nr rfl
@[simp] theorem VOg_tt (o : Oper) (f : Nat → Value) (w : World) (K : Option Tmp → Value → World → Prop) : VOg P n (some true) true o f w K = VX P (ev n f) o w (K o.dst) := by unfold VOg; simp
@[simp] theorem VOg_ff (o : Oper) (f : Nat → Value) (w : World) (K : Option Tmp → Value → World → Prop) : VOg P n (some false) false o f w K = VX P (ev n f) o w (K o.dst) := by unfold VOg; simp
@[simp] theorem VOg_tf (o : Oper) (f : Nat → Value) (w : World) (K : Option Tmp → Value → World → Prop) : VOg P n (some true) false o f w K = K o.dst undef w := by unfold VOg; simp
@[simp] theorem VOg_ft (o : Oper) (f : Nat → Value) (w : World) (K : Option Tmp → Value → World → Prop) : VOg P n (some false) true o f w K = K o.dst undef w := by unfold VOg; simp
@[simp] theorem VOg_none (b : Bool) (o : Oper) (f : Nat → Value) (w : World) (K : Option Tmp → Value → World → Prop) : VOg P n none b o f w K = K o.dst undef w := by unfold VOg; simp
def SameK (v : Value) (w : World) (_ : Option Tmp) (v' : Value) (w' : World) : Prop := v' = v ∧ w' = w
@[simp] theorem SameK_app (v : Value) (w : World) (d : Option Tmp) (v' : Value) (w' : World) : SameK v w d v' w' = (v' = v ∧ w' = w) := nr rfl
def SameAll (w : World) (keep : List Nat) : List Fact → Prop
  | [] => True
  | F :: L => (if F.1 ∈ keep then VOo P l n (l[F.1]?) F.2.1 w (SameK F.2.2 w) else True) ∧ SameAll w keep L
@[simp] theorem SameAll_nil (w : World) (keep : List Nat) : SameAll P l n w keep [] = True := nr rfl
@[simp] theorem SameAll_cons (w : World) (keep : List Nat) (i : Nat) (f : Nat → Value) (v : Value) (L : List Fact) :
    SameAll P l n w keep ((i, f, v) :: L) = ((if i ∈ keep then VOo P l n (l[i]?) f w (SameK v w) else True) ∧ SameAll P l n w keep L) := nr rfl
def RunL : List (Nat × Option (List Nat)) → List Fact → (Nat → Value) → World → Prop := Run P l.toArray n Q
def RunR (rest : List (Nat × Option (List Nat))) (L : List Fact) (i : Nat) (f : Nat → Value) (w0 : World) (d : Option Tmp) (v : Value) (w' : World) : Prop := w' = w0 ∧ RunL P l n Q rest ((i, f, v) :: L) (upd f d v) w0
def RunE (rest : List (Nat × Option (List Nat))) (keep : List Nat) (L : List Fact) (f : Nat → Value) (d : Option Tmp) (v : Value) (w' : World) : Prop :=
  SameAll P l n w' keep L ∧ RunL P l n Q rest (L.filter fun F => decide (F.1 ∈ keep)) (upd f d v) w'
@[simp] theorem RunR_app (rest : List (Nat × Option (List Nat))) (L : List Fact) (i : Nat) (f : Nat → Value) (w0 : World) (d : Option Tmp) (v : Value) (w' : World) :
    RunR P l n Q rest L i f w0 d v w' = (w' = w0 ∧ RunL P l n Q rest ((i, f, v) :: L) (upd f d v) w0) := nr rfl
@[simp] theorem RunE_app (rest : List (Nat × Option (List Nat))) (keep : List Nat) (L : List Fact) (f : Nat → Value) (d : Option Tmp) (v : Value) (w' : World) :
    RunE P l n Q rest keep L f d v w' = (SameAll P l n w' keep L ∧ RunL P l n Q rest (L.filter fun F => decide (F.1 ∈ keep)) (upd f d v) w') := nr rfl
@[simp] theorem RunL_nil (L : List Fact) (f : Nat → Value) (w : World) : RunL P l n Q [] L f w = Q f w := nr rfl
theorem dstOf_l (i : Nat) (o : Oper) (h : l[i]? = some o) : dstOf l.toArray i = o.dst := by simp [dstOf, h]
@[simp] theorem RunL_read (i : Nat) (rest : List (Nat × Option (List Nat))) (L : List Fact) (f : Nat → Value) (w : World) :
    RunL P l n Q ((i, none) :: rest) L f w = VOo P l n (l[i]?) f w (RunR P l n Q rest L i f w) := by
  unfold RunL
  rw [Run]
  refine VO_eq P l n i f w _ _ fun o ho => ?_
  rw [dstOf_l l i o ho]
  rfl
theorem SameAll_iff (w : World) (keep : List Nat) (L : List Fact) : SameAll P l n w keep L ↔ ∀ F ∈ L, F.1 ∈ keep → Same P l.toArray n w F := by
  induction L with
  | nil => simp
  | cons F L ih =>
    obtain ⟨i, f, v⟩ := F
    rw [SameAll_cons, ih]
    have hv : VOo P l n (l[i]?) f w (SameK v w) = Same P l.toArray n w (i, f, v) := (VO_eq P l n i f w _ _ fun _ _ => rfl).symm
    rw [hv]
    constructor
    · rintro ⟨h1, h2⟩ F hF hk
      rcases List.mem_cons.1 hF with rfl | hF
      · simpa [show i ∈ keep from hk] using h1
      · exact h2 F hF hk
    · intro h
      refine ⟨?_, fun F hF hk => h F (by simp [hF]) hk⟩
      split
      · exact h (i, f, v) (by simp) ‹_›
      · trivial
@[simp] theorem RunL_eff (i : Nat) (keep : List Nat) (rest : List (Nat × Option (List Nat))) (L : List Fact) (f : Nat → Value) (w : World) :
    RunL P l n Q ((i, some keep) :: rest) L f w = VOo P l n (l[i]?) f w (RunE P l n Q rest keep L f) := by
  unfold RunL
  rw [Run]
  refine VO_eq P l n i f w _ _ fun o ho => ?_
  rw [dstOf_l l i o ho]
  funext v w'
  show _ = (_ ∧ _)
  rw [propext (SameAll_iff P l n w' keep L)]
  rfl
end
theorem v_draw' {P : Program} {n : Nat} {Q : Post} {id : Nat} {l : List Oper} {ms : List Nat} {f : Nat → Value} {w : World} (plan : List (Nat × Option (List Nat))) (hm : P.follows .mixedOrders = true) (hp : pathsOk l.toArray [plan] = true)
    (h : RunL P l n (Q .normal ms) plan [] f w.drew) : VDraw P n Q id l.toArray ms f w := v_draw [plan] hm hp fun p hp => by
  simp only [List.mem_singleton] at hp
  subst hp
  exact h
/-- The same, where the effects stand in no chain: a plan for each order of theirs. -/
theorem v_draws {P : Program} {n : Nat} {Q : Post} {id : Nat} {l : List Oper} {ms : List Nat} {f : Nat → Value} {w : World} (paths : List (List (Nat × Option (List Nat)))) (hm : P.follows .mixedOrders = true) (hp : pathsOk l.toArray paths = true)
    (h : ∀ plan ∈ paths, RunL P l n (Q .normal ms) plan [] f w.drew) : VDraw P n Q id l.toArray ms f w := v_draw paths hm hp h
/-- The same, where all orders come to what I says. -/
theorem v_join {P : Program} {n : Nat} {Q : Post} {id : Nat} {l : List Oper} {ms : List Nat} {f : Nat → Value} {w : World} (I : (Nat → Value) → World → Prop) (paths : List (List (Nat × Option (List Nat)))) (hm : P.follows .mixedOrders = true) (hp : pathsOk l.toArray paths = true)
    (h : ∀ plan ∈ paths, RunL P l n I plan [] f w.drew) (hI : ∀ f w, I f w → Q .normal ms f w) : VDraw P n Q id l.toArray ms f w := v_drawI paths I hm hp h hI

/- Guarded operations in a plain region. -/
def VG (P : Program) (l : List Oper) (n : Nat) (Q : (Nat → Value) → World → Prop) (g : Option Bool) (want : Bool) (o : Oper) (rest : List Oper) (f : Nat → Value) (w : World) : Prop :=
  if g = some want then VX P (ev n f) o w (VK P l.toArray n Q rest f o.dst) else V P l.toArray n Q rest (upd f o.dst undef) w
@[simp] theorem V_guard (P : Program) (l : List Oper) (n : Nat) (Q : (Nat → Value) → World → Prop) (d : Option Tmp) (op : Op) (ty : TypeId) (pos : String) (aft : Array Edge) (j : Nat) (want : Bool) (rest : List Oper) (f : Nat → Value) (w : World) :
    V P l.toArray n Q (⟨d, op, ty, pos, aft, some (j, want)⟩ :: rest) f w = VG P l n Q (yv n (l[j]?) f) want ⟨d, op, ty, pos, aft, some (j, want)⟩ rest f w := by
  show (if Region.wanted _ _ = true then _ else _) = (if _ then _ else _)
  simp only [Region.wanted, yielded_eq, beq_iff_eq]
  rfl
section
variable (P : Program) (l : List Oper) (n : Nat) (Q : (Nat → Value) → World → Prop) (o : Oper) (rest : List Oper) (f : Nat → Value) (w : World)
@[simp] theorem VG_tt : VG P l n Q (some true) true o rest f w = VX P (ev n f) o w (VK P l.toArray n Q rest f o.dst) := by unfold VG; simp
@[simp] theorem VG_ff : VG P l n Q (some false) false o rest f w = VX P (ev n f) o w (VK P l.toArray n Q rest f o.dst) := by unfold VG; simp
@[simp] theorem VG_tf : VG P l n Q (some true) false o rest f w = V P l.toArray n Q rest (upd f o.dst undef) w := by unfold VG; simp
@[simp] theorem VG_ft : VG P l n Q (some false) true o rest f w = V P l.toArray n Q rest (upd f o.dst undef) w := by unfold VG; simp
@[simp] theorem VG_none (b : Bool) : VG P l n Q none b o rest f w = V P l.toArray n Q rest (upd f o.dst undef) w := by unfold VG; simp
end
/-- what a guard's slot says -/
def asB : Value → Option Bool
  | .bool b => some b
  | _ => none
@[simp] theorem asB_bool (b : Bool) : asB (.bool b) = some b := rfl
@[simp] theorem asB_undef : asB undef = none := rfl
@[simp] theorem yv_some (n : Nat) (d : Tmp) (op : Op) (ty : TypeId) (pos : String) (aft : Array Edge) (g : Option (Nat × Bool)) (f : Nat → Value) : yv n (some ⟨some d, op, ty, pos, aft, g⟩) f = if d < n then asB (f d) else none := nr rfl

/- None of these is to be computed by accident. -/
attribute [irreducible] ones VRc VLd VSt VAl VBld VLdO VStO zc blit ResK1 ResK2 ResK2' ResKc V VK VX VC VIf VLoop VDraw VOther At VLv VB VCall VNil VR VU VRes VEnd Then InB Rnd Ret RunL RunR RunE SameAll VOo VOg VG SameK VO Run Same
end Go.Kin
