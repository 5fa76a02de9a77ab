/- A pointer's cells; its copies as an iterator; whether it has one. No condition but that the values are of their types. -/
import Derived.Test.YtppilgkgnofkpaaGreatDoorAgg
import Derived.RangeFuncNested
import Derived.Test.YtppilgkgnofkpaaGreatDoorChecked
set_option linter.unusedSimpArgs false
set_option linter.unusedVariables false

/- Ranges over a function: the iterator by a contract, the caller by one rule. They speak of no program. No condition. -/
namespace Go.Kin
open Go Go.RowKit

/-- the ranges' own records changed: what lies from B on and is no cells -/
def Rec (B : Nat) (W W' : World) : Prop := ∃ row, W.grownBy W' row ∧ ∀ r, row = some r → B ≤ r ∧ ∃ o : Obj, W.heap[r]? = some o ∧ o.isCells = false
theorem Rec.ch {B : Nat} {W W' : World} (h : Rec B W W') : Ch (fun k => B ≤ k) W W' := by
  obtain ⟨row, hg, hr⟩ := h
  exact (Ch.of_grown hg).mono fun j _ e => (hr j e).1
theorem Rec.blk {B : Nat} {W W' : World} (h : Rec B W W') {g : Nat} {cs : Array Value} {T : TypeId} {fr : Nat × Nat} (hb : W.heap[g]? = some (.cells cs T fr)) : W'.heap[g]? = some (.cells cs T fr) := by
  obtain ⟨row, hg, hr⟩ := h
  refine (hg.block g (lt_of_block hb) fun e => ?_).trans hb
  obtain ⟨_, o, ho, hc⟩ := hr g e.symm
  rw [hb] at ho
  cases ho
  cases hc
/-- what has changed since w, of what there was then -/
theorem Rec.since {S : Nat → Prop} {B : Nat} {w W W' : World} (h : Rec B W W') (hc : Ch S w W) (hB : w.heap.size ≤ B) : Ch S w W' :=
  hc.trans' h.ch fun j hj e => absurd e (by omega)

theorem hp_putObj {w : World} {D k : Nat} {o : Obj} (h : k ≠ D) : (w.putObj D o).heap[k]? = w.heap[k]? := World.putObj_heap_other h
theorem Ch.putObj {S : Nat → Prop} {w w' : World} (h : Ch S w w') {D : Nat} (hD : S D ∨ w.heap.size ≤ D) (o : Obj) : Ch S w (w'.putObj D o) :=
  h.trans' (Ch.of_grown (grownBy_putObj' w' D o)) fun j hj e => by
    cases e
    exact hD.resolve_right (by omega)
/-- what a round that goes on keeps -/
def KpS (S : Nat → Prop) (n0 : Nat) (W W' : World) : Prop := Ch (fun k => S k ∨ n0 ≤ k) W W'
/-- an iterator: what enc says of the numbers of seq, in their order, as long as it is asked to go on -/
structure Iter (P : Program) (gf : FuncId) (lb : List Value) (k : Nat) (enc : Nat → List Value) (seq : List Nat) (S : Nat → Prop) (w : World) : Prop where
  size : ∀ x, (enc x).length = k
  ent : ∀ args w, (callFunc gf args).run P w = .ok (.enter gf args) w
  run : ∀ (l : Nat) (J Jx : List Nat → World → Prop) (W : World), Ch Nw w W → (∀ pre W1 W2, J pre W1 → Ch Nw W1 W2 → J pre W2) → (∀ pre W1 W2, Jx pre W1 → Ch Nw W1 W2 → Jx pre W2) →
    (∀ pre x W1, J pre W1 → pre.length < seq.length → YieldW P l (enc x).toArray W1 fun v W' => (v = .bool true ∧ J (pre ++ [x]) W' ∧ KpS S w.heap.size W1 W') ∨ (v = .bool false ∧ Jx (pre ++ [x]) W')) →
    J [] W → Ret P gf (.func (.yield l) #[] #[] :: lb).toArray W fun _ W' => J seq W' ∨ ∃ k, k ≤ seq.length ∧ Jx (seq.take k) W'

theorem yieldW_of {P : Program} {m l : Nat} {args : Array Value} {W : World} {R : Ending → World → Prop} (h : YieldAt Fence.wide m P l args W R) : YieldAt Fence.wide 0 P l args W R := by
  obtain ⟨fn, tmps, a, b, h1, h2⟩ := h
  exact ⟨fn, tmps, a, b, h1, h2.1, fun c cs _ => h2.2 c cs (room_wide _)⟩
theorem Iter.stops {P : Program} {gf : FuncId} {lb : List Value} {k : Nat} {enc : Nat → List Value} {seq : List Nat} {S : Nat → Prop} {w : World} (h : Iter P gf lb k enc seq S w) (m : Nat) :
    SeqStopsK Fence.wide m P gf lb.toArray (fun x => (enc x).toArray) (KpS S w.heap.size) (fun xs => xs = seq) (fun pre => ∃ k, k ≤ seq.length ∧ pre = seq.take k) seq.length w := by
  intro l J Jx W hW hJ hJx hY h0
  have hg : ∀ W1 W2, Ch Nw W1 W2 → W1.grownBy W2 none := fun W1 W2 hc => ⟨hc.os, hc.tape, hc.output, hc.size, fun k hk _ => hc.block k hk id⟩
  have hw : Ch Nw w W := ⟨hW.os, hW.tape, hW.output, hW.size, fun k hk _ => hW.block k hk⟩
  have := h.run l J Jx W hw (fun pre W1 W2 hj hc => hJ pre W1 W2 none hj (hg _ _ hc) fun r e => by cases e) (fun pre W1 W2 hj hc => hJx pre W1 W2 none hj (hg _ _ hc) fun r e => by cases e) (fun pre x W1 hj hl => ?_) h0
  · rw [show #[Value.func (.yield l) #[] #[]] ++ lb.toArray = (.func (.yield l) #[] #[] :: lb).toArray by simp]
    refine callsIn_wide.2 (Calls.mono this.calls ?_)
    rintro e W' ⟨v, rfl, hv⟩
    refine ⟨⟨v, rfl⟩, ?_⟩
    rcases hv with hv | ⟨k, hk, hv⟩
    · exact .inl ⟨_, rfl, hv⟩
    · exact .inr ⟨_, ⟨k, hk, rfl⟩, hv⟩
  · obtain ⟨fn, tmps, a, b, h1, h2⟩ := yieldW_of (hY pre x W1 hj hl)
    refine ⟨fn, tmps, a, b, h1, RoundIn.mono h2 ?_⟩
    rintro e W' (⟨rfl, h3, h4⟩ | ⟨rfl, h3⟩)
    · exact ⟨_, rfl, .inl ⟨rfl, h3, h4⟩⟩
    · exact ⟨_, rfl, .inr ⟨rfl, h3⟩⟩

/-- yield's parameters, set -/
def updA (f : Nat → Value) : List Tmp → List Value → (Nat → Value)
  | p :: ps, v :: vs => updA (upd f (some p) v) ps vs
  | _, _ => f
@[simp] theorem updA_nil (f : Nat → Value) (vs : List Value) : updA f [] vs = f := by unfold updA; rfl
@[simp] theorem updA_cons (f : Nat → Value) (p : Tmp) (ps : List Tmp) (v : Value) (vs : List Value) : updA f (p :: ps) (v :: vs) = updA (upd f (some p) v) ps vs := rfl
theorem tm_updA (n : Nat) : ∀ (ps : List Tmp) (vs : List Value) (f : Nat → Value), (ps.zip vs).foldl (fun t (p, v) => t.setIfInBounds p v) (tm n f) = tm n (updA f ps vs)
  | [], _, f => by simp
  | p :: ps, [], f => by simp [updA]
  | p :: ps, v :: vs, f => by
    rw [List.zip_cons_cons, List.foldl_cons, updA_cons, ← tm_updA n ps vs]
    simp only [tm_put]
/-- how a round's body may be left -/
def Bd (S : Nat → Prop) (W : World) (I : World → Prop) (Ix : Code → World → Prop) : Post
  | .normal, _, _, W' => Ch S W W' ∧ I W'
  | .ret, _, _, W' => Ch S W W' ∧ Ix .ret W'
  | .exit id, _, _, W' => Ch S W W' ∧ Ix (.exit id) W'
  | _, _, _, _ => False
section
variable (S : Nat → Prop) (W : World) (I : World → Prop) (Ix : Code → World → Prop) (ms : List Nat) (f : Nat → Value) (W' : World)
@[simp] theorem Bd_normal : Bd S W I Ix .normal ms f W' = (Ch S W W' ∧ I W') := rfl
@[simp] theorem Bd_ret : Bd S W I Ix .ret ms f W' = (Ch S W W' ∧ Ix .ret W') := rfl
@[simp] theorem Bd_exit (id : Nat) : Bd S W I Ix (.exit id) ms f W' = (Ch S W W' ∧ Ix (.exit id) W') := rfl
end
theorem keeps_of {S : Nat → Prop} {B : Nat} {W W' : World} (h : Ch S W W') (hS : ∀ k, S k → k < B) : KeepsFrom B W W' :=
  ⟨h.size, fun k o hB hk _ => h.obj hk fun e => by have := hS k e; omega⟩
/-- The rule. -/
theorem v_range {P : Program} {n : Nat} {Q : Post} {g : Operand} {ps : List Tmp} {assign body : Code} {ms : List Nat} {f : Nat → Value} {w w0 : World} {gf : FuncId} {lb : List Value} {k : Nat} {enc : Nat → List Value} {seq : List Nat} {S : Nat → Prop}
    (hit : Iter P gf lb k enc seq S w0) (hw : Ch Nw w0 w) (hg : ev n f g = .func (.func gf) #[] lb.toArray) (hk : ps.length = k) (hnr : (nr' assign && nr' body) = true) (hS : ∀ k, S k → k < w.heap.size)
    (I : List Nat → World → Prop) (Ix : Code → List Nat → World → Prop) (Ax : Nat → (Nat → Value) → World → Prop)
    (hI : ∀ pre W W', I pre W → Rec w.heap.size W W' → I pre W') (hIx : ∀ c pre W W', Ix c pre W → Rec w.heap.size W W' → Ix c pre W') (hAx : ∀ x f W W', Ax x f W → Rec w.heap.size W W' → Ax x f W') (h0 : I [] w)
    (hassign : ∀ pre x W, I pre W → VC P n (Then (At [] fun f' W' => Ch Nw W W' ∧ I pre W' ∧ Ax x f' W') fun _ _ _ _ => False) assign [] (updA f ps (enc x)) W)
    (hbody : ∀ pre x f' W, I pre W → Ax x f' W → VC P n (Bd S W (I (pre ++ [x])) fun c => Ix c (pre ++ [x])) body [] f' W)
    (hdone : ∀ D W, w.heap.size ≤ D → I seq W → W.heap[D]? = some (.deferred (some [])) → Q .normal (D :: ms) f W)
    (hstop : ∀ D c k W, w.heap.size ≤ D → k ≤ seq.length → Ix c (seq.take k) W → W.heap[D]? = some (.deferred (some [])) → VC P n Q c (D :: ms) f W) :
    VOther P n Q (.rangeFunc g ps.toArray assign body) ms f w := by
  unfold VOther
  intro cx hr
  simp only [Bool.and_eq_true] at hnr
  have hF : cx.F = Fence.wide := by
    obtain ⟨r, m, d⟩ := cx
    cases r with
    | none => rfl
    | some r => cases hr
  rw [hF]
  have hn0 := hw.size
  have key : (Code.rangeFunc g ps.toArray assign body).wpIn Fence.wide 3 P (up cx n Q) (act cx n ms f) w := by
    refine wpIn_rangeFunc_ownH rfl (by omega) (by rw [act_eval]; exact hg) trivial hit.ent (hit.stops 2) (fun h1 h2 => Ch.trans h1 h2)
      (fun W l o o' hl _ _ _ => Ch.mono (Ch.of_grown (grownBy_putObj' W l o')) fun j _ e => .inr (by cases e; omega)) hw.below (fun x => by simp [hit.size, hk]) I Ix
      (fun pre W W' row h1 h2 h3 => hI pre W W' h1 ⟨row, h2, h3⟩) (fun c pre W W' row h1 h2 h3 => hIx c pre W W' h1 ⟨row, h2, h3⟩) h0
      (fun x a' W => ∃ f', a' = ⟨tm n f', []⟩ ∧ Ax x f' W) (fun x a' _ W W' row h1 h2 h3 => by obtain ⟨f', e, h1⟩ := h1; exact ⟨f', e, hAx x f' W W' h1 ⟨row, h2, h3⟩⟩) ?_ ?_ ?_ ?_
    · intro l pre x W K h1 h2
      have := VC.sound (cx := ⟨some l, 1, []⟩) _ _ _ _ _ (.inr hnr.1) (hassign pre x W h1)
      have e1 : ((ps.toArray.zip (enc x).toArray).foldl (fun t (p, v) => t.setIfInBounds p v) (act cx n ms f).tmps) = tm n (updA f ps (enc x)) := by
        rw [List.zip_toArray, List.foldl_toArray]
        exact tm_updA n ps (enc x) f
      rw [e1]
      refine wpIn_mono this ?_
      rintro e a w' ⟨ms', f', rfl, hq⟩
      unfold Then at hq
      cases e with
      | normal =>
        unfold At at hq
        obtain ⟨rfl, h3, h4, h5⟩ := hq
        exact h2 _ _ (keeps_of h3 fun k hk => hk.elim) (h3.mono fun j _ e => e.elim) h4 ⟨f', rfl, h5⟩
      | _ => exact hq
    · rintro l pre x a' W hl _ h1 ⟨f', rfl, h2⟩ hlt
      refine wpIn_mono (VC.sound (cx := ⟨some l, 1, []⟩) _ _ _ _ _ (.inr hnr.2) (hbody pre x f' W h1 h2)) ?_
      rintro e a w' ⟨ms', f'', rfl, hq⟩
      cases e with
      | normal => exact ⟨keeps_of hq.1 hS, hq.1.mono fun j _ e => .inl e, hq.2⟩
      | ret => exact ⟨keeps_of hq.1 hS, hq.2⟩
      | exit id => exact ⟨keeps_of hq.1 hS, hq.2⟩
      | _ => exact hq.elim
    · rintro D xs W hD rfl h1 h2
      exact ⟨D :: ms, f, rfl, hdone D W hD h1 h2⟩
    · rintro D c pre W hD ⟨k, hk, rfl⟩ h1 h2
      exact VC.sound (cx := ⟨none, 3, cx.d⟩) c Q (D :: ms) f W (.inl rfl) (hstop D c k W hD hk h1 h2)
  exact fun b k cs h1 h2 _ => key b k cs h1 h2 (room_wide _)
end Go.Kin

namespace Go.Proofs.YtppilgkgnofkpaaGreatDoor
open Go.RowKit Go.Kin

/-- a pointer: kind, level, object, offset, birth, hash, addresses -/
structure Pt where
  k : Nat
  l : Nat
  o : Nat
  f : Nat
  b : Nat
  h : List UInt8
  a : List Nat
deriving DecidableEq
def pt (p : Pt) : Array Value := (.int .u8 p.k :: .int .u8 p.l :: .int .u16 p.o :: .int .u32 p.f :: .int .u64 p.b :: (bvs p.h ++ u16s p.a)).toArray
structure PtOk (p : Pt) : Prop where
  k : p.k < 256
  l : p.l < 256
  o : p.o < 65536
  f : p.f < 4294967296
  b : p.b < 18446744073709551616
  h : p.h.length = 32
  a : p.a.length = 4
  at' : ∀ x ∈ p.a, x < 65536
section
variable {p : Pt}
theorem pt_size (ok : PtOk p) : (pt p).size = 41 := by simp [pt, bvs_length, u16s_length, ok.h, ok.a]
theorem pt_ones (p : Pt) : ones (pt p) = true := ones_of (by
  intro u hu
  simp only [List.mem_cons, List.mem_append] at hu
  rcases hu with rfl | rfl | rfl | rfl | rfl | hu | hu
  · rfl
  · rfl
  · rfl
  · rfl
  · rfl
  · exact bvs_one _ u hu
  · exact u16s_one _ u hu)
theorem pt_all (ok : PtOk p) : (pt p).extract 0 41 = pt p := by rw [← pt_size ok]; simp
theorem pt_k : (pt p)[0]? = some (.int .u8 p.k) := by simp [pt]
theorem pt_l : (pt p)[1]? = some (.int .u8 p.l) := by simp [pt]
theorem pt_o : (pt p)[2]? = some (.int .u16 p.o) := by simp [pt]
theorem pt_f : (pt p)[3]? = some (.int .u32 p.f) := by simp [pt]
theorem pt_b : (pt p)[4]? = some (.int .u64 p.b) := by simp [pt]
theorem pt_a (ok : PtOk p) {i x : Nat} (h : p.a[i]? = some x) : (pt p)[37 + i]? = some (.int .u16 x) := by
  simp only [pt, List.getElem?_toArray]
  rw [show 37 + i = (32 + i) + 1 + 1 + 1 + 1 + 1 by omega]
  simp only [List.getElem?_cons_succ]
  rw [List.getElem?_append_right (by rw [bvs_length, ok.h]; omega), bvs_length, ok.h, show 32 + i - 32 = i by omega, u16s, List.getElem?_map, h]
  rfl
theorem a4 (ok : PtOk p) : ∃ a0 a1 a2 a3, p.a = [a0, a1, a2, a3] ∧ a0 < 65536 ∧ a1 < 65536 ∧ a2 < 65536 ∧ a3 < 65536 := by
  have h := ok.a
  have hx := ok.at'
  match ha : p.a, h with
  | [a0, a1, a2, a3], _ =>
    rw [ha] at hx
    exact ⟨a0, a1, a2, a3, rfl, hx _ (by simp), hx _ (by simp), hx _ (by simp), hx _ (by simp)⟩
end
/-- the places of the copies -/
def cseq (a : List Nat) (k : Nat) : List Nat := (List.range k).filter fun i => a.getD i 0 != 0
def cenc (a : List Nat) (i : Nat) : List Value := [.int .i64 ((i : Int) / 2), .int .u16 (a.getD i 0)]
theorem cseq_succ (a : List Nat) (k : Nat) : cseq a (k + 1) = if a.getD k 0 = 0 then cseq a k else cseq a k ++ [k] := by
  unfold cseq
  rw [List.range_succ, List.filter_append]
  by_cases h : a.getD k 0 = 0
  · rw [if_pos h, List.filter_cons_of_neg (by rw [h]; simp)]; simp
  · rw [if_neg h, List.filter_cons_of_pos (by simpa using h)]; simp
theorem cseq_pre (a : List Nat) {k : Nat} (h : k ≤ 4) : ∃ m, m ≤ (cseq a 4).length ∧ cseq a k = (cseq a 4).take m := by
  have key : ∀ j, cseq a k <+: cseq a (k + j) := fun j => by
    induction j with
    | zero => exact List.prefix_refl _
    | succ j ih =>
      rw [← Nat.add_assoc, cseq_succ]
      split
      · exact ih
      · exact ih.trans (List.prefix_append _ _)
  have := key (4 - k)
  rw [show k + (4 - k) = 4 by omega] at this
  exact ⟨_, this.length_le, (List.prefix_iff_eq_take.1 this)⟩

theorem copies_iter (p : Pt) (g : Nat) (T : TypeId) (fr : Nat × Nat) (S : Nat → Prop) (w : World) (ok : PtOk p) (hb : w.heap[g]? = some (.cells (pt p) T fr)) :
    Iter Tryz.prog 84 [.pointer (some ⟨g, 0, none⟩)] 2 (cenc p.a) (cseq p.a 4) S w := by
  refine ⟨fun x => rfl, fun args w => by simp [go_sem], ?_⟩
  intro l J Jx W hW hJ hJx hY h0
  obtain ⟨a0, a1, a2, a3, ha, _⟩ := a4 ok
  have hbW := hW.obj hb id
  have c0 := (cell_blk hbW 37).trans (pt_a ok (i := 0) (x := a0) (by rw [ha]; rfl))
  have c1 := (cell_blk hbW 38).trans (pt_a ok (i := 1) (x := a1) (by rw [ha]; rfl))
  have c2 := (cell_blk hbW 39).trans (pt_a ok (i := 2) (x := a2) (by rw [ha]; rfl))
  have c3 := (cell_blk hbW 40).trans (pt_a ok (i := 3) (x := a3) (by rw [ha]; rfl))
  refine v_enter Tryz.func84 Tryz.ntmps84 rfl (by simp) fun R' hR => ?_
  simp [go_sem, c0, c1, c2, c3]
  refine v_loop (fun r f wr => ∃ k, k ≤ 4 ∧ r = 4 - k ∧ f 0 = .func (.yield l) #[] #[] ∧ f 6 = .agg #[.int .u16 a0, .int .u16 a1, .int .u16 a2, .int .u16 a3] ∧ f 7 = .int .i64 k ∧ J (cseq p.a k) wr) 4
    ⟨0, by omega, rfl, by simp, by simp, by simp, h0⟩ ?_
  rintro I hI _ f wr ⟨k, hk, rfl, e0, e6, e7, hj⟩
  by_cases hk4 : k < 4
  · have hki : (k : Int) < 4 := by omega
    have hcell : ∃ x, p.a.getD k 0 = x ∧ #[Value.int .u16 a0, Value.int .u16 a1, Value.int .u16 a2, Value.int .u16 a3][k]? = some (.int .u16 x) := by
      refine ⟨_, rfl, ?_⟩
      rw [ha]
      match k, hk4 with
      | 0, _ => rfl
      | 1, _ => rfl
      | 2, _ => rfl
      | 3, _ => rfl
    obtain ⟨x, hx, hcx⟩ := hcell
    have hidx := fun w => run_index_agg (P := Tryz.prog) (kd := .i64) Tryz.underlying56 Tryz.sizeOf52 Tryz.isAgg52 hk4 hcx w
    have hwk : IntKind.i64.wrap ((k : Int) + 1) = ((k + 1 : Nat) : Int) := by simp [IntKind.wrap_i64]; omega
    have hwq : IntKind.i64.wrap ((k : Int) / 2) = (k : Int) / 2 := by simp [IntKind.wrap_i64]; omega
    by_cases hx0 : x = 0
    · subst hx0
      simp [go_sem, e0, e6, e7, hki, hidx, hwk]
      refine Rnd.intro (4 - (k + 1)) (by omega) (hI _ _ _ ⟨k + 1, by omega, rfl, by simp [e0], by simp [e6], by simp, ?_⟩)
      rw [cseq_succ, hx, if_pos rfl]
      exact hj
    · have hx1 : ((x : Int) == 0) = false := by simp; omega
      simp [go_sem, e0, e6, e7, hki, hidx, hwk, hwq, bne, hx1]
      have hlen : (cseq p.a k).length < (cseq p.a 4).length := by
        obtain ⟨m, hm, he⟩ := cseq_pre p.a (k := k + 1) (by omega)
        have h1 := congrArg List.length he
        rw [cseq_succ, hx, if_neg hx0, List.length_append, List.length_take] at h1
        simp at h1
        omega
      have hy := hY (cseq p.a k) k wr hj hlen
      simp only [cenc, hx] at hy
      refine VCall_yield _ _ _ hy ?_
      rintro _ w' (⟨rfl, hj', _⟩ | ⟨rfl, hjx⟩)
      · simp [go_sem, e7, hwk]
        refine Rnd.intro (4 - (k + 1)) (by omega) (hI _ _ _ ⟨k + 1, by omega, rfl, by simp [e0], by simp [e6], by simp, ?_⟩)
        rw [cseq_succ, hx, if_neg hx0]
        exact hj'
      · simp [go_sem]
        refine hR _ _ (.inr ?_)
        obtain ⟨m, hm, he⟩ := cseq_pre p.a (k := k + 1) (by omega)
        refine ⟨m, hm, ?_⟩
        rw [← he, cseq_succ, hx, if_neg hx0]
        exact hjx
  · obtain rfl : k = 4 := by omega
    simp [go_sem, e7]
    exact hR _ _ (.inl hj)

theorem any_of_cseq {p : Pt} (ok : PtOk p) (h : cseq p.a 4 = []) : ∀ x ∈ p.a, ¬ (x != 0) = true := by
  intro x hx
  obtain ⟨i, hi, rfl⟩ := List.mem_iff_getElem.1 hx
  have hi4 : i < 4 := by have := ok.a; omega
  unfold cseq at h
  rw [List.filter_eq_nil_iff] at h
  have := h i (List.mem_range.2 hi4)
  rw [List.getD_eq_getElem?_getD, List.getElem?_eq_getElem hi] at this
  exact this
theorem any_of_cseq' {p : Pt} (ok : PtOk p) (h : cseq p.a 4 ≠ []) : ∃ x ∈ p.a, (x != 0) = true := by
  obtain ⟨i, hi⟩ := List.exists_mem_of_ne_nil _ h
  unfold cseq at hi
  rw [List.mem_filter, List.mem_range] at hi
  have hi4 : i < p.a.length := by have := ok.a; omega
  refine ⟨p.a[i], List.getElem_mem _, ?_⟩
  have := hi.2
  rw [List.getD_eq_getElem?_getD, List.getElem?_eq_getElem hi4] at this
  exact this
theorem copies_any (p : Pt) (w : World) : Ret Tryz.prog 49 #[.agg (pt p)] w fun v' w' => v' = .func (.func 84) #[] #[.pointer (some ⟨w.heap.size, 0, none⟩)] ∧ w' = w.alloc (.cells (pt p) 58) := by
  refine v_enter Tryz.func49 Tryz.ntmps49 rfl (by simp) fun R' hR => ?_
  simp [go_sem]
  exact hR _ _ ⟨rfl, rfl⟩
/-- has a pointer a copy? -/
theorem some_any (p : Pt) (w : World) (ok : PtOk p) : Ret Tryz.prog 64 #[.agg (pt p)] w fun v' w' => v' = .bool (p.a.any (· != 0)) ∧ Ch Nw w w' := by
  refine v_enter Tryz.func64 Tryz.ntmps64 rfl (by simp) fun R' hR => ?_
  simp [go_sem, pt_size ok, pt_all ok]
  have hc := ((Ch.refl Nw w).alloc (.cells (pt p) 58)).alloc (.cells #[.bool false] 4)
  have hb2 := al2_1 w (.cells (pt p) 58) (.cells #[.bool false] 4)
  revert hc hb2
  generalize (w.alloc (.cells (pt p) 58)).alloc (.cells #[.bool false] 4) = w1
  intro hc hb2
  refine (copies_any p w1).mono ?_
  rintro _ w2 ⟨rfl, rfl⟩
  simp [go_sem]
  have hb := hp_alloc w1 (.cells (pt p) 58)
  have hc1 := (Ch.refl Nw w1).alloc (.cells (pt p) 58)
  have hb2 := hc1.obj hb2 id
  have hc := hc.trans hc1
  have hlt := lt_of_block hb2
  revert hb hb2 hc hlt
  generalize w1.alloc (.cells (pt p) 58) = w2
  generalize w1.heap.size = g
  intro hb hb2 hc hlt
  generalize hG : w.heap.size + 1 = G
  rw [hG] at hb2 hlt
  refine v_range (copies_iter p g _ _ (one G) w2 ok hb) (Ch.refl _ _) rfl rfl (by kernel_rfl) (fun k hk => by cases hk; exact hlt)
    (fun pre W => pre = [] ∧ W.heap[G]? = some (.cells #[.bool false] 4 (0, 0)) ∧ Ch Nw w W) (fun c pre W => c = .ret ∧ pre ≠ [] ∧ W.heap[G]? = some (.cells #[.bool true] 4 (0, 0)) ∧ Ch Nw w W) (fun _ f' _ => f' 2 = .pointer (some ⟨G, 0, none⟩)) ?_ ?_ ?_ ?_ ?_ ?_ ?_ ?_
  · rintro pre W W' ⟨h0, h1, h2⟩ hr
    exact ⟨h0, hr.blk h1, hr.since h2 hc.size⟩
  · rintro c pre W W' ⟨h0, h0', h1, h2⟩ hr
    exact ⟨h0, h0', hr.blk h1, hr.since h2 hc.size⟩
  · exact fun _ _ _ _ h _ => h
  · exact ⟨rfl, hb2, hc⟩
  · rintro pre x W hI
    simp [go_sem]
    exact ⟨Ch.refl _ _, hI, by simp [cenc]⟩
  · rintro pre x f' W ⟨h0, h1, h2⟩ hf
    have hcl := fun i => cell_blk h1 i
    have hfz := fun i => frz_blk h1 i
    simp [go_sem, hf, hcl, hfz]
    refine ⟨(Ch.refl (one G) W).setCell (.inl (by simp [one])) _, ?_, ?_⟩
    · simp [h1, setOf]
    · exact h2.setCell (.inr (by show w.heap.size ≤ G; omega)) _
  · rintro D W hD ⟨h0, h1, h2⟩ hd
    have hne : D ≠ G := fun e => by rw [e, h1] at hd; cases hd
    have hcl := fun i => cell_blk h1 i
    have hfz := fun i => frz_blk h1 i
    have h3 : ((W.setCell ⟨G, 0, none⟩ (.bool false)).putObj D (.deferred none)).heap[G]? = some (.cells #[.bool false] 4 (0, 0)) := by
      rw [hp_putObj hne.symm]; simp [h1, setOf]
    have hcl3 := fun i => cell_blk h3 i
    simp [go_sem, hG, hcl, hfz, VEnd_normal', VEnd_ret', hne, hd, hcl3]
    refine hR _ _ ⟨?_, (h2.setCell (.inr (by show w.heap.size ≤ G; omega)) _).putObj (.inr (by have := hc.size; omega)) _⟩
    congr 1
    symm
    rw [List.any_eq_false]
    exact any_of_cseq ok h0
  · rintro D c k W hD hk ⟨rfl, h0, h1, h2⟩ hd
    have hne : D ≠ G := fun e => by rw [e, h1] at hd; cases hd
    have h3 : (W.putObj D (.deferred none)).heap[G]? = some (.cells #[.bool true] 4 (0, 0)) := by
      rw [hp_putObj hne.symm]; exact h1
    have hcl3 := fun i => cell_blk h3 i
    simp [go_sem, hG, VEnd_ret', hd, hcl3]
    refine hR _ _ ⟨?_, h2.putObj (.inr (by have := hc.size; omega)) _⟩
    congr 1
    symm
    rw [List.any_eq_true]
    exact any_of_cseq' ok fun e => h0 (by rw [e]; simp)
end Go.Proofs.YtppilgkgnofkpaaGreatDoor
