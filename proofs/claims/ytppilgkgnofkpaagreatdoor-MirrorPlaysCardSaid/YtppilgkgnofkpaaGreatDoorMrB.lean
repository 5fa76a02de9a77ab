/- Package space, and the mirror's copies: looked at. No condition but on sizes. -/
import Derived.Test.YtppilgkgnofkpaaGreatDoorPtA
import Derived.Test.YtppilgkgnofkpaaGreatDoorMrM
set_option linter.unusedSimpArgs false
set_option linter.unusedVariables false

/- Ranges over a function whose body also changes cells that its earlier rounds made. They speak of no program. No condition. -/
namespace Go.Kin
open Go Go.RowKit

/-- what is no cells is as it was -/
def KeepN (w w' : World) : Prop := ∀ (k : Nat) (o : Obj), w.heap[k]? = some o → o.isCells = false → w'.heap[k]? = some o
theorem KeepN.refl (w : World) : KeepN w w := fun _ _ h _ => h
theorem KeepN.trans {w w1 w2 : World} (h : KeepN w w1) (k : KeepN w1 w2) : KeepN w w2 := fun i o hi ho => k i o (h i o hi ho) ho
theorem KeepN.of {S : Nat → Prop} {w w' : World} (hc : Ch S w w') (hS : ∀ k, S k → k < w.heap.size → ∃ cs t fr, w.heap[k]? = some (.cells cs t fr)) : KeepN w w' := fun k o hk ho => by
  refine hc.obj hk fun e => ?_
  have hlt : k < w.heap.size := by
    obtain ⟨h, _⟩ := Array.getElem?_eq_some_iff.1 hk
    exact h
  obtain ⟨cs, t, fr, hb⟩ := hS k e hlt
  rw [hb] at hk
  cases hk
  cases ho
theorem KeepN.nw {w w' : World} (hc : Ch Nw w w') : KeepN w w' := KeepN.of hc fun _ e => e.elim
theorem KeepN.drew {w w' : World} (h : KeepN w w') : KeepN w w'.drew := h
theorem KeepN.setCell {w w' : World} (h : KeepN w w') {g i : Nat} {cs : Array Value} {T : TypeId} {fr : Nat × Nat} (hb : w'.heap[g]? = some (.cells cs T fr)) (v : Value) : KeepN w (w'.setCell ⟨g, i, none⟩ v) :=
  h.trans (KeepN.of ((Ch.refl (fun k => k = g) w').setCell (p := ⟨g, i, none⟩) (.inl rfl) v) fun k hk _ => by subst hk; exact ⟨_, _, _, hb⟩)
theorem KeepN.from {w w' : World} (h : KeepN w w') (hs : w.heap.size ≤ w'.heap.size) (B : Nat) : KeepsFrom B w w' := ⟨hs, fun k o _ hk ho => h k o hk ho⟩
/-- how a round's body may be left -/
def Bd2 (S : Nat → Prop) (B : Nat) (W : World) (I : World → Prop) (Ix : Code → World → Prop) : Post
  | .normal, _, _, W' => (KeepsFrom B W W' ∧ Ch (fun k => S k ∨ B ≤ k) W W') ∧ I W'
  | .ret, _, _, W' => KeepsFrom B W W' ∧ Ix .ret W'
  | .exit id, _, _, W' => KeepsFrom B W W' ∧ Ix (.exit id) W'
  | _, _, _, _ => False
section
variable (S : Nat → Prop) (B : Nat) (W : World) (I : World → Prop) (Ix : Code → World → Prop) (ms : List Nat) (f : Nat → Value) (W' : World)
@[simp] theorem Bd2_normal : Bd2 S B W I Ix .normal ms f W' = ((KeepsFrom B W W' ∧ Ch (fun k => S k ∨ B ≤ k) W W') ∧ I W') := rfl
@[simp] theorem Bd2_ret : Bd2 S B W I Ix .ret ms f W' = (KeepsFrom B W W' ∧ Ix .ret W') := rfl
@[simp] theorem Bd2_exit (id : Nat) : Bd2 S B W I Ix (.exit id) ms f W' = (KeepsFrom B W W' ∧ Ix (.exit id) W') := rfl
end
/-- The rule. -/
theorem v_range2 {P : Program} {n : Nat} {Q : Post} {g : Operand} {ps : List Tmp} {assign body : Code} {ms : List Nat} {f : Nat → Value} {w w0 : World} {gf : FuncId} {lb : List Value} {k : Nat} {enc : Nat → List Value} {seq : List Nat} {S : Nat → Prop}
    (hit : Iter P gf lb k enc seq S w0) (hw : Ch Nw w0 w) (hg : ev n f g = .func (.func gf) #[] lb.toArray) (hk : ps.length = k) (hnr : (nr' assign && nr' body) = true)
    (I : List Nat → World → Prop) (Ix : Code → List Nat → World → Prop) (Ax : Nat → (Nat → Value) → World → Prop)
    (hI : ∀ pre W W', I pre W → Rec w.heap.size W W' → I pre W') (hIx : ∀ c pre W W', Ix c pre W → Rec w.heap.size W W' → Ix c pre W') (hAx : ∀ x f W W', Ax x f W → Rec w.heap.size W W' → Ax x f W') (h0 : I [] w)
    (hassign : ∀ pre x W, I pre W → VC P n (Then (At [] fun f' W' => Ch Nw W W' ∧ I pre W' ∧ Ax x f' W') fun _ _ _ _ => False) assign [] (updA f ps (enc x)) W)
    (hbody : ∀ pre x f' W, pre.length < seq.length → I pre W → Ax x f' W → VC P n (Bd2 S w.heap.size W (I (pre ++ [x])) fun c => Ix c (pre ++ [x])) body [] f' W)
    (hdone : ∀ D W, w.heap.size ≤ D → I seq W → W.heap[D]? = some (.deferred (some [])) → Q .normal (D :: ms) f W)
    (hstop : ∀ D c k W, w.heap.size ≤ D → k ≤ seq.length → Ix c (seq.take k) W → W.heap[D]? = some (.deferred (some [])) → VC P n Q c (D :: ms) f W) :
    VOther P n Q (.rangeFunc g ps.toArray assign body) ms f w := by
  unfold VOther
  intro cx hr
  simp only [Bool.and_eq_true] at hnr
  have hF : cx.F = Fence.wide := by
    obtain ⟨r, m, d⟩ := cx
    cases r with
    | none => rfl
    | some r => cases hr
  rw [hF]
  have hn0 := hw.size
  have key : (Code.rangeFunc g ps.toArray assign body).wpIn Fence.wide 3 P (up cx n Q) (act cx n ms f) w := by
    refine wpIn_rangeFunc_ownH rfl (by omega) (by rw [act_eval]; exact hg) trivial hit.ent (hit.stops 2) (fun h1 h2 => Ch.trans h1 h2)
      (fun W l o o' hl _ _ _ => Ch.mono (Ch.of_grown (grownBy_putObj' W l o')) fun j _ e => .inr (by cases e; omega)) hw.below (fun x => by simp [hit.size, hk]) I Ix
      (fun pre W W' row h1 h2 h3 => hI pre W W' h1 ⟨row, h2, h3⟩) (fun c pre W W' row h1 h2 h3 => hIx c pre W W' h1 ⟨row, h2, h3⟩) h0
      (fun x a' W => ∃ f', a' = ⟨tm n f', []⟩ ∧ Ax x f' W) (fun x a' _ W W' row h1 h2 h3 => by obtain ⟨f', e, h1⟩ := h1; exact ⟨f', e, hAx x f' W W' h1 ⟨row, h2, h3⟩⟩) ?_ ?_ ?_ ?_
    · intro l pre x W K h1 h2
      have := VC.sound (cx := ⟨some l, 1, []⟩) _ _ _ _ _ (.inr hnr.1) (hassign pre x W h1)
      have e1 : ((ps.toArray.zip (enc x).toArray).foldl (fun t (p, v) => t.setIfInBounds p v) (act cx n ms f).tmps) = tm n (updA f ps (enc x)) := by
        rw [List.zip_toArray, List.foldl_toArray]
        exact tm_updA n ps (enc x) f
      rw [e1]
      refine wpIn_mono this ?_
      rintro e a w' ⟨ms', f', rfl, hq⟩
      unfold Then at hq
      cases e with
      | normal =>
        unfold At at hq
        obtain ⟨rfl, h3, h4, h5⟩ := hq
        exact h2 _ _ (keeps_of h3 fun k hk => hk.elim) (h3.mono fun j _ e => e.elim) h4 ⟨f', rfl, h5⟩
      | _ => exact hq
    · rintro l pre x a' W hl _ h1 ⟨f', rfl, h2⟩ hlt
      refine wpIn_mono (VC.sound (cx := ⟨some l, 1, []⟩) _ _ _ _ _ (.inr hnr.2) (hbody pre x f' W hlt h1 h2)) ?_
      rintro e a w' ⟨ms', f'', rfl, hq⟩
      cases e with
      | normal => exact ⟨hq.1.1, hq.1.2.mono fun j _ e => e.imp id fun e => by omega, hq.2⟩
      | ret => exact ⟨hq.1, hq.2⟩
      | exit id => exact ⟨hq.1, hq.2⟩
      | _ => exact hq.elim
    · rintro D xs W hD rfl h1 h2
      exact ⟨D :: ms, f, rfl, hdone D W hD h1 h2⟩
    · rintro D c pre W hD ⟨k, hk, rfl⟩ h1 h2
      exact VC.sound (cx := ⟨none, 3, cx.d⟩) c Q (D :: ms) f W (.inl rfl) (hstop D c k W hD hk h1 h2)
  exact fun b k cs h1 h2 _ => key b k cs h1 h2 (room_wide _)
end Go.Kin

/- A mirror in memory. No condition. -/
namespace Go.Proofs.YtppilgkgnofkpaaGreatDoor
open Go.RowKit Go.Kin

/-- the disks, the space's block and its rows -/
structure Mz where
  d : Nat → Nat
  sp : Nat
  g : Nat → Nat
def plc (x : Nat × Bool) : Array Value := #[.int .i64 x.1, .bool x.2]
theorem plc_size (l : List (Nat × Bool)) : ∀ x ∈ l, (plc x).size = 2 := fun _ _ => rfl
def pls (s : Mr) (n i : Nat) : List (Nat × Bool) := (List.range n).map fun a => (s.use i a, s.sick i a)
def plcs (s : Mr) (n i : Nat) : Array Value := rowsOf plc (pls s n i)
theorem pls_at (s : Mr) {n a : Nat} (i : Nat) (h : a < n) : (pls s n i)[a]? = some (s.use i a, s.sick i a) := by simp [pls, h]
theorem plcs_at (s : Mr) {n a : Nat} (i : Nat) (h : a < n) : (plcs s n i)[a * 2]? = some (.int .i64 (s.use i a)) ∧ (plcs s n i)[a * 2 + 1]? = some (.bool (s.sick i a)) :=
  ⟨rows_at (n := 2) (plc_size _) (pls_at s i h) (i := 0) rfl, rows_at (n := 2) (plc_size _) (pls_at s i h) (i := 1) rfl⟩
def mcs (s : Mr) (z : Mz) (mv : Value) : Array Value := #[.pointer (some ⟨z.d 0, 0, none⟩), .pointer (some ⟨z.d 1, 0, none⟩), .pointer (some ⟨z.sp, 0, none⟩), .int .i64 (s.found 0), .int .i64 (s.mended 0), .int .i64 (s.found 1), .int .i64 (s.mended 1), mv]
def MrX (z : Mz) (m : Nat) (mv : Value) : Nat → Prop := fun k => k = m ∨ k = z.sp ∨ k = z.g 0 ∨ k = z.g 1 ∨ mv.ownBlock = some k
structure MrP (w : World) (m p n : Nat) (z : Mz) (s : Mr) (mv : Value) (A : Nat → Nat → Prop) : Prop where
  blk : w.heap[m]? = some (.cells (mcs s z mv) 120 (0, 0))
  sd : ∀ i, i < 2 → Sd w (z.d i) p n (s.dk i) s.P (A i)
  sp : w.heap[z.sp]? = some (.cells #[.slice (some ⟨z.g 0, 0, none⟩) n n, .slice (some ⟨z.g 1, 0, none⟩) n n] 155 (0, 0))
  pl : ∀ i, i < 2 → w.heap[z.g i]? = some (.cells (plcs s n i) 150 (0, 0))
  mo : w.ownsRow 0 58 41 mv s.moves.length (rowsL pt s.moves)
  okm : ∀ q ∈ s.moves, PtOk q
  ab : ∀ k, A 0 k → ¬ A 1 k
  ne : z.sp ≠ m ∧ z.g 0 ≠ m ∧ z.g 1 ≠ m ∧ z.sp ≠ z.g 0 ∧ z.sp ≠ z.g 1 ∧ z.g 0 ≠ z.g 1
  nx : ∀ k, MrX z m mv k → ¬ A 0 k ∧ ¬ A 1 k ∧ k ≠ p
  nv : ∀ k, mv.ownBlock = some k → k ≠ m ∧ k ≠ z.sp ∧ k ≠ z.g 0 ∧ k ≠ z.g 1
/-- all its blocks -/
def MrO (z : Mz) (m p : Nat) (mv : Value) (A : Nat → Nat → Prop) : Nat → Prop := fun k => MrX z m mv k ∨ A 0 k ∨ A 1 k ∨ k = p
/-- a mirror in the blocks O -/
def MrAt (w : World) (m p n : Nat) (z : Mz) (s : Mr) (O : Nat → Prop) : Prop := ∃ mv A, MrP w m p n z s mv A ∧ (∀ k, MrO z m p mv A k → O k) ∧ ∀ k, O k → k < w.heap.size
theorem lt2 {i : Nat} (h : i < 2) : i = 0 ∨ i = 1 := by omega
section
variable {w w' : World} {m p n i : Nat} {z : Mz} {s : Mr} {mv mv' : Value} {A : Nat → Nat → Prop} {O S : Nat → Prop} {D' : Dk} {P' : Pwr}
theorem MrP.olt (h : MrP w m p n z s mv A) : ∀ k, MrO z m p mv A k → k < w.heap.size := fun k hk => by
  rcases hk with (rfl | rfl | rfl | rfl | hk) | hk | hk | rfl
  · exact lt_of_block h.blk
  · exact lt_of_block h.sp
  · exact lt_of_block (h.pl 0 (by omega))
  · exact lt_of_block (h.pl 1 (by omega))
  · exact own_blt h.mo k hk
  · exact (h.sd 0 (by omega)).olt k hk
  · exact (h.sd 1 (by omega)).olt k hk
  · exact (h.sd 0 (by omega)).plt
theorem MrP.xi (h : MrP w m p n z s mv A) (hi : i < 2) {k : Nat} (hk : MrX z m mv k) : ¬ A i k ∧ k ≠ p := by
  obtain ⟨a, b, c⟩ := h.nx k hk
  rcases lt2 hi with rfl | rfl
  · exact ⟨a, c⟩
  · exact ⟨b, c⟩
theorem MrP.ai (h : MrP w m p n z s mv A) (hi : i < 2) {j k : Nat} (hj : j < 2) (hij : j ≠ i) (hk : A i k) : ¬ A j k := fun e => by
  rcases lt2 hi with rfl | rfl <;> rcases lt2 hj with rfl | rfl
  · exact hij rfl
  · exact h.ab k hk e
  · exact h.ab k e hk
  · exact hij rfl
theorem MrP.ch (h : MrP w m p n z s mv A) (hc : Ch S w w') (hS : ∀ k, MrO z m p mv A k → ¬ S k) : MrP w' m p n z s mv A := by
  have hx : ∀ k, MrX z m mv k → ¬ S k := fun k hk => hS k (.inl hk)
  refine ⟨hc.obj h.blk (hx _ (.inl rfl)), fun i hi => (h.sd i hi).ch hc (fun k hk => ?_) (hS p (.inr (.inr (.inr rfl)))), hc.obj h.sp (hx _ (.inr (.inl rfl))), fun i hi => hc.obj (h.pl i hi) (hx _ ?_), own_ch h.mo hc fun k hk => hx _ (.inr (.inr (.inr (.inr hk)))), h.okm, h.ab, h.ne, h.nx, h.nv⟩
  · rcases lt2 hi with rfl | rfl
    · exact hS k (.inr (.inl hk))
    · exact hS k (.inr (.inr (.inl hk)))
  · rcases lt2 hi with rfl | rfl
    · exact .inr (.inr (.inl rfl))
    · exact .inr (.inr (.inr (.inl rfl)))
/-- a disk took a step -/
theorem MrP.disk (h : MrP w m p n z s mv A) (hi : i < 2) (h1 : Sd w' (z.d i) p n D' P' (Gr (A i) w w')) (hc : Ch (fun k => A i k ∨ k = p) w w') : MrP w' m p n z { s with dk := upd1 s.dk i D', P := P' } mv (upd1 A i (Gr (A i) w w')) := by
  have hl := h.olt
  have hs := hc.size
  have hx : ∀ k, MrX z m mv k → ¬ (A i k ∨ k = p) := fun k hk e => e.elim (h.xi hi hk).1 (h.xi hi hk).2
  have hA : ∀ j, j < 2 → ∀ k, upd1 A i (Gr (A i) w w') j k → A j k ∨ (j = i ∧ w.heap.size ≤ k) := fun j hj k hk => by
    by_cases hji : j = i
    · subst hji
      rw [upd1_same] at hk
      exact hk.imp id fun e => ⟨rfl, e.1⟩
    · rw [upd1_ne _ _ hji] at hk
      exact .inl hk
  refine ⟨hc.obj h.blk (hx _ (.inl rfl)), fun j hj => ?_, hc.obj h.sp (hx _ (.inr (.inl rfl))), fun i hi => hc.obj (h.pl i hi) (hx _ ?_), own_ch h.mo hc fun k hk => hx _ (.inr (.inr (.inr (.inr hk)))), h.okm, fun k h0 h1 => ?_, h.ne, fun k hk => ⟨fun e => ?_, fun e => ?_, (h.nx k hk).2.2⟩, h.nv⟩
  · by_cases hji : j = i
    · subst hji
      simp only [upd1_same]
      exact h1
    · simp only [upd1_ne _ _ hji]
      exact ⟨(h.sd j hj).dk.ch hc fun k hk e => e.elim (fun e => h.ai hj hi (fun e => hji e.symm) hk e) fun e => (h.sd j hj).pO (by rw [← e]; exact hk), h1.pw, (h.sd j hj).pO⟩
  · rcases lt2 hi with rfl | rfl
    · exact .inr (.inr (.inl rfl))
    · exact .inr (.inr (.inr (.inl rfl)))
  · rcases hA 0 (by omega) k h0 with h0 | ⟨e, h0⟩
    · rcases hA 1 (by omega) k h1 with h1 | ⟨_, h1⟩
      · exact h.ab k h0 h1
      · have := hl k (.inr (.inl h0)); omega
    · rcases hA 1 (by omega) k h1 with h1 | ⟨e1, h1⟩
      · have := hl k (.inr (.inr (.inl h1))); omega
      · omega
  · rcases hA 0 (by omega) k e with e | ⟨_, e⟩
    · exact (h.nx k hk).1 e
    · have := hl k (.inl hk); omega
  · rcases hA 1 (by omega) k e with e | ⟨_, e⟩
    · exact (h.nx k hk).2.1 e
    · have := hl k (.inl hk); omega
theorem MrP.diskO (h : MrP w m p n z s mv A) (hi : i < 2) {k : Nat} (hk : MrO z m p mv (upd1 A i (Gr (A i) w w')) k) : Gr (MrO z m p mv A) w w' k := by
  have hA : ∀ j, j < 2 → ∀ k, upd1 A i (Gr (A i) w w') j k → A j k ∨ (w.heap.size ≤ k ∧ k < w'.heap.size) := fun j hj k hk => by
    by_cases hji : j = i
    · subst hji
      rw [upd1_same] at hk
      exact hk
    · rw [upd1_ne _ _ hji] at hk
      exact .inl hk
  rcases hk with hk | hk | hk | hk
  · exact .inl (.inl hk)
  · exact (hA 0 (by omega) k hk).imp (fun e => .inr (.inl e)) id
  · exact (hA 1 (by omega) k hk).imp (fun e => .inr (.inr (.inl e))) id
  · exact .inl (.inr (.inr (.inr hk)))
/-- its own block's numbers -/
theorem MrP.own (h : MrP w m p n z s mv A) (hc : Ch (one m) w w') {s' : Mr} (hb : w'.heap[m]? = some (.cells (mcs s' z mv) 120 (0, 0))) (e1 : s'.dk = s.dk) (e2 : s'.P = s.P) (e3 : s'.use = s.use) (e4 : s'.sick = s.sick) (e5 : s'.moves = s.moves) : MrP w' m p n z s' mv A := by
  have hx : MrX z m mv m := .inl rfl
  obtain ⟨n1, n2, n3, n4, n5, n6⟩ := h.ne
  have ep : ∀ i, plcs s' n i = plcs s n i := fun i => by unfold plcs pls; rw [e3, e4]
  refine ⟨hb, fun i hi => ?_, hc.obj h.sp n1, fun i hi => ?_, by rw [e5]; exact own_ch h.mo hc fun k hk e => (h.nv k hk).1 e, by rw [e5]; exact h.okm, h.ab, h.ne, h.nx, h.nv⟩
  · rw [e1, e2]
    exact (h.sd i hi).ch hc (fun k hk e => (h.xi hi hx).1 (by simp only [one] at e; rw [← e]; exact hk)) fun e => (h.xi hi hx).2 e.symm
  · rw [ep]
    rcases lt2 hi with rfl | rfl
    · exact hc.obj (h.pl 0 hi) n2
    · exact hc.obj (h.pl 1 hi) n3
theorem MrAt.ch (h : MrAt w m p n z s O) (hc : Ch S w w') (hS : ∀ k, O k → ¬ S k) : MrAt w' m p n z s O := by
  obtain ⟨mv, A, h1, h2, h3⟩ := h
  exact ⟨mv, A, h1.ch hc fun k hk => hS k (h2 k hk), h2, fun k hk => Nat.lt_of_lt_of_le (h3 k hk) hc.size⟩
end
end Go.Proofs.YtppilgkgnofkpaaGreatDoor

namespace Go.Proofs.YtppilgkgnofkpaaGreatDoor
open Go.RowKit Go.Kin

section
variable {w w' : World} {m p n i : Nat} {z : Mz} {s : Mr} {mv : Value} {A : Nat → Nat → Prop} {O S : Nat → Prop}
theorem spdisk_any (h : MrP w m p n z s mv A) (hi : i < 2) : Ret Tryz.prog 73 #[.pointer (some ⟨z.sp, 0, none⟩), .int .i64 i] w fun v' w' => v' = .slice (some ⟨z.g i, 0, none⟩) n n ∧ w' = w := by
  refine v_enter Tryz.func73 Tryz.ntmps73 rfl (by simp) fun R' hR => ?_
  have c0 : w.cell? ⟨z.sp, 0, none⟩ = some (.slice (some ⟨z.g 0, 0, none⟩) n n) := cell_blk h.sp 0
  have c1 : w.cell? ⟨z.sp, 1, none⟩ = some (.slice (some ⟨z.g 1, 0, none⟩) n n) := cell_blk h.sp 1
  rcases lt2 hi with rfl | rfl
  · simp [go_sem, c0]
    exact hR _ _ ⟨rfl, rfl⟩
  · simp [go_sem, c1]
    exact hR _ _ ⟨rfl, rfl⟩
theorem spis_any (h : MrP w m p n z s mv A) (hi : i < 2) (a : Nat) (ha : a < 65536) : Ret Tryz.prog 29 #[.pointer (some ⟨z.sp, 0, none⟩), .int .i64 i, .int .u16 a] w fun v' w' => v' = .bool (decide (a < n) && s.sick i a) ∧ w' = w := by
  refine v_enter Tryz.func29 Tryz.ntmps29 rfl (by simp) fun R' hR => ?_
  simp [go_sem]
  refine (spdisk_any h hi).mono ?_
  rintro _ w1 ⟨rfl, rfl⟩
  have hlen : ∀ w', (Builtin.len_ #[147] 3 #[.slice (some ⟨z.g i, 0, none⟩) n n]).run Tryz.prog w' = .ok (.int .i64 n) w' := fun w' => by simp [Builtin.len_, run_underlying Tryz.underlying147, goInt]
  have hw64 : IntKind.i64.wrap (a : Int) = a := by rw [IntKind.wrap_i64]; omega
  by_cases han : a < n
  · have han' : (a : Int) < n := by omega
    have hb := h.pl i hi
    have cc : w1.cell? ⟨z.g i, a * 2 + 1, none⟩ = some (.bool (s.sick i a)) := by rw [cell_blk hb]; exact (plcs_at s i han).2
    simp [go_sem, hlen, hw64, han, han', cc]
    exact hR _ _ ⟨by simp [han], rfl⟩
  · have han' : ¬ (a : Int) < n := by omega
    simp [go_sem, hlen, hw64, han, han']
    exact hR _ _ ⟨by simp [han], rfl⟩
theorem pls_set (s : Mr) {n a : Nat} (i : Nat) : (pls s n i).set a (s.use i a, true) = pls { s with sick := upd1 s.sick i (upd1 (s.sick i) a true) } n i := by
  unfold pls
  simp only [upd1_same]
  apply List.ext_getElem?
  intro j
  rw [List.getElem?_set]
  by_cases hj : a = j
  · subst hj
    by_cases ha : a < n <;> simp [ha]
  · rw [if_neg hj]
    simp only [List.getElem?_map]
    cases hr : (List.range n)[j]? with
    | none => rfl
    | some x =>
      have hx : x = j := by
        have := List.getElem?_eq_some_iff.1 hr
        obtain ⟨h1, h2⟩ := this
        simpa using h2.symm
      subst hx
      simp [upd1_ne _ _ (fun e => hj e.symm)]
theorem MrP.row (h : MrP w m p n z s mv A) (hi : i < 2) (hc : Ch (one (z.g i)) w w') {s' : Mr} (hb : w'.heap[z.g i]? = some (.cells (plcs s' n i) 150 (0, 0))) (hj : ∀ j, j ≠ i → plcs s' n j = plcs s n j) (e : mcs s' z mv = mcs s z mv) (e1 : s'.dk = s.dk) (e2 : s'.P = s.P) (e5 : s'.moves = s.moves) : MrP w' m p n z s' mv A := by
  have hx : MrX z m mv (z.g i) := by
    rcases lt2 hi with rfl | rfl
    · exact .inr (.inr (.inl rfl))
    · exact .inr (.inr (.inr (.inl rfl)))
  obtain ⟨n1, n2, n3, n4, n5, n6⟩ := h.ne
  have nm : m ≠ z.g i ∧ z.sp ≠ z.g i := by
    rcases lt2 hi with rfl | rfl
    · exact ⟨fun e => n2 e.symm, n4⟩
    · exact ⟨fun e => n3 e.symm, n5⟩
  have hvi : ∀ k, mv.ownBlock = some k → k ≠ z.g i := fun k hk => by
    rcases lt2 hi with rfl | rfl
    · exact (h.nv k hk).2.2.1
    · exact (h.nv k hk).2.2.2
  refine ⟨by rw [e]; exact hc.obj h.blk nm.1, fun j hj => ?_, hc.obj h.sp nm.2, fun j hj2 => ?_, by rw [e5]; exact own_ch h.mo hc hvi, by rw [e5]; exact h.okm, h.ab, h.ne, h.nx, h.nv⟩
  · rw [e1, e2]
    exact (h.sd j hj).ch hc (fun k hk e => (h.xi hj hx).1 (by simp only [one] at e; rw [← e]; exact hk)) fun e => (h.xi hj hx).2 e.symm
  · by_cases hji : j = i
    · rw [hji]; exact hb
    · rw [hj j hji]
      refine hc.obj (h.pl j hj2) fun e => ?_
      simp only [one] at e
      rcases lt2 hi with rfl | rfl <;> rcases lt2 hj2 with rfl | rfl
      · exact hji rfl
      · exact n6 e.symm
      · exact n6 e
      · exact hji rfl
theorem sick_any (h : MrP w m p n z s mv A) (hi : i < 2) (a : Nat) (ha : a < 65536) : Ret Tryz.prog 105 #[.pointer (some ⟨z.sp, 0, none⟩), .int .i64 i, .int .u16 a] w fun v' w' => MrP w' m p n z (s.sicks n i a) mv A ∧ Ch (one (z.g i)) w w' := by
  refine v_enter Tryz.func105 Tryz.ntmps105 rfl (by simp) fun R' hR => ?_
  simp [go_sem]
  refine (v_enter Tryz.func120 Tryz.ntmps120 rfl (by simp) fun R2 hR2 => ?_ : Ret Tryz.prog 120 #[.pointer (some ⟨z.sp, 0, none⟩), .int .i64 i, .int .u16 a, .func (.func 121) #[] #[]] w fun v' w' => (∃ k, v' = .int .i64 k) ∧ MrP w' m p n z (s.sicks n i a) mv A ∧ Ch (one (z.g i)) w w').mono ?_
  · have hfn : ∀ (x : List Value) (w : World), (callFunc 121 x.toArray).run Tryz.prog w = .ok (.enter 121 x.toArray) w := fun x w => by simp [go_sem]
    have hlen : ∀ w', (Builtin.len_ #[147] 3 #[.slice (some ⟨z.g i, 0, none⟩) n n]).run Tryz.prog w' = .ok (.int .i64 n) w' := fun w' => by simp [Builtin.len_, run_underlying Tryz.underlying147, goInt]
    have hw64 : IntKind.i64.wrap (a : Int) = a := by rw [IntKind.wrap_i64]; omega
    simp [go_sem]
    refine (spdisk_any h hi).mono ?_
    rintro _ w1 ⟨rfl, rfl⟩
    by_cases h0 : a = 0
    · subst h0
      simp [go_sem]
      exact hR2 _ _ ⟨⟨_, rfl⟩, by simpa [Mr.sicks] using h, Ch.refl _ _⟩
    · have h0' : ((a : Int) == 0) = false := beq_false_of_ne (by omega)
      by_cases han : a < n
      · have han' : ¬ (n : Int) ≤ a := by omega
        simp [go_sem, hlen, hw64, h0, h0', han, han']
        have hb := h.pl i hi
        have ff := fun j => frz_blk hb j
        have cc : w1.cell? ⟨z.g i, a * 2 + 1, none⟩ = some (.bool (s.sick i a)) := by rw [cell_blk hb]; exact (plcs_at s i han).2
        have hc : Ch (one (z.g i)) w1 (w1.setCell ⟨z.g i, a * 2 + 1, none⟩ (.bool true)) := (Ch.refl (one (z.g i)) w1).setCell (p := ⟨z.g i, a * 2 + 1, none⟩) (.inl rfl) _
        have hs : s.sicks n i a = { s with sick := upd1 s.sick i (upd1 (s.sick i) a true) } := by unfold Mr.sicks; rw [if_neg (by omega)]
        refine (v_enter Tryz.func121 Tryz.ntmps121 rfl (by simp) fun R3 hR3 => ?_ : Ret Tryz.prog 121 #[.pointer (some ⟨z.g i, a * 2, none⟩)] w1 fun v' w' => v' = .bool true ∧ w' = w1.setCell ⟨z.g i, a * 2 + 1, none⟩ (.bool true)).mono ?_
        · simp [go_sem, cc, ff]
          exact hR3 _ _ ⟨rfl, rfl⟩
        rintro _ w2 ⟨rfl, rfl⟩
        simp [go_sem]
        refine hR2 _ _ ⟨⟨_, rfl⟩, ?_, hc⟩
        rw [hs]
        refine h.row hi hc ?_ (fun j hj => ?_) rfl rfl rfl rfl
        · rw [hp_setCell, hb, setOf_cells]
          congr 1
          congr 1
          unfold plcs
          rw [← pls_set]
          exact rows_set_at (n := 2) (plc_size _) (pls_at s i han) (i := 1) (by omega) rfl
        · unfold plcs pls
          simp only [upd1_ne _ _ hj]
      · have han' : (n : Int) ≤ a := by omega
        simp [go_sem, hlen, hw64, h0, h0', han, han']
        exact hR2 _ _ ⟨⟨_, rfl⟩, by simpa [Mr.sicks, show n ≤ a by omega] using h, Ch.refl _ _⟩
  · rintro _ w1 ⟨⟨k, rfl⟩, h1, c1⟩
    simp [go_sem]
    exact hR _ _ ⟨h1, c1⟩
/-- what a copy says -/
def MReadR (w : World) (r : Option Byts) (v' : Value) (w' : World) : Prop := match r with
  | some b => ∃ u, v' = .tuple #[u, .bool true] ∧ b.length = 512 ∧ Sl w' u 512 (bvs b) ∧ Fresh w.heap.size u ∧ ∀ k, u.ownBlock = some k → k < w'.heap.size
  | none => ∃ u, v' = .tuple #[u, .bool false]
set_option maxRecDepth 100000 in
theorem mread_any (h : MrP w m p n z s mv A) (q : Pt) (ok : PtOk q) (hk : Lk w) (k : Nat) (hk4 : k < 4) : Ret Tryz.prog 104 #[.pointer (some ⟨m, 0, none⟩), .agg (pt q), .agg #[.int .i64 (k / 2 : Nat), .int .u16 (adr q k)]] w fun v' w' => MReadR w (s.good n q k) v' w' ∧ Ch Nw w w' := by
  refine v_enter Tryz.func104 Tryz.ntmps104 rfl (by simp) fun R' hR => ?_
  have hps := pt_size ok
  have hpa := pt_all ok
  have hi : k / 2 < 2 := by omega
  have hal := adr_lt ok k
  obtain ⟨i, hki⟩ : ∃ i, k / 2 = i := ⟨_, rfl⟩
  rw [hki] at hi
  have b0 := al2_0 w (.cells (pt q) 58) (.cells #[.int .i64 (k / 2 : Nat), .int .u16 (adr q k)] 162)
  have b1 := al2_1 w (.cells (pt q) 58) (.cells #[.int .i64 (k / 2 : Nat), .int .u16 (adr q k)] 162)
  have ca := ((Ch.refl Nw w).alloc (.cells (pt q) 58)).alloc (.cells #[.int .i64 (k / 2 : Nat), .int .u16 (adr q k)] 162)
  have hg : s.good n q k = if (s.dk i).able s.P then ((s.dk i).look n (adr q k)).filter (fitB q) else none := by unfold Mr.good; rw [hki]
  rw [hki] at b0 b1 ca ⊢
  simp [go_sem]
  obtain ⟨g, hgs⟩ : ∃ g, w.heap.size = g := ⟨_, rfl⟩
  rw [hgs] at b0 b1 ⊢
  generalize (w.alloc (.cells (pt q) 58)).alloc (.cells #[.int .i64 i, .int .u16 (adr q k)] 162) = w1 at *
  have h1 := h.ch ca fun _ _ e => e
  have h1d := h1.ch (Ch.refl Nw w1).drew fun _ _ e => e
  have c1 := fun j => cell_blk b1 j
  have cd : w1.cell? ⟨m, i, none⟩ = some (.pointer (some ⟨z.d i, 0, none⟩)) := by
    rw [cell_blk h1.blk]
    rcases lt2 hi with rfl | rfl <;> rfl
  refine v_draw' [(0, none), (1, none), (2, none), (3, none), (4, none), (5, none), (6, none), (7, none), (8, none), (9, some []), (10, none), (11, none), (12, none), (13, none), (14, none)] (by kernel_rfl) (by kernel_rfl) ?_
  have hi2 : (i : Int) < 2 := by omega
  simp [go_sem, c1, cd, hi, hi2]
  refine ((h1d.sd i hi).read (adr q k) hal).mono ?_
  rintro _ w2 ⟨h2, _, k2⟩
  have k2' := Ch.of_drew k2
  have b02 := k2'.obj b0 id
  rcases h2 with ⟨hE, b, u, hlook, rfl, hb, hu, hf, ho⟩ | ⟨hE, rfl⟩
  · have hab : (s.dk i).able s.P = true := by
      cases hab : (s.dk i).able s.P with
      | true => rfl
      | false => simp [readE, hab] at hE
    rw [hab, if_pos rfl, hlook] at hg
    simp [go_sem, b02, hps, hpa]
    refine (fits_any q u b w2 ok (by rw [hb]; exact hu) ho (by omega) ((hk.ch ca id).ch k2' id)).mono ?_
    rintro _ w3 ⟨rfl, k3⟩
    simp [go_sem]
    refine hR _ _ ⟨?_, (ca.trans k2').trans k3⟩
    rw [hg]
    cases hfit : fitB q b with
    | true =>
      have e : (some b : Option Byts).filter (fitB q) = some b := by simp [Option.filter, hfit]
      rw [e]
      refine ⟨u, ?_, hb, hu.ch k3 fun _ _ e => e, ?_, fun k hk => Nat.lt_of_lt_of_le (ho k hk) k3.size⟩
      · rw [show (decide (b.length = 512) && decide (digS q b = q.h)) = fitB q b from rfl, hfit]
      · have := ca.size
        exact hf.mono (by simpa [← hgs] using this)
    | false =>
      have e : (some b : Option Byts).filter (fitB q) = none := by simp [Option.filter, hfit]
      rw [e]
      exact ⟨u, by rw [show (decide (b.length = 512) && decide (digS q b = q.h)) = fitB q b from rfl, hfit]⟩
  · have hgn : s.good n q k = none := by
      rw [hg]
      unfold readE at hE
      cases hab : (s.dk i).able s.P with
      | false => simp
      | true =>
        simp only [hab] at hE
        cases hl : (s.dk i).look n (adr q k) with
        | none => simp
        | some b =>
          exfalso
          apply hE
          have hna : ¬ n ≤ adr q k := fun hc => by
            unfold Dk.look at hl
            simp [hc] at hl
          simp [hna, hl]
    have hE2 : ((readE n (s.dk i) s.P (adr q k)) == 0) = false := beq_false_of_ne hE
    simp [go_sem, hE, hE2]
    exact hR _ _ ⟨by rw [hgn]; exact ⟨_, rfl⟩, ca.trans k2'⟩
end
end Go.Proofs.YtppilgkgnofkpaaGreatDoor
