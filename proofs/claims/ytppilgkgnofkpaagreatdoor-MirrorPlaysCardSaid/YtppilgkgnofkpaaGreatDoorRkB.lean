/- The document's functions on lists of addresses and of blocks. No condition but on sizes. -/
import Derived.Test.YtppilgkgnofkpaaGreatDoorAgg
import Derived.Test.YtppilgkgnofkpaaGreatDoorDkN
set_option linter.unusedSimpArgs false
set_option linter.unusedVariables false

/- A number of 16 bits is itself. No condition. -/
namespace Go.Proofs.YtppilgkgnofkpaaGreatDoor
open Go.RowKit Go.Kin

theorem u16_any {a : Nat} (ha : a < 65536) : IntKind.u16.wrap (a : Int) = a := by simp [IntKind.wrap, IntKind.bits, IntKind.signed]; omega
end Go.Proofs.YtppilgkgnofkpaaGreatDoor

/- The document's disk in memory, and its functions on lists. No condition but on sizes. -/
namespace Go.Proofs.YtppilgkgnofkpaaGreatDoor
open Go.RowKit Go.Kin

def sbl (e : Nat × Byts) : Array Value := #[.int .u16 e.1, .string ⟨e.2.toArray⟩]
theorem sbl_size (l : List (Nat × Byts)) : ∀ e ∈ l, (sbl e).size = 2 := fun _ _ => rfl
/-- a row of blocks -/
def RowB (w : World) (v : Value) (l : List (Nat × Byts)) : Prop := w.ownsRow 0 167 2 v l.length (rowsL sbl l)
/-- a row of addresses -/
def RowA (w : World) (v : Value) (l : List Nat) : Prop := w.ownsRow 0 52 1 v l.length (u16s l)
theorem RowB.ch {w w' : World} {S : Nat → Prop} {v : Value} {l : List (Nat × Byts)} (h : RowB w v l) (hc : Ch S w w') (hn : ∀ k, v.ownBlock = some k → ¬ S k) : RowB w' v l := own_ch h hc hn
theorem RowA.ch {w w' : World} {S : Nat → Prop} {v : Value} {l : List Nat} (h : RowA w v l) (hc : Ch S w w') (hn : ∀ k, v.ownBlock = some k → ¬ S k) : RowA w' v l := own_ch h hc hn
theorem RowB.nil (w : World) : RowB w (.slice none 0 0) [] := World.ownsRow_nil _ _ _ _
theorem RowA.nil (w : World) : RowA w (.slice none 0 0) [] := World.ownsRow_nil _ _ _ _
theorem RowB.lit {w : World} {v : Value} {l : List (Nat × Byts)} (h : RowB w v l) : ∃ A c, v = .slice A l.length c := by
  rcases h.2 with ⟨rfl, h0⟩ | ⟨g, cap, cur, rfl, _⟩
  · exact ⟨none, 0, by rw [h0]⟩
  · exact ⟨_, _, rfl⟩
theorem RowA.lit {w : World} {v : Value} {l : List Nat} (h : RowA w v l) : ∃ A c, v = .slice A l.length c := by
  rcases h.2 with ⟨rfl, h0⟩ | ⟨g, cap, cur, rfl, _⟩
  · exact ⟨none, 0, by rw [h0]⟩
  · exact ⟨_, _, rfl⟩
theorem RowB.lt {w : World} {v : Value} {l : List (Nat × Byts)} (h : RowB w v l) : ∀ k, v.ownBlock = some k → k < w.heap.size := own_blt h
theorem RowA.lt {w : World} {v : Value} {l : List Nat} (h : RowA w v l) : ∀ k, v.ownBlock = some k → k < w.heap.size := own_blt h
/-- an element of a row of blocks: its two cells -/
theorem RowB.at {w : World} {v : Value} {l : List (Nat × Byts)} (h : RowB w v l) {i : Nat} {e : Nat × Byts} (hi : l[i]? = some e) : ∃ g cap, v = .slice (some ⟨g, 0, none⟩) l.length cap ∧ w.cell? ⟨g, i * 2, none⟩ = some (.int .u16 e.1) ∧ w.cell? ⟨g, i * 2 + 1, none⟩ = some (.string ⟨e.2.toArray⟩) := by
  have hl := (List.getElem?_eq_some_iff.1 hi).1
  obtain ⟨g, cap, cur, hv, _, _, hb, _, hr⟩ := ownS_blk h (by omega)
  have key : ∀ j u, (sbl e)[j]? = some u → (rowsL sbl l)[i * 2 + j]? = some u := fun j u hu => by
    have := rows_at (sbl_size l) hi hu
    simpa [rowsOf] using this
  exact ⟨g, cap, hv, hr _ _ (key 0 _ rfl), hr _ _ (key 1 _ rfl)⟩
theorem RowA.sl {w : World} {v : Value} {l : List Nat} (h : RowA w v l) : Sl w v l.length (u16s l) := Sl.of_own h
theorem tyU16 : Ty1 Tryz.prog 47 52 (.int .u16 0) 2 := ⟨Tryz.underlying47, by kernel_rfl, rfl⟩
theorem tySB : TyS Tryz.prog 46 167 (.agg #[.int .u16 0, .string ⟨#[]⟩]) 2 24 := ⟨Tryz.underlying46, by kernel_rfl, rfl, by decide⟩
/-- addresses below n, each once -/
def Nda (n : Nat) (l : List Nat) : Prop := l.Nodup ∧ ∀ x ∈ l, x < n
theorem Nda.len : ∀ {n : Nat} {l : List Nat}, Nda n l → l.length ≤ n
  | 0, [], _ => Nat.le_refl _
  | 0, x :: _, h => absurd (h.2 x (by simp)) (by omega)
  | n + 1, l, h => by
    by_cases hn : n ∈ l
    · have h1 : Nda n (l.erase n) := ⟨h.1.erase n, fun x hx => by
        have h2 := (h.1.mem_erase_iff).1 hx
        have := h.2 x h2.2
        omega⟩
      have := h1.len
      rw [List.length_erase_of_mem hn] at this
      omega
    · have h1 : Nda n l := ⟨h.1, fun x hx => by
        have := h.2 x hx
        have : x ≠ n := fun e => hn (e ▸ hx)
        omega⟩
      have := h1.len
      omega
theorem Nda.nil (n : Nat) : Nda n [] := ⟨List.nodup_nil, by simp⟩
theorem Nda.put {n a : Nat} {l : List Nat} (h : Nda n l) (ha : a < n) : Nda n (l.filter (· != a) ++ [a]) := by
  refine ⟨List.nodup_append.2 ⟨h.1.sublist List.filter_sublist, by simp, ?_⟩, ?_⟩
  · intro x hx y hy e
    simp at hx hy
    omega
  · intro x hx
    simp at hx
    rcases hx with hx | rfl
    · exact h.2 x hx.1
    · exact ha
/-- the values that a disk's own block names -/
structure Rn where
  mv : Value
  cv : Value
  bv : Value
  sv : Value
  av : Value
def rcs (n q : Nat) (z : Rn) (D : Dk) : Array Value := #[.int .i64 n, .pointer (some ⟨q, 0, none⟩), z.mv, z.cv, z.bv, z.sv, .bool D.dead, .bool D.lose, z.av]
def Rn.Y (z : Rn) : Nat → Prop := fun k => z.mv.ownBlock = some k ∨ z.bv.ownBlock = some k ∨ z.sv.ownBlock = some k ∨ z.av.ownBlock = some k
def Rn.X (z : Rn) (r : Nat) : Nat → Prop := fun k => k = r ∨ z.cv.ownBlock = some k
structure RkP (w : World) (r q n : Nat) (D : Dk) (O : Nat → Prop) (z : Rn) (lm : List (Nat × Byts)) (lb ls : List Nat) : Prop where
  blk : w.heap[r]? = some (.cells (rcs n q z D) 49 (0, 0))
  m : RowB w z.mv lm
  cache : RowB w z.cv D.cache
  bad : RowA w z.bv lb
  stuck : RowA w z.sv ls
  astray : RowA w z.av D.astray.toList
  mem : ∀ x, lastC lm x = D.m x
  bads : ∀ x, D.bad x = decide (x ∈ lb)
  stucks : ∀ x, D.stuck x = decide (x ∈ ls)
  ox : ∀ k, z.X r k → O k
  oy : ∀ k, z.Y k → O k
  yx : ∀ k, z.Y k → ¬ z.X r k
  ne : z.cv.ownBlock ≠ some r
  ok : D.Ok n
  nd : Nda n (lm.map (·.1)) ∧ Nda n lb ∧ Nda n ls
  nle : n ≤ 65536
  olt : ∀ k, O k → k < w.heap.size
/-- the document's disk in the blocks O; its list of blocks of at most so many -/
def RkAt (w : World) (r q n : Nat) (D : Dk) (O : Nat → Prop) : Prop := ∃ z lm lb ls, RkP w r q n D O z lm lb ls
section
variable {w w' : World} {S O O' : Nat → Prop} {r q n : Nat} {D : Dk} {z : Rn} {lm : List (Nat × Byts)} {lb ls : List Nat}
theorem RkP.ch (h : RkP w r q n D O z lm lb ls) (hc : Ch S w w') (hn : ∀ k, O k → ¬ S k) : RkP w' r q n D O z lm lb ls :=
  ⟨hc.obj h.blk (hn _ (h.ox _ (.inl rfl))), h.m.ch hc fun k hk => hn k (h.oy k (.inl hk)), h.cache.ch hc fun k hk => hn k (h.ox k (.inr hk)), h.bad.ch hc fun k hk => hn k (h.oy k (.inr (.inl hk))), h.stuck.ch hc fun k hk => hn k (h.oy k (.inr (.inr (.inl hk)))), h.astray.ch hc fun k hk => hn k (h.oy k (.inr (.inr (.inr hk)))),
    h.mem, h.bads, h.stucks, h.ox, h.oy, h.yx, h.ne, h.ok, h.nd, h.nle, fun k hk => Nat.lt_of_lt_of_le (h.olt k hk) hc.size⟩
theorem RkP.mono (h : RkP w r q n D O z lm lb ls) (ho : ∀ k, O k → O' k) (hl : ∀ k, O' k → k < w.heap.size) : RkP w r q n D O' z lm lb ls := ⟨h.blk, h.m, h.cache, h.bad, h.stuck, h.astray, h.mem, h.bads, h.stucks, fun k hk => ho k (h.ox k hk), fun k hk => ho k (h.oy k hk), h.yx, h.ne, h.ok, h.nd, h.nle, hl⟩
theorem RkAt.ch (h : RkAt w r q n D O) (hc : Ch S w w') (hn : ∀ k, O k → ¬ S k) : RkAt w' r q n D O := by
  obtain ⟨z, lm, lb, ls, h⟩ := h
  exact ⟨z, lm, lb, ls, h.ch hc hn⟩
end
end Go.Proofs.YtppilgkgnofkpaaGreatDoor

namespace Go.Proofs.YtppilgkgnofkpaaGreatDoor
open Go.RowKit Go.Kin

theorem filter_take {α : Type} (p : α → Bool) {l : List α} {i : Nat} {a : α} (h : l[i]? = some a) : (l.take (i + 1)).filter p = (l.take i).filter p ++ if p a then [a] else [] := by
  obtain ⟨hi, he⟩ := List.getElem?_eq_some_iff.1 h
  rw [List.take_succ_eq_append_getElem hi, List.filter_append, he]
  congr 1
  by_cases hp : p a <;> simp [hp]
theorem has_rk (v : Value) (l : List Nat) (a : Nat) (w : World) (h : RowA w v l) (hl : l.length ≤ 1000000) :
    Ret Tryz.prog 90 #[v, .int .u16 a] w fun v' w' => v' = .bool (decide (a ∈ l)) ∧ w' = w := by
  refine v_enter Tryz.func90 Tryz.ntmps90 rfl (by simp) fun R' hR => ?_
  have hlen := h.sl.len Tryz.underlying47 3
  simp [go_sem]
  refine v_loop (fun r f u => ∃ i, r = l.length - i ∧ i ≤ l.length ∧ f 0 = v ∧ f 1 = .int .u16 a ∧ f 5 = .int .i64 i ∧ (∀ (j : Nat) x, j < i → l[j]? = some x → x ≠ a) ∧ u = w) l.length
    ⟨0, rfl, by omega, by simp, by simp, by simp, fun j x hj => absurd hj (by omega), rfl⟩ ?_
  rintro J hJ _ f u ⟨i, rfl, hi, f0, f1, f5, hno, rfl⟩
  by_cases hlt : i < l.length
  · have hii : (i : Int) < l.length := by omega
    have hwi : IntKind.i64.wrap ((i : Int) + 1) = ((i + 1 : Nat) : Int) := by rw [IntKind.wrap_i64]; omega
    obtain ⟨x, hx⟩ : ∃ x, l[i]? = some x := ⟨_, List.getElem?_eq_getElem hlt⟩
    obtain ⟨ad, hat, hcl, _⟩ := h.sl.at tyU16 (u16s_length l) (show (u16s l)[i]? = some (.int .u16 x) by unfold u16s; rw [List.getElem?_map, hx]; rfl)
    by_cases hxa : x = a
    · subst hxa
      simp [go_sem, f0, f1, f5, hlen, hii, hat, hcl]
      exact hR _ _ ⟨by simp [List.mem_of_getElem? hx], rfl⟩
    · have hxa2 : ((x : Int) == (a : Int)) = false := beq_false_of_ne (by omega)
      simp [go_sem, f0, f1, f5, hlen, hii, hat, hcl, hxa, hxa2, hwi]
      refine Rnd.intro (l.length - (i + 1)) (by omega) (hJ _ _ _ ⟨i + 1, rfl, by omega, by simp [f0], by simp [f1], by simp, fun j y hj hy => ?_, rfl⟩)
      by_cases hji : j = i
      · subst hji
        rw [hx] at hy
        cases hy
        exact hxa
      · exact hno j y (by omega) hy
  · obtain rfl : i = l.length := by omega
    simp [go_sem, f0, f5, hlen]
    refine hR _ _ ⟨?_, rfl⟩
    rw [decide_eq_false]
    intro hm
    obtain ⟨j, hj⟩ := List.mem_iff_getElem?.1 hm
    exact hno j a (List.getElem?_eq_some_iff.1 hj).1 hj rfl
theorem without_rk (v : Value) (l : List Nat) (a : Nat) (w : World) (h : RowA w v l) (hl : l.length ≤ 1000000) :
    Ret Tryz.prog 88 #[v, .int .u16 a] w fun v' w' => RowA w' v' (l.filter (· != a)) ∧ Fresh w.heap.size v' ∧ Ch Nw w w' := by
  refine v_enter Tryz.func88 Tryz.ntmps88 rfl (by simp) fun R' hR => ?_
  have hlen := h.sl.len Tryz.underlying47 3
  simp [go_sem]
  refine v_loop (fun r f u => ∃ i, r = l.length - i ∧ i ≤ l.length ∧ f 0 = v ∧ f 1 = .int .u16 a ∧ f 6 = .int .i64 i ∧ Mine 52 w (f 5) ((l.take i).filter (· != a)).length (u16s ((l.take i).filter (· != a))) u) l.length
    ⟨0, rfl, by omega, by simp, by simp, by simp, by simpa [u16s] using Mine.nil _ (Ch.refl Nw w)⟩ ?_
  rintro J hJ _ f u ⟨i, rfl, hi, f0, f1, f6, hm⟩
  by_cases hlt : i < l.length
  · have hii : (i : Int) < l.length := by omega
    have hwi : IntKind.i64.wrap ((i : Int) + 1) = ((i + 1 : Nat) : Int) := by rw [IntKind.wrap_i64]; omega
    obtain ⟨x, hx⟩ : ∃ x, l[i]? = some x := ⟨_, List.getElem?_eq_getElem hlt⟩
    have hu := h.ch hm.ch fun _ _ e => e
    obtain ⟨ad, hat, hcl, _⟩ := hu.sl.at tyU16 (u16s_length l) (show (u16s l)[i]? = some (.int .u16 x) by unfold u16s; rw [List.getElem?_map, hx]; rfl)
    have hft := filter_take (· != a) hx
    by_cases hxa : x = a
    · subst hxa
      simp at hft
      simp [go_sem, f0, f1, f6, hlen, hii, hat, hcl, hwi]
      exact Rnd.intro (l.length - (i + 1)) (by omega) (hJ _ _ _ ⟨i + 1, rfl, by omega, by simp [f0], by simp [f1], by simp, by simpa [hft] using hm⟩)
    · have hxa2 : ((x : Int) == (a : Int)) = false := beq_false_of_ne (by omega)
      simp [hxa] at hft
      have hfl : ((l.take i).filter (· != a)).length ≤ 1000000 := by
        have := List.length_filter_le (· != a) (l.take i)
        rw [List.length_take] at this
        omega
      simp [go_sem, f0, f1, f6, hlen, hii, hat, hcl, hxa, hxa2, bne]
      refine VB_app1 tyU16 (u := .int .u16 x) hm.own rfl (by unfold maxLen; omega) (by omega) fun v' u' d4 d5 d6 => ?_
      have h5 := hm.grow d4 d5 d6
      simp [go_sem, f6, hwi]
      refine Rnd.intro (l.length - (i + 1)) (by omega) (hJ _ _ _ ⟨i + 1, rfl, by omega, by simp [f0], by simp [f1], by simp, ?_⟩)
      rw [hft, List.length_append]
      simpa [u16s, u16v] using h5
  · obtain rfl : i = l.length := by omega
    simp [go_sem, f0, f6, hlen]
    rw [List.take_length] at hm
    exact hR _ _ ⟨hm.own, hm.fresh, hm.ch⟩
def lastV : Option Byts → Value
  | none => .tuple #[.string ⟨#[]⟩, .bool false]
  | some b => .tuple #[.string ⟨b.toArray⟩, .bool true]
theorem last_rk (v : Value) (l : List (Nat × Byts)) (a : Nat) (w : World) (h : RowB w v l) (hl : l.length ≤ 1000000) :
    Ret Tryz.prog 91 #[v, .int .u16 a] w fun v' w' => v' = lastV (lastC l a) ∧ w' = w := by
  refine v_enter Tryz.func91 Tryz.ntmps91 rfl (by simp) fun R' hR => ?_
  have hlen := own_len h Tryz.underlying46 3
  have hw1 : IntKind.i64.wrap ((l.length : Int) - 1) = (l.length : Int) - 1 := by rw [IntKind.wrap_i64]; omega
  simp [go_sem, hlen, hw1]
  refine v_loop (fun r f u => ∃ k, r = k ∧ k ≤ l.length ∧ f 0 = v ∧ f 1 = .int .u16 a ∧ f 6 = .int .i64 ((k : Int) - 1) ∧ (∀ (j : Nat) e, k ≤ j → l[j]? = some e → e.1 ≠ a) ∧ u = w) l.length
    ⟨l.length, rfl, by omega, by simp, by simp, by simp, fun j e hj he => absurd (List.getElem?_eq_some_iff.1 he).1 (by omega), rfl⟩ ?_
  rintro J hJ k f u ⟨_, rfl, hk, f0, f1, f6, hno, rfl⟩
  rcases Nat.eq_zero_or_pos k with rfl | hk0
  · simp [go_sem, f6]
    refine hR _ _ ⟨?_, rfl⟩
    rw [lastC_none fun e he => by
      obtain ⟨j, hj⟩ := List.mem_iff_getElem?.1 he
      exact hno j e (by omega) hj]
    rfl
  · obtain ⟨i, rfl⟩ : ∃ i, k = i + 1 := ⟨k - 1, by omega⟩
    obtain ⟨e, he⟩ : ∃ e, l[i]? = some e := ⟨_, List.getElem?_eq_getElem (by omega)⟩
    obtain ⟨g, cap, rfl, hc0, hc1⟩ := h.at he
    have hi1 : ((i + 1 : Nat) : Int) - 1 = i := by omega
    rw [hi1] at f6
    have hil : i < l.length := by omega
    have h0i : (0 : Int) ≤ i := by omega
    have hwi : IntKind.i64.wrap ((i : Int) - 1) = (i : Int) - 1 := by rw [IntKind.wrap_i64]; omega
    obtain ⟨x, b⟩ := e
    by_cases hxa : x = a
    · subst hxa
      simp [go_sem, f0, f1, f6, h0i, hil, hc0, hc1]
      refine hR _ _ ⟨?_, rfl⟩
      rw [lastC_back he fun j e hj hje => hno j e (by omega) hje]
      rfl
    · have hxa2 : ((x : Int) == (a : Int)) = false := beq_false_of_ne (by omega)
      simp [go_sem, f0, f1, f6, h0i, hil, hc0, hc1, hxa, hxa2, hwi]
      refine Rnd.intro i (by omega) (hJ _ _ _ ⟨i, rfl, by omega, by simp [f0], by simp [f1], by simp, fun j e hj hje => ?_, rfl⟩)
      by_cases hji : j = i
      · subst hji
        rw [he] at hje
        cases hje
        exact hxa
      · exact hno j e (by omega) hje
theorem drop_rk (v : Value) (l : List (Nat × Byts)) (a : Nat) (w : World) (h : RowB w v l) (hl : l.length ≤ 1000000) :
    Ret Tryz.prog 87 #[v, .int .u16 a] w fun v' w' => RowB w' v' (dropC l a) ∧ Fresh w.heap.size v' ∧ Ch Nw w w' := by
  refine v_enter Tryz.func87 Tryz.ntmps87 rfl (by simp) fun R' hR => ?_
  have hlen := own_len h Tryz.underlying46 3
  simp [go_sem]
  refine v_loop (fun r f u => ∃ i, r = l.length - i ∧ i ≤ l.length ∧ f 0 = v ∧ f 1 = .int .u16 a ∧ f 6 = .int .i64 i ∧ MineS 167 2 w (f 5) (dropC (l.take i) a).length (rowsL sbl (dropC (l.take i) a)) u) l.length
    ⟨0, rfl, by omega, by simp, by simp, by simp, by simpa [dropC, rowsL] using MineS.nil _ _ (Ch.refl Nw w)⟩ ?_
  rintro J hJ _ f u ⟨i, rfl, hi, f0, f1, f6, hm⟩
  by_cases hlt : i < l.length
  · have hii : (i : Int) < l.length := by omega
    have hwi : IntKind.i64.wrap ((i : Int) + 1) = ((i + 1 : Nat) : Int) := by rw [IntKind.wrap_i64]; omega
    obtain ⟨e, he⟩ : ∃ x, l[i]? = some x := ⟨_, List.getElem?_eq_getElem hlt⟩
    have hu : RowB u v l := h.ch hm.ch fun _ _ e => e
    obtain ⟨g, cap, rfl, hc0, hc1⟩ := hu.at he
    obtain ⟨x, b⟩ := e
    have hft := filter_take (fun e : Nat × Byts => e.1 != a) he
    by_cases hxa : x = a
    · subst hxa
      simp at hft
      simp [go_sem, f0, f1, f6, hlen, hii, hlt, hc0, hc1, hwi]
      exact Rnd.intro (l.length - (i + 1)) (by omega) (hJ _ _ _ ⟨i + 1, rfl, by omega, by simp [f0], by simp [f1], by simp, by simpa [dropC, hft] using hm⟩)
    · have hxa2 : ((x : Int) == (a : Int)) = false := beq_false_of_ne (by omega)
      simp [hxa] at hft
      have hfl : (dropC (l.take i) a).length ≤ 1000000 := by
        have := List.length_filter_le (fun e : Nat × Byts => e.1 != a) (l.take i)
        rw [List.length_take] at this
        unfold dropC
        omega
      simp [go_sem, f0, f1, f6, hlen, hii, hlt, hc0, hc1, hxa, hxa2, bne]
      refine VB_app1S tySB (us := [.int .u16 x, .string ⟨b.toArray⟩]) hm.own rfl (by simp [Value.oneCell']) (by unfold maxLen; omega) (by omega) fun v' u' d4 d5 d6 => ?_
      have h5 := hm.grow d4 d5 d6
      simp [go_sem, f6, hwi]
      refine Rnd.intro (l.length - (i + 1)) (by omega) (hJ _ _ _ ⟨i + 1, rfl, by omega, by simp [f0], by simp [f1], by simp, ?_⟩)
      have e2 : dropC (l.take (i + 1)) a = dropC (l.take i) a ++ [(x, b)] := hft
      rw [e2, List.length_append, rowsL_append, rowsL_one]
      simpa [sbl] using h5
  · obtain rfl : i = l.length := by omega
    simp [go_sem, f0, f6, hlen]
    rw [List.take_length] at hm
    exact hR _ _ ⟨hm.own, hm.fresh, hm.ch⟩
end Go.Proofs.YtppilgkgnofkpaaGreatDoor
