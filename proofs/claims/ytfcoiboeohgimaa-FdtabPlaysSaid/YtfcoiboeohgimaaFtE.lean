/- FdtabPlays: its acts, one by one. -/
import Derived.Test.YtfcoiboeohgimaaFtD
import Derived.Test.YtfcoiboeohgimaaOpn
namespace Go.Kin
open Go Go.RowKit
theorem v_meetLB {P : Program} {n id : Nat} {Q : Post} {K : Nxt} {c : Code} {ms : List Nat} {f : Nat → Value} {w : World} (I : (Nat → Value) → World → Prop) (h : VLoop P n (InB id (Then (At ms I) Q)) c ms f w) (hI : ∀ f w, I f w → K ms f w) : VLoop P n (InB id (Then K Q)) c ms f w := by
  rw [← VC_loop] at h ⊢
  exact VC.mono _ (InB_mono (Then_mono (At.go hI) fun _ _ _ _ h => h)) ms f w h
end Go.Kin
namespace Go.Proofs.Ytfcoiboeohgimaa
open Go.RowKit Go.Kin

theorem alike_any (p : Value) (B : Nat) (fd : Int) (l : Tb) (w : World) (hl : l.length = 16) (t : PTb w p (handleS l)) (hB : w.heap[B]? = some (.cells (rowsOf slc l) 31 (0, 0))) :
    Ret Try.prog 9 #[p, .slice (some ⟨B, 0, none⟩) 16 16, .int .i64 fd] w fun v' w' => v' = .bool true ∧ Ch Nw w w' := by
  by_cases ho : fd < 0 ∨ 16 ≤ fd
  · exact alike_out p B fd l w hl t hB ho
  · obtain ⟨k, rfl⟩ : ∃ k : Nat, fd = k := ⟨fd.toNat, by omega⟩
    obtain ⟨x, hx⟩ : ∃ x, l[k]? = some x := ⟨_, List.getElem?_eq_getElem (by omega)⟩
    rcases x with _ | ⟨n, b⟩ | n
    · exact alike_none p B k l w hl t hB hx
    · exact alike_file p B k n b l w hl t hB hx
    · exact alike_dir p B k n l w hl t hB hx
structure Ac where
  d : Nat
  num : Nat
  wr : Bool
  fd : Int
def acv (a : Ac) : List Value := [.int .u8 a.d, .int .u16 a.num, .bool a.wr, .int .i64 a.fd]
/-- of how many of the first k descriptors a number is -/
def numS (l : Tb) (num : Nat) : Nat → Nat
  | 0 => 0
  | k + 1 => numS l num k + match l[k]? with
    | some (some h) => if h.num = num then 1 else 0
    | _ => 0
theorem numS_le (l : Tb) (num : Nat) : ∀ k, numS l num k ≤ k
  | 0 => Nat.le_refl _
  | k + 1 => by
    have := numS_le l num k
    unfold numS
    split
    · split <;> omega
    · omega
theorem cnt_num (l : Tb) (num : Nat) : ∀ k, k ≤ 16 → cntS (handleS l) num k = numS l num k
  | 0, _ => rfl
  | k + 1, hk => by
    unfold cntS numS
    rw [cnt_num l num k (by omega)]
    congr 1
    have hh : handleS l (k : Int) = match l[k]? with | some (some h) => (some h, 0) | _ => (none, 22) := by
      unfold handleS
      rw [if_pos (by omega), Int.toNat_natCast]
      rcases l[k]? with _ | _ | h <;> rfl
    rw [hh]
    rcases l[k]? with _ | _ | h
    · rfl
    · rfl
    · simp [objS]
/-- the least that is free, of those from m on; -1: none -/
def FreeM (l : Tb) (m : Nat) (fr : Int) : Prop := (fr = -1 ∧ ∀ j, m ≤ j → l[j]? ≠ some none) ∨ ∃ q : Nat, fr = q ∧ m ≤ q ∧ l[q]? = some none ∧ ∀ j, m ≤ j → j < q → l[j]? ≠ some none
theorem FreeM.find {l : Tb} {fr : Int} (h : FreeM l 0 fr) : (fr = -1 ∧ l.findIdx? (· == none) = none) ∨ ∃ q : Nat, fr = q ∧ q < l.length ∧ l.findIdx? (· == none) = some q := by
  rcases h with ⟨h1, h2⟩ | ⟨q, h1, _, h2, h3⟩
  · exact .inl ⟨h1, find_none fun j _ => h2 j (by omega)⟩
  · exact .inr ⟨q, h1, (List.getElem?_eq_some_iff.1 h2).1, find_some h2 fun j hj => h3 j (by omega) hj⟩
def kindS : Option Hd → Int
  | none => 0
  | some (.file _ _) => 1
  | some (.dir _) => 2
def numO : Option Hd → Nat
  | none => 0
  | some h => h.num
theorem slc_0 (x : Option Hd) : (slc x)[0]? = some (.int .i64 (kindS x)) := by rcases x with _ | _ | _ <;> rfl
theorem slc_1 (x : Option Hd) : (slc x)[1]? = some (.int .u16 (numO x)) := by rcases x with _ | _ | _ <;> rfl
theorem mk16 (w : World) : (Instr.makeSlice 26 (.int .i64 16) (.int .i64 16)).run Try.prog w = .ok (.slice (some ⟨w.heap.size, 0, none⟩) 16 16) (w.alloc (.cells (rowsOf slc tb0) 31)) := by
  have h1 : (Try.prog.info? 31).isSome = true := by kernel_rfl
  obtain ⟨i, hi⟩ := Option.isSome_iff_exists.1 h1
  have h2 : (Try.prog.info? 31).map (·.size) = some 3 := by kernel_rfl
  have h3 : (Try.prog.info? 31).map (·.bytes) = some 16 := by kernel_rfl
  have h4 : (Try.prog.info? 31).bind (·.zero) = some (.agg (slc none)) := by kernel_rfl
  rw [hi] at h2 h3 h4
  simp at h2 h3 h4
  have := run_makeSlice (P := Try.prog) w 26 31 i _ Try.underlying26 hi h4 .i64 .i64 16 16 (by omega) (Int.le_refl _) (by rw [h2]; decide) (by rw [h3]; decide) (by omega)
  have e : madeCells (Value.agg (slc none)).cells (Int.toNat 16 * 3) = rowsOf slc tb0 := by kernel_rfl
  rw [this, h2, e]
  rfl
structure Fn (w : World) (v0 : Value) (g B A : Nat) (i : Nat) (a : Ac) (l : Tb) (f : Nat → Value) (u : World) : Prop where
  f0 : f 0 = v0
  f3 : f 3 = .pointer (some ⟨g, 0, none⟩)
  f4 : f 4 = .slice (some ⟨B, 0, none⟩) 16 16
  f5 : f 5 = .int .i64 i
  f6 : f 6 = .pointer (some ⟨A, 0, none⟩)
  len : l.length = 16
  bg : u.heap[g]? = some (.cells (tb l) 52 (0, 0))
  bB : u.heap[B]? = some (.cells (rowsOf slc l) 31 (0, 0))
  bA : u.heap[A]? = some (.cells (acv a).toArray 29 (0, 0))
  ch : Ch Nw w u
theorem set3 (cs : Array Value) (o : Nat) (a b c : Value) (h : o + 3 ≤ cs.size) : ((cs.setIfInBounds o a).setIfInBounds (o + 1) b).setIfInBounds (o + 2) c = blit cs o #[a, b, c] := by
  have := foldl_blit [a, b, c] cs o 0 (by simp; omega)
  simpa using this
/-- a slot stored -/
theorem slot_set {w : World} {B q : Nat} {l : Tb} {x : Option Hd} {a b c : Value} (hl : l.length = 16) (hq : q < 16) (hx : slc x = #[a, b, c]) (h : w.heap[B]? = some (.cells (rowsOf slc l) 31 (0, 0))) :
    (((w.setCell ⟨B, q * 3, none⟩ a).setCell ⟨B, q * 3 + 1, none⟩ b).setCell ⟨B, q * 3 + 2, none⟩ c).heap[B]? = some (.cells (rowsOf slc (l.set q x)) 31 (0, 0)) := by
  have hsz : (rowsOf slc l).size = 48 := by rw [rows_size (slc_size l), hl]
  rw [hp_setCell, hp_setCell, hp_setCell, h]
  have e := rows_blit (slc_size l) (k := q) (y := x) (by omega) (by rcases x with _ | _ | _ <;> rfl)
  rw [← e, hx, ← set3 _ _ _ _ _ (by omega)]
  rfl
theorem ch3 (w : World) (B a b c : Nat) (x y z : Value) : Ch (one B) w (((w.setCell ⟨B, a, none⟩ x).setCell ⟨B, b, none⟩ y).setCell ⟨B, c, none⟩ z) :=
  (((Ch.refl (one B) w).setCell (p := ⟨B, a, none⟩) (.inl rfl) x).setCell (p := ⟨B, b, none⟩) (.inl rfl) y).setCell (p := ⟨B, c, none⟩) (.inl rfl) z
theorem Fn.up {w : World} {v0 : Value} {g B A i : Nat} {a : Ac} {l : Tb} {f f' : Nat → Value} {u : World} (h : Fn w v0 g B A i a l f u) (e0 : f' 0 = f 0) (e3 : f' 3 = f 3) (e4 : f' 4 = f 4) (e5 : f' 5 = f 5) (e6 : f' 6 = f 6) : Fn w v0 g B A i a l f' u :=
  ⟨e0.trans h.f0, e3.trans h.f3, e4.trans h.f4, e5.trans h.f5, e6.trans h.f6, h.len, h.bg, h.bB, h.bA, h.ch⟩
theorem plays_any (v0 : Value) (L : List Ac) (w : World) (hL : Lst w v0 acv 4 L) :
    Ret Try.prog 3 #[v0] w fun v' w' => v' = .bool true ∧ Ch Nw w w' := by
  refine v_enter Try.func3 Try.ntmps3 rfl (by simp) fun R' hR => ?_
  have hlen := hL.len Try.underlying22 3
  by_cases h200 : (200 : Int) < (L.length : Int)
  · simp [go_sem, hlen, h200]
    refine (wakes_any w).mono ?_
    rintro _ w7 ⟨rfl, c7⟩
    simp [go_sem]
    exact hR _ _ ⟨rfl, c7⟩
  simp [go_sem, hlen, h200]
  refine (new_any w).mono ?_
  rintro _ w1 ⟨rfl, h1, c1⟩
  generalize hg : w.heap.size = g at *
  have hgl := lt_of_block h1
  simp [go_sem]
  have bB2 := hp_alloc w1 (.cells (rowsOf slc tb0) 31)
  have c2 := c1.alloc (.cells (rowsOf slc tb0) 31)
  have h2 := ((Ch.refl Nw w1).alloc (.cells (rowsOf slc tb0) 31)).hp h1 id
  have hmk := mk16 w1
  simp [go_sem, hmk]
  revert bB2 c2 h2
  generalize w1.alloc (.cells (rowsOf slc tb0) 31) = w2
  generalize hB : w1.heap.size = B at *
  intro bB2 c2 h2
  obtain ⟨A0, c0, hv0, _, _, hrd⟩ := id hL
  subst hv0
  refine v_loop (fun r f u => ∃ (i : Nat) (l : Tb), r = L.length - i ∧ i ≤ L.length ∧ f 0 = .slice A0 L.length c0 ∧ f 3 = .pointer (some ⟨g, 0, none⟩) ∧ f 4 = .slice (some ⟨B, 0, none⟩) 16 16 ∧ f 5 = .int .i64 i ∧ l.length = 16 ∧
    u.heap[g]? = some (.cells (tb l) 52 (0, 0)) ∧ u.heap[B]? = some (.cells (rowsOf slc l) 31 (0, 0)) ∧ Ch Nw w u) L.length
    ⟨0, tb0, rfl, by omega, by simp, by simp, by simp, by simp, rfl, h2, bB2, c2⟩ ?_
  clear bB2 c2 h2 hmk h1 c1
  rintro J hJ _ f u ⟨i, l, rfl, hi, f0, f3, f4, f5, hl16, bg, bB, cu⟩
  by_cases hlt : i < L.length
  · obtain ⟨a, ha⟩ : ∃ a, L[i]? = some a := ⟨_, List.getElem?_eq_getElem hlt⟩
    obtain ⟨b, off, rfl, hblt, hrd⟩ := hrd (by omega)
    have q0 := cu.cell (hrd i a 0 _ ha rfl) id
    have q1 := cu.cell (hrd i a 1 _ ha rfl) id
    have q2 := cu.cell (hrd i a 2 _ ha rfl) id
    have q3 := cu.cell (hrd i a 3 _ ha rfl) id
    simp only [Nat.add_zero] at q0
    have hlt' : (i : Int) < L.length := by omega
    simp [go_sem, f0, f5, hlt', q0, q1, q2, q3]
    have bA := hp_alloc u (.cells #[.int .u8 a.d, .int .u16 a.num, .bool a.wr, .int .i64 a.fd] 29)
    have ca := (Ch.refl Nw u).alloc (.cells #[.int .u8 a.d, .int .u16 a.num, .bool a.wr, .int .i64 a.fd] 29)
    have bg := ca.hp bg id
    have hBlt := lt_of_block bB
    have bB := ca.hp bB id
    have cu := cu.trans ca
    revert bA bg bB cu
    generalize u.alloc (.cells #[.int .u8 a.d, .int .u16 a.num, .bool a.wr, .int .i64 a.fd] 29) = u2
    generalize hA : u.heap.size = A at *
    intro bA bg bB cu
    clear q0 q1 q2 q3 ca
    refine v_meetLB (fun f u => Fn w (.slice (some ⟨b, off, none⟩) L.length c0) g B A i a l f u ∧ ∃ fr, f 7 = .int .i64 fr ∧ FreeM l 0 fr) ?_ ?_
    · refine v_loop (fun r f u => ∃ fr, r ≤ 16 ∧ Fn w (.slice (some ⟨b, off, none⟩) L.length c0) g B A i a l f u ∧ f 7 = .int .i64 fr ∧ f 8 = .int .i64 ((r : Int) - 1) ∧ FreeM l r fr) 16
        ⟨-1, Nat.le_refl _, ⟨by simp [f0], by simp [f3], by simp [f4], by simp [f5], by simp, hl16, bg, bB, bA, cu⟩, by simp, by simp, .inl ⟨rfl, fun j hj => by rw [List.getElem?_eq_none (by omega)]; simp⟩⟩ ?_
      rintro J hJ m f u ⟨fr, hm, hF, f7, f8, hfr⟩
      cases m with
      | zero =>
        simp [go_sem, f8]
        exact ⟨hF.up (by simp) (by simp) (by simp) (by simp) (by simp), fr, by simp [f7], hfr⟩
      | succ k =>
        obtain ⟨x, hx⟩ : ∃ x, l[k]? = some x := ⟨_, List.getElem?_eq_getElem (by omega)⟩
        have s0 := (cell_blk hF.bB (k * 3 + 0)).trans (rows_at (i := 0) (u := .int .i64 (kindS x)) (slc_size l) hx (slc_0 x))
        simp only [Nat.add_zero] at s0
        have hk1 : ((k + 1 : Nat) : Int) - 1 = k := by omega
        have hk2 : (k : Int) < 16 := by omega
        have hk3 : k < 16 := by omega
        have hk4 : IntKind.i64.wrap ((k : Int) - 1) = (k : Int) - 1 := by rw [IntKind.wrap_i64]; omega
        rw [hk1] at f8
        simp [go_sem, f8, hF.f4, hk2, hk3, s0]
        by_cases hx0 : x = none
        · subst hx0
          simp [go_sem, kindS, f8, hk4]
          refine Rnd.intro k (by omega) (hJ _ _ _ ⟨k, by omega, ⟨by simp [hF.f0], by simp [hF.f3], by simp [hF.f4], by simp [hF.f5], by simp [hF.f6], hF.len, hF.bg, hF.bB, hF.bA, hF.ch⟩, by simp, by simp, .inr ⟨k, rfl, Nat.le_refl _, hx, fun j h1 h2 => by omega⟩⟩)
        · have hkx : (kindS x == 0) = false := by rcases x with _ | _ | _ <;> first | exact absurd rfl hx0 | rfl
          simp [go_sem, hkx, f8, hk4]
          refine Rnd.intro k (by omega) (hJ _ _ _ ⟨fr, by omega, ⟨by simp [hF.f0], by simp [hF.f3], by simp [hF.f4], by simp [hF.f5], by simp [hF.f6], hF.len, hF.bg, hF.bB, hF.bA, hF.ch⟩, by simp [f7], by simp, ?_⟩)
          have hne : l[k]? ≠ some none := by rw [hx]; simpa using hx0
          rcases hfr with ⟨h1, h2⟩ | ⟨q, h1, h2, h3, h4⟩
          · exact .inl ⟨h1, fun j hj => by
              by_cases hjk : j = k
              · subst hjk; exact hne
              · exact h2 j (by omega)⟩
          · exact .inr ⟨q, h1, by omega, h3, fun j hj hjq => by
              by_cases hjk : j = k
              · subst hjk; exact hne
              · exact h4 j (by omega) hjq⟩
    rintro f u ⟨hF, fr, f7, hfr⟩
    refine v_meetS (fun f u => ∃ l', Fn w (.slice (some ⟨b, off, none⟩) L.length c0) g B A i a l' f u ∧ f 16 = .int .i64 0 ∧ f 17 = .bool true) ?_ ?_
    · obtain ⟨D, num, wr, fd⟩ := a
      have cA := fun i => cell_blk hF.bA i
      have bg := hF.bg
      have bB := hF.bB
      have e3 := hF.f3
      have e4 := hF.f4
      have e6 := hF.f6
      have hfd := hfr.find
      have hgu := lt_of_block bg
      by_cases hD : D = 0 ∨ D = 1
      · obtain ⟨x, hx⟩ : ∃ x : Hd, x = if D = 0 then .file num wr else .dir num := ⟨_, rfl⟩
        have ho := open_any g x l u hF.len bg
        rcases hD with rfl | rfl
        · rw [if_pos rfl] at hx
          subst hx
          simp only [hv] at ho
          simp [go_sem, acv, e3, e4, e6, cA]
          refine ho.mono ?_
          intro v' w' hR2
          rcases hfd with ⟨rfl, hn⟩ | ⟨q, rfl, hq, hn⟩
          · rw [hn] at hR2
            obtain ⟨rfl, hw⟩ := hR2
            subst w'
            simp [go_sem, f7]
            exact ⟨l, hF.up (by simp) (by simp) (by simp) (by simp) (by simp)⟩
          · rw [hn] at hR2
            obtain ⟨rfl, hb2, hc2⟩ := hR2
            have hq' : (q : Int) < 16 := by have := hF.len; omega
            have hq16 : q < 16 := by omega
            have hq0 : ¬ (q : Int) < 0 := by omega
            have bA' := hc2.hp hF.bA (by simp only [one]; omega)
            have cA' := fun i => cell_blk bA' i
            have bB' := hc2.hp bB (by simp only [one]; omega)
            have fB' := fun i => frz_blk bB' i
            obtain ⟨y, hy⟩ : ∃ y, l[q]? = some y := ⟨_, List.getElem?_eq_getElem hq⟩
            have hsz : (rowsOf slc l).size = 48 := by rw [rows_size (slc_size l), hF.len]
            have sB' := fun (i : Nat) (hi : i < 48) => (cell_blk bB' i).trans (Array.getElem?_eq_getElem (by rw [hsz]; exact hi))
            have w1e : IntKind.i64.wrap (IntKind.i64.wrap 0 + 1) = 1 := by decide
            simp [go_sem, f7, e4, e6, hq', hq16, hq0, acv, cA', fB', sB' (q * 3) (by omega), sB' (q * 3 + 1) (by omega), sB' (q * 3 + 2) (by omega), w1e]
            have hc3 : Ch (one B) w' (((w'.setCell ⟨B, q * 3, none⟩ (.int .i64 1)).setCell ⟨B, q * 3 + 1, none⟩ (.int .u16 num)).setCell ⟨B, q * 3 + 2, none⟩ (.bool wr)) := ch3 w' B _ _ _ _ _ _
            have hcw := fold hF.ch (Nat.le_refl _) hg hc2
            exact ⟨l.set q (some (.file num wr)), ⟨by simp [hF.f0], by simp [hF.f3], by simp [hF.f4], by simp [hF.f5], by simp [hF.f6], by simp [hF.len], hc3.hp hb2 (by simp only [one]; omega), slot_set hF.len hq16 rfl bB', hc3.hp bA' (by simp only [one]; omega), fold hcw (by omega) hg hc3⟩⟩
        · rw [if_neg (by decide)] at hx
          subst hx
          simp only [hv] at ho
          simp [go_sem, acv, e3, e4, e6, cA]
          refine ho.mono ?_
          intro v' w' hR2
          rcases hfd with ⟨rfl, hn⟩ | ⟨q, rfl, hq, hn⟩
          · rw [hn] at hR2
            obtain ⟨rfl, hw⟩ := hR2
            subst w'
            simp [go_sem, f7]
            exact ⟨l, hF.up (by simp) (by simp) (by simp) (by simp) (by simp)⟩
          · rw [hn] at hR2
            obtain ⟨rfl, hb2, hc2⟩ := hR2
            have hq' : (q : Int) < 16 := by have := hF.len; omega
            have hq16 : q < 16 := by omega
            have hq0 : ¬ (q : Int) < 0 := by omega
            have bA' := hc2.hp hF.bA (by simp only [one]; omega)
            have cA' := fun i => cell_blk bA' i
            have bB' := hc2.hp bB (by simp only [one]; omega)
            have fB' := fun i => frz_blk bB' i
            obtain ⟨y, hy⟩ : ∃ y, l[q]? = some y := ⟨_, List.getElem?_eq_getElem hq⟩
            have hsz : (rowsOf slc l).size = 48 := by rw [rows_size (slc_size l), hF.len]
            have sB' := fun (i : Nat) (hi : i < 48) => (cell_blk bB' i).trans (Array.getElem?_eq_getElem (by rw [hsz]; exact hi))
            have w1e : IntKind.i64.wrap (IntKind.i64.wrap 1 + 1) = 2 := by decide
            simp [go_sem, f7, e4, e6, hq', hq16, hq0, acv, cA', fB', sB' (q * 3) (by omega), sB' (q * 3 + 1) (by omega), sB' (q * 3 + 2) (by omega), w1e]
            have hc3 : Ch (one B) w' (((w'.setCell ⟨B, q * 3, none⟩ (.int .i64 2)).setCell ⟨B, q * 3 + 1, none⟩ (.int .u16 num)).setCell ⟨B, q * 3 + 2, none⟩ (.bool false)) := ch3 w' B _ _ _ _ _ _
            have hcw := fold hF.ch (Nat.le_refl _) hg hc2
            exact ⟨l.set q (some (.dir num)), ⟨by simp [hF.f0], by simp [hF.f3], by simp [hF.f4], by simp [hF.f5], by simp [hF.f6], by simp [hF.len], hc3.hp hb2 (by simp only [one]; omega), slot_set hF.len hq16 rfl bB', hc3.hp bA' (by simp only [one]; omega), fold hcw (by omega) hg hc3⟩⟩
      by_cases hD2 : D = 2
      · subst hD2
        have ho1 := open_int g (.iface 3 (.int .i64 (IntKind.i64.wrap num))) u (.inr ⟨_, rfl⟩)
        have ho2 := open_int g .nilIface u (.inl rfl)
        simp [go_sem, acv, e3, e6, cA]
        refine ho1.mono ?_
        rintro _ w' ⟨rfl, hw⟩
        subst w'
        simp [go_sem, e3]
        refine ho2.mono ?_
        rintro _ w' ⟨rfl, hw⟩
        subst w'
        simp [go_sem]
        exact ⟨l, hF.up (by simp) (by simp) (by simp) (by simp) (by simp)⟩
      by_cases hD3 : D = 3
      · subst hD3
        have hcl := close_any g fd l u hF.len bg
        by_cases hout : fd < 0 ∨ 16 ≤ fd
        · have hh : handleS l fd = (none, 22) := by unfold handleS; rw [if_neg (by omega)]
          rw [hh] at hcl
          simp [go_sem, acv, e3, e6, cA]
          refine hcl.mono ?_
          rintro _ w' ⟨rfl, hb2, hc2⟩
          rw [if_neg (by decide)] at hb2
          have bA' := hc2.hp hF.bA (by simp only [one]; omega)
          have cA' := fun i => cell_blk bA' i
          have bB' := hc2.hp bB (by simp only [one]; omega)
          by_cases h0 : fd < 0
          · simp [go_sem, acv, cA', e6, h0]
            exact ⟨l, ⟨by simp [hF.f0], by simp [hF.f3], by simp [hF.f4], by simp [hF.f5], by simp [hF.f6], hF.len, hb2, bB', bA', fold hF.ch (Nat.le_refl _) hg hc2⟩⟩
          · have h16 : 16 ≤ fd := by omega
            simp [go_sem, acv, cA', e6, h0, h16]
            exact ⟨l, ⟨by simp [hF.f0], by simp [hF.f3], by simp [hF.f4], by simp [hF.f5], by simp [hF.f6], hF.len, hb2, bB', bA', fold hF.ch (Nat.le_refl _) hg hc2⟩⟩
        obtain ⟨q, rfl⟩ : ∃ q : Nat, fd = q := ⟨fd.toNat, by omega⟩
        have h0 : ¬ (q : Int) < 0 := by omega
        have h16 : ¬ 16 ≤ (q : Int) := by omega
        have hq' : (q : Int) < 16 := by omega
        have hq16 : q < 16 := by omega
        obtain ⟨x, hx⟩ : ∃ x, l[q]? = some x := ⟨_, List.getElem?_eq_getElem (by have := hF.len; omega)⟩
        cases x with
        | none =>
          have hh : handleS l (q : Int) = (none, 22) := by
            unfold handleS
            rw [if_pos (by omega), Int.toNat_natCast, hx]
          rw [hh] at hcl
          simp [go_sem, acv, e3, e6, cA]
          refine hcl.mono ?_
          rintro _ w' ⟨rfl, hb2, hc2⟩
          rw [if_neg (by decide)] at hb2
          have bA' := hc2.hp hF.bA (by simp only [one]; omega)
          have cA' := fun i => cell_blk bA' i
          have bB' := hc2.hp bB (by simp only [one]; omega)
          have s0 := (cell_blk bB' (q * 3 + 0)).trans (rows_at (i := 0) (u := .int .i64 0) (slc_size l) hx rfl)
          simp only [Nat.add_zero] at s0
          simp [go_sem, acv, cA', e4, e6, h0, h16, hq', hq16, s0]
          exact ⟨l, ⟨by simp [hF.f0], by simp [hF.f3], by simp [hF.f4], by simp [hF.f5], by simp [hF.f6], hF.len, hb2, bB', bA', fold hF.ch (Nat.le_refl _) hg hc2⟩⟩
        | some y =>
          have hh : handleS l (q : Int) = (some y, 0) := by
            unfold handleS
            rw [if_pos (by omega), Int.toNat_natCast, hx]
          rw [hh] at hcl
          simp [go_sem, acv, e3, e6, cA]
          refine hcl.mono ?_
          rintro _ w' ⟨rfl, hb2, hc2⟩
          rw [if_pos rfl, Int.toNat_natCast] at hb2
          have bA' := hc2.hp hF.bA (by simp only [one]; omega)
          have cA' := fun i => cell_blk bA' i
          have bB' := hc2.hp bB (by simp only [one]; omega)
          have fB' := fun i => frz_blk bB' i
          have s0 := (cell_blk bB' (q * 3 + 0)).trans (rows_at (i := 0) (u := .int .i64 (kindS (some y))) (slc_size l) hx (slc_0 _))
          simp only [Nat.add_zero] at s0
          have hkx : (kindS (some y) == 0) = false := by rcases y with _ | _ <;> rfl
          have hsz : (rowsOf slc l).size = 48 := by rw [rows_size (slc_size l), hF.len]
          have sB' := fun (i : Nat) (hi : i < 48) => (cell_blk bB' i).trans (Array.getElem?_eq_getElem (by rw [hsz]; exact hi))
          simp [go_sem, acv, cA', e4, e6, h0, h16, hq', hq16, s0, hkx, fB', sB' (q * 3 + 1) (by omega), sB' (q * 3 + 2) (by omega)]
          have hc3 : Ch (one B) w' (((w'.setCell ⟨B, q * 3, none⟩ (.int .i64 0)).setCell ⟨B, q * 3 + 1, none⟩ (.int .u16 0)).setCell ⟨B, q * 3 + 2, none⟩ (.bool false)) := ch3 w' B _ _ _ _ _ _
          have hcw := fold hF.ch (Nat.le_refl _) hg hc2
          exact ⟨l.set q none, ⟨by simp [hF.f0], by simp [hF.f3], by simp [hF.f4], by simp [hF.f5], by simp [hF.f6], by simp [hF.len], hc3.hp hb2 (by simp only [one]; omega), slot_set hF.len hq16 rfl bB', hc3.hp bA' (by simp only [one]; omega), fold hcw (by omega) hg hc3⟩⟩
      · have n0 : ((D : Int) == 0) = false := beq_false_of_ne (by omega)
        have n1 : ((D : Int) == 1) = false := beq_false_of_ne (by omega)
        have n2 : ((D : Int) == 2) = false := beq_false_of_ne (by omega)
        have n3 : ((D : Int) == 3) = false := beq_false_of_ne (by omega)
        simp [go_sem, acv, e6, cA, n0, n1, n2, n3]
        exact ⟨l, hF.up (by simp) (by simp) (by simp) (by simp) (by simp)⟩
    · rintro f u ⟨l', hF, f16, f17⟩
      clear hfr f7
      rename_i fx ux frx _
      clear bA bg bB
      have hin : ∀ (l : Tb) (f : Nat → Value) (u : World), Fn w (.slice (some ⟨b, off, none⟩) L.length c0) g B A i a l f u → PTb u (.pointer (some ⟨g, 0, none⟩)) (handleS l) := fun l f u hF => .inl ⟨g, l, rfl, hF.len, hF.bg, rfl⟩
      simp [go_sem]
      refine v_loop (fun r f u => ∃ k : Nat, r = 16 - k ∧ k ≤ 16 ∧ Fn w (.slice (some ⟨b, off, none⟩) L.length c0) g B A i a l' f u ∧ f 18 = .int .i64 k ∧ f 16 = .int .i64 (numS l' a.num k) ∧ f 17 = .bool (fullS l' k)) 16
        ⟨0, rfl, by omega, hF.up (by simp) (by simp) (by simp) (by simp) (by simp), by simp, by simp [numS, f16], by simp [fullS, f17]⟩ ?_
      clear hF f16 f17
      rintro J2 hJ2 _ f u ⟨k, rfl, hk, hF, f18, f16, f17⟩
      by_cases hk16 : k < 16
      · have hki : (k : Int) < 16 := by omega
        obtain ⟨x, hx⟩ : ∃ x, l'[k]? = some x := ⟨_, List.getElem?_eq_getElem (by have := hF.len; omega)⟩
        simp [go_sem, hF.f3, hF.f4, f18, hki]
        refine (alike_any _ B (k : Int) l' u hF.len (hin _ _ _ hF) hF.bB).mono ?_
        rintro _ u2 ⟨rfl, c2⟩
        have bB2 := c2.hp hF.bB id
        have bA2 := c2.hp hF.bA id
        have cA2 := fun i => cell_blk bA2 i
        have s0 := (cell_blk bB2 (k * 3 + 0)).trans (rows_at (i := 0) (u := .int .i64 (kindS x)) (slc_size l') hx (slc_0 x))
        have s1 := (cell_blk bB2 (k * 3 + 1)).trans (rows_at (i := 1) (u := .int .u16 (numO x)) (slc_size l') hx (slc_1 x))
        simp only [Nat.add_zero] at s0
        have s0d : u2.drew.cell? ⟨B, k * 3, none⟩ = some (.int .i64 (kindS x)) := s0
        have s1d : u2.drew.cell? ⟨B, k * 3 + 1, none⟩ = some (.int .u16 (numO x)) := s1
        have cAd : ∀ i, u2.drew.cell? ⟨A, i, none⟩ = (acv a).toArray[i]? := cA2
        have hF2 : Fn w (.slice (some ⟨b, off, none⟩) L.length c0) g B A i a l' f u2 := ⟨hF.f0, hF.f3, hF.f4, hF.f5, hF.f6, hF.len, c2.hp hF.bg id, bB2, bA2, hF.ch.trans c2⟩
        have hwk : IntKind.i64.wrap ((k : Int) + 1) = ((k + 1 : Nat) : Int) := by rw [IntKind.wrap_i64]; omega
        have hnl := numS_le l' a.num k
        have hwn : IntKind.i64.wrap ((numS l' a.num k : Nat) + 1 : Int) = ((numS l' a.num k + 1 : Nat) : Int) := by rw [IntKind.wrap_i64]; omega
        have hfs := fullS_step hx
        have hns : numS l' a.num (k + 1) = numS l' a.num k + match l'[k]? with | some (some h) => if h.num = a.num then 1 else 0 | _ => 0 := rfl
        rw [hx] at hns
        have fin : ∀ f', f' 0 = f 0 → f' 3 = f 3 → f' 4 = f 4 → f' 5 = f 5 → f' 6 = f 6 → f' 18 = .int .i64 ((k + 1 : Nat) : Int) → f' 16 = .int .i64 (numS l' a.num (k + 1)) → f' 17 = .bool (fullS l' (k + 1)) → Rnd J2 (16 - k) f' u2.drew := fun f' e0 e3 e4 e5 e6 e18 e16 e17 =>
          Rnd.intro (16 - (k + 1)) (by omega) (hJ2 _ _ _ ⟨k + 1, rfl, by omega, ⟨e0.trans hF2.f0, e3.trans hF2.f3, e4.trans hF2.f4, e5.trans hF2.f5, e6.trans hF2.f6, hF2.len, hF2.bg, hF2.bB, hF2.bA, hF2.ch.drew⟩, e18, e16, e17⟩)
        generalize numS l' a.num k = nn at *
        generalize hn1 : numS l' a.num (k + 1) = nn1 at *
        generalize fullS l' k = ff at *
        generalize hf1 : fullS l' (k + 1) = ff1 at *
        rcases x with _ | y
        · have e : (kindS none != 0) = false := rfl
          simp only at hns
          cases ff
          · simp [go_sem, hF.f4, f17, f18, hki, hk16, s0, e]
            refine v_draw' ((List.range 16).map fun i => (i, none)) (by kernel_rfl) (by kernel_rfl) ?_
            simp [go_sem, hF.f4, hF.f6, f16, f17, f18, hki, hk16, s0d, s1d, cAd, acv, e, hwk]
            exact fin _ (by simp) (by simp) (by simp) (by simp) (by simp) (by simp) (by simp [hns, f16]) (by simp [hfs, f17])
          · simp [go_sem, hF.f4, f17, f18, hki, hk16, s0, e]
            refine v_draw' ((List.range 16).map fun i => (i, none)) (by kernel_rfl) (by kernel_rfl) ?_
            simp [go_sem, hF.f4, hF.f6, f16, f17, f18, hki, hk16, s0d, s1d, cAd, acv, e, hwk]
            exact fin _ (by simp) (by simp) (by simp) (by simp) (by simp) (by simp) (by simp [hns, f16]) (by simp [hfs, f17])
        · have e : (kindS (some y) != 0) = true := by rcases y with _ | _ <;> rfl
          simp only at hns
          by_cases hy : y.num = a.num
          · have en : (((numO (some y) : Nat) : Int) == (a.num : Int)) = true := by simp [numO, hy]
            rw [if_pos hy] at hns
            cases ff
            · simp [go_sem, hF.f4, f17, f18, hki, hk16, s0, e]
              refine v_draw' ((List.range 16).map fun i => (i, none)) (by kernel_rfl) (by kernel_rfl) ?_
              simp [go_sem, hF.f4, hF.f6, f16, f17, f18, hki, hk16, s0d, s1d, cAd, acv, e, hwk, en, hwn]
              exact fin _ (by simp) (by simp) (by simp) (by simp) (by simp) (by simp) (by simp [hns, f16]) (by simp [hfs, f17])
            · simp [go_sem, hF.f4, f17, f18, hki, hk16, s0, e]
              refine v_draw' ((List.range 16).map fun i => (i, none)) (by kernel_rfl) (by kernel_rfl) ?_
              simp [go_sem, hF.f4, hF.f6, f16, f17, f18, hki, hk16, s0d, s1d, cAd, acv, e, hwk, en, hwn]
              exact fin _ (by simp) (by simp) (by simp) (by simp) (by simp) (by simp) (by simp [hns, f16]) (by simp [hfs, f17])
          · have en : (((numO (some y) : Nat) : Int) == (a.num : Int)) = false := beq_false_of_ne (by simp only [numO]; omega)
            rw [if_neg hy] at hns
            cases ff
            · simp [go_sem, hF.f4, f17, f18, hki, hk16, s0, e]
              refine v_draw' ((List.range 16).map fun i => (i, none)) (by kernel_rfl) (by kernel_rfl) ?_
              simp [go_sem, hF.f4, hF.f6, f16, f17, f18, hki, hk16, s0d, s1d, cAd, acv, e, hwk, en, hwn]
              exact fin _ (by simp) (by simp) (by simp) (by simp) (by simp) (by simp) (by simp [hns, f16]) (by simp [hfs, f17])
            · simp [go_sem, hF.f4, f17, f18, hki, hk16, s0, e]
              refine v_draw' ((List.range 16).map fun i => (i, none)) (by kernel_rfl) (by kernel_rfl) ?_
              simp [go_sem, hF.f4, hF.f6, f16, f17, f18, hki, hk16, s0d, s1d, cAd, acv, e, hwk, en, hwn]
              exact fin _ (by simp) (by simp) (by simp) (by simp) (by simp) (by simp) (by simp [hns, f16]) (by simp [hfs, f17])
      · have : k = 16 := by omega
        subst this
        have hcn := cnt_num l' a.num 16 (Nat.le_refl _)
        simp [go_sem, hF.f3, hF.f4, hF.f6, f18, fun i => cell_blk hF.bA i, acv]
        refine (alike_any _ B a.fd l' u hF.len (hin _ _ _ hF) hF.bB).mono ?_
        rintro _ u2 ⟨rfl, c2⟩
        have t2 := (hin _ _ _ hF).ch c2
        simp [go_sem, hF.f3, hF.f4]
        refine (alike_any _ B 16 l' u2 hF.len t2 (c2.hp hF.bB id)).mono ?_
        rintro _ u3 ⟨rfl, c3⟩
        have c3 := c2.trans c3
        simp [go_sem, hF.f3, hF.f4]
        refine (full_any g l' u3 hF.len (c3.hp hF.bg id)).mono ?_
        rintro _ u4 ⟨rfl, hu⟩
        subst u4
        have cA3 := fun i => cell_blk (c3.hp hF.bA id) i
        simp [go_sem, f17, hF.f3, hF.f6, cA3, acv]
        refine (count_p a.num ((hin _ _ _ hF).ch c3)).mono ?_
        rintro _ u4 ⟨rfl, c4⟩
        have c4 := c3.trans c4
        rw [hcn]
        have hwi : IntKind.i64.wrap ((i : Int) + 1) = ((i + 1 : Nat) : Int) := by rw [IntKind.wrap_i64]; omega
        simp [go_sem, f16, hF.f5, hwi]
        exact Rnd.intro (L.length - (i + 1)) (by omega) (hJ _ _ _ ⟨i + 1, l', rfl, by omega, by simp [hF.f0], by simp [hF.f3], by simp [hF.f4], by simp, hF.len, c4.hp hF.bg id, c4.hp hF.bB id, hF.ch.trans c4⟩)
  · have : i = L.length := by omega
    subst this
    simp [go_sem, f0, f5]
    refine (wakes_any u).mono ?_
    rintro _ w7 ⟨rfl, c7⟩
    simp [go_sem]
    exact hR _ _ ⟨rfl, cu.trans c7⟩
end Go.Proofs.Ytfcoiboeohgimaa
