/- The document's space, and whether a block fits. No condition but on sizes. -/
import Derived.Test.YtppilgkgnofkpaaGreatDoorRkG
import Derived.Test.YtppilgkgnofkpaaGreatDoorRsF
import Derived.Test.YtppilgkgnofkpaaGreatDoorSpm
import Derived.Test.YtppilgkgnofkpaaGreatDoorMrM
set_option linter.unusedSimpArgs false
set_option linter.unusedVariables false

/- The document's disk: its power, a new one. No condition but on sizes. -/
namespace Go.Proofs.YtppilgkgnofkpaaGreatDoor
open Go.RowKit Go.Kin

section
variable {w w1 w' : World} {d p r q n : Nat} {D : Dk} {P : Pwr} {O S X : Nat → Prop}
theorem Rd.olt (h : Rd w r q n D P O) : ∀ k, O k → k < w.heap.size := h.dk.olt
theorem Rd.since (h : Rd w' r q n D P (Gr O w1 w')) (ho : ∀ k, O k → k < w.heap.size) (hpO : ¬ O q) (hp : q < w.heap.size) (h1 : w.heap.size ≤ w1.heap.size) (h2 : w1.heap.size ≤ w'.heap.size) : Rd w' r q n D P (Gr O w w') :=
  ⟨h.dk.since ho h1 h2, h.pw, fun e => e.elim hpO fun e => by omega⟩
theorem Rd.stay' (h : Rd w r q n D P O) (hc : Ch Nw w w') : Rd w' r q n D P (Gr O w w') := by
  have h1 := h.ch hc (fun _ _ e => e) id
  exact ⟨h1.dk.mono (fun _ => .inl) (Gr.lt h.olt hc.size), h1.pw, h.gr⟩
theorem Rd.power {P' : Pwr} (h : Rd w r q n D P O) (hp : PwR w' q P') (hc : Ch (one q) w w') : Rd w' r q n D P' (Gr O w w') := by
  have h1 := h.dk.ch hc fun k hk e => by simp only [one] at e; subst e; exact h.qO hk
  exact ⟨h1.mono (fun _ => .inl) (Gr.lt h.olt hc.size), hp, h.gr⟩
theorem Rd.crash' (h : Rd w r q n D P O) (ps : List Int) (v : Value) (hcl : D.cache.length ≤ 1000000) (hps : ps.length ≤ 1000000) (hpr : ∀ x ∈ ps, -9223372036854775808 ≤ x ∧ x ≤ 9223372036854775807) (hv : Sl w v ps.length (ps.map (Value.int .i64))) (hvO : 0 < ps.length → ∀ k, v.ownBlock = some k → ¬ O k ∧ k < w.heap.size) :
    Ret Tryz.prog 54 #[.pointer (some ⟨r, 0, none⟩), v] w fun v' w' => v' = .tuple #[] ∧ Rd w' r q n (D.crash ps) P (Gr O w w') ∧ Ch (fun k => O k ∨ k = q) w w' :=
  (h.crash ps v hcl hps hpr hv hvO).mono fun _ _ e => ⟨e.1, e.2.1, e.2.2.mono fun _ _ e => .inl e⟩
end
/-- a new one of the document's -/
def rz : Rn := ⟨.slice none 0 0, .slice none 0 0, .slice none 0 0, .slice none 0 0, .slice none 0 0⟩
theorem rd_new (n q : Nat) (w : World) (P : Pwr) (h2 : n ≤ 4096) (hp : PwR w q P) : Rd (w.alloc (.cells (rcs n q rz Dk.new) 49)) w.heap.size q n Dk.new P fun k => w.heap.size ≤ k ∧ k < w.heap.size + 1 := by
  have ba := hp_alloc w (.cells (rcs n q rz Dk.new) 49)
  have ca := (Ch.refl Nw w).alloc (.cells (rcs n q rz Dk.new) 49)
  have hs : (w.alloc (.cells (rcs n q rz Dk.new) 49)).heap.size = w.heap.size + 1 := by simp
  refine ⟨⟨rz, [], [], [], ba, RowB.nil _, RowB.nil _, RowA.nil _, RowA.nil _, RowA.nil _, fun _ => rfl, fun _ => rfl, fun _ => rfl, fun k hk => ?_, fun k hk => ?_, fun k hk => ?_, by simp [rz, Value.ownBlock], Dk.Ok.new n, ⟨Nda.nil n, Nda.nil n, Nda.nil n⟩, by omega, fun k hk => by rw [hs]; exact hk.2⟩, hp.ch ca id, fun e => by have := lt_of_block hp; omega⟩
  · rcases hk with rfl | hk
    · omega
    · simp [rz, Value.ownBlock] at hk
  · simp [Rn.Y, rz, Value.ownBlock] at hk
  · simp [Rn.Y, rz, Value.ownBlock] at hk
end Go.Proofs.YtppilgkgnofkpaaGreatDoor

namespace Go.Proofs.YtppilgkgnofkpaaGreatDoor
open Go.RowKit Go.Kin

theorem has_s7 (v : Value) (l : List Nat) (a : Nat) (w : World) (h : RowA w v l) (hl : l.length ≤ 1000000) :
    Ret Tryz.prog 62 #[v, .int .u16 a] w fun v' w' => v' = .bool (decide (a ∈ l)) ∧ w' = w := by
  refine v_enter Tryz.func62 Tryz.ntmps62 rfl (by simp) fun R' hR => ?_
  have hlen := h.sl.len Tryz.underlying47 3
  simp [go_sem]
  refine v_loop (fun r f u => ∃ i, r = l.length - i ∧ i ≤ l.length ∧ f 0 = v ∧ f 1 = .int .u16 a ∧ f 5 = .int .i64 i ∧ (∀ (j : Nat) x, j < i → l[j]? = some x → x ≠ a) ∧ u = w) l.length
    ⟨0, rfl, by omega, by simp, by simp, by simp, fun j x hj => absurd hj (by omega), rfl⟩ ?_
  rintro J hJ _ f u ⟨i, rfl, hi, f0, f1, f5, hno, rfl⟩
  by_cases hlt : i < l.length
  · have hii : (i : Int) < l.length := by omega
    have hwi : IntKind.i64.wrap ((i : Int) + 1) = ((i + 1 : Nat) : Int) := by rw [IntKind.wrap_i64]; omega
    obtain ⟨x, hx⟩ : ∃ x, l[i]? = some x := ⟨_, List.getElem?_eq_getElem hlt⟩
    obtain ⟨ad, hat, hcl, _⟩ := h.sl.at tyU16 (u16s_length l) (show (u16s l)[i]? = some (.int .u16 x) by unfold u16s; rw [List.getElem?_map, hx]; rfl)
    by_cases hxa : x = a
    · subst hxa
      simp [go_sem, f0, f1, f5, hlen, hii, hat, hcl]
      exact hR _ _ ⟨by simp [List.mem_of_getElem? hx], rfl⟩
    · have hxa2 : ((x : Int) == (a : Int)) = false := beq_false_of_ne (by omega)
      simp [go_sem, f0, f1, f5, hlen, hii, hat, hcl, hxa, hxa2, hwi]
      refine Rnd.intro (l.length - (i + 1)) (by omega) (hJ _ _ _ ⟨i + 1, rfl, by omega, by simp [f0], by simp [f1], by simp, fun j y hj hy => ?_, rfl⟩)
      by_cases hji : j = i
      · subst hji
        rw [hx] at hy
        cases hy
        exact hxa
      · exact hno j y (by omega) hy
  · obtain rfl : i = l.length := by omega
    simp [go_sem, f0, f5, hlen]
    refine hR _ _ ⟨?_, rfl⟩
    rw [decide_eq_false]
    intro hm
    obtain ⟨j, hj⟩ := List.mem_iff_getElem?.1 hm
    exact hno j a (List.getElem?_eq_some_iff.1 hj).1 hj rfl
theorem without_s7 (v : Value) (l : List Nat) (a : Nat) (w : World) (h : RowA w v l) (hl : l.length ≤ 1000000) :
    Ret Tryz.prog 107 #[v, .int .u16 a] w fun v' w' => RowA w' v' (l.filter (· != a)) ∧ Fresh w.heap.size v' ∧ Ch Nw w w' := by
  refine v_enter Tryz.func107 Tryz.ntmps107 rfl (by simp) fun R' hR => ?_
  have hlen := h.sl.len Tryz.underlying47 3
  simp [go_sem]
  refine v_loop (fun r f u => ∃ i, r = l.length - i ∧ i ≤ l.length ∧ f 0 = v ∧ f 1 = .int .u16 a ∧ f 6 = .int .i64 i ∧ Mine 52 w (f 5) ((l.take i).filter (· != a)).length (u16s ((l.take i).filter (· != a))) u) l.length
    ⟨0, rfl, by omega, by simp, by simp, by simp, by simpa [u16s] using Mine.nil _ (Ch.refl Nw w)⟩ ?_
  rintro J hJ _ f u ⟨i, rfl, hi, f0, f1, f6, hm⟩
  by_cases hlt : i < l.length
  · have hii : (i : Int) < l.length := by omega
    have hwi : IntKind.i64.wrap ((i : Int) + 1) = ((i + 1 : Nat) : Int) := by rw [IntKind.wrap_i64]; omega
    obtain ⟨x, hx⟩ : ∃ x, l[i]? = some x := ⟨_, List.getElem?_eq_getElem hlt⟩
    have hu := h.ch hm.ch fun _ _ e => e
    obtain ⟨ad, hat, hcl, _⟩ := hu.sl.at tyU16 (u16s_length l) (show (u16s l)[i]? = some (.int .u16 x) by unfold u16s; rw [List.getElem?_map, hx]; rfl)
    have hft := filter_take (· != a) hx
    by_cases hxa : x = a
    · subst hxa
      simp at hft
      simp [go_sem, f0, f1, f6, hlen, hii, hat, hcl, hwi]
      exact Rnd.intro (l.length - (i + 1)) (by omega) (hJ _ _ _ ⟨i + 1, rfl, by omega, by simp [f0], by simp [f1], by simp, by simpa [hft] using hm⟩)
    · have hxa2 : ((x : Int) == (a : Int)) = false := beq_false_of_ne (by omega)
      simp [hxa] at hft
      have hfl : ((l.take i).filter (· != a)).length ≤ 1000000 := by
        have := List.length_filter_le (· != a) (l.take i)
        rw [List.length_take] at this
        omega
      simp [go_sem, f0, f1, f6, hlen, hii, hat, hcl, hxa, hxa2, bne]
      refine VB_app1 tyU16 (u := .int .u16 x) hm.own rfl (by unfold maxLen; omega) (by omega) fun v' u' d4 d5 d6 => ?_
      have h5 := hm.grow d4 d5 d6
      simp [go_sem, f6, hwi]
      refine Rnd.intro (l.length - (i + 1)) (by omega) (hJ _ _ _ ⟨i + 1, rfl, by omega, by simp [f0], by simp [f1], by simp, ?_⟩)
      rw [hft, List.length_append]
      simpa [u16s, u16v] using h5
  · obtain rfl : i = l.length := by omega
    simp [go_sem, f0, f6, hlen]
    rw [List.take_length] at hm
    exact hR _ _ ⟨hm.own, hm.fresh, hm.ch⟩
/-- what is sick of a disk, as the document has it -/
def sks (n : Nat) (sv : Value) : Array Value := #[.int .i64 n, .slice none 0 0, .slice none 0 0, sv]
structure SkP (w : World) (e n : Nat) (sk : Nat → Bool) (sv : Value) (l : List Nat) (O : Nat → Prop) : Prop where
  blk : w.heap[e]? = some (.cells (sks n sv) 51 (0, 0))
  row : RowA w sv l
  mem : ∀ a, sk a = decide (a ∈ l)
  nda : Nda n l
  oe : O e
  ov : ∀ k, sv.ownBlock = some k → O k ∧ k ≠ e
  lt : ∀ k, O k → k < w.heap.size
def SkH (e n : Nat) (sk : Nat → Bool) : HP := fun w O => ∃ sv l, SkP w e n sk sv l O
theorem SkH.ok (e n : Nat) (sk : Nat → Bool) : HOk (SkH e n sk) := by
  refine ⟨fun ⟨_, _, h⟩ => h.lt, fun ⟨sv, l, h⟩ hc hS => ⟨sv, l, hc.obj h.blk (hS e h.oe), h.row.ch hc fun k hk => hS k (h.ov k hk).1, h.mem, h.nda, h.oe, h.ov, fun k hk => Nat.lt_of_lt_of_le (h.lt k hk) hc.size⟩, fun ⟨sv, l, h⟩ a b => ⟨sv, l, h.blk, h.row, h.mem, h.nda, a _ h.oe, fun k hk => ⟨a k (h.ov k hk).1, (h.ov k hk).2⟩, b⟩⟩
section
variable {w w' : World} {e n : Nat} {sk : Nat → Bool} {sv : Value} {l : List Nat} {O : Nat → Prop}
theorem SkP.len (h : SkP w e n sk sv l O) : l.length ≤ n := h.nda.len
set_option maxRecDepth 100000 in
theorem act3_any (h : SkH e n sk w O) (hn : n ≤ 4096) (a : Nat) (ha : a < 65536) :
    Ret Tryz.prog 83 #[.pointer (some ⟨e, 0, none⟩), .int .i64 3, .int .u16 a] w fun v' w' => (∃ r : Int, v' = .int .i64 r) ∧ SkH e n (if a = 0 ∨ n ≤ a then sk else upd1 sk a true) w' (Gr O w w') ∧ Ch O w w' := by
  refine v_enter Tryz.func83 Tryz.ntmps83 rfl (by simp) fun R' hR => ?_
  obtain ⟨sv, l, hP⟩ := id h
  have c0 : w.cell? ⟨e, 0, none⟩ = some (.int .i64 n) := cell_blk hP.blk 0
  have c1 : w.cell? ⟨e, 1, none⟩ = some (.slice none 0 0) := cell_blk hP.blk 1
  have c3 : w.cell? ⟨e, 3, none⟩ = some sv := cell_blk hP.blk 3
  have hwa : IntKind.i64.wrap (a : Int) = a := by rw [IntKind.wrap_i64]; omega
  have ll := hP.len
  obtain ⟨A0, cc0, hsv⟩ := hP.row.lit
  have hww : SkH e n sk w (Gr O w w) := (SkH.ok e n sk).weak h (fun k hk => .inl hk) (Gr.lt hP.lt (Nat.le_refl _))
  by_cases h0 : a = 0
  · subst h0
    simp [go_sem]
    refine hR _ _ ⟨⟨1, rfl⟩, ?_, Ch.refl _ _⟩
    rw [if_pos (.inl rfl)]
    exact hww
  have h0i : ((a : Int) == 0) = false := beq_false_of_ne (by omega)
  by_cases han : n ≤ a
  · have hani : (n : Int) ≤ a := by omega
    simp [go_sem, h0, h0i, c0, hwa, han, hani]
    refine hR _ _ ⟨⟨1, rfl⟩, ?_, Ch.refl _ _⟩
    rw [if_pos (.inr han)]
    exact hww
  have hani : ¬ (n : Int) ≤ a := by omega
  simp [go_sem, h0, h0i, c0, c1, hwa, han, hani]
  refine (has_s7 (.slice none 0 0) [] a w (RowA.nil w) (by decide)).mono ?_
  rintro _ w0 ⟨rfl, hw0⟩
  subst w0
  have hsl : sv = .slice A0 l.length cc0 := hsv
  rw [hsl] at c3
  simp [go_sem, c3]
  refine (without_s7 _ l a w (by rw [← hsl]; exact hP.row) (by omega)).mono ?_
  rintro v1 w1 ⟨r1, f1, k1⟩
  have hfl : (l.filter (· != a)).length ≤ 4096 := by
    have := List.length_filter_le (· != a) l
    omega
  simp [go_sem]
  refine VB_app1 tyU16 (u := .int .u16 a) r1 rfl (by unfold maxLen; omega) (by omega) fun v2 w2 own2 k2 f2 => ?_
  have fr2 : Fresh w.heap.size v2 := by
    rcases f2 with f2 | f2
    · intro k hk; exact f1 k (by rw [← f2]; exact hk)
    · exact f2.mono k1.size
  have k12 : Ch Nw w w2 := k1.trans' k2 fun j hj e => by have := f1 j e; omega
  have b2 := k12.obj hP.blk id
  have c32 := cell_blk b2 3
  have f32 := frz_blk b2 3
  obtain ⟨g2, cap2, cur2, hv2, _⟩ := ownS_blk own2 (by omega)
  subst hv2
  simp [sks] at c32
  simp [go_sem, c32, f32]
  have cs : Ch (one e) w2 (w2.setCell ⟨e, 3, none⟩ (.slice (some ⟨g2, 0, none⟩) ((l.filter (· != a)).length + 1) cap2)) := (Ch.refl (one e) w2).setCell (p := ⟨e, 3, none⟩) (.inl rfl) _
  have hel := hP.lt e hP.oe
  have hg2 := fr2 g2 rfl
  have hg2l := own_blt own2 g2 rfl
  refine hR _ _ ⟨⟨0, rfl⟩, ?_, (k12.mono fun _ _ e => e.elim).trans (cs.mono fun j _ e => by simp only [one] at e; subst e; exact hP.oe)⟩
  rw [if_neg (by omega)]
  refine ⟨_, l.filter (· != a) ++ [a], ⟨by rw [hp_setCell, b2, setOf_cells]; rfl, ?_, fun x => ?_, hP.nda.put (by omega), .inl hP.oe, fun k hk => ?_, Gr.lt hP.lt (Nat.le_trans k12.size cs.size)⟩⟩
  · refine RowA.ch ?_ cs fun k hk e => ?_
    · unfold RowA
      rw [List.length_append]
      simpa [u16s, u16v] using own2
    · simp only [one] at e; have := fr2 k hk; omega
  · unfold upd1
    by_cases hx : x = a
    · simp [hx]
    · simp [hx, hP.mem]
  · simp [Value.ownBlock] at hk
    subst hk
    exact ⟨.inr ⟨hg2, Nat.lt_of_lt_of_le hg2l cs.size⟩, by omega⟩
end
set_option maxRecDepth 100000 in
theorem rfits_any (q : Pt) (b : Byts) (w : World) (ok : PtOk q) (hb : b.length ≤ 800000) : Ret Tryz.prog 51 #[.agg (pt q), .string ⟨b.toArray⟩] w fun v' w' => v' = .bool (fitB q b) ∧ Ch Nw w w' := by
  refine v_enter Tryz.func51 Tryz.ntmps51 rfl (by simp) fun R' hR => ?_
  have hps := pt_size ok
  have hpa := pt_all ok
  have ca := (Ch.refl Nw w).alloc (.cells (pt q) 58)
  have b0 := hp_alloc w (.cells (pt q) 58)
  obtain ⟨g, hg⟩ : ∃ g, w.heap.size = g := ⟨_, rfl⟩
  simp [go_sem, hps, hpa]
  rw [hg] at b0 ⊢
  revert ca b0
  generalize w.alloc (.cells (pt q) 58) = w1
  intro ca b0
  have hbig : ¬ 9223372036854775807 < b.length := by omega
  have hph := pt_h ok
  obtain ⟨v1, w2, hconv, sl1, fr1, c2⟩ := run_sbytes w1.drew b (by unfold maxLen; omega)
  refine v_draw' [(0, none), (1, none), (2, none), (3, none), (4, none), (5, none), (8, none), (9, none), (6, some [4, 8, 9]), (7, some [8, 9]), (10, none), (11, none), (12, none)] (by kernel_rfl) (by kernel_rfl) ?_
  by_cases hb5 : b.length = 512
  · have b0d : w1.drew.heap[g]? = some (.cells (pt q) 58 (0, 0)) := b0
    have b2 := c2.obj b0d id
    simp [go_sem, hbig, hb5, b0, b0d, b2, hps, hpa, hconv, hph]
    refine (rdigest_any q v1 b w2 ok sl1 (by omega)).mono ?_
    rintro _ w3 ⟨rfl, c3⟩
    have b3 := c3.obj b2 id
    have heq : ∀ w, (Op.equalIn 10000 55 (.agg (bvs (digS q b)).toArray) (.agg (bvs q.h).toArray)).run Tryz.prog w = .ok (decide (digS q b = q.h)) w := fun w => run_equalIn_bvs w 9998 _ _ 32 Tryz.underlying55 Tryz.underlying5 Tryz.sizeOf5 Tryz.isAgg5 _ _ (digS_length q b) ok.h
    simp [go_sem, b3, hps, hph, heq, hb5]
    exact hR _ _ ⟨by simp [fitB, hb5], (ca.trans (Ch.of_drew c2)).trans c3⟩
  · have hb5i : ((b.length : Int) == 512) = false := beq_false_of_ne (by omega)
    simp [go_sem, hbig, hb5, hb5i]
    exact hR _ _ ⟨by simp [fitB, hb5], ca.drew⟩
end Go.Proofs.YtppilgkgnofkpaaGreatDoor
