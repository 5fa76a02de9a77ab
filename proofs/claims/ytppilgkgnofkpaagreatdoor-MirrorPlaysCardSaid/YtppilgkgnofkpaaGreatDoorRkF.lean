/- The document's disk: Crash, Write, Fault. No condition but on sizes. -/
import Derived.Test.YtppilgkgnofkpaaGreatDoorRkD
set_option linter.unusedSimpArgs false
set_option linter.unusedVariables false

/- The document's disk: Look, Read, Flush, Crash. No condition but on sizes. -/
namespace Go.Proofs.YtppilgkgnofkpaaGreatDoor
open Go.RowKit Go.Kin

section
variable {w u u' : World} {r q n : Nat} {D D' : Dk} {O : Nat → Prop} {z z' : Rn} {lm lm' : List (Nat × Byts)} {lb ls lb' ls' : List Nat}
theorem look_rk (h : RkP w r q n D O z lm lb ls) (a : Nat) (ha : a < 65536) (hcl : D.cache.length ≤ 1000000) :
    Ret Tryz.prog 61 #[.pointer (some ⟨r, 0, none⟩), .int .u16 a] w fun v' w' => v' = lastV (D.look n a) ∧ Ch Nw w w' := by
  refine v_enter Tryz.func61 Tryz.ntmps61 rfl (by simp) fun R' hR => ?_
  have c0 : w.cell? ⟨r, 0, none⟩ = some (.int .i64 n) := cell_blk h.blk 0
  have c3 : w.cell? ⟨r, 3, none⟩ = some z.cv := cell_blk h.blk 3
  have c4 : w.cell? ⟨r, 4, none⟩ = some z.bv := cell_blk h.blk 4
  have c5 : w.cell? ⟨r, 5, none⟩ = some z.sv := cell_blk h.blk 5
  have c6 : w.cell? ⟨r, 6, none⟩ = some (.bool D.dead) := cell_blk h.blk 6
  have hw : IntKind.i64.wrap (a : Int) = a := by rw [IntKind.wrap_i64]; omega
  obtain ⟨Ac', cc, hcv⟩ := h.cache.lit
  obtain ⟨Ab, cb, hbv⟩ := h.bad.lit
  obtain ⟨As, cs, hsv⟩ := h.stuck.lit
  rw [hcv] at c3
  rw [hbv] at c4
  rw [hsv] at c5
  cases hd : D.dead with
  | true =>
    rw [hd] at c6
    simp [go_sem, c6]
    exact hR _ _ ⟨by simp [Dk.look, hd, lastV], Ch.refl _ _⟩
  | false =>
    rw [hd] at c6
    by_cases han : a < n
    case neg =>
      have han' : (n : Int) ≤ a := by omega
      simp [go_sem, c6, c0, hw, han']
      exact hR _ _ ⟨by simp [Dk.look, show n ≤ a by omega, lastV], Ch.refl _ _⟩
    have han' : ¬ (n : Int) ≤ a := by omega
    simp [go_sem, c6, c0, c5, hw, han']
    refine (has_rk _ ls a w (by rw [← hsv]; exact h.stuck) h.lml.2.2).mono ?_
    rintro _ w1 ⟨rfl, hw1⟩
    subst w1
    rw [← h.stucks a]
    cases hs : D.stuck a with
    | true =>
      simp [go_sem]
      exact hR _ _ ⟨by simp [Dk.look, hs, lastV], Ch.refl _ _⟩
    | false =>
      simp [go_sem, c3]
      refine (last_rk _ D.cache a w (by rw [← hcv]; exact h.cache) hcl).mono ?_
      rintro _ w1 ⟨rfl, hw1⟩
      subst w1
      have hlk : D.look n a = D.tells a := by unfold Dk.look; rw [hd, hs, if_neg (by simp; omega)]
      rw [hlk] at hR
      unfold Dk.tells at hR
      cases hl : lastC D.cache a with
      | some b =>
        rw [hl] at hR
        simp [go_sem, lastV]
        exact hR _ _ ⟨by simp [lastV], Ch.refl _ _⟩
      | none =>
        rw [hl] at hR
        simp [go_sem, lastV, c4]
        refine (has_rk _ lb a w (by rw [← hbv]; exact h.bad) h.lml.2.1).mono ?_
        rintro _ w1 ⟨rfl, hw1⟩
        subst w1
        rw [← h.bads a]
        cases hb : D.bad a with
        | true =>
          rw [hb] at hR
          simp [go_sem]
          exact hR _ _ ⟨by simp [lastV], Ch.refl _ _⟩
        | false =>
          rw [hb] at hR
          simp [go_sem]
          refine (block_rk h a).mono ?_
          rintro _ w1 ⟨rfl, k1⟩
          simp [go_sem]
          exact hR _ _ ⟨by simp [lastV], k1⟩
/-- the bytes of a read -/
def readT (n : Nat) (D : Dk) (P : Pwr) (a : Nat) : Byts := if readE n D P a = 0 then (D.look n a).getD [] else []
theorem read_rk {P : Pwr} (h : RkP w r q n D O z lm lb ls) (hp : PwR w q P) (a : Nat) (ha : a < 65536) (hcl : D.cache.length ≤ 1000000) :
    Ret Tryz.prog 82 #[.pointer (some ⟨r, 0, none⟩), .int .u16 a] w fun v' w' => v' = .tuple #[.string ⟨(readT n D P a).toArray⟩, .int .i64 (readE n D P a)] ∧ Ch Nw w w' := by
  refine v_enter Tryz.func82 Tryz.ntmps82 rfl (by simp) fun R' hR => ?_
  have c0 : w.cell? ⟨r, 0, none⟩ = some (.int .i64 n) := cell_blk h.blk 0
  have c1 : w.cell? ⟨r, 1, none⟩ = some (.pointer (some ⟨q, 0, none⟩)) := cell_blk h.blk 1
  have c6 : w.cell? ⟨r, 6, none⟩ = some (.bool D.dead) := cell_blk h.blk 6
  have p0 : w.cell? ⟨q, 0, none⟩ = some (.bool P.off) := cell_blk hp 0
  have hw : IntKind.i64.wrap (a : Int) = a := by rw [IntKind.wrap_i64]; omega
  cases hd : D.dead with
  | true =>
    rw [hd] at c6
    simp [go_sem, c6]
    exact hR _ _ ⟨by simp [readT, readE, Dk.able, hd], Ch.refl _ _⟩
  | false =>
    rw [hd] at c6
    cases ho : P.off with
    | true =>
      rw [ho] at p0
      simp [go_sem, c6, c1, p0]
      exact hR _ _ ⟨by simp [readT, readE, Dk.able, ho], Ch.refl _ _⟩
    | false =>
      rw [ho] at p0
      have hab : D.able P = true := by simp [Dk.able, hd, ho]
      by_cases han : a < n
      case neg =>
        have han' : (n : Int) ≤ a := by omega
        simp [go_sem, c6, c1, c0, p0, hw, han']
        exact hR _ _ ⟨by simp [readT, readE, hab, show n ≤ a by omega], Ch.refl _ _⟩
      have han' : ¬ (n : Int) ≤ a := by omega
      simp [go_sem, c6, c1, c0, p0, hw, han']
      refine (look_rk h a ha hcl).mono ?_
      rintro _ w1 ⟨rfl, k1⟩
      cases hl : D.look n a with
      | none =>
        simp [go_sem, lastV]
        exact hR _ _ ⟨by simp [readT, readE, hab, hl, show ¬ n ≤ a by omega], k1⟩
      | some b =>
        simp [go_sem, lastV]
        exact hR _ _ ⟨by simp [readT, readE, hab, hl, show ¬ n ≤ a by omega], k1⟩
end
/-- the cache set to another row -/
def dkC (D : Dk) (c : List (Nat × Byts)) : Dk := { D with cache := c }
section
variable {w w1 u u' : World} {r q n : Nat} {D D' : Dk} {O : Nat → Prop} {z z' : Rn} {lm lm' : List (Nat × Byts)} {lb ls lb' ls' : List Nat}
theorem RkP.setC (h : RkP w r q n D O z lm lb ls) (hc : Ch (fun k => z.cv.ownBlock = some k) w u) {c : List (Nat × Byts)} (hk : ∀ e ∈ c, e.2.length = 512 ∧ e.1 < n) {v : Value} (hr : RowB u v c) (hf : v.ownBlock = z.cv.ownBlock ∨ Fresh w.heap.size v) :
    RkAt (u.setCell ⟨r, 3, none⟩ v) r q n (dkC D c) (Gr O w (u.setCell ⟨r, 3, none⟩ v)) ∧ Ch O w (u.setCell ⟨r, 3, none⟩ v) := by
  obtain ⟨rm, rb, rs, ra, _⟩ := h.rows hc
  refine h.set1 (z' := { z with cv := v }) (D' := dkC D c) hc rfl rm hr rb rs ra h.mem h.bads h.stucks h.nd ⟨h.ok.m, hk⟩ (fun k hk => .inl hk) (fun k hk => hf.imp (fun e => by rw [← e]; exact hk) fun e => e k hk) fun k hk e => ?_
  rcases hf with hf | hf
  · exact h.yx k hk (.inr (hf ▸ e))
  · have := hf k e
    have := h.olt k (h.oy k hk)
    omega
theorem RkP.setCnil (h : RkP w r q n D O z lm lb ls) : RkAt (w.setCell ⟨r, 3, none⟩ (.slice none 0 0)) r q n (dkC D []) (Gr O w (w.setCell ⟨r, 3, none⟩ (.slice none 0 0))) ∧ Ch O w (w.setCell ⟨r, 3, none⟩ (.slice none 0 0)) :=
  h.setC (Ch.refl _ w) (by simp) (RowB.nil w) (.inr fun k hk => by simp [Value.ownBlock] at hk)
/-- a flag set -/
theorem RkP.setF (h : RkP w r q n D O z lm lb ls) {i : Nat} {b : Bool} {D' : Dk} (hcs : (rcs n q z D).setIfInBounds i (.bool b) = rcs n q z D') (h1 : D'.m = D.m) (h2 : D'.cache = D.cache) (h3 : D'.bad = D.bad) (h4 : D'.stuck = D.stuck) (h5 : D'.astray = D.astray) :
    RkAt (w.setCell ⟨r, i, none⟩ (.bool b)) r q n D' (Gr O w (w.setCell ⟨r, i, none⟩ (.bool b))) ∧ Ch O w (w.setCell ⟨r, i, none⟩ (.bool b)) := by
  refine h.set1 (z' := z) (D' := D') (Ch.refl _ w) hcs h.m (by rw [h2]; exact h.cache) h.bad h.stuck (by rw [h5]; exact h.astray) (by rw [h1]; exact h.mem) (by rw [h3]; exact h.bads) (by rw [h4]; exact h.stucks) h.nd ⟨by rw [h1]; exact h.ok.m, by rw [h2]; exact h.ok.cache⟩ (fun k hk => .inl hk) (fun k hk => .inl hk) fun k hk e => h.yx k hk (.inr e)
/-- where the next write goes -/
def dkA (D : Dk) (a : Option Nat) : Dk := { D with astray := a }
theorem RkP.setA (h : RkP w r q n D O z lm lb ls) (hc : Ch Nw w u) {a : Option Nat} {v : Value} (hr : RowA u v a.toList) (hf : Fresh w.heap.size v) :
    RkAt (u.setCell ⟨r, 8, none⟩ v) r q n (dkA D a) (Gr O w (u.setCell ⟨r, 8, none⟩ v)) ∧ Ch O w (u.setCell ⟨r, 8, none⟩ v) := by
  have hc' : Ch (fun k => z.cv.ownBlock = some k) w u := hc.mono fun _ _ e => e.elim
  obtain ⟨rm, rb, rs, _, _⟩ := h.rows hc'
  refine h.set1 (z' := { z with av := v }) (D' := dkA D a) hc' rfl rm (h.cache.ch hc fun _ _ e => e) rb rs hr h.mem h.bads h.stucks h.nd ⟨h.ok.m, h.ok.cache⟩ (fun k hk => ?_) (fun k hk => .inl hk) fun k hk e => ?_
  · rcases hk with hk | hk | hk | hk
    · exact .inl (.inl hk)
    · exact .inl (.inr (.inl hk))
    · exact .inl (.inr (.inr (.inl hk)))
    · exact .inr (hf k hk)
  · rcases hk with hk | hk | hk | hk
    · exact h.yx k (.inl hk) (.inr e)
    · exact h.yx k (.inr (.inl hk)) (.inr e)
    · exact h.yx k (.inr (.inr (.inl hk))) (.inr e)
    · have := hf k hk
      have := h.cache.lt k e
      omega
theorem RkAt.since (h : RkAt u r q n D (Gr O w1 u)) (ho : ∀ k, O k → k < w.heap.size) (h1 : w.heap.size ≤ w1.heap.size) (h2 : w1.heap.size ≤ u.heap.size) : RkAt u r q n D (Gr O w u) := h.mono (fun k hk => hk.imp id fun e => ⟨by omega, e.2⟩) (Gr.lt ho (by omega))
theorem comes_cacheL : ∀ (l : List (Nat × Byts)) (E : Dk), (l.foldl (fun d e => d.comes e 512) E).cache = E.cache
  | [], _ => rfl
  | e :: l, E => by rw [List.foldl_cons, comes_cacheL l]; rfl
end
/-- a disk and its power, as the document has them -/
structure Rd (w : World) (r q n : Nat) (D : Dk) (P : Pwr) (O : Nat → Prop) : Prop where
  dk : RkAt w r q n D O
  pw : PwR w q P
  qO : ¬ O q
section
variable {w w' : World} {r q n : Nat} {D : Dk} {P : Pwr} {O S : Nat → Prop}
theorem Rd.ch (h : Rd w r q n D P O) (hc : Ch S w w') (hn : ∀ k, O k → ¬ S k) (hq : ¬ S q) : Rd w' r q n D P O := ⟨h.dk.ch hc hn, h.pw.ch hc hq, h.qO⟩
theorem Rd.plt (h : Rd w r q n D P O) : q < w.heap.size := lt_of_block h.pw
theorem Rd.gr (h : Rd w r q n D P O) : ¬ Gr O w w' q := fun e => e.elim h.qO fun e => by have := h.plt; omega
theorem Rd.flush (h : Rd w r q n D P O) (hfu : P.fuse ≤ 9223372036854775807) (hcl : D.cache.length ≤ 1000000) :
    Ret Tryz.prog 53 #[.pointer (some ⟨r, 0, none⟩)] w fun v' w' => v' = .int .i64 (if D.able P && P.made then 0 else 3) ∧ Rd w' r q n (if D.able P && P.made then D.flush else D) (if D.able P then P.step else P) (Gr O w w') ∧ Ch (fun k => O k ∨ k = q) w w' := by
  obtain ⟨z, lm, lb, ls, h0⟩ := h.dk
  refine v_enter Tryz.func53 Tryz.ntmps53 rfl (by simp) fun R' hR => ?_
  have c1 : w.cell? ⟨r, 1, none⟩ = some (.pointer (some ⟨q, 0, none⟩)) := cell_blk h0.blk 1
  have c6 : w.cell? ⟨r, 6, none⟩ = some (.bool D.dead) := cell_blk h0.blk 6
  cases hd : D.dead with
  | true =>
    rw [hd] at c6
    simp [go_sem, c6]
    exact hR _ _ ⟨by simp [Dk.able, hd], by simpa [Dk.able, hd] using (⟨h.dk.grow, h.pw, h.gr⟩ : Rd w r q n D P (Gr O w w)), Ch.refl _ _⟩
  | false =>
    rw [hd] at c6
    simp [go_sem, c6, c1]
    refine (rstep_any q P w h.pw hfu).mono ?_
    rintro _ w1 ⟨rfl, p1, k1⟩
    have k1' : Ch (fun k => O k ∨ k = q) w w1 := k1.mono fun _ _ e => .inr e
    have hab : D.able P = !P.off := by simp [Dk.able, hd]
    have hpw : (if D.able P then P.step else P) = P.step := by
      rw [hab]
      cases ho : P.off <;> simp [Pwr.step, ho]
    rw [hpw] at hR
    have d1 : RkAt w1 r q n D O := h.dk.ch k1 fun k hk e => by simp only [one] at e; subst e; exact h.qO hk
    have hlt := h.dk.olt
    have hqlt := h.plt
    cases hmd : P.made with
    | false =>
      rw [hmd, Bool.and_false, if_neg (by decide), if_neg (by decide)] at hR
      simp [go_sem]
      exact hR _ _ ⟨rfl, ⟨d1.mono (fun _ => .inl) (Gr.lt hlt k1.size), p1, h.gr⟩, k1'⟩
    | true =>
      have ho : P.off = false := by
        cases ho : P.off with
        | false => rfl
        | true => simp [Pwr.made, ho] at hmd
      rw [hmd, hab, ho, Bool.and_true, Bool.not_false, if_pos rfl, if_pos rfl] at hR
      simp [go_sem]
      refine v_loop (fun m f u => ∃ i, m = D.cache.length - i ∧ i ≤ D.cache.length ∧ f 0 = .pointer (some ⟨r, 0, none⟩) ∧ f 3 = .int .i64 i ∧ RkAt u r q n ((D.cache.take i).foldl (fun d e => d.comes e 512) D) (Gr O w1 u) ∧ Ch O w1 u) D.cache.length
        ⟨0, rfl, by omega, by simp, by simp, d1.grow, Ch.refl _ _⟩ ?_
      rintro J hJ _ f u ⟨i, rfl, hi, f0, f3, hrk, cu⟩
      obtain ⟨z2, lm2, lb2, ls2, h2⟩ := hrk
      have c3 : u.cell? ⟨r, 3, none⟩ = some z2.cv := cell_blk h2.blk 3
      have hcrow := h2.cache
      rw [comes_cacheL] at hcrow
      have hlen := own_len hcrow Tryz.underlying46 3
      obtain ⟨Ac', cc, hcv⟩ := hcrow.lit
      rw [hcv] at c3 hcrow hlen
      by_cases hlt2 : i < D.cache.length
      · have hii : (i : Int) < D.cache.length := by omega
        have hwi : IntKind.i64.wrap ((i : Int) + 1) = ((i + 1 : Nat) : Int) := by rw [IntKind.wrap_i64]; omega
        obtain ⟨e, he⟩ : ∃ e, D.cache[i]? = some e := ⟨_, List.getElem?_eq_getElem hlt2⟩
        obtain ⟨g, cap, hg, hc0, hc1⟩ := hcrow.at he
        cases hg
        obtain ⟨a, b⟩ := e
        obtain ⟨hb, ha⟩ := h0.ok.cache (a, b) (List.mem_of_getElem? he)
        have htk : (D.cache.take (i + 1)).foldl (fun d e => d.comes e 512) D = ((D.cache.take i).foldl (fun d e => d.comes e 512) D).comes (a, b) 512 := by
          obtain ⟨hi2, he2⟩ := List.getElem?_eq_some_iff.1 he
          rw [List.take_succ_eq_append_getElem hi2, List.foldl_append, he2]
          rfl
        simp [go_sem, f0, f3, c3, hii, hlt2, hc0, hc1]
        refine (comes_rk h2 a ha b hb 512 (by omega)).mono ?_
        rintro _ u3 ⟨rfl, k3, c3'⟩
        obtain ⟨k4, c4⟩ := RkAt.comp cu c3' k3
        rw [← htk] at k4
        simp [go_sem, f3, hwi]
        exact Rnd.intro (D.cache.length - (i + 1)) (by omega) (hJ _ _ _ ⟨i + 1, rfl, by omega, by simp [f0], by simp, k4, c4⟩)
      · obtain rfl : i = D.cache.length := by omega
        rw [List.take_length] at h2
        have br := h2.blk
        have cr := fun i => cell_blk br i
        have fr := fun i => frz_blk br i
        simp [go_sem, f0, f3, c3, cr, fr, rcs]
        obtain ⟨k3, c3'⟩ := h2.setCnil
        obtain ⟨k4, c4⟩ := RkAt.comp cu c3' k3
        have e : dkC (D.cache.foldl (fun d e => d.comes e 512) D) [] = D.flush := rfl
        rw [e] at k4
        refine hR _ _ ⟨rfl, ⟨k4.since hlt k1.size c4.size, p1.ch c4 h.qO, h.gr⟩, k1'.trans' c4 fun _ _ e => .inl e⟩
end
end Go.Proofs.YtppilgkgnofkpaaGreatDoor

namespace Go.Proofs.YtppilgkgnofkpaaGreatDoor
open Go.RowKit Go.Kin

section
variable {w w' : World} {r q n : Nat} {D : Dk} {P : Pwr} {O S : Nat → Prop}
theorem Rd.crash (h : Rd w r q n D P O) (ps : List Int) (v : Value) (hcl : D.cache.length ≤ 1000000) (hps : ps.length ≤ 1000000) (hpr : ∀ x ∈ ps, -9223372036854775808 ≤ x ∧ x ≤ 9223372036854775807) (hv : Sl w v ps.length (ps.map (Value.int .i64))) (hvO : 0 < ps.length → ∀ k, v.ownBlock = some k → ¬ O k ∧ k < w.heap.size) :
    Ret Tryz.prog 54 #[.pointer (some ⟨r, 0, none⟩), v] w fun v' w' => v' = .tuple #[] ∧ Rd w' r q n (D.crash ps) P (Gr O w w') ∧ Ch O w w' := by
  obtain ⟨z, lm, lb, ls, h0⟩ := h.dk
  refine v_enter Tryz.func54 Tryz.ntmps54 rfl (by simp) fun R' hR => ?_
  have c6 : w.cell? ⟨r, 6, none⟩ = some (.bool D.dead) := cell_blk h0.blk 6
  cases hd : D.dead with
  | true =>
    rw [hd] at c6
    simp [go_sem, c6]
    exact hR _ _ ⟨rfl, by simpa [Dk.crash, hd] using (⟨h.dk.grow, h.pw, h.gr⟩ : Rd w r q n D P (Gr O w w)), Ch.refl _ _⟩
  | false =>
    rw [hd] at c6
    have hlv := hv.len Tryz.underlying61 3
    simp [go_sem, c6]
    obtain ⟨m, hm⟩ : ∃ m, min ps.length D.cache.length = m := ⟨_, rfl⟩
    refine v_loop (fun t f u => ∃ i, t = m - i ∧ i ≤ m ∧ f 0 = .pointer (some ⟨r, 0, none⟩) ∧ f 1 = v ∧ f 4 = .int .i64 i ∧ RkAt u r q n (pk D ps i) (Gr O w u) ∧ Ch O w u) m
      ⟨0, rfl, by omega, by simp, by simp, by simp, h.dk.grow, Ch.refl _ _⟩ ?_
    rintro J hJ _ f u ⟨i, rfl, hi, f0, f1, f4, hrk, cu⟩
    obtain ⟨z2, lm2, lb2, ls2, h2⟩ := hrk
    have c3 : u.cell? ⟨r, 3, none⟩ = some z2.cv := cell_blk h2.blk 3
    have hcrow := h2.cache
    rw [pk_cache] at hcrow
    have hlen := own_len hcrow Tryz.underlying46 3
    obtain ⟨Ac', cc, hcv⟩ := hcrow.lit
    rw [hcv] at c3 hcrow hlen
    by_cases hlt : i < m
    · have hic : i < D.cache.length := by omega
      have hip : i < ps.length := by omega
      have hici : (i : Int) < D.cache.length := by omega
      have hipi : (i : Int) < ps.length := by omega
      have hwi : IntKind.i64.wrap ((i : Int) + 1) = ((i + 1 : Nat) : Int) := by rw [IntKind.wrap_i64]; omega
      obtain ⟨e, he⟩ : ∃ e, D.cache[i]? = some e := ⟨_, List.getElem?_eq_getElem hic⟩
      obtain ⟨g, cap, hg, hc0, hc1⟩ := hcrow.at he
      cases hg
      obtain ⟨a, b⟩ := e
      obtain ⟨hb, ha⟩ := h0.ok.cache (a, b) (List.mem_of_getElem? he)
      obtain ⟨k, hk⟩ : ∃ k, ps[i]? = some k := ⟨_, List.getElem?_eq_getElem hip⟩
      obtain ⟨hk1, hk2⟩ := hpr k (List.mem_of_getElem? hk)
      have htk : pk D ps (i + 1) = pick1 (pk D ps i) (a, b) k := pk_succ he hk
      have hvu := hv.ch cu fun j hj => (hvO (by omega) j hj).1
      obtain ⟨ad, hat, hcl', hadb⟩ := hvu.at tyI (by simp) (show (ps.map (Value.int .i64))[i]? = some (.int .i64 k) by rw [List.getElem?_map, hk]; rfl)
      have hadO : ∀ {u' : World}, Ch O w u' → u'.cell? ad = some (.int .i64 k) := fun {u'} c => by
        obtain ⟨ad2, hat2, hcl2, _⟩ := (hv.ch c fun j hj => (hvO (by omega) j hj).1).at tyI (by simp) (show (ps.map (Value.int .i64))[i]? = some (.int .i64 k) by rw [List.getElem?_map, hk]; rfl)
        have e := (hat w).symm.trans (hat2 w)
        cases e
        exact hcl2
      simp [go_sem, f0, f1, f4, c3, hlv, hici, hipi, hat, hcl']
      by_cases hk1 : k = 1
      · subst hk1
        simp [go_sem, f0, f1, f4, c3, hic, hc0, hc1]
        refine (comes_rk h2 a ha b hb 512 (by omega)).mono ?_
        rintro _ u3 ⟨rfl, k3, c3'⟩
        obtain ⟨k4, c4⟩ := RkAt.comp cu c3' k3
        have hcl3 := hadO c4
        rw [show (pk D ps i).comes (a, b) 512 = pk D ps (i + 1) by rw [htk]; rfl] at k4
        simp [go_sem, f1, f4, hat, hcl3, hwi]
        exact Rnd.intro (m - (i + 1)) (by omega) (hJ _ _ _ ⟨i + 1, rfl, by omega, by simp [f0], by simp [f1], by simp, k4, c4⟩)
      · have hkb : (k == 1) = false := beq_false_of_ne hk1
        by_cases hk2' : 1 < k
        · obtain ⟨t, ht⟩ : ∃ t : Nat, (k - 2) % 512 = t := ⟨((k - 2) % 512).toNat, by omega⟩
          have htm : (k - 2).tmod 512 = (t : Int) := by rw [Int.tmod_eq_emod_of_nonneg (by omega), ht]
          have ht5 : t ≤ 512 := by omega
          have hwk : IntKind.i64.wrap (k - 2) = k - 2 := by rw [IntKind.wrap_i64]; omega
          simp [go_sem, hk1, hkb, f1, f4, hat, hcl', hk2']
          refine v_draw' [(0, none), (1, none), (2, none), (3, none), (4, none), (5, none), (6, none), (7, none), (8, none), (9, none), (10, none), (11, none), (12, none), (13, none), (14, some [])] (by kernel_rfl) (by kernel_rfl) ?_
          simp [go_sem, f0, f1, f4, c3, hic, hc0, hc1, hat, hcl', hwk, htm]
          refine (comes_rk (h2.ch (Ch.refl Nw u).drew fun _ _ e => e) a ha b hb t ht5).mono ?_
          rintro _ u3 ⟨rfl, k3, c3'⟩
          obtain ⟨k4, c4⟩ := RkAt.comp cu (Ch.of_drew c3') k3
          rw [show (pk D ps i).comes (a, b) t = pk D ps (i + 1) by rw [htk]; unfold pick1; rw [if_neg hk1, if_pos hk2', ht]; rfl] at k4
          simp [go_sem, f4, hwi]
          exact Rnd.intro (m - (i + 1)) (by omega) (hJ _ _ _ ⟨i + 1, rfl, by omega, by simp [f0], by simp [f1], by simp, k4, c4⟩)
        · simp [go_sem, hk1, hkb, f1, f4, hat, hcl', hk2', hwi]
          rw [show pk D ps i = pk D ps (i + 1) by rw [htk]; unfold pick1; rw [if_neg hk1, if_neg hk2']] at h2
          exact Rnd.intro (m - (i + 1)) (by omega) (hJ _ _ _ ⟨i + 1, rfl, by omega, by simp [f0], by simp [f1], by simp, h2.at, cu⟩)
    · obtain rfl : i = m := by omega
      obtain ⟨k3, c3'⟩ := h2.setCnil
      obtain ⟨k4, c4⟩ := RkAt.comp cu c3' k3
      obtain ⟨z3, lm3, lb3, ls3, h3⟩ := id k4
      obtain ⟨k5, c5⟩ := h3.setF (i := 7) (b := false) (D' := { dkC (pk D ps i) [] with lose := false }) rfl rfl rfl rfl rfl rfl
      obtain ⟨k6, c6'⟩ := RkAt.comp c4 c5 k5
      obtain ⟨z4, lm4, lb4, ls4, h4⟩ := id k6
      obtain ⟨k7, c7⟩ := h4.setA (a := none) (Ch.refl Nw _) (RowA.nil _) (fun k hk => by simp [Value.ownBlock] at hk)
      obtain ⟨k8, c8⟩ := RkAt.comp c6' c7 k7
      have e : dkA { dkC (pk D ps i) [] with lose := false } none = D.crash ps := by
        unfold Dk.crash
        rw [hd, if_neg (by decide), ← pk_all, hm]
        rfl
      rw [e] at k8
      have fin := hR (.tuple #[]) _ ⟨rfl, ⟨k8, h.pw.ch c8 h.qO, h.gr⟩, c8⟩
      have c3u := fun i => cell_blk h2.blk i
      have f3u := fun i => frz_blk h2.blk i
      have c7u := fun i => cell_blk h3.blk i
      have f7u := fun i => frz_blk h3.blk i
      have c8u := fun i => cell_blk h4.blk i
      have f8u := fun i => frz_blk h4.blk i
      by_cases h1 : (i : Int) < D.cache.length
      · have h2' : ¬ (i : Int) < ps.length := by omega
        simp [go_sem, f0, f1, f4, c3, hlv, h1, h2', c3u, f3u, c7u, f7u, c8u, f8u, rcs]
        exact fin
      · simp [go_sem, f0, f1, f4, c3, hlv, h1, c3u, f3u, c7u, f7u, c8u, f8u, rcs]
        exact fin
end
end Go.Proofs.YtppilgkgnofkpaaGreatDoor
