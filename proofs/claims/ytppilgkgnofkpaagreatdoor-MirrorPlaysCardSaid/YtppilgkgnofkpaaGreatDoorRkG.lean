/- The document's disk: Write, Fault. No condition but on sizes. -/
import Derived.Test.YtppilgkgnofkpaaGreatDoorRkF
set_option linter.unusedSimpArgs false
set_option linter.unusedVariables false

namespace Go.Proofs.YtppilgkgnofkpaaGreatDoor
open Go.RowKit Go.Kin

section
variable {w w' u u' : World} {r q n : Nat} {D : Dk} {P : Pwr} {O S : Nat → Prop} {z : Rn} {lm : List (Nat × Byts)} {lb ls : List Nat}
/-- a write put into the cache -/
theorem RkP.push (h : RkP w r q n D O z lm lb ls) {a : Nat} (ha : a < n) {b : Byts} (hb : b.length = 512) {v : Value} (ho : u.ownsRow 0 167 2 v (D.cache.length + 1) (rowsL sbl D.cache ++ [.int .u16 a, .string ⟨b.toArray⟩])) (hc : Ch (fun k => z.cv.ownBlock = some k) w u) (hf : v.ownBlock = z.cv.ownBlock ∨ Fresh w.heap.size v) :
    RkAt (u.setCell ⟨r, 3, none⟩ v) r q n (dkC D (D.cache ++ [(a, b)])) (Gr O w (u.setCell ⟨r, 3, none⟩ v)) ∧ Ch O w (u.setCell ⟨r, 3, none⟩ v) :=
  h.setC hc (fun e he => by
    simp only [List.mem_append, List.mem_singleton] at he
    rcases he with he | rfl
    · exact h.ok.cache e he
    · exact ⟨hb, ha⟩) (rowput ho) hf
theorem Rd.write (h : Rd w r q n D P O) (a : Nat) (ha : a < 65536) (b : Byts) (hfu : P.fuse ≤ 9223372036854775807) (hcl : D.cache.length ≤ 1000000) (hast : ∀ x, D.astray = some x → x < 65536) :
    Ret Tryz.prog 52 #[.pointer (some ⟨r, 0, none⟩), .int .u16 a, .string ⟨b.toArray⟩] w fun v' w' => v' = .int .i64 (wrE (D.writes n P a b)) ∧ Rd w' r q n (D.write n P a b) (D.wpow n P a b) (Gr O w w') ∧ Ch (fun k => O k ∨ k = q) w w' := by
  obtain ⟨z, lm, lb, ls, h0⟩ := h.dk
  refine v_enter Tryz.func52 Tryz.ntmps52 rfl (by simp) fun R' hR => ?_
  have c0 : w.cell? ⟨r, 0, none⟩ = some (.int .i64 n) := cell_blk h0.blk 0
  have c1 : w.cell? ⟨r, 1, none⟩ = some (.pointer (some ⟨q, 0, none⟩)) := cell_blk h0.blk 1
  have c6 : w.cell? ⟨r, 6, none⟩ = some (.bool D.dead) := cell_blk h0.blk 6
  have p0 : w.cell? ⟨q, 0, none⟩ = some (.bool P.off) := cell_blk h.pw 0
  have hw : IntKind.i64.wrap (a : Int) = a := by rw [IntKind.wrap_i64]; omega
  have stay : Rd w r q n D P (Gr O w w) := ⟨h.dk.grow, h.pw, h.gr⟩
  cases hd : D.dead with
  | true =>
    rw [hd] at c6
    have hab : D.able P = false := by simp [Dk.able, hd]
    simp [go_sem, c6]
    exact hR _ _ ⟨by simp [Dk.writes, hab, wrE], by simpa [Dk.write, Dk.writes, Dk.wpow, hab] using stay, Ch.refl _ _⟩
  | false =>
    rw [hd] at c6
    cases ho : P.off with
    | true =>
      rw [ho] at p0
      have hab : D.able P = false := by simp [Dk.able, ho]
      simp [go_sem, c6, c1, p0]
      exact hR _ _ ⟨by simp [Dk.writes, hab, wrE], by simpa [Dk.write, Dk.writes, Dk.wpow, hab] using stay, Ch.refl _ _⟩
    | false =>
      rw [ho] at p0
      have hab : D.able P = true := by simp [Dk.able, hd, ho]
      by_cases han : a < n
      case neg =>
        have han' : (n : Int) ≤ a := by omega
        have han2 : n ≤ a := by omega
        simp [go_sem, c6, c1, c0, p0, hw, han']
        exact hR _ _ ⟨by simp [Dk.writes, hab, han2, wrE], by simpa [Dk.write, Dk.writes, Dk.wpow, hab, han2] using stay, Ch.refl _ _⟩
      have han' : ¬ (n : Int) ≤ a := by omega
      have han2 : ¬ n ≤ a := by omega
      by_cases hb : b.length = 512
      case neg =>
        have hb' : (((b.length : Nat) : Int) == 512) = false := beq_false_of_ne (by omega)
        simp [go_sem, c6, c1, c0, p0, hw, han', ByteArray.size, bne, hb', hb]
        exact hR _ _ ⟨by simp [Dk.writes, hab, hb, wrE], by simpa [Dk.write, Dk.writes, Dk.wpow, hab, hb] using stay, Ch.refl _ _⟩
      have hpw : D.wpow n P a b = P.step := by simp [Dk.wpow, hab, han2, hb]
      simp [go_sem, c6, c1, c0, p0, hw, han', ByteArray.size, hb]
      refine (rstep_any q P w h.pw hfu).mono ?_
      rintro _ w1 ⟨rfl, p1, k1⟩
      have k1' : Ch (fun k => O k ∨ k = q) w w1 := k1.mono fun _ _ e => .inr e
      have h1 := h0.ch k1 fun k hk e => by simp only [one] at e; subst e; exact h.qO hk
      have hlt := h.dk.olt
      have d0 : w1.cell? ⟨r, 0, none⟩ = some (.int .i64 n) := cell_blk h1.blk 0
      have d7 : w1.cell? ⟨r, 7, none⟩ = some (.bool D.lose) := cell_blk h1.blk 7
      have d8 : w1.cell? ⟨r, 8, none⟩ = some z.av := cell_blk h1.blk 8
      have f1 := fun i => frz_blk h1.blk i
      rw [hpw] at hR
      cases hmd : P.made with
      | false =>
        simp [go_sem]
        exact hR _ _ ⟨by simp [Dk.writes, hab, han2, hb, hmd, wrE], by simpa [Dk.write, Dk.writes, hab, han2, hb, hmd] using (⟨h1.at.mono (fun _ => .inl) (Gr.lt hlt k1.size), p1, h.gr⟩ : Rd w1 r q n D P.step (Gr O w w1)), k1'⟩
      | true =>
        have hwr : D.writes n P a b = .ok := by simp [Dk.writes, hab, han2, hb, hmd]
        have hput : D.write n P a b = D.put n a b := by simp [Dk.write, hwr]
        rw [hwr, hput] at hR
        have done : ∀ {u : World} {E : Dk}, RkAt u r q n E (Gr O w1 u) → Ch O w1 u → E = D.put n a b → R' (.int .i64 0) u := fun {u E} k2 c2 e => by
          subst e
          exact hR _ _ ⟨rfl, ⟨k2.since hlt k1.size c2.size, p1.ch c2 h.qO, h.gr⟩, k1'.trans' c2 fun _ _ e => .inl e⟩
        cases hls : D.lose with
        | true =>
          rw [hls] at d7
          obtain ⟨k3, c3⟩ := h1.setF (i := 7) (b := false) (D' := { D with lose := false }) rfl rfl rfl rfl rfl rfl
          simp [go_sem, d7, f1]
          exact done k3 c3 (by simp [Dk.put, hls])
        | false =>
          rw [hls] at d7
          cases has : D.astray with
          | none =>
            have hav := h1.astray
            rw [has] at hav
            obtain ⟨Aa, ca, hav2⟩ := hav.lit
            rw [hav2] at d8
            have d3 : w1.cell? ⟨r, 3, none⟩ = some z.cv := cell_blk h1.blk 3
            obtain ⟨Ac', cc, hcv⟩ := h1.cache.lit
            have hrow := h1.cache
            unfold RowB at hrow
            rw [hcv] at d3 hrow
            have hai : (a : Int) < n := by omega
            have d3a : (w1.alloc (.cells #[.int .u16 a, .string ⟨b.toArray⟩] 167)).cell? ⟨r, 3, none⟩ = _ := ((Ch.refl Nw w1).alloc _).cell d3 id
            simp [go_sem, d0, d7, d8, d3, hw, hai]
            refine VB_app1S tySB (us := [.int .u16 a, .string ⟨b.toArray⟩]) hrow rfl (by simp [Value.oneCell']) (by unfold maxLen; omega) (by omega) fun v4 w4 j1 j2 j3 => ?_
            rw [← hcv] at j2 j3
            obtain ⟨k4, c4⟩ := h1.push (b := b) han hb j1 j2 j3
            obtain ⟨A4, p4, rfl⟩ : ∃ A c, v4 = .slice A (D.cache.length + 1) c := by simpa using (rowput j1).lit
            have br := (h1.rows j2).2.2.2.2
            have cr := fun i => cell_blk br i
            have fr := fun i => frz_blk br i
            simp [go_sem, cr, fr, rcs]
            exact done k4 c4 (by simp [Dk.put, hls, has, han, dkC])
          | some x =>
            have hx := hast x has
            have hav := h1.astray
            rw [has] at hav
            obtain ⟨Aa, ca, hav2⟩ := hav.lit
            obtain ⟨ga, capa, cura, hga, _, _, _, _, hra⟩ := ownS_blk hav (by simp)
            have d8' := hra 0 (.int .u16 x) rfl
            rw [hga] at d8
            obtain ⟨k3, c3⟩ := h1.setA (a := none) (Ch.refl Nw _) (RowA.nil _) (fun k hk => by simp [Value.ownBlock] at hk)
            obtain ⟨z2, lm2, lb2, ls2, h2⟩ := id k3
            have e0 : (w1.setCell ⟨r, 8, none⟩ (.slice none 0 0)).cell? ⟨r, 0, none⟩ = some (.int .i64 n) := cell_blk h2.blk 0
            have hwx : IntKind.i64.wrap (x : Int) = x := by rw [IntKind.wrap_i64]; omega
            by_cases hxn : x < n
            · have e3 : (w1.setCell ⟨r, 8, none⟩ (.slice none 0 0)).cell? ⟨r, 3, none⟩ = some z2.cv := cell_blk h2.blk 3
              obtain ⟨Ac', cc, hcv⟩ : ∃ A c, z2.cv = .slice A D.cache.length c := h2.cache.lit
              have hrow : World.ownsRow _ 0 167 2 z2.cv D.cache.length (rowsL sbl D.cache) := h2.cache
              rw [hcv] at e3 hrow
              simp [go_sem] at e3
              have hai : (x : Int) < n := by omega
              simp [go_sem, d0, d7, d8, d8', e3, f1, hwx, hai]
              rw [show w1.heap.size = (w1.setCell ⟨r, 8, none⟩ (.slice none 0 0)).heap.size from by simp [World.setCell]]
              refine VB_app1S tySB (us := [.int .u16 x, .string ⟨b.toArray⟩]) hrow rfl (by simp [Value.oneCell']) (by unfold maxLen; omega) (by omega) fun v4 w4 j1 j2 j3 => ?_
              rw [← hcv] at j2 j3
              obtain ⟨k4, c4⟩ := h2.push (b := b) hxn hb j1 j2 j3
              obtain ⟨k5, c5⟩ := RkAt.comp c3 c4 k4
              obtain ⟨A4, p4, rfl⟩ : ∃ A c, v4 = .slice A (D.cache.length + 1) c := by simpa [dkA] using (rowput j1).lit
              have br := (h2.rows j2).2.2.2.2
              have cr := fun i => cell_blk br i
              have fr := fun i => frz_blk br i
              simp [go_sem, cr, fr, rcs]
              exact done k5 c5 (by simp [Dk.put, hls, has, hxn, dkC, dkA])
            · have hai : ¬ (x : Int) < n := by omega
              simp [go_sem, d0, d7, d8, d8', f1, hwx, hai]
              exact done k3 c3 (by simp [Dk.put, hls, has, hxn, dkA])
def dkS (D : Dk) (s : Nat → Bool) : Dk := { D with stuck := s }
theorem RkP.setS (h : RkP w r q n D O z lm lb ls) (hc : Ch Nw w u) {l : List Nat} {s : Nat → Bool} (hs : ∀ x, s x = decide (x ∈ l)) (hn : Nda n l) {v : Value} (hr : RowA u v l) (hf : Fresh w.heap.size v) :
    RkAt (u.setCell ⟨r, 5, none⟩ v) r q n (dkS D s) (Gr O w (u.setCell ⟨r, 5, none⟩ v)) ∧ Ch O w (u.setCell ⟨r, 5, none⟩ v) := by
  have hc' : Ch (fun k => z.cv.ownBlock = some k) w u := hc.mono fun _ _ e => e.elim
  obtain ⟨rm, rb, _, ra, _⟩ := h.rows hc'
  refine h.set1 (z' := { z with sv := v }) (D' := dkS D s) hc' rfl rm (h.cache.ch hc fun _ _ e => e) rb hr ra h.mem h.bads hs ⟨h.nd.1, h.nd.2.1, hn⟩ ⟨h.ok.m, h.ok.cache⟩ (fun k hk => ?_) (fun k hk => .inl hk) fun k hk e => ?_
  · rcases hk with hk | hk | hk | hk
    · exact .inl (.inl hk)
    · exact .inl (.inr (.inl hk))
    · exact .inr (hf k hk)
    · exact .inl (.inr (.inr (.inr hk)))
  · rcases hk with hk | hk | hk | hk
    · exact h.yx k (.inl hk) (.inr e)
    · exact h.yx k (.inr (.inl hk)) (.inr e)
    · have := hf k hk
      have := h.cache.lt k e
      omega
    · exact h.yx k (.inr (.inr (.inr hk))) (.inr e)
theorem put_mem {l : List Nat} {a : Nat} {s : Nat → Bool} (h : ∀ x, s x = decide (x ∈ l)) (x : Nat) : (if x = a then true else s x) = decide (x ∈ l.filter (· != a) ++ [a]) := by
  by_cases hx : x = a
  · simp [hx]
  · simp [hx, h]
theorem rowputA {l : List Nat} {a : Nat} {v : Value} (h : u.ownsRow 0 52 1 v (l.length + 1) (u16s l ++ [.int .u16 a])) : RowA u v (l ++ [a]) := by
  unfold RowA
  rw [List.length_append]
  simpa [u16s, u16v] using h
/-- a fault: kind 0, 1, or 2 -/
def faultD (D : Dk) (kind a : Nat) (b : Byts) : Dk := if kind = 0 then D.rot a b else if kind = 1 then D.bads a else D.stick a
theorem Rd.fault (h : Rd w r q n D P O) (kind : Nat) (hk3 : kind < 3) (a : Nat) (ha : a < 65536) (b : Byts) (hcl : D.cache.length ≤ 1000000) :
    Ret Tryz.prog 55 #[.pointer (some ⟨r, 0, none⟩), .int .i64 kind, .int .u16 a, .string ⟨b.toArray⟩] w fun v' w' => v' = .int .i64 (if a < n ∧ (kind = 0 → b.length = 512) then 0 else 1) ∧ Rd w' r q n (if a < n ∧ (kind = 0 → b.length = 512) then faultD D kind a b else D) P (Gr O w w') ∧ Ch O w w' := by
  obtain ⟨z, lm, lb, ls, h0⟩ := h.dk
  refine v_enter Tryz.func55 Tryz.ntmps55 rfl (by simp) fun R' hR => ?_
  have c0 : w.cell? ⟨r, 0, none⟩ = some (.int .i64 n) := cell_blk h0.blk 0
  have c3 : w.cell? ⟨r, 3, none⟩ = some z.cv := cell_blk h0.blk 3
  obtain ⟨Ac', cc, hcv⟩ := h0.cache.lit
  rw [hcv] at c3
  have hw : IntKind.i64.wrap (a : Int) = a := by rw [IntKind.wrap_i64]; omega
  have stay : Rd w r q n D P (Gr O w w) := ⟨h.dk.grow, h.pw, h.gr⟩
  by_cases han : a < n
  case neg =>
    have han' : (n : Int) ≤ a := by omega
    simp [go_sem, c0, hw, han']
    exact hR _ _ ⟨by rw [if_neg (by omega)], by rw [if_neg (by omega)]; exact stay, Ch.refl _ _⟩
  have han' : ¬ (n : Int) ≤ a := by omega
  by_cases hkb : kind = 0 → b.length = 512
  case neg =>
    have hk0 : kind = 0 := Classical.byContradiction fun e => hkb fun e2 => absurd e2 e
    subst hk0
    have hb : ¬ b.length = 512 := fun e => hkb fun _ => e
    have hb' : (((b.length : Nat) : Int) == 512) = false := beq_false_of_ne (by omega)
    simp [go_sem, c0, hw, han', ByteArray.size, bne, hb, hb']
    exact hR _ _ ⟨by rw [if_neg fun e => hkb e.2], by rw [if_neg fun e => hkb e.2]; exact stay, Ch.refl _ _⟩
  have hcond : a < n ∧ (kind = 0 → b.length = 512) := ⟨han, hkb⟩
  simp only [if_pos hcond] at hR
  have go : ∀ {R2 : Value → World → Prop}, (∀ (v3 : Value) (w3 : World), RowB w3 v3 (dropC D.cache a) → Fresh w.heap.size v3 → Ch Nw w w3 → R2 v3 w3) → Ret Tryz.prog 87 #[.slice Ac' D.cache.length cc, .int .u16 a] w R2 := fun {R2} hk => by
    refine (drop_rk _ D.cache a w (by rw [← hcv]; exact h0.cache) hcl).mono ?_
    rintro v3 w3 ⟨a1, a2, a3⟩
    exact hk v3 w3 a1 a2 a3
  have hk : kind = 0 ∨ kind = 1 ∨ kind = 2 := by omega
  rcases hk with rfl | rfl | rfl
  · have hb := hkb rfl
    simp [go_sem, c0, c3, hw, han', ByteArray.size, hb]
    refine go fun v3 w3 r3 f3 c3' => ?_
    obtain ⟨A3, p3, rfl⟩ := r3.lit
    obtain ⟨k3, d3⟩ := h0.setC (c3'.mono fun _ _ e => e.elim) (dropC_ok h0.ok.cache a) r3 (.inr f3)
    have cr := fun i => cell_blk (c3'.obj h0.blk id) i
    have fr := fun i => frz_blk (c3'.obj h0.blk id) i
    obtain ⟨z1, lm1, lb1, ls1, h1⟩ := id k3
    have dl : (dropC lm1 a).length ≤ 1000000 := by
      have := List.length_filter_le (fun e : Nat × Byts => e.1 != a) lm1
      have := h1.lml.1
      unfold dropC
      omega
    have e2 := cell_blk h1.blk 2
    obtain ⟨Am, cm, hmv⟩ := h1.m.lit
    have hrow := h1.m
    simp [rcs] at e2
    rw [hmv] at e2 hrow
    simp [go_sem, cr, fr, rcs, e2]
    refine (drop_rk _ lm1 a _ hrow h1.lml.1).mono ?_
    rintro v4 w4 ⟨r4, f4, c4⟩
    simp [go_sem]
    refine VB_app1S tySB (us := [.int .u16 a, .string ⟨b.toArray⟩]) r4 rfl (by simp [Value.oneCell']) (by unfold maxLen; omega) (by omega) fun v5 w5 j1 j2 j3 => ?_
    have c5 : Ch Nw (w3.setCell ⟨r, 3, none⟩ (.slice A3 (dropC D.cache a).length p3)) w5 := c4.trans' j2 fun j hj e => by have := f4 j e; omega
    have f5 : Fresh (w3.setCell ⟨r, 3, none⟩ (.slice A3 (dropC D.cache a).length p3)).heap.size v5 := fun j hj => j3.elim (fun e => f4 j (e ▸ hj)) fun e => Nat.le_trans c4.size (e j hj)
    obtain ⟨k6, c6⟩ := h1.setM c5 han hb (rowput j1) f5
    obtain ⟨k7, c7⟩ := RkAt.comp d3 c6 k6
    obtain ⟨A5, p5, rfl⟩ : ∃ A c, v5 = .slice A ((dropC lm1 a).length + 1) c := by simpa using (rowput j1).lit
    have cr5 := fun i => cell_blk (c5.obj h1.blk id) i
    have fr5 := fun i => frz_blk (c5.obj h1.blk id) i
    simp [go_sem, cr5, fr5, rcs]
    exact hR _ _ ⟨rfl, ⟨k7, h.pw.ch c7 h.qO, h.gr⟩, c7⟩
  · simp [go_sem, c0, c3, hw, han']
    refine go fun v3 w3 r3 f3 c3' => ?_
    obtain ⟨A3, p3, rfl⟩ := r3.lit
    obtain ⟨k3, d3⟩ := h0.setC (c3'.mono fun _ _ e => e.elim) (dropC_ok h0.ok.cache a) r3 (.inr f3)
    have cr := fun i => cell_blk (c3'.obj h0.blk id) i
    have fr := fun i => frz_blk (c3'.obj h0.blk id) i
    obtain ⟨z1, lm1, lb1, ls1, h1⟩ := id k3
    have dl : (lb1.filter (· != a)).length ≤ 1000000 := by
      have := List.length_filter_le (· != a) lb1
      have := h1.lml.2.1
      omega
    have e2 := cell_blk h1.blk 4
    obtain ⟨Am, cm, hmv⟩ := h1.bad.lit
    have hrow := h1.bad
    simp [rcs] at e2
    rw [hmv] at e2 hrow
    simp [go_sem, cr, fr, rcs, e2]
    refine (without_rk _ lb1 a _ hrow h1.lml.2.1).mono ?_
    rintro v4 w4 ⟨r4, f4, c4⟩
    simp [go_sem]
    refine VB_app1 tyU16 (u := .int .u16 a) r4 rfl (by unfold maxLen; omega) (by omega) fun v5 w5 j1 j2 j3 => ?_
    have c5 : Ch Nw (w3.setCell ⟨r, 3, none⟩ (.slice A3 (dropC D.cache a).length p3)) w5 := c4.trans' j2 fun j hj e => by have := f4 j e; omega
    have f5 : Fresh (w3.setCell ⟨r, 3, none⟩ (.slice A3 (dropC D.cache a).length p3)).heap.size v5 := fun j hj => j3.elim (fun e => f4 j (e ▸ hj)) fun e => Nat.le_trans c4.size (e j hj)
    obtain ⟨k6, c6⟩ := h1.setB c5 (put_mem h1.bads) (h1.nd.2.1.put han) (rowputA j1) f5
    obtain ⟨k7, c7⟩ := RkAt.comp d3 c6 k6
    obtain ⟨A5, p5, rfl⟩ : ∃ A c, v5 = .slice A ((lb1.filter (· != a)).length + 1) c := by simpa using (rowputA j1).lit
    have cr5 := fun i => cell_blk (c5.obj h1.blk id) i
    have fr5 := fun i => frz_blk (c5.obj h1.blk id) i
    simp [go_sem, cr5, fr5, rcs]
    exact hR _ _ ⟨rfl, ⟨k7, h.pw.ch c7 h.qO, h.gr⟩, c7⟩
  · simp [go_sem, c0, c3, hw, han']
    refine go fun v3 w3 r3 f3 c3' => ?_
    obtain ⟨A3, p3, rfl⟩ := r3.lit
    obtain ⟨k3, d3⟩ := h0.setC (c3'.mono fun _ _ e => e.elim) (dropC_ok h0.ok.cache a) r3 (.inr f3)
    have cr := fun i => cell_blk (c3'.obj h0.blk id) i
    have fr := fun i => frz_blk (c3'.obj h0.blk id) i
    obtain ⟨z1, lm1, lb1, ls1, h1⟩ := id k3
    have dl : (ls1.filter (· != a)).length ≤ 1000000 := by
      have := List.length_filter_le (· != a) ls1
      have := h1.lml.2.2
      omega
    have e2 := cell_blk h1.blk 5
    obtain ⟨Am, cm, hmv⟩ := h1.stuck.lit
    have hrow := h1.stuck
    simp [rcs] at e2
    rw [hmv] at e2 hrow
    simp [go_sem, cr, fr, rcs, e2]
    refine (without_rk _ ls1 a _ hrow h1.lml.2.2).mono ?_
    rintro v4 w4 ⟨r4, f4, c4⟩
    simp [go_sem]
    refine VB_app1 tyU16 (u := .int .u16 a) r4 rfl (by unfold maxLen; omega) (by omega) fun v5 w5 j1 j2 j3 => ?_
    have c5 : Ch Nw (w3.setCell ⟨r, 3, none⟩ (.slice A3 (dropC D.cache a).length p3)) w5 := c4.trans' j2 fun j hj e => by have := f4 j e; omega
    have f5 : Fresh (w3.setCell ⟨r, 3, none⟩ (.slice A3 (dropC D.cache a).length p3)).heap.size v5 := fun j hj => j3.elim (fun e => f4 j (e ▸ hj)) fun e => Nat.le_trans c4.size (e j hj)
    obtain ⟨k6, c6⟩ := h1.setS c5 (put_mem h1.stucks) (h1.nd.2.2.put han) (rowputA j1) f5
    obtain ⟨k7, c7⟩ := RkAt.comp d3 c6 k6
    obtain ⟨A5, p5, rfl⟩ : ∃ A c, v5 = .slice A ((ls1.filter (· != a)).length + 1) c := by simpa using (rowputA j1).lit
    have cr5 := fun i => cell_blk (c5.obj h1.blk id) i
    have fr5 := fun i => frz_blk (c5.obj h1.blk id) i
    simp [go_sem, cr5, fr5, rcs]
    exact hR _ _ ⟨rfl, ⟨k7, h.pw.ch c7 h.qO, h.gr⟩, c7⟩
end
end Go.Proofs.YtppilgkgnofkpaaGreatDoor
