/- Package disk's Write, as a contract on calls. No condition but on sizes. -/
import Derived.Test.YtppilgkgnofkpaaGreatDoorDkD
set_option linter.unusedSimpArgs false
set_option linter.unusedVariables false

/- Package disk's Astray and Write, as contracts on calls. No condition but on sizes. -/
namespace Go.Proofs.YtppilgkgnofkpaaGreatDoor
open Go.RowKit Go.Kin

theorem tyWr : TyS Tryz.prog 134 140 (.agg #[.int .u16 0, .slice none 0 0]) 2 32 := ⟨Tryz.underlying134, by kernel_rfl, rfl, by decide⟩
section
variable {w : World} {d p n : Nat} {D : Dk} {O Y : Nat → Prop} {z : Dn} {vs : List (Nat × Value)}
theorem astray_any (a : Nat) (h : DkP w d p n D O z vs Y) : Ret Tryz.prog 58 #[.pointer (some ⟨d, 0, none⟩), .int .u16 a] w fun v' w' => v' = .tuple #[] ∧ DkAt w' d p n { D with astray := some a } (Gr O w w') ∧ Ch (one d) w w' := by
  refine v_enter Tryz.func58 Tryz.ntmps58 rfl (by simp) fun R' hR => ?_
  have hq := (Ch.refl Nw w).alloc (.cells #[.int .u16 a] 52)
  have hb1 := hp_alloc w (.cells #[.int .u16 a] 52)
  have h1 := h.ch hq fun _ _ e => e
  simp [go_sem]
  revert hq hb1 h1
  generalize w.alloc (.cells #[.int .u16 a] 52) = w1
  generalize hg : w.heap.size = g
  intro hq hb1 h1
  have c8 : w1.cell? ⟨d, 8, none⟩ = some z.av := cell_blk h1.blk 8
  have f8 := frz_blk h1.blk 8
  have hdg : d < g := by rw [← hg]; exact h.lt
  have hgl := lt_of_block hb1
  simp [go_sem, c8, f8]
  have cs : Ch (one d) w1 (w1.setCell ⟨d, 8, none⟩ (.pointer (some ⟨g, 0, none⟩))) := (Ch.refl (one d) w1).setCell (p := ⟨d, 8, none⟩) (.inl rfl) _
  have cw : Ch (one d) w (w1.setCell ⟨d, 8, none⟩ (.pointer (some ⟨g, 0, none⟩))) := (hq.mono fun _ _ e => e.elim).trans cs
  have hsz : (w1.setCell ⟨d, 8, none⟩ (.pointer (some ⟨g, 0, none⟩))).heap.size = w1.heap.size := by simp [World.setCell]
  have hyn := h.yne
  refine hR _ _ ⟨rfl, ⟨{ z with av := .pointer (some ⟨g, 0, none⟩) }, vs, fun k => Y k ∨ k = g, ?_⟩, cw⟩
  refine h1.own (D' := { D with astray := some a }) (z' := { z with av := .pointer (some ⟨g, 0, none⟩) }) (Y' := fun k => Y k ∨ k = g) (O' := Gr O w _) ?_ (cs.mono fun _ _ e => .inl e) rfl rfl rfl ⟨rfl, rfl, rfl⟩ ?_ ⟨g, rfl, cs.hp hb1 (by simp only [one]; omega), .inr rfl⟩ ⟨h.ok.m, h.ok.cache⟩ ?_ (fun _ => .inl) (fun _ => .inl) ?_ (Gr.lt h.olt cw.size)
  · rw [hp_setCell, h1.blk, setOf_cells]; rfl
  · exact (h1.cache.ch cs (fun k hk e => by simp only [one] at e; exact (h.dcv k hk).1 e) fun k hk e => by simp only [one] at e; exact (hyn k hk).2.1 e).mono fun _ => .inl
  · intro k hk
    obtain ⟨g1, g2, g3⟩ := h.cvs k hk
    refine ⟨.inl g1, fun e => e.elim g2 fun e => ?_, g3⟩
    have := h.olt k g1
    omega
  · rintro k (hk | rfl)
    · exact ⟨.inl (hyn k hk).1, (hyn k hk).2⟩
    · have hlt : ∀ j, O j → j < k := fun j hj => by rw [← hg]; exact h.olt j hj
      have x1 := hlt _ (h.ox _ (.inr (.inl rfl)))
      have x2 := hlt _ (h.ox _ (.inr (.inr (.inl rfl))))
      have x3 := hlt _ (h.ox _ (.inr (.inr (.inr (.inl rfl)))))
      exact ⟨.inr ⟨by omega, by omega⟩, by omega, by omega, by omega, by omega⟩
/-- the cache, one more -/
theorem DkP.push (h : DkP w d p n D O z vs Y) {w1 w' : World} {a : Nat} {b : Byts} {u cv' : Value} (ha : a < n) (hb : b.length = 512) (hc : Ch Nw w w1) (hu : w1.ownsRow 0 5 1 u 512 (bvs b)) (hf : Fresh w.heap.size u)
    (hown : w'.ownsRow 0 140 2 cv' (D.cache.length + 1) (rowsL wc vs ++ [.int .u16 a, u])) (hc2 : Ch (fun k => z.cv.ownBlock = some k) w1 w') (hcv : cv'.ownBlock = z.cv.ownBlock ∨ Fresh w1.heap.size cv') :
    DkP (w'.setCell ⟨d, 3, none⟩ cv') d p n { D with cache := D.cache ++ [(a, b)] } (Gr O w w') { z with cv := cv' } (vs ++ [(a, u)]) (fun k => Y k ∨ u.ownBlock = some k) := by
  have h1 := h.ch hc fun _ _ e => e
  have hub := own_blt hu
  have hcb := own_blt hown
  have hol : ∀ j, O j → j < w.heap.size := h.olt
  have sz1 := hc.size
  have sz2 := hc2.size
  have hun : ∀ k, u.ownBlock = some k → ¬ z.cv.ownBlock = some k := fun k hk e => by have := hf k hk; have := hol k (h.cvs k e).1; omega
  have hcd : ∀ k, cv'.ownBlock = some k → k ≠ d ∧ ¬ Y k ∧ u.ownBlock ≠ some k ∧ (O k ∨ (w.heap.size ≤ k ∧ k < w'.heap.size)) := fun k hk => by
    rcases hcv with e | e
    · obtain ⟨g1, g2, g3⟩ := h.cvs k (by rw [← e]; exact hk)
      exact ⟨g3, g2, fun e2 => hun k e2 (by rw [← e]; exact hk), .inl g1⟩
    · have hk1 := e k hk
      have hdl := h.lt
      refine ⟨by omega, fun hy => ?_, fun e2 => ?_, .inr ⟨by omega, hcb k hk⟩⟩
      · have := hol k (h.oy k hy); omega
      · have := hub k e2; omega
  have cS : Ch (one d) w' (w'.setCell ⟨d, 3, none⟩ cv') := (Ch.refl (one d) w').setCell (p := ⟨d, 3, none⟩) (.inl rfl) _
  have hsz : (w'.setCell ⟨d, 3, none⟩ cv').heap.size = w'.heap.size := by simp [World.setCell]
  have cAll : Ch (fun k => k = d ∨ z.cv.ownBlock = some k) w1 (w'.setCell ⟨d, 3, none⟩ cv') := (hc2.mono fun _ _ e => .inr e).trans' cS fun j _ e => .inl e
  have hyn := h.yne
  have hyS : ∀ k, Y k → ¬ (k = d ∨ z.cv.ownBlock = some k) := fun k hk e => e.elim (hyn k hk).2.1 fun e => h.yx k hk (.inr (.inr (.inr (.inr e))))
  have hud : ∀ k, u.ownBlock = some k → ¬ (k = d ∨ z.cv.ownBlock = some k) := fun k hk e => e.elim (fun e => by have := hf k hk; have := h.lt; omega) (hun k hk)
  have hb' : w'.heap[d]? = some (.cells (dcs n p z D) 138 (0, 0)) := hc2.hp h1.blk fun e => (h.dcv d e).1 rfl
  refine h1.own (D' := { D with cache := D.cache ++ [(a, b)] }) (z' := { z with cv := cv' }) (Y' := fun k => Y k ∨ u.ownBlock = some k) (O' := Gr O w w') ?_ cAll rfl rfl rfl ⟨rfl, rfl, rfl⟩ ⟨?_, ?_, ?_⟩ ?_ ⟨h.ok.m, ?_⟩ ?_ (fun _ => .inl) (fun _ => .inl) ?_ ?_
  · rw [hp_setCell, hb', setOf_cells]; rfl
  · rw [show (rowsL wc (vs ++ [(a, u)])) = rowsL wc vs ++ [.int .u16 a, u] by rw [rowsL_append, rowsL_one]; rfl, List.length_append]
    exact own_ch hown cS fun k hk e => by simp only [one] at e; exact (hcd k hk).1 e
  · simp [h.cache.len]
  · intro i a2 b2 hi
    rcases Nat.lt_or_ge i D.cache.length with hlt | hge
    · rw [List.getElem?_append_left hlt] at hi
      obtain ⟨u2, e1, e2⟩ := h1.cache.each i a2 b2 hi
      exact ⟨u2, by rw [List.getElem?_append_left (by rw [h.cache.len]; exact hlt)]; exact e1, (e2.ch cAll hyS).mono fun _ => .inl⟩
    · have hi2 : i = D.cache.length := by
        have := (List.getElem?_eq_some_iff.1 hi).1
        simp at this
        omega
      subst hi2
      simp at hi
      obtain ⟨rfl, rfl⟩ := hi
      refine ⟨u, by rw [← h.cache.len]; simp, ?_, fun k hk => ⟨.inr hk, ?_⟩⟩
      · rw [hb]; exact (Sl.of_own hu).ch cAll hud
      · have := hub k hk; omega
  · exact (h1.astray.ch cAll hyS).mono fun _ => .inl
  · intro e he
    simp only [List.mem_append, List.mem_singleton] at he
    rcases he with he | rfl
    · exact h.ok.cache e he
    · exact ⟨hb, ha⟩
  · intro k hk
    obtain ⟨g1, g2, g3, g4⟩ := hcd k hk
    exact ⟨g4, fun e => e.elim g2 g3, g1⟩
  · rintro k (hk | hk)
    · exact ⟨.inl (hyn k hk).1, (hyn k hk).2⟩
    · have hfk := hf k hk
      have x0 := h.lt
      have x1 := hol _ (h.ox _ (.inr (.inl rfl)))
      have x2 := hol _ (h.ox _ (.inr (.inr (.inl rfl))))
      have x3 := hol _ (h.ox _ (.inr (.inr (.inr (.inl rfl)))))
      have := hub k hk
      exact ⟨.inr ⟨hfk, by omega⟩, by omega, by omega, by omega, by omega⟩
  · intro k hk
    rw [hsz]
    exact Gr.lt h.olt (by omega) k hk
end
end Go.Proofs.YtppilgkgnofkpaaGreatDoor

namespace Go.Proofs.YtppilgkgnofkpaaGreatDoor
open Go.RowKit Go.Kin

def wrE : Wr → Int
  | .dead => 3
  | .arg => 1
  | .ok => 0
section
variable {w : World} {d p n : Nat} {D : Dk} {O Y : Nat → Prop} {z : Dn} {vs : List (Nat × Value)}
theorem DkP.at (h : DkP w d p n D O z vs Y) : DkAt w d p n D O := ⟨z, vs, Y, h⟩
theorem DkP.grow (h : DkP w d p n D O z vs Y) {w0 : World} {O0 : Nat → Prop} (hO : ∀ k, O k → Gr O0 w0 w k) (hl : ∀ k, O0 k → k < w0.heap.size) (hs : w0.heap.size ≤ w.heap.size) : DkAt w d p n D (Gr O0 w0 w) := ⟨z, vs, Y, h.mono hO (Gr.lt hl hs)⟩
/-- a disk of the same maps -/
def DkSame (w : World) (d p n : Nat) (D : Dk) (O : Nat → Prop) (z : Dn) : Prop := ∃ z' vs Y, DkP w d p n D O z' vs Y ∧ z'.bm = z.bm ∧ z'.bb = z.bb ∧ z'.bs = z.bs
theorem DkSame.at (h : DkSame w d p n D O z) : DkAt w d p n D O := by
  obtain ⟨z', vs, Y, h, _⟩ := h
  exact ⟨z', vs, Y, h⟩
theorem DkP.grow2 (h : DkP w d p n D O z vs Y) {w0 : World} {O0 : Nat → Prop} (hO : ∀ k, O k → Gr O0 w0 w k) (hl : ∀ k, O0 k → k < w0.heap.size) (hs : w0.heap.size ≤ w.heap.size) : DkSame w d p n D (Gr O0 w0 w) z := ⟨z, vs, Y, h.mono hO (Gr.lt hl hs), rfl, rfl, rfl⟩
theorem DkSame.to {z' : Dn} (h : DkSame w d p n D O z) (e : z.bm = z'.bm ∧ z.bb = z'.bb ∧ z.bs = z'.bs) : DkSame w d p n D O z' := by
  obtain ⟨z2, vs, Y, h, a, b, c⟩ := h
  exact ⟨z2, vs, Y, h, a.trans e.1, b.trans e.2.1, c.trans e.2.2⟩
theorem dkwrite_any (a : Nat) (ha : a < 65536) (b : Byts) (v : Value) (P : Pwr) (h : DkP w d p n D O z vs Y) (hp : PwAt w p P) (hpO : ¬ O p) (hfu : P.fuse ≤ 9223372036854775807) (hcl : D.cache.length ≤ 1000000) (hast : ∀ x, D.astray = some x → x < 65536)
    (hv : Sl w v b.length (bvs b)) (hvO : 0 < b.length → ∀ k, v.ownBlock = some k → ¬ O k ∧ k ≠ p) :
    Ret Tryz.prog 50 #[.pointer (some ⟨d, 0, none⟩), .int .u16 a, v] w fun v' w' => v' = .int .i64 (wrE (D.writes n P a b)) ∧ DkSame w' d p n (D.write n P a b) (Gr O w w') z ∧ PwAt w' p (D.wpow n P a b) ∧ Ch (fun k => O k ∨ k = p) w w' ∧ Ch (fun k => k = d ∨ k = p ∨ z.cv.ownBlock = some k) w w' := by
  refine v_enter Tryz.func50 Tryz.ntmps50 rfl (by simp) fun R' hR => ?_
  have hlen := hv.len Tryz.underlying59 3
  have hOd : O d := h.ox _ (.inl rfl)
  simp [go_sem]
  refine (able_any P h hp).mono ?_
  rintro _ w1 ⟨rfl, hw⟩
  subst w1
  cases hab : D.able P with
  | false =>
    rw [show ableE D P = 3 by simp [ableE, hab]]
    simp [go_sem]
    exact hR _ _ ⟨by simp [Dk.writes, hab, wrE], by simpa [Dk.write, Dk.writes, hab] using h.grow2 (fun _ => .inl) h.olt (Nat.le_refl _), by simpa [Dk.wpow, hab] using hp, Ch.refl _ _, Ch.refl _ _⟩
  | true =>
    rw [show ableE D P = 0 by simp [ableE, hab]]
    simp [go_sem]
    refine (has_any a ha h).mono ?_
    rintro _ w1 ⟨rfl, hw⟩
    subst w1
    by_cases han : a < n
    case neg =>
      have han' : n ≤ a := by omega
      simp [go_sem, han]
      exact hR _ _ ⟨by simp [Dk.writes, hab, han', wrE], by simpa [Dk.write, Dk.writes, hab, han'] using h.grow2 (fun _ => .inl) h.olt (Nat.le_refl _), by simpa [Dk.wpow, hab, han'] using hp, Ch.refl _ _, Ch.refl _ _⟩
    have han' : ¬ n ≤ a := by omega
    by_cases hb : b.length = 512
    case neg =>
      have hb' : (((b.length : Nat) : Int) == 512) = false := beq_false_of_ne (by omega)
      simp [go_sem, han, hlen, bne, hb']
      exact hR _ _ ⟨by simp [Dk.writes, hab, hb, wrE], by simpa [Dk.write, Dk.writes, hab, hb] using h.grow2 (fun _ => .inl) h.olt (Nat.le_refl _), by simpa [Dk.wpow, hab, hb] using hp, Ch.refl _ _, Ch.refl _ _⟩
    have c1 : w.cell? ⟨d, 1, none⟩ = some (.pointer (some ⟨p, 0, none⟩)) := cell_blk h.blk 1
    simp [go_sem, han, hlen, hb, c1]
    refine (step_any p P.off P.fuse w hp hfu).mono ?_
    rintro _ w1 ⟨rfl, hp1, k1, _⟩
    simp only [stepS_eq] at hp1 ⊢
    have hp1 : PwAt w1 p P.step := hp1
    have hpw : D.wpow n P a b = P.step := by simp [Dk.wpow, hab, han', hb]
    have h1 := h.ch k1 fun k hk e => by simp only [one] at e; subst e; exact hpO hk
    have k1' : Ch (fun k => O k ∨ k = p) w w1 := k1.mono fun _ _ e => .inr e
    have k1q : Ch (fun k => k = d ∨ k = p ∨ z.cv.ownBlock = some k) w w1 := k1.mono fun _ _ e => .inr (.inl e)
    have hv1 := hv.ch k1 fun k hk e => by simp only [one] at e; exact (hvO (by omega) k hk).2 e
    cases hmd : P.made with
    | false =>
      simp [go_sem]
      exact hR _ _ ⟨by simp [Dk.writes, hab, han', hb, hmd, wrE], by simpa [Dk.write, Dk.writes, hab, han', hb, hmd] using h1.grow2 (fun _ => .inl) h.olt k1.size, by rw [hpw]; exact hp1, k1', k1q⟩
    | true =>
      have hwr : D.writes n P a b = .ok := by simp [Dk.writes, hab, han', hb, hmd]
      have hput : D.write n P a b = D.put n a b := by simp [Dk.write, hwr]
      rw [hwr, hput, hpw] at hR
      have c7 : w1.cell? ⟨d, 7, none⟩ = some (.bool D.lose) := cell_blk h1.blk 7
      have f7 := frz_blk h1.blk 7
      cases hls : D.lose with
      | true =>
        rw [hls] at c7
        simp [go_sem, c7, f7]
        have h2 : DkP (w1.setCell ⟨d, 7, none⟩ (.bool false)) d p n { D with lose := false } O z vs Y := h1.flag rfl rfl rfl rfl rfl rfl
        refine hR _ _ ⟨rfl, ?_, ?_, k1'.setCell (.inl (.inl hOd)) _, k1q.setCell (.inl (.inl rfl)) _⟩
        · rw [show D.put n a b = { D with lose := false } by simp [Dk.put, hls]]
          exact h2.grow2 (fun _ => .inl) h.olt (Nat.le_trans k1.size ((Ch.refl (one d) w1).setCell (p := ⟨d, 7, none⟩) (.inl rfl) _).size)
        · exact hp1.ch ((Ch.refl (one d) w1).setCell (p := ⟨d, 7, none⟩) (.inl rfl) (.bool false)) (fun e => by simp only [one] at e; subst e; exact hpO hOd)
      | false =>
        rw [hls] at c7
        have c8 : w1.cell? ⟨d, 8, none⟩ = some z.av := cell_blk h1.blk 8
        cases has : D.astray with
        | none =>
          have hav := h1.astray
          rw [has] at hav
          simp only [AstrayAt] at hav
          rw [hav] at c8
          simp [go_sem, c7, c8]
          refine (has_any a ha h1).mono ?_
          rintro _ w2 ⟨rfl, hw⟩
          subst w2
          simp [go_sem, han]
          obtain ⟨Acv, ccv, hcv⟩ : ∃ A c, z.cv = .slice A D.cache.length c := by
            rcases h.cache.own.2 with ⟨hv, h0⟩ | ⟨g, cap, cur, hv, _⟩
            · exact ⟨none, 0, by rw [hv, h0]⟩
            · exact ⟨_, _, hv⟩
          have hcw := h1.ch (Ch.refl Nw w1).drew fun _ _ e => e
          have d3 : w1.drew.cell? ⟨d, 3, none⟩ = some (.slice Acv D.cache.length ccv) := by rw [← hcv]; exact cell_blk hcw.blk 3
          have d3' : w1.cell? ⟨d, 3, none⟩ = some (.slice Acv D.cache.length ccv) := d3
          refine v_draw' [(0, none), (1, none), (2, none), (3, none), (4, none), (5, none), (6, none), (7, some [0, 1, 2, 3, 4, 5]), (8, none), (9, some [0, 1, 2, 3, 4]), (10, some [0]), (11, none), (12, none), (13, some [])] (by kernel_rfl) (by kernel_rfl) ?_
          simp [go_sem, d3']
          refine (clone_any v 512 b w1.drew (by omega) hb (by rw [← hb]; exact hv1)).mono ?_
          rintro u w3 ⟨o3, cl3, f3⟩
          have h3 := hcw.ch cl3 fun _ _ e => e
          have d33 : w3.cell? ⟨d, 3, none⟩ = some (.slice Acv D.cache.length ccv) := by rw [← hcv]; exact cell_blk h3.blk 3
          obtain ⟨Au, cu, hu⟩ : ∃ A c, u = .slice A 512 c := by
            obtain ⟨A, c, e, _⟩ := Sl.of_own o3
            exact ⟨A, c, e⟩
          subst hu
          have b34 := ((Ch.refl Nw w3).alloc (.cells #[.int .u16 a, .slice Au 512 cu] 140)).hp h3.blk id
          have d34 : (w3.alloc (.cells #[.int .u16 a, .slice Au 512 cu] 140)).cell? ⟨d, 3, none⟩ = some (.slice Acv D.cache.length ccv) := by rw [← hcv]; exact cell_blk b34 3
          simp [go_sem, d33, d34]
          have own3 := h3.cache.own
          rw [show (z).cv = .slice Acv D.cache.length ccv from hcv] at own3
          refine VB_app1S tyWr (us := [.int .u16 a, .slice Au 512 cu]) own3 rfl (by simp [Value.oneCell']) (by show D.cache.length + 1 ≤ maxLen; unfold maxLen; omega) (by show (D.cache.length + 1) * 32 ≤ _; omega) fun cv' w4 own4 cl4 ff4 => ?_
          obtain ⟨gq, capq, curq, hcv4, _⟩ := ownS_blk own4 (by omega)
          have hpush := h1.push (b := b) (u := .slice Au 512 cu) (cv' := cv') han hb (Ch.of_drew cl3) o3 f3 own4 (by rw [show (z).cv = .slice Acv D.cache.length ccv from hcv]; exact cl4) (by rw [show (z).cv = .slice Acv D.cache.length ccv from hcv]; exact ff4)
          have b4 := cl4.hp h3.blk (fun e => (h.dcv d (by rw [hcv]; exact e)).1 rfl)
          have e4 := fun i => cell_blk b4 i
          have z4 := fun i => frz_blk b4 i
          subst hcv4
          simp [go_sem, e4, z4, dcs]
          have kS : Ch (fun k => O k ∨ k = p) w (w4.setCell ⟨d, 3, none⟩ (.slice (some ⟨gq, 0, none⟩) (D.cache.length + 1) capq)) := (((k1'.trans ((Ch.of_drew cl3).mono fun _ _ e => e.elim)).trans' cl4 fun j _ e => .inl (h.cvs j (by rw [hcv]; exact e)).1)).setCell (.inl (.inl hOd)) _
          have kP : Ch (fun k => k = d ∨ z.cv.ownBlock = some k) w1 (w4.setCell ⟨d, 3, none⟩ (.slice (some ⟨gq, 0, none⟩) (D.cache.length + 1) capq)) := (((Ch.of_drew cl3).mono fun _ _ e => e.elim).trans' cl4 fun j _ e => .inr (by rw [hcv]; exact e)).setCell (p := ⟨d, 3, none⟩) (.inl (.inl rfl)) _
          refine hR _ _ ⟨rfl, ?_, ?_, kS, k1q.trans (kP.mono fun k _ e => e.elim .inl fun e => .inr (.inr e))⟩
          · rw [show D.put n a b = { (D) with cache := D.cache ++ [(a, b)] } by simp [Dk.put, hls, has, han]]
            refine hpush.grow2 (fun k hk => ?_) h.olt kS.size
            rcases hk with hk | hk
            · exact .inl hk
            · exact .inr ⟨Nat.le_trans k1'.size hk.1, Nat.lt_of_lt_of_le hk.2 (by simp [World.setCell])⟩
          · exact (hp1.ch kP (fun e => e.elim (fun e => hpO (e ▸ hOd)) fun e => hpO (h.cvs p e).1))
        | some x =>
          have hav := h1.astray
          rw [has] at hav
          obtain ⟨g, hav, hg, hYg⟩ := hav
          rw [hav] at c8
          have cg := fun i => cell_blk hg i
          have f8 := frz_blk h1.blk 8
          simp [go_sem, c7, c8, cg, f8]
          have hx := hast x has
          have cs : Ch (one d) w1 (w1.setCell ⟨d, 8, none⟩ (.pointer none)) := (Ch.refl (one d) w1).setCell (p := ⟨d, 8, none⟩) (.inl rfl) _
          have h2 : DkP (w1.setCell ⟨d, 8, none⟩ (.pointer none)) d p n { D with astray := none } O { z with av := .pointer none } vs Y := by
            have hyd : ∀ k, Y k → ¬ one d k := fun k hk e => by simp only [one] at e; exact (h.yne k hk).2.1 e
            refine h1.own (D' := { D with astray := none }) (z' := { z with av := .pointer none }) (Y' := Y) (O' := O) ?_ (cs.mono fun _ _ e => .inl e) rfl rfl rfl ⟨rfl, rfl, rfl⟩ (h1.cache.ch cs (fun k hk e => by simp only [one] at e; exact (h.dcv k hk).1 e) hyd) rfl ⟨h.ok.m, h.ok.cache⟩ h.cvs (fun _ => id) (fun _ => id) h.yne (fun k hk => Nat.lt_of_lt_of_le (h1.olt k hk) cs.size)
            rw [hp_setCell, h1.blk, setOf_cells]; rfl
          have hp2 := hp1.ch cs (fun e => by simp only [one] at e; subst e; exact hpO hOd)
          have k2' : Ch (fun k => O k ∨ k = p) w (w1.setCell ⟨d, 8, none⟩ (.pointer none)) := k1'.setCell (.inl (.inl hOd)) _
          have k2q : Ch (fun k => k = d ∨ k = p ∨ z.cv.ownBlock = some k) w (w1.setCell ⟨d, 8, none⟩ (.pointer none)) := k1q.setCell (.inl (.inl rfl)) _
          have hv2 := hv1.ch cs fun k hk e => by simp only [one] at e; subst e; exact (hvO (by omega) k hk).1 hOd
          revert cs h2 hp2 k2' k2q hv2
          generalize w1.setCell ⟨d, 8, none⟩ (.pointer none) = w2
          intro cs h2 hp2 k2' k2q hv2
          refine (has_any x hx h2).mono ?_
          rintro _ w2' ⟨rfl, hw⟩
          subst w2'
          by_cases hxn : x < n
          case neg =>
            simp [go_sem, hxn]
            refine hR _ _ ⟨rfl, ?_, hp2, k2', k2q⟩
            rw [show D.put n a b = { D with astray := none } by simp [Dk.put, hls, has, hxn]]
            exact (h2.grow2 (fun _ => .inl) h.olt k2'.size).to ⟨rfl, rfl, rfl⟩
          simp [go_sem, hxn]
          obtain ⟨Acv, ccv, hcv⟩ : ∃ A c, z.cv = .slice A D.cache.length c := by
            rcases h.cache.own.2 with ⟨hv, h0⟩ | ⟨g, cap, cur, hv, _⟩
            · exact ⟨none, 0, by rw [hv, h0]⟩
            · exact ⟨_, _, hv⟩
          have hcw := h2.ch (Ch.refl Nw w2).drew fun _ _ e => e
          have d3 : w2.drew.cell? ⟨d, 3, none⟩ = some (.slice Acv D.cache.length ccv) := by rw [← hcv]; exact cell_blk hcw.blk 3
          have d3' : w2.cell? ⟨d, 3, none⟩ = some (.slice Acv D.cache.length ccv) := d3
          refine v_draw' [(0, none), (1, none), (2, none), (3, none), (4, none), (5, none), (6, none), (7, some [0, 1, 2, 3, 4, 5]), (8, none), (9, some [0, 1, 2, 3, 4]), (10, some [0]), (11, none), (12, none), (13, some [])] (by kernel_rfl) (by kernel_rfl) ?_
          simp [go_sem, d3']
          refine (clone_any v 512 b w2.drew (by omega) hb (by rw [← hb]; exact hv2)).mono ?_
          rintro u w3 ⟨o3, cl3, f3⟩
          have h3 := hcw.ch cl3 fun _ _ e => e
          have d33 : w3.cell? ⟨d, 3, none⟩ = some (.slice Acv D.cache.length ccv) := by rw [← hcv]; exact cell_blk h3.blk 3
          obtain ⟨Au, cu, hu⟩ : ∃ A c, u = .slice A 512 c := by
            obtain ⟨A, c, e, _⟩ := Sl.of_own o3
            exact ⟨A, c, e⟩
          subst hu
          have b34 := ((Ch.refl Nw w3).alloc (.cells #[.int .u16 x, .slice Au 512 cu] 140)).hp h3.blk id
          have d34 : (w3.alloc (.cells #[.int .u16 x, .slice Au 512 cu] 140)).cell? ⟨d, 3, none⟩ = some (.slice Acv D.cache.length ccv) := by rw [← hcv]; exact cell_blk b34 3
          simp [go_sem, d33, d34]
          have own3 := h3.cache.own
          rw [show (({ z with av := .pointer none } : Dn)).cv = .slice Acv D.cache.length ccv from hcv] at own3
          refine VB_app1S tyWr (us := [.int .u16 x, .slice Au 512 cu]) own3 rfl (by simp [Value.oneCell']) (by show D.cache.length + 1 ≤ maxLen; unfold maxLen; omega) (by show (D.cache.length + 1) * 32 ≤ _; omega) fun cv' w4 own4 cl4 ff4 => ?_
          obtain ⟨gq, capq, curq, hcv4, _⟩ := ownS_blk own4 (by omega)
          have hpush := h2.push (b := b) (u := .slice Au 512 cu) (cv' := cv') hxn hb (Ch.of_drew cl3) o3 f3 own4 (by rw [show (({ z with av := .pointer none } : Dn)).cv = .slice Acv D.cache.length ccv from hcv]; exact cl4) (by rw [show (({ z with av := .pointer none } : Dn)).cv = .slice Acv D.cache.length ccv from hcv]; exact ff4)
          have b4 := cl4.hp h3.blk (fun e => (h.dcv d (by rw [hcv]; exact e)).1 rfl)
          have e4 := fun i => cell_blk b4 i
          have z4 := fun i => frz_blk b4 i
          subst hcv4
          simp [go_sem, e4, z4, dcs]
          have kS : Ch (fun k => O k ∨ k = p) w (w4.setCell ⟨d, 3, none⟩ (.slice (some ⟨gq, 0, none⟩) (D.cache.length + 1) capq)) := (((k2'.trans ((Ch.of_drew cl3).mono fun _ _ e => e.elim)).trans' cl4 fun j _ e => .inl (h.cvs j (by rw [hcv]; exact e)).1)).setCell (.inl (.inl hOd)) _
          have kP : Ch (fun k => k = d ∨ z.cv.ownBlock = some k) w2 (w4.setCell ⟨d, 3, none⟩ (.slice (some ⟨gq, 0, none⟩) (D.cache.length + 1) capq)) := (((Ch.of_drew cl3).mono fun _ _ e => e.elim).trans' cl4 fun j _ e => .inr (by rw [hcv]; exact e)).setCell (p := ⟨d, 3, none⟩) (.inl (.inl rfl)) _
          refine hR _ _ ⟨rfl, ?_, ?_, kS, k2q.trans (kP.mono fun k _ e => e.elim .inl fun e => .inr (.inr e))⟩
          · rw [show D.put n a b = { ({ D with astray := none }) with cache := D.cache ++ [(x, b)] } by simp [Dk.put, hls, has, hxn]]
            refine hpush.grow2 (fun k hk => ?_) h.olt kS.size
            rcases hk with hk | hk
            · exact .inl hk
            · exact .inr ⟨Nat.le_trans k2'.size hk.1, Nat.lt_of_lt_of_le hk.2 (by simp [World.setCell])⟩
          · exact (hp2.ch kP (fun e => e.elim (fun e => hpO (e ▸ hOd)) fun e => hpO (h.cvs p e).1))
end
end Go.Proofs.YtppilgkgnofkpaaGreatDoor
