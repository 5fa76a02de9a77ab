/- DiskTears: the walk. No condition. -/
import Derived.Test.YtmhnlgndgdmebaaDkU
namespace Go.Proofs.Ytmhnlgndgdmebaa
open Go.RowKit Go.Kin

/-- what holds in every loop -/
structure TrR (N d : Nat) (va vb vp : Value) (f : Nat → Value) : Prop where
  f0 : f 0 = .int .u8 N
  f1 : f 1 = va
  f2 : f 2 = vb
  f3 : f 3 = vp
  f10 : f 10 = .pointer (some ⟨d, 0, none⟩)
set_option maxHeartbeats 4000000 in
theorem tears_any (N : Nat) (hN : N < 256) (va vb vp : Value) (La Lb : List Ac) (ps : List Int) (W : World) (ha : Lst W va acv 7 La) (hb : Lst W vb acv 7 Lb) (hina : ∀ a ∈ La, a.In W) (hinb : ∀ a ∈ Lb, a.In W)
    (hp : Sl W vp ps.length (ps.map (Value.int .i64))) (hplt : 0 < ps.length → ∀ k, vp.ownBlock = some k → k < W.heap.size) (hpr : ∀ x ∈ ps, -9223372036854775808 ≤ x ∧ x ≤ 9223372036854775807) :
    Ret Try.prog 6 #[.int .u8 N, va, vb, vp] W fun v' w' => v' = .bool true ∧ Ch Nw W w' := by
  refine v_enter Try.func6 Try.ntmps6 rfl (by simp) fun R' hR => ?_
  have hlA := ha.len Try.underlying53 3
  have hlB := hb.len Try.underlying53 3
  have hlP := hp.len Try.underlying54 3
  simp [go_sem]
  refine (great_any va La W ha hina).mono ?_
  rintro _ w1 ⟨ga, rfl, hga, hw⟩
  subst w1
  cases ga
  case true =>
    simp [go_sem]
    refine (wakes_any _).mono ?_
    rintro _ w1 ⟨rfl, c1⟩
    simp [go_sem]
    exact hR _ _ ⟨rfl, c1⟩
  have hga := hga rfl
  simp [go_sem]
  refine (great_any vb Lb W hb hinb).mono ?_
  rintro _ w1 ⟨gb, rfl, hgb, hw⟩
  subst w1
  cases gb
  case true =>
    simp [go_sem]
    refine (wakes_any _).mono ?_
    rintro _ w1 ⟨rfl, c1⟩
    simp [go_sem]
    exact hR _ _ ⟨rfl, c1⟩
  have hgb := hgb rfl
  by_cases hB : (60 : Int) < (Lb.length : Int)
  case pos =>
    simp [go_sem, hlB, hB]
    refine (wakes_any _).mono ?_
    rintro _ w1 ⟨rfl, c1⟩
    simp [go_sem]
    exact hR _ _ ⟨rfl, c1⟩
  by_cases hA : (60 : Int) < (La.length : Int)
  case pos =>
    simp [go_sem, hlB, hB, hlA, hA]
    refine (wakes_any _).mono ?_
    rintro _ w1 ⟨rfl, c1⟩
    simp [go_sem]
    exact hR _ _ ⟨rfl, c1⟩
  by_cases hP : (200 : Int) < (ps.length : Int)
  case pos =>
    simp [go_sem, hlB, hB, hlA, hA, hlP, hP]
    refine (wakes_any _).mono ?_
    rintro _ w1 ⟨rfl, c1⟩
    simp [go_sem]
    exact hR _ _ ⟨rfl, c1⟩
  by_cases h1 : (N : Int) < 1
  case pos =>
    simp [go_sem, hlB, hB, hlA, hA, hlP, hP, h1]
    refine (wakes_any _).mono ?_
    rintro _ w1 ⟨rfl, c1⟩
    simp [go_sem]
    exact hR _ _ ⟨rfl, c1⟩
  by_cases h2 : (20 : Int) < (N : Int)
  case pos =>
    simp [go_sem, hlB, hB, hlA, hA, hlP, hP, h1, h2]
    refine (wakes_any _).mono ?_
    rintro _ w1 ⟨rfl, c1⟩
    simp [go_sem]
    exact hR _ _ ⟨rfl, c1⟩
  have hN64 : IntKind.i64.wrap (N : Int) = N := by rw [IntKind.wrap_i64]; omega
  simp [go_sem, hlB, hB, hlA, hA, hlP, hP, h1, h2]
  refine (on_pw W).mono ?_
  rintro _ w1 ⟨rfl, hpw, c1⟩
  have hpl : W.heap.size < w1.heap.size := lt_of_block hpw
  obtain ⟨p, hpq⟩ : ∃ p, W.heap.size = p := ⟨_, rfl⟩
  rw [hpq] at hpw
  simp [go_sem, hN64, hpq]
  refine (sd_new N p w1 Pwr.on (by omega) (by omega) hpw).mono ?_
  rintro _ w2 ⟨d, rfl, s2, c2⟩
  have t2 : Tm W w2 d p N Dk.new 0 (fun k => w1.heap.size ≤ k ∧ k < w2.heap.size) (fun _ => False) (.slice none 0 0) [] [] := ⟨s2, fun k hk => by omega, by omega, fun k hk => hk.elim, c1.trans c2, My.nil w2, Ql.new⟩
  simp [go_sem]
  refine v_loop (fun r f u => ∃ i, r = La.length - i ∧ i ≤ La.length ∧ f 12 = .int .i64 i ∧ TrR N d va vb vp f ∧ ∃ D c O, Tm W u d p N D c O (fun _ => False) (.slice none 0 0) [] [] ∧ c ≤ i) La.length
    ⟨0, rfl, by omega, by simp, ⟨by simp, by simp, by simp, by simp, by simp⟩, _, _, _, t2, by omega⟩ ?_
  rintro J hJ _ f u ⟨i, rfl, hi, f12, ⟨f0, f1, f2, f3, f10⟩, D, c, O, tm, hci⟩
  by_cases hlt : i < La.length
  · have hii : (i : Int) < La.length := by omega
    have hwi : IntKind.i64.wrap ((i : Int) + 1) = ((i + 1 : Nat) : Int) := by rw [IntKind.wrap_i64]; omega
    obtain ⟨a, hai⟩ : ∃ a, La[i]? = some a := ⟨_, List.getElem?_eq_getElem hlt⟩
    have hamem := List.mem_of_getElem? hai
    have hain := hina a hamem
    have hag := (hga.2 a hamem).1
    obtain ⟨b, off, cp, rfl, hbl, hcs⟩ := lst_acts ha hai
    have hcu := fun j x hx => tm.ch.cell (hcs j x hx) id
    obtain ⟨d', k, addr, v, by', short, n, pv, ps'⟩ := a
    obtain ⟨A1, c1', hv, _⟩ := id hain.sl
    obtain ⟨A2, c2', hpv, _⟩ := id hain.ps
    simp only at hv hpv
    subst hv hpv
    have q0 := hcu 0 _ rfl
    have q1 := hcu 1 _ rfl
    have q2 := hcu 2 _ rfl
    have q3 := hcu 3 _ rfl
    have q4 := hcu 4 _ rfl
    have q5 := hcu 5 _ rfl
    have q6 := hcu 6 _ rfl
    simp only [Nat.add_zero] at q0 
    simp [go_sem, f1, f12, hlA, hii]
    refine v_draw' [(0, none), (1, none), (2, none), (3, none), (4, none), (5, none), (6, none), (7, none), (8, none), (9, none), (10, some [0, 1, 2, 3, 4, 5]), (11, some [])] (by kernel_rfl) (by kernel_rfl) ?_
    simp [go_sem, f1, f10, f12, hlt, q0, q1, q2, q3, q4, q5, q6]
    refine (bytes_any _ u.drew (hain.sl.ch tm.ch.drew fun _ _ e => e) (by omega)).mono ?_
    rintro v3 w3 ⟨sl3, fr3, c3⟩
    have c3' : Ch Nw u w3 := Ch.of_drew c3
    have q2' := c3'.cell q2 id
    have tm3 := tm.stay c3'
    simp [go_sem, f1, f10, f12, hlt, q2']
    refine (tm3.write (by omega) hain (v := v3) sl3 (w0 := u) (fr3.imp id id) (fun k hk => tm.sd.olt k hk) tm.sd.plt).mono ?_
    rintro _ w4 ⟨rfl, O4, D4, tm4, _, _, _⟩
    simp [go_sem, f12, hwi]
    exact Rnd.intro (La.length - (i + 1)) (by omega) (hJ _ _ _ ⟨i + 1, rfl, by omega, by simp, ⟨by simp [f0], by simp [f1], by simp [f2], by simp [f3], by simp [f10]⟩, _, _, _, tm4, by split <;> omega⟩)
  obtain rfl : i = La.length := by omega
  simp [go_sem, f1, f12, hlA, f10]
  refine (tm.flush (by omega)).mono ?_
  rintro _ w3 ⟨rfl, O3, tm3⟩
  simp [go_sem, f10]
  refine tm3.cached.mono ?_
  rintro _ w4 ⟨rfl, hw⟩
  subst w4
  simp [go_sem]
  obtain ⟨D3, hD3⟩ : ∃ D3, flushed D = D3 := ⟨_, rfl⟩
  rw [hD3] at tm3
  have hc0 : D3.cache = [] := List.eq_nil_of_length_eq_zero tm3.ql.len
  clear hJ tm t2 s2
  refine v_loop (fun r f u => ∃ i, r = N - i ∧ i ≤ N ∧ f 14 = .int .i64 i ∧ TrR N d va vb vp f ∧ ∃ mv vs O M, f 13 = mv ∧ Tm W u d p N D3 0 O M mv vs (Lw D3.m [] i)) N
    ⟨0, rfl, by omega, by simp, ⟨by simp [f0], by simp [f1], by simp [f2], by simp [f3], by simp [f10]⟩, _, _, _, _, by simp, tm3⟩ ?_
  rintro J hJ _ f u ⟨i, rfl, hi, f14, ⟨f0, f1, f2, f3, f10⟩, mv, vs, O, M, f13, tm⟩
  by_cases hlt : i < N
  · have hii : (i : Int) < N := by omega
    have hwi : IntKind.i64.wrap ((i : Int) + 1) = ((i + 1 : Nat) : Int) := by rw [IntKind.wrap_i64]; omega
    have hw16 : IntKind.u16.wrap (i : Int) = i := u16_any (by omega)
    simp [go_sem, f0, f14, f10, hN64, hii, hw16]
    refine (tm.look i hlt (by omega)).mono ?_
    rintro _ w4 ⟨⟨x, b, rfl, hb2, hbl, sx⟩, tm4, _⟩
    rw [hc0] at hb2
    have hlx := sx.len Try.underlying60 3
    have hst := sx.str (P := Try.prog) hbl Try.underlying60 Try.underlying5 Try.underlying9
    simp [go_sem, f13, hlx, hst]
    refine VB_push tm4.my b (by rw [Lw_len]; omega) fun mv' w5 my5 c5 => ?_
    have tm5 := tm4.mays my5 c5
    have hb3 : b = blockM D3.m i := hb2
    rw [hb3, ← Lw_succ] at tm5
    simp [go_sem, f14, hwi]
    exact Rnd.intro (N - (i + 1)) (by omega) (hJ _ _ _ ⟨i + 1, rfl, by omega, by simp, ⟨by simp [f0], by simp [f1], by simp [f2], by simp [f3], by simp [f10]⟩, _, _, _, _, by simp, tm5⟩)
  obtain rfl : i = N := by omega
  simp [go_sem, f0, f14, hN64]
  rw [← hc0] at tm
  clear hJ tm3
  refine v_loop (fun r f u => ∃ k, r = Lb.length - k ∧ k ≤ Lb.length ∧ f 17 = .int .i64 k ∧ TrR i d va vb vp f ∧ ∃ mv vs O M D c, f 13 = mv ∧ Tm W u d p i D c O M mv vs (Lw D.m D.cache i) ∧ c ≤ k) Lb.length
    ⟨0, rfl, by omega, by simp, ⟨by simp [f0], by simp [f1], by simp [f2], by simp [f3], by simp [f10]⟩, _, _, _, _, _, _, by simp [f13], tm, by omega⟩ ?_
  rintro J hJ _ f u ⟨k, rfl, hk, f17, ⟨f0, f1, f2, f3, f10⟩, mv, vs, O, M, D, c, f13, tm, hck⟩
  by_cases hlt : k < Lb.length
  · have hii : (k : Int) < Lb.length := by omega
    have hwi : IntKind.i64.wrap ((k : Int) + 1) = ((k + 1 : Nat) : Int) := by rw [IntKind.wrap_i64]; omega
    obtain ⟨a, hai⟩ : ∃ a, Lb[k]? = some a := ⟨_, List.getElem?_eq_getElem hlt⟩
    have hamem := List.mem_of_getElem? hai
    have hain := hinb a hamem
    have hag := (hgb.2 a hamem).1
    obtain ⟨b, off, cp, rfl, hbl, hcs⟩ := lst_acts hb hai
    have hcu := fun j x hx => tm.ch.cell (hcs j x hx) id
    obtain ⟨d', k', addr, v, by', short, n, pv, ps'⟩ := a
    obtain ⟨A1, c1', hv, _⟩ := id hain.sl
    obtain ⟨A2, c2', hpv, _⟩ := id hain.ps
    simp only at hv hpv
    subst hv hpv
    have q0 := hcu 0 _ rfl
    have q1 := hcu 1 _ rfl
    have q2 := hcu 2 _ rfl
    have q3 := hcu 3 _ rfl
    have q4 := hcu 4 _ rfl
    have q5 := hcu 5 _ rfl
    have q6 := hcu 6 _ rfl
    simp only [Nat.add_zero] at q0
    simp [go_sem, f2, f17, hlB, hii, hlt, q0, q1, q2, q3, q4, q5, q6]
    refine (bytes_any _ u (hain.sl.ch tm.ch fun _ _ e => e) (by omega)).mono ?_
    rintro v3 w3 ⟨sl3, fr3, c3⟩
    have q2' := c3.cell q2 id
    have tm3 := tm.stay c3
    obtain ⟨A3, c3', hv3, _⟩ := id sl3
    have hwr := fun {w0 : World} => tm3.write (w0 := w0) (by omega) hain (v := v3) sl3
    have haw := tm.away hain (v := v3) (fr3.imp id id)
    generalize hbs : Ac.bytes _ = bs at sl3 hv3 hwr haw
    dsimp only at hwr fr3
    have haddr : addr < 65536 := hain.addr
    have hwA : IntKind.i64.wrap (addr : Int) = addr := by rw [IntKind.wrap_i64]; omega
    simp [go_sem, f2, f10, f17, hlt, q2']
    refine (hwr (w0 := u) (fr3.imp id id) (fun k hk => tm.sd.olt k hk) tm.sd.plt).mono ?_
    rintro _ w4 ⟨rfl, O4, D4, tm4, hm4, hc4, k4⟩
    have q2'' : w4.cell? ⟨b, off + k * 7 + 2, none⟩ = some (.int .u16 addr) := (tm4.ch.cell (hcs 2 _ rfl) id)
    have hl3 := sl3.len Try.underlying60 3
    by_cases hok : addr < i ∧ bs.length = 512
    · rw [if_pos hok] at tm4 hc4 ⊢
      have hai' : (addr : Int) < i := by omega
      simp [go_sem, f0, f2, f17, hlt, q2'', hwA, hN64, hai', hl3, hok.1, hok.2]
      have haw := haw (by omega)
      have sl4 := sl3.ch k4 fun k hk e => e.elim (haw k hk).1 (haw k hk).2.1
      have hst := sl4.drew.str (P := Try.prog) rfl Try.underlying60 Try.underlying5 Try.underlying9
      obtain ⟨gm, cm, hmv, _, _, ⟨cur, hbm⟩, hrow⟩ := tm4.my.lit (by rw [Lw_len]; omega)
      obtain ⟨g, cg, hvs, hcg, _⟩ := hrow addr _ (Lw_get hok.1)
      obtain ⟨l, hl⟩ : ∃ l, blockM D.m addr :: wr D.cache addr = l := ⟨_, rfl⟩
      have hlg := Lw_get (m := D.m) (c := D.cache) hok.1
      rw [hl] at hvs hcg hlg
      have hll : l.length ≤ 100 := by
        have := wr_len D.cache addr
        rw [tm.ql.len] at this
        rw [← hl, List.length_cons]
        omega
      have cal := (Ch.refl Nw w4).alloc (.cells #[.string ⟨bs.toArray⟩] 9)
      have q2a := cal.cell q2'' id
      have hcga := cal.cell hcg id
      rw [Lw_len] at hmv
      subst hmv
      refine v_draw' [(0, none), (1, none), (2, none), (3, none), (4, none), (5, none), (6, none), (7, none), (8, none), (9, none), (10, none), (11, none), (12, none), (13, none), (14, none), (15, none), (16, some [0, 1, 2, 3, 4, 5, 6, 7, 8, 9, 10, 11, 12, 13]), (17, some [0, 1, 2, 3, 4, 5]), (18, none), (19, some [])] (by kernel_rfl) (by kernel_rfl) ?_
      simp [go_sem, f2, f13, f17, hlt, q2'', q2a, hok.1, hcg, hcga, hst]
      refine VB_app1 (w := w4.drew) tySt (u := .string ⟨bs.toArray⟩) (tm4.my.each addr _ l hvs hlg) rfl (by unfold maxLen; omega) (by omega) fun v5 w5 k1 k2 k3 => ?_
      have k2' : Ch (fun k => (Value.slice (some ⟨g, 0, none⟩) l.length cg).ownBlock = some k) w4 w5 := Ch.of_drew k2
      have k1' : w5.ownsRow 0 9 1 v5 (l ++ [bs]).length (strs (l ++ [bs])) := by
        have e : strs (l ++ [bs]) = strs l ++ [.string ⟨bs.toArray⟩] := by unfold strs; rw [List.map_append]; rfl
        rw [e, List.length_append]
        exact k1
      obtain ⟨my6, c6⟩ := tm4.my.set rfl hvs hlg (by simp) k2' (fun k hk => hk) k1' k3
      obtain ⟨g5, c5, cur5, hv5, _⟩ := ownS_blk k1 (by omega)
      have cW5 : Ch Nw W w5 := tm4.ch.trans' k2' fun k hk e => by have := (tm4.dis k (tm4.my.vM addr _ k hvs e).1).2.2; omega
      have q25 := cW5.cell (hcs 2 _ rfl) id
      have hgM := (tm4.my.vM addr _ g hvs rfl)
      have hbm5 := k2'.obj hbm fun e => by simp [Value.ownBlock] at e; exact hgM.2 (by rw [e]; rfl)
      have fz5 := fun j => frz_blk hbm5 j
      have ce5 := fun j => cell_blk hbm5 j
      have tm6 := tm4.mays my6 c6
      rw [← hl, Lw_put hok.1, ← hc4, ← hm4] at tm6
      have hgne : ¬ (Value.slice (some ⟨g, 0, none⟩) l.length cg).ownBlock = some gm := fun e => by simp [Value.ownBlock] at e; exact hgM.2 (by rw [e]; rfl)
      have hcg5 := k2'.cell hcg hgne
      have q26 := tm6.ch.cell (hcs 2 _ rfl) id
      have sl6 := (sl4.ch c6 fun k hk => (haw k hk).2.2)
      subst hv5
      simp [go_sem, f2, f10, f13, f17, hlt, hok.1, q25, hcg5, fz5, q26]
      refine (tm6.look addr hok.1 (by omega)).mono ?_
      rintro _ w7 ⟨⟨x, b7, rfl, hb7, hbl7, sx⟩, tm7, k7⟩
      rw [hc4, lastC_append, if_pos rfl, Option.getD_some] at hb7
      subst hb7
      have hst7 := sx.str (P := Try.prog) hbl7 Try.underlying60 Try.underlying5 Try.underlying9
      have st7 := (sl6.ch k7 fun _ _ e => e).str (P := Try.prog) rfl Try.underlying60 Try.underlying5 Try.underlying9
      simp [go_sem, hst7, st7, f17, hwi]
      exact Rnd.intro (Lb.length - (k + 1)) (by omega) (hJ _ _ _ ⟨k + 1, rfl, by omega, by simp, ⟨by simp [f0], by simp [f1], by simp [f2], by simp [f3], by simp [f10]⟩, _, _, _, _, _, _, by simp [f13], tm7, by omega⟩)
    · rw [if_neg hok] at tm4 hc4 ⊢
      have tm4' : Tm W w4 d p i D4 c O4 M mv vs (Lw D4.m D4.cache i) := by rw [hm4, hc4]; exact tm4
      by_cases hok1 : addr < i
      · have hok2 : ¬ bs.length = 512 := fun e => hok ⟨hok1, e⟩
        have hai' : (addr : Int) < i := by omega
        have hb0 : ((bs.length : Int) == 512) = false := beq_false_of_ne (by omega)
        simp [go_sem, f0, f2, f17, hlt, q2'', hwA, hN64, hai', hl3, hok1, hok2, hb0]
        simp [go_sem, f17, hwi]
        exact Rnd.intro (Lb.length - (k + 1)) (by omega) (hJ _ _ _ ⟨k + 1, rfl, by omega, by simp, ⟨by simp [f0], by simp [f1], by simp [f2], by simp [f3], by simp [f10]⟩, _, _, _, _, _, _, by simp [f13], tm4', by omega⟩)
      · have hai' : ¬ (addr : Int) < i := by omega
        simp [go_sem, f0, f2, f17, hlt, q2'', hwA, hN64, hai', hok1]
        simp [go_sem, f17, hwi]
        exact Rnd.intro (Lb.length - (k + 1)) (by omega) (hJ _ _ _ ⟨k + 1, rfl, by omega, by simp, ⟨by simp [f0], by simp [f1], by simp [f2], by simp [f3], by simp [f10]⟩, _, _, _, _, _, _, by simp [f13], tm4', by omega⟩)
  obtain rfl : k = Lb.length := by omega
  simp [go_sem, f2, f17, hlB, f3, f10]
  refine (tm.crash (by omega) ps vp (by omega) hpr hp hplt).mono ?_
  rintro _ w8 ⟨rfl, O8, tm8⟩
  have fit8 := fit_crash tm.ok tm.ql.dead ps
  simp [go_sem]
  clear hJ
  refine v_loop (fun r f u => ∃ t, r = 2 - t ∧ t ≤ 2 ∧ f 22 = .int .i64 t ∧ TrR i d va vb vp f ∧ ∃ mv vs O M D L, f 13 = mv ∧ Tm W u d p i D 0 O M mv vs L ∧ Fit i D.m L) 2
    ⟨0, rfl, by omega, by simp, ⟨by simp [f0], by simp [f1], by simp [f2], by simp [f3], by simp [f10]⟩, _, _, _, _, _, _, by simp [f13], tm8, fit8⟩ ?_
  clear tm tm8 fit8
  rintro J hJ _ f u ⟨t, rfl, ht, f22, ⟨f0, f1, f2, f3, f10⟩, mv, vs, O, M, D, L, f13, tm, fit⟩
  by_cases hlt : t < 2
  · have hii : (t : Int) < 2 := by omega
    have hwt : IntKind.i64.wrap ((t : Int) + 1) = ((t + 1 : Nat) : Int) := by rw [IntKind.wrap_i64]; omega
    simp [go_sem, f22, hii]
    refine v_loop (fun r f u => ∃ y, r = i - y ∧ y ≤ i ∧ f 23 = .int .i64 y ∧ f 22 = .int .i64 t ∧ TrR i d va vb vp f ∧ ∃ mv vs O M L, f 13 = mv ∧ Tm W u d p i D 0 O M mv vs L ∧ Fit i D.m L) i
      ⟨0, rfl, by omega, by simp, by simp [f22], ⟨by simp [f0], by simp [f1], by simp [f2], by simp [f3], by simp [f10]⟩, _, _, _, _, _, by simp [f13], tm, fit⟩ ?_
    clear tm fit
    rintro J2 hJ2 _ f u ⟨y, rfl, hy, f23, f22, ⟨f0, f1, f2, f3, f10⟩, mv, vs, O, M, L, f13, tm, fit⟩
    by_cases hly : y < i
    · have hyy : (y : Int) < i := by omega
      have hwy : IntKind.i64.wrap ((y : Int) + 1) = ((y + 1 : Nat) : Int) := by rw [IntKind.wrap_i64]; omega
      have hw16 : IntKind.u16.wrap (y : Int) = y := u16_any (by omega)
      simp [go_sem, f0, f23, f10, hN64, hyy, hw16]
      refine (tm.look y hly (by omega)).mono ?_
      rintro _ w4 ⟨⟨x, b, rfl, hb2, hbl, sx⟩, tm4, _⟩
      rw [List.eq_nil_of_length_eq_zero tm.ql.len] at hb2
      have hb3 : b = blockM D.m y := hb2
      have hlx := sx.len Try.underlying60 3
      have hst := sx.str (P := Try.prog) hbl Try.underlying60 Try.underlying5 Try.underlying9
      have hstd := sx.drew.str (P := Try.prog) hbl Try.underlying60 Try.underlying5 Try.underlying9
      obtain ⟨gm, cm, hmv, _, _, ⟨cur, hbm⟩, hrow⟩ := tm4.my.lit (by rw [fit.len]; omega)
      obtain ⟨l, hl⟩ : ∃ l, L[y]? = some l := ⟨_, List.getElem?_eq_getElem (by rw [fit.len]; exact hly)⟩
      have hfit := fit.each y l hl
      rw [← hb3] at hfit
      obtain ⟨g, cg, hvs, hcg, hstr, hlm⟩ := hrow y l hl
      unfold maxLen at hlm
      have hlp : 0 < l.length := List.length_pos_iff.2 (tm4.my.full l (List.mem_of_getElem? hl))
      rw [fit.len] at hmv
      subst hmv
      simp [go_sem]
      obtain ⟨I, hI⟩ : ∃ I : (Nat → Value) → World → Prop, I = fun g u => g 246 = .bool false ∧ g 13 = .slice (some ⟨gm, 0, none⟩) i cm ∧ g 22 = .int .i64 t ∧ g 23 = .int .i64 y ∧ g 24 = x ∧ TrR i d va vb vp g ∧ u = w4.drew := ⟨_, rfl⟩
      refine v_join I [[(0, none), (1, none), (2, none), (3, none), (4, none), (5, none), (6, none), (7, none), (8, none), (9, none), (10, none), (11, none), (12, none), (13, none), (14, none), (15, none), (16, none), (17, none), (18, none), (19, none), (20, none), (21, none), (22, none), (23, none), (24, none), (25, none)]] (by kernel_rfl) (by kernel_rfl) ?_ ?_
      · intro plan hplan
        rw [List.mem_singleton] at hplan
        subst hplan
        by_cases h1l : l.length = 1
        · have hl1 := hfit.one h1l
          have hs0 := hstr 0 b (by rw [hl1]; rfl)
          simp [go_sem, f13, f23, hlx, hstd, hly, hcg, h1l, hs0]
          rw [hI]
          exact ⟨by simp, by simp [f13], by simp [f22], by simp [f23], by simp, ⟨by simp [f0], by simp [f1], by simp [f2], by simp [f3], by simp [f10]⟩, rfl⟩
        · have h1i : ((l.length : Int) == 1) = false := beq_false_of_ne (by omega)
          simp [go_sem, f13, f23, hlx, hly, hcg, h1l, h1i]
          rw [hI]
          exact ⟨by simp, by simp [f13], by simp [f22], by simp [f23], by simp, ⟨by simp [f0], by simp [f1], by simp [f2], by simp [f3], by simp [f10]⟩, rfl⟩
      rw [hI]
      clear hI
      rintro f u ⟨f246, f13, f22, f23, f24, ⟨f0, f1, f2, f3, f10⟩, rfl⟩
      simp [go_sem, f246]
      refine v_loop (fun r g u => ∃ k, r = 512 - k ∧ k ≤ 512 ∧ g 26 = .int .i64 k ∧ g 13 = .slice (some ⟨gm, 0, none⟩) i cm ∧ g 22 = .int .i64 t ∧ g 23 = .int .i64 y ∧ g 24 = x ∧ TrR i d va vb vp g ∧ Ch Nw w4 u) 512
        ⟨0, rfl, by omega, by simp, by simp [f13], by simp [f22], by simp [f23], by simp [f24], ⟨by simp [f0], by simp [f1], by simp [f2], by simp [f3], by simp [f10]⟩, (Ch.refl Nw w4).drew⟩ ?_
      rintro J3 hJ3 _ f u ⟨k, rfl, hk, f26, f13, f22, f23, f24, ⟨f0, f1, f2, f3, f10⟩, c4u⟩
      by_cases hlk : k < 512
      · have hkk : (k : Int) < 512 := by omega
        have hwk : IntKind.i64.wrap ((k : Int) + 1) = ((k + 1 : Nat) : Int) := by rw [IntKind.wrap_i64]; omega
        obtain ⟨c, hc⟩ : ∃ c, b[k]? = some c := ⟨_, List.getElem?_eq_getElem (by omega)⟩
        simp [go_sem, f24, f26, hlx, hkk]
        refine v_loop (fun r g u => ∃ j, r = l.length - j ∧ j ≤ l.length ∧ g 28 = .int .i64 j ∧ (∃ q : Bool, g 27 = .bool q ∧ (q = false → ∀ (j' : Nat) z, j' < j → l[j']? = some z → z[k]? ≠ some c)) ∧ g 26 = .int .i64 k ∧ g 13 = .slice (some ⟨gm, 0, none⟩) i cm ∧ g 22 = .int .i64 t ∧ g 23 = .int .i64 y ∧ g 24 = x ∧ TrR i d va vb vp g ∧ Ch Nw w4 u) l.length
          ⟨0, rfl, by omega, by simp, ⟨false, by simp, fun _ j' z h => absurd h (by omega)⟩, by simp [f26], by simp [f13], by simp [f22], by simp [f23], by simp [f24], ⟨by simp [f0], by simp [f1], by simp [f2], by simp [f3], by simp [f10]⟩, c4u⟩ ?_
        clear c4u
        rintro J4 hJ4 _ f u ⟨j, rfl, hj, f28, ⟨q, f27, hq⟩, f26, f13, f22, f23, f24, ⟨f0, f1, f2, f3, f10⟩, c4u⟩
        have hcgu := c4u.cell hcg id
        by_cases hlj : j < l.length
        · have hjj : (j : Int) < l.length := by omega
          have hwj : IntKind.i64.wrap ((j : Int) + 1) = ((j + 1 : Nat) : Int) := by rw [IntKind.wrap_i64]; omega
          obtain ⟨z, hz⟩ : ∃ z, l[j]? = some z := ⟨_, List.getElem?_eq_getElem hlj⟩
          have hzl : z.length = 512 := hfit.len z (List.mem_of_getElem? hz)
          obtain ⟨e, he⟩ : ∃ e, z[k]? = some e := ⟨_, List.getElem?_eq_getElem (by omega)⟩
          have hzu := c4u.cell (hstr j z hz) id
          have hix := run_index_str (P := Try.prog) 9 Try.underlying9 z k e he
          obtain ⟨ad, hat, hcl, _⟩ := (sx.ch c4u fun _ _ e => e).at tyB (by rw [bvs_length, hbl]) (show (bvs b)[k]? = some (.int .u8 c.toNat) by unfold bvs; rw [List.getElem?_map, hc]; rfl)
          simp [go_sem, f13, f23, f28, hly, hcgu, hjj]
          refine v_draw' [(0, none), (1, none), (2, none), (3, none), (4, none), (5, none), (6, none), (7, none), (8, none), (9, none), (10, none), (11, none), (12, none), (13, none), (14, none), (15, none), (16, none), (17, none)] (by kernel_rfl) (by kernel_rfl) ?_
          cases q with
          | true =>
            simp [go_sem, f27, f28, hwj]
            exact Rnd.intro (l.length - (j + 1)) (by omega) (hJ4 _ _ _ ⟨j + 1, rfl, by omega, by simp, ⟨true, by simp [f27], by simp⟩, by simp [f26], by simp [f13], by simp [f22], by simp [f23], by simp [f24], ⟨by simp [f0], by simp [f1], by simp [f2], by simp [f3], by simp [f10]⟩, c4u.drew⟩)
          | false =>
            by_cases hec : e = c
            · subst hec
              simp [go_sem, f13, f23, f24, f26, f27, f28, hly, hcgu, hzu, hlj, hix, hat, hcl, hwj]
              exact Rnd.intro (l.length - (j + 1)) (by omega) (hJ4 _ _ _ ⟨j + 1, rfl, by omega, by simp, ⟨true, by simp, by simp⟩, by simp [f26], by simp [f13], by simp [f22], by simp [f23], by simp [f24], ⟨by simp [f0], by simp [f1], by simp [f2], by simp [f3], by simp [f10]⟩, c4u.drew⟩)
            · have hne : ¬ e.toNat = c.toNat := fun h => hec (UInt8.toNat_inj.1 h)
              have hne2 : ((e.toNat : Int) == (c.toNat : Int)) = false := beq_false_of_ne (by omega)
              simp [go_sem, f13, f23, f24, f26, f27, f28, hly, hcgu, hzu, hlj, hix, hat, hcl, hwj, hne, hne2, hec]
              exact Rnd.intro (l.length - (j + 1)) (by omega) (hJ4 _ _ _ ⟨j + 1, rfl, by omega, by simp, ⟨false, by simp, fun _ j' z' hj' hz' => by
                by_cases hjj' : j' = j
                · subst hjj'
                  rw [hz] at hz'
                  cases hz'
                  rw [he]
                  exact fun h => hec (Option.some.inj h)
                · exact hq rfl j' z' (by omega) hz'⟩, by simp [f26], by simp [f13], by simp [f22], by simp [f23], by simp [f24], ⟨by simp [f0], by simp [f1], by simp [f2], by simp [f3], by simp [f10]⟩, c4u.drew⟩)
        · obtain rfl : j = l.length := by omega
          have hqt : q = true := by
            cases q with
            | true => rfl
            | false =>
              obtain ⟨z, hz, hzk⟩ := hfit.each k hlk
              obtain ⟨j', hj'⟩ := List.mem_iff_getElem?.1 hz
              exact absurd (hzk.trans hc) (hq rfl j' z (List.getElem?_eq_some_iff.1 hj').1 hj')
          subst hqt
          simp [go_sem, f13, f23, f26, f27, f28, hly, hcgu, hwk]
          exact Rnd.intro (512 - (k + 1)) (by omega) (hJ3 _ _ _ ⟨k + 1, rfl, by omega, by simp, by simp [f13], by simp [f22], by simp [f23], by simp [f24], ⟨by simp [f0], by simp [f1], by simp [f2], by simp [f3], by simp [f10]⟩, c4u⟩)
      · obtain rfl : k = 512 := by omega
        have tm5 := tm4.stay c4u
        have hst5 := (sx.ch c4u fun _ _ e => e).str (P := Try.prog) hbl Try.underlying60 Try.underlying5 Try.underlying9
        have hbm5 := (c4u.alloc (.cells #[.string ⟨b.toArray⟩] 9)).obj hbm id
        have fz5 := fun j => frz_blk hbm5 j
        have hcg5 := (c4u.alloc (.cells #[.string ⟨b.toArray⟩] 9)).cell hcg id
        have k1 := one_lit u (.string ⟨b.toArray⟩) 9
        have hfr : Fresh u.heap.size (.slice (some ⟨u.heap.size, 0, none⟩) 1 1) := fun k hk => by simp [Value.ownBlock] at hk; omega
        obtain ⟨my6, c6⟩ := tm5.my.set (u' := u.alloc (.cells #[.string ⟨b.toArray⟩] 9)) (S := Nw) (v' := .slice (some ⟨u.heap.size, 0, none⟩) 1 1) (l' := [b]) rfl hvs hl (by simp) ((Ch.refl Nw u).alloc _) (fun k hk => hk.elim) k1 (.inr hfr)
        have tm6 := tm5.mays my6 c6
        simp [go_sem, f13, f23, f24, f26, hlx, hst5, hly, hcg5, fz5, hwy]
        have fit6 := fit.set y (by rw [← hb3]; exact hbl)
        rw [← hb3] at fit6
        exact Rnd.intro (i - (y + 1)) (by omega) (hJ2 _ _ _ ⟨y + 1, rfl, by omega, by simp, by simp [f22], ⟨by simp [f0], by simp [f1], by simp [f2], by simp [f3], by simp [f10]⟩, _, _, _, _, _, by simp [f13], tm6, fit6⟩)
    · obtain rfl : y = i := by omega
      simp [go_sem, f0, f23, hN64, f10]
      refine (tm.flush (by omega)).mono ?_
      rintro _ w4 ⟨rfl, O4, tm4⟩
      simp [go_sem, f10, f3]
      refine (tm4.crash (by omega) ps vp (by omega) hpr hp hplt).mono ?_
      rintro _ w5 ⟨rfl, O5, tm5⟩
      have hm5 : ((flushed D).crash ps).m = D.m := (tm4.ql.crash_none ps).trans tm.ql.flushed_none
      simp [go_sem, f22, hwt]
      exact Rnd.intro (2 - (t + 1)) (by omega) (hJ _ _ _ ⟨t + 1, rfl, by omega, by simp, ⟨by simp [f0], by simp [f1], by simp [f2], by simp [f3], by simp [f10]⟩, _, _, _, _, _, _, by simp [f13], tm5, by rw [hm5]; exact fit⟩)
  · obtain rfl : t = 2 := by omega
    simp [go_sem, f22]
    refine (wakes_any u).mono ?_
    rintro _ w4 ⟨rfl, c4⟩
    simp [go_sem]
    exact hR _ _ ⟨rfl, tm.ch.trans c4⟩
end Go.Proofs.Ytmhnlgndgdmebaa
