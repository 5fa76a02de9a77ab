/- DiskPlays: the walk. No condition. -/
import Derived.Test.YtmhnlgndgdmebaaRkK
namespace Go.Proofs.Ytmhnlgndgdmebaa
open Go.RowKit Go.Kin

def rz9 : Array Value := #[.int .i64 0, .pointer none, .slice none 0 0, .slice none 0 0, .slice none 0 0, .slice none 0 0, .bool false, .bool false, .slice none 0 0]
theorem zc_rk : zc Try.prog 88 = rz9 := by kernel_rfl
theorem hz_rk : (Try.prog.info? 88).map (fun i => i.zero.isSome) = some true := by kernel_rfl
theorem bld_rk (a b : Value) (ha : a.cells = #[a]) (hb : b.cells = #[b]) {w : World} {K : Value → World → Prop} :
    VBld Try.prog 88 [(0, a), (1, b)] w K = K (.agg #[a, b, .slice none 0 0, .slice none 0 0, .slice none 0 0, .slice none 0 0, .bool false, .bool false, .slice none 0 0]) w :=
  VBld_struct Try.underlying88 hz_rk (places := #[(0, 1), (1, 1), (2, 1), (3, 1), (4, 1), (5, 1), (6, 1), (7, 1), (8, 1)]) (by simp [go_sem]) (by simp [fillB, zc_rk, ha, hb, rz9, blit])
set_option maxHeartbeats 8000000 in
theorem plays_any (N : Nat) (hN : N < 256) (va : Value) (L : List Ac) (W : World) (ha : Lst W va acv 7 L) (hin : ∀ a ∈ L, a.In W) :
    Ret Try.prog 9 #[.int .u8 N, va] W fun v' w' => v' = .bool true ∧ Ch Nw W w' := by
  refine v_enter Try.func9 Try.ntmps9 rfl (by simp) fun R' hR => ?_
  have hlA := ha.len Try.underlying53 3
  simp [go_sem]
  refine (great_any va L W ha hin).mono ?_
  rintro _ w1 ⟨ga, rfl, hga, hw⟩
  subst w1
  cases ga
  case true =>
    simp [go_sem]
    refine (wakes_any _).mono ?_
    rintro _ w1 ⟨rfl, c1⟩
    simp [go_sem]
    exact hR _ _ ⟨rfl, c1⟩
  have hga := hga rfl
  by_cases h1 : (N : Int) < 1
  case pos =>
    simp [go_sem, h1]
    refine (wakes_any _).mono ?_
    rintro _ w1 ⟨rfl, c1⟩
    simp [go_sem]
    exact hR _ _ ⟨rfl, c1⟩
  by_cases h2 : (20 : Int) < (N : Int)
  case pos =>
    simp [go_sem, h1, h2]
    refine (wakes_any _).mono ?_
    rintro _ w1 ⟨rfl, c1⟩
    simp [go_sem]
    exact hR _ _ ⟨rfl, c1⟩
  have hN64 : IntKind.i64.wrap (N : Int) = N := by rw [IntKind.wrap_i64]; omega
  simp [go_sem, h1, h2]
  refine (on_pw W).mono ?_
  rintro _ w1 ⟨rfl, hpw, c1⟩
  have hpl : W.heap.size < w1.heap.size := lt_of_block hpw
  obtain ⟨p, hpq⟩ : ∃ p, W.heap.size = p := ⟨_, rfl⟩
  rw [hpq] at hpw
  simp [go_sem, hpq]
  have ba := hp_alloc w1 (.cells #[.bool false, .int .i64 (-1)] 81)
  have ca := (Ch.refl Nw w1).alloc (.cells #[.bool false, .int .i64 (-1)] 81)
  obtain ⟨q, hq⟩ : ∃ q, w1.heap.size = q := ⟨_, rfl⟩
  rw [hq] at ba ⊢
  generalize w1.alloc (.cells #[.bool false, .int .i64 (-1)] 81) = w2 at *
  have m2 : Mk W w2 p q N [] (.slice none 0 0) (.slice none 0 0) := ⟨by simp, by simp, World.ownsRow_nil _ _ _ _, World.ownsRow_nil _ _ _ _, by simp [Value.ownBlock], by simp [Value.ownBlock], ⟨by omega, by omega, by omega⟩, hpw.ch ca id, ba, c1.trans ca⟩
  refine v_loop (fun r f u => ∃ i, r = 2 - i ∧ i ≤ 2 ∧ f 9 = .int .i64 i ∧ f 0 = .int .u8 N ∧ f 1 = va ∧ f 5 = .pointer (some ⟨p, 0, none⟩) ∧ f 6 = .pointer (some ⟨q, 0, none⟩) ∧ ∃ es vd vw, es.length = i ∧ f 7 = vd ∧ f 8 = vw ∧ Mk W u p q N es vd vw) 2
    ⟨0, rfl, by omega, by simp, by simp, by simp, by simp, by simp, [], _, _, rfl, by simp, by simp, m2⟩ ?_
  rintro J hJ _ f u ⟨i, rfl, hi, f9, f0, f1, f5, f6, es, vd, vw, hes, f7, f8, mk⟩
  by_cases hlt : i < 2
  · have hii : (i : Int) < 2 := by omega
    have hwi : IntKind.i64.wrap ((i : Int) + 1) = ((i + 1 : Nat) : Int) := by rw [IntKind.wrap_i64]; omega
    simp [go_sem, f0, f5, f9, hii, hN64]
    refine (sd_new N p u Pwr.on (by omega) (by omega) mk.p).mono ?_
    rintro _ u1 ⟨c, rfl, s1, c1'⟩
    simp [go_sem, f7]
    refine VB_app1 tyPD (u := .pointer (some ⟨c, 0, none⟩)) (own_ch mk.od c1' fun _ _ e => e) rfl (by unfold maxLen; omega) (by omega) fun vd' u2 j1 j2 j3 => ?_
    simp [go_sem, f0, f6, f8, hN64]
    rw [bld_rk _ _ rfl rfl]
    simp [go_sem]
    have hs3 : (u2.alloc (.cells (rcs N q rz Dk.new) 88)).heap.size = u2.heap.size + 1 := by simp
    have d2 := j2
    rw [← hs3]
    have q2 : PwR u2 q Pwr.on := (mk.q.ch c1' id).ch j2 fun e => (mk.xd q e).2.2.1 rfl
    have r3 := rd_new N q u2 Pwr.on (by omega) q2
    have c3 : Ch Nw u2 (u2.alloc (.cells (rcs N q rz Dk.new) 88)) := (Ch.refl Nw u2).alloc _
    have ow2 : (u2.alloc (.cells (rcs N q rz Dk.new) 88)).ownsRow 0 _ 1 vw _ _ := own_ch (own_ch (own_ch mk.ow c1' fun _ _ e => e) j2 fun k hk e => (mk.xd k e).2.2.2.1 hk) c3 fun _ _ e => e
    refine VB_app1 (w := u2.alloc (.cells (rcs N q rz Dk.new) 88)) tyPR (u := .pointer (some ⟨u2.heap.size, 0, none⟩)) ow2 rfl (by unfold maxLen; omega) (by omega) fun vw' u4 g1 g2 g3 => ?_
    rw [← hs3] at r3
    have mk' := mk.put s1 c1' j1 j2 j3 r3 c3 g1 g2 g3
    simp [go_sem, f9, hwi]
    exact Rnd.intro (2 - (i + 1)) (by omega) (hJ _ _ _ ⟨i + 1, rfl, by omega, by simp, by simp [f0], by simp [f1], by simp [f5], by simp [f6], _, _, _, by simp [hes], by simp, by simp, mk'⟩)
  obtain rfl : i = 2 := by omega
  simp [go_sem, f9]
  clear hJ m2
  -- the two
  obtain ⟨e0, e1, rfl⟩ : ∃ e0 e1, es = [e0, e1] := by
    match es, hes with
    | [a, b], _ => exact ⟨a, b, rfl⟩
  obtain ⟨gd, capd, curd, hvd, _, _, hbd, _, hrd⟩ := ownS_blk mk.od (by simp)
  obtain ⟨gw, capw, curw, hvw, _, _, hbw, _, hrw⟩ := ownS_blk mk.ow (by simp)
  have hd0 := hrd 0 _ rfl
  have hd1 := hrd 1 _ rfl
  have hw0 := hrw 0 _ rfl
  have hw1 := hrw 1 _ rfl
  obtain ⟨x1, x2, x3, x4, x5⟩ := mk.xd gd (by rw [hvd]; rfl)
  obtain ⟨y1, y2, y3, y4⟩ := mk.xw gw (by rw [hvw]; rfl)
  obtain ⟨a1, a2, a3, a4, a5, a6, a7, a8, a9⟩ := mk.each e0 (by simp)
  obtain ⟨b1, b2, b3, b4, b5, b6, b7, b8, b9⟩ := mk.each e1 (by simp)
  have hsep : e0.h2 ≤ e1.l1 := by
    have := mk.pw
    simp at this
    exact this
  have hgd : gd < u.heap.size := lt_of_block hbd
  have hgw : gw < u.heap.size := lt_of_block hbw
  have pl : Pl W u u (fun k => k = gd ∨ k = gw) e0.c e1.c e0.r e1.r p q N Dk.new Dk.new Dk.new Dk.new Pwr.on Pwr.on e0.A e1.A e0.E e1.E := by
    refine ⟨a1, b1, a2, b2, fun k x y => ?_, fun k x y => ?_, fun k x y => ?_, fun k x => ?_, fun k hk => ?_, Ch.refl _ _, mk.ch⟩
    · unfold Ent.A at x y; omega
    · unfold Ent.E at x y; omega
    · unfold Ent.A at x; unfold Ent.E at y; have := mk.pg.2.2; omega
    · unfold Ent.A Ent.E at x; have := mk.pg; omega
    · rcases hk with rfl | rfl
      · have z0 := x5 e0 (by simp)
        have z1 := x5 e1 (by simp)
        exact ⟨fun e => e.elim z0.1 fun e => e.elim z1.1 x2, fun e => e.elim z0.2 fun e => e.elim z1.2 x3, hgd⟩
      · have z0 := y4 e0 (by simp)
        have z1 := y4 e1 (by simp)
        exact ⟨fun e => e.elim z0.1 fun e => e.elim z1.1 y2, fun e => e.elim z0.2 fun e => e.elim z1.2 y3, hgw⟩
  have pi : PlI W u u (fun k => k = gd ∨ k = gw) e0.c e1.c e0.r e1.r p q N 0 := ⟨_, _, _, _, _, _, _, pl, ⟨by simp [Dk.new], by simp [Dk.new]⟩, ⟨by simp [Dk.new], by simp [Dk.new]⟩, by decide⟩
  have f7 : f 7 = .slice (some ⟨gd, 0, none⟩) 2 capd := f7.trans hvd
  have f8 : f 8 = .slice (some ⟨gw, 0, none⟩) 2 capw := f8.trans hvw
  simp only [Nat.mul_zero, Nat.zero_add] at hd0 hd1 hw0 hw1
  obtain ⟨w0, hw0'⟩ : ∃ w0, u = w0 := ⟨_, rfl⟩
  rw [hw0'] at pi hd0 hd1 hw0 hw1
  generalize e0.c = c at *
  generalize e1.c = d at *
  generalize e0.r = r at *
  generalize e1.r = s at *
  clear pl mk a1 a2 b1 b2 x5 y4
  obtain ⟨K, hK⟩ : ∃ K : Nat → Prop, K = fun k => k = gd ∨ k = gw := ⟨_, rfl⟩
  have Kd : K gd := by rw [hK]; exact .inl rfl
  have Kw : K gw := by rw [hK]; exact .inr rfl
  rw [← hK] at pi
  refine v_loop (fun t f u => ∃ i, t = L.length - i ∧ i ≤ L.length ∧ f 12 = .int .i64 i ∧ f 0 = .int .u8 N ∧ f 1 = va ∧ f 5 = .pointer (some ⟨p, 0, none⟩) ∧ f 6 = .pointer (some ⟨q, 0, none⟩) ∧ f 7 = .slice (some ⟨gd, 0, none⟩) 2 capd ∧ f 8 = .slice (some ⟨gw, 0, none⟩) 2 capw ∧ PlI W w0 u K c d r s p q N i) L.length
    ⟨0, rfl, by omega, by simp, by simp [f0], by simp [f1], by simp [f5], by simp [f6], by simp [f7], by simp [f8], by rw [hw0']; exact pi⟩ ?_
  clear pi
  rintro J hJ _ f u ⟨i, rfl, hi, f12, f0, f1, f5, f6, f7, f8, C, D, P, A, B, E, F, pl, gC, gD, hfu⟩
  by_cases hlt : i < L.length
  · have hii : (i : Int) < L.length := by omega
    have hwi : IntKind.i64.wrap ((i : Int) + 1) = ((i + 1 : Nat) : Int) := by rw [IntKind.wrap_i64]; omega
    obtain ⟨a, hai⟩ : ∃ a, L[i]? = some a := ⟨_, List.getElem?_eq_getElem hlt⟩
    have hamem := List.mem_of_getElem? hai
    have hain := hin a hamem
    have hag := hga.2 a hamem
    obtain ⟨ab, off, cp, rfl, hbl, hcs⟩ := lst_acts ha hai
    obtain ⟨a0, ha0⟩ : ∃ a0, a = a0 := ⟨_, rfl⟩
    obtain ⟨dd, k, addr, v, b, short, nn, pv, ps⟩ := a
    obtain ⟨A1, c1', hv, _⟩ := id hain.sl
    obtain ⟨A2, c2', hpv, _⟩ := id hain.ps
    simp only at hv hpv
    subst hv hpv
    have qs : ∀ {x : World}, Ch Nw W x → x.cell? ⟨ab, off + i * 7, none⟩ = some (.int .u8 dd) ∧ x.cell? ⟨ab, off + i * 7 + 1, none⟩ = some (.int .u8 k) ∧ x.cell? ⟨ab, off + i * 7 + 2, none⟩ = some (.int .u16 addr) ∧ x.cell? ⟨ab, off + i * 7 + 3, none⟩ = some (.slice A1 b.length c1') ∧ x.cell? ⟨ab, off + i * 7 + 4, none⟩ = some (.bool short) ∧ x.cell? ⟨ab, off + i * 7 + 5, none⟩ = some (.int .i64 nn) ∧ x.cell? ⟨ab, off + i * 7 + 6, none⟩ = some (.slice A2 ps.length c2') := fun hx =>
      ⟨hx.cell (hcs 0 _ rfl) id, hx.cell (hcs 1 _ rfl) id, hx.cell (hcs 2 _ rfl) id, hx.cell (hcs 3 _ rfl) id, hx.cell (hcs 4 _ rfl) id, hx.cell (hcs 5 _ rfl) id, hx.cell (hcs 6 _ rfl) id⟩
    have hdk : k < 256 := hain.k
    have hb6 : b.length ≤ 600 := hag.1
    have hp2 : ps.length ≤ 200 := hag.2
    have hwk : IntKind.i64.wrap (k : Int) = k := by rw [IntKind.wrap_i64]; omega
    obtain ⟨kk, hkk⟩ : ∃ kk, k % 2 = kk := ⟨_, rfl⟩
    have hrem : (k : Int).tmod 2 = (kk : Int) := by rw [Int.tmod_eq_emod_of_nonneg (by omega)]; omega
    have hkk2 : kk < 2 := by omega
    have hkki : (kk : Int) < 2 := by omega
    obtain ⟨c', d', r', s', C', D', A', B', E', F', pl', gC', gD', hcd, hcw, back⟩ : ∃ c' d' r' s' C' D' A' B' E' F', Pl W w0 u K c' d' r' s' p q N C' D' C' D' P P A' B' E' F' ∧ Good C' i ∧ Good D' i ∧ w0.cell? ⟨gd, kk, none⟩ = some (.pointer (some ⟨c', 0, none⟩)) ∧ w0.cell? ⟨gw, kk, none⟩ = some (.pointer (some ⟨r', 0, none⟩)) ∧
        (∀ u' C2 P2 A2 E2, Pl W w0 u' K c' d' r' s' p q N C2 D' C2 D' P2 P2 A2 B' E2 F' → Good C2 (i + 1) → P2.fuse ≤ 9223372036854775807 → PlI W w0 u' K c d r s p q N (i + 1)) := by
      rcases Nat.lt_or_ge kk 1 with h | h
      · obtain rfl : kk = 0 := by omega
        exact ⟨c, d, r, s, C, D, A, B, E, F, pl, gC, gD, hd0, hw0, fun u' C2 P2 A2 E2 x y z => ⟨_, _, _, _, _, _, _, x, y, gD.mono (by omega), z⟩⟩
      · obtain rfl : kk = 1 := by omega
        exact ⟨d, c, s, r, D, C, B, A, F, E, pl.sym, gD, gC, hd1, hw1, fun u' C2 P2 A2 E2 x y z => ⟨_, _, _, _, _, _, _, x.sym, gC.mono (by omega), y, z⟩⟩
    clear pl gC gD
    have hc100 : C'.cache.length ≤ 1000000 := by have := gC'.1; omega
    obtain ⟨q0, q1, q2, q3, q4, q5, q6⟩ := qs pl'.ch
    simp [go_sem, f1, f12, hlA, hii, hlt, hwk, hrem, q0, q1, q2, q3, q4, q5, q6]
    have bX := hp_alloc u (.cells #[.int .u8 dd, .int .u8 k, .int .u16 addr, .slice A1 b.length c1', .bool short, .int .i64 nn, .slice A2 ps.length c2'] 62)
    have cal := (Ch.refl Nw u).alloc (.cells #[.int .u8 dd, .int .u8 k, .int .u16 addr, .slice A1 b.length c1', .bool short, .int .i64 nn, .slice A2 ps.length c2'] 62)
    obtain ⟨X, hX⟩ : ∃ X, u.heap.size = X := ⟨_, rfl⟩
    rw [hX] at bX ⊢
    generalize u.alloc (.cells #[.int .u8 dd, .int .u8 k, .int .u16 addr, .slice A1 b.length c1', .bool short, .int .i64 nn, .slice A2 ps.length c2'] 62) = u1 at *
    have pl1 := pl'.stay cal
    refine VB_copyOf tyB (hain.sl.ch pl1.ch fun _ _ e => e) (bvs_length b) (bvs_one b) (by unfold maxLen; show b.length ≤ _; omega) (by show b.length * 1 ≤ _; omega) fun v' u2 o2 c2 fr2 => ?_
    obtain ⟨A3, p3, hv3, _⟩ := id (Sl.of_own o2)
    have hv3 : v' = .slice A3 b.length p3 := hv3
    subst hv3
    have bX2 := c2.obj bX id
    have fX2 := fun j => frz_blk bX2 j
    have cX2 := fun j => cell_blk bX2 j
    simp [go_sem, fX2, cX2]
    have b3 : (u2.setCell ⟨X, 3, none⟩ (.slice A3 b.length p3)).heap[X]? = some (.cells #[.int .u8 dd, .int .u8 k, .int .u16 addr, .slice A3 b.length p3, .bool short, .int .i64 nn, .slice A2 ps.length c2'] 62 (0, 0)) := by
      rw [hp_setCell, bX2, setOf_cells]
      rfl
    have cset : Ch (one X) u2 (u2.setCell ⟨X, 3, none⟩ (.slice A3 b.length p3)) := (Ch.refl (one X) u2).setCell (p := ⟨X, 3, none⟩) (.inl rfl) _
    have hXu : ¬ X < u.heap.size := by omega
    have cu3 : Ch Nw u (u2.setCell ⟨X, 3, none⟩ (.slice A3 b.length p3)) := (cal.trans c2).trans' cset fun j hj e => by simp only [one] at e; omega
    have pl3 := pl'.stay cu3
    have o3 := own_ch o2 cset fun j hj e => by
      simp only [one] at e
      have := fr2 j hj
      have := cal.size
      have := lt_of_block bX
      omega
    have fr3 : ∀ j, (Value.slice A3 b.length p3).ownBlock = some j → u1.heap.size ≤ j := fr2
    have hu1 := cal.size
    have hXl := lt_of_block bX
    generalize u2.setCell ⟨X, 3, none⟩ (.slice A3 b.length p3) = u3 at *
    have cX3 := fun j => cell_blk b3 j
    have d0 := pl3.cell hcd Kd
    have hlo3 := own_blt o3
    have e3 := cu3.size
    -- what the act does
    have hA' : Ac.At u3 (⟨dd, k, addr, .slice A3 b.length p3, b, short, nn, .slice A2 ps.length c2', ps⟩ : Ac) fun j => A' j ∨ j = p := by
      refine ⟨hain.addr, hain.d, hain.n, Sl.of_own o3, fun _ j hj => ⟨fun e => ?_, hlo3 j hj⟩, by show b.length ≤ _; omega, hain.ps.ch pl3.ch fun _ _ e => e, fun h0 j hj => ⟨fun e => ?_, ?_⟩, by show ps.length ≤ _; omega, hain.pr⟩
      · have := fr3 j hj
        have := pl'.ltU j (e.imp id .inr)
        omega
      · have := hain.plt j h0 hj
        have := pl'.ge j (.inl (e.imp id .inr))
        omega
      · have := hain.plt j h0 hj
        exact Nat.lt_of_lt_of_le this pl3.ch.size
    refine v_draw' [(0, none), (1, none), (2, none), (3, none), (4, none), (5, none), (6, some []), (7, none), (8, none), (9, none), (10, none), (11, none)] (by kernel_rfl) (by kernel_rfl) ?_
    simp [go_sem, f5, f7, d0, hkk2, hkki, cX3]
    refine (does_any (pl3.sc.ch (Ch.refl Nw u3).drew (fun _ _ e => e) id) ⟨dd, k, addr, .slice A3 b.length p3, b, short, nn, .slice A2 ps.length c2', ps⟩ hfu hc100 gC'.2 (hA'.ch (Ch.refl Nw u3).drew)).mono ?_
    rintro _ u4 ⟨rfl, s4, k4⟩
    obtain ⟨w1', w2', w3', w4'⟩ := acD_v N a0 (.slice A3 b.length p3) C' P
    rw [← ha0] at w1' w2' w3' w4'
    dsimp only at w1' w2' w3' w4'
    rw [w1', w2'] at s4
    rw [w3', w4']
    rw [ha0] at s4 ⊢
    have pl4 := pl3.step1 (P' := acP N a0 C' P) (C' := acD N a0 C' P) s4 (Ch.of_drew k4)
    have d1 := pl4.cell hcw Kw
    obtain ⟨q0, q1, q2, q3, q4, q5, q6⟩ := qs pl4.ch
    have bX4 : u4.heap[X]? = _ := (Ch.of_drew k4).obj b3 fun e => by
      have := pl'.ltU X (e.imp id .inr)
      omega
    have o4 := own_ch o3 (Ch.of_drew k4) fun j hj e => by
      have := fr3 j hj
      have := pl'.ltU j (e.imp id .inr)
      omega
    have hA0 : Ac.At u4 a0 fun j => E' j ∨ j = q := by
      rw [← ha0]
      refine ⟨hain.addr, hain.d, hain.n, hain.sl.ch pl4.ch fun _ _ e => e, fun h0 j hj => ⟨fun e => ?_, ?_⟩, by show b.length ≤ _; omega, hain.ps.ch pl4.ch fun _ _ e => e, fun h0 j hj => ⟨fun e => ?_, ?_⟩, by show ps.length ≤ _; omega, hain.pr⟩
      · have := hain.lt j h0 hj
        have := pl'.ge j (.inr (e.imp id .inr))
        omega
      · have := hain.lt j h0 hj
        exact Nat.lt_of_lt_of_le this pl4.ch.size
      · have := hain.plt j h0 hj
        have := pl'.ge j (.inr (e.imp id .inr))
        omega
      · have := hain.plt j h0 hj
        exact Nat.lt_of_lt_of_le this pl4.ch.size
    simp [go_sem]
    refine v_draw' [(0, none), (1, none), (2, none), (3, none), (4, none), (5, none), (6, none), (7, none), (8, some []), (9, none), (10, none), (11, none), (12, none), (13, none)] (by kernel_rfl) (by kernel_rfl) ?_
    simp [go_sem, f1, f8, f12, d1, hlt, hkk2, hkki, q0, q1, q2, q3, q4, q5, q6]
    have hsay := says_any (pl4.rc.ch (Ch.refl Nw u4).drew (fun _ _ e => e) id) a0 hfu hc100 gC'.2 (hA0.ch (Ch.refl Nw u4).drew)
    rw [← ha0] at hsay
    refine hsay.mono ?_
    rintro _ u5 ⟨rfl, s5, k5⟩
    rw [ha0] at s5 ⊢
    have pl5 := pl4.step2 (P' := acP N a0 C' P) (C' := acD N a0 C' P) s5 (Ch.of_drew k5)
    have hfu5 : (acP N a0 C' P).fuse ≤ 9223372036854775807 := acP_fuse hfu a0 (by rw [← ha0]; exact hain.n.2)
    have g5 : Good (acD N a0 C' P) (i + 1) := acD_good gC' a0 (by rw [← ha0]; exact hain.addr) P
    have bX5 : u5.heap[X]? = _ := (Ch.of_drew k5).obj bX4 fun e => by
      have := pl'.ltV X (e.imp id .inr)
      omega
    have o5 := own_ch o4 (Ch.of_drew k5) fun j hj e => by
      have := fr3 j hj
      have := pl'.ltV j (e.imp id .inr)
      omega
    have e4 := k4.size
    have e5 := k5.size
    have e4' : u3.heap.size ≤ u4.heap.size := e4
    have e5' : u4.heap.size ≤ u5.heap.size := e5
    obtain ⟨C2, hC2⟩ : ∃ C2, acD N a0 C' P = C2 := ⟨_, rfl⟩
    obtain ⟨P2, hP2⟩ : ∃ P2, acP N a0 C' P = P2 := ⟨_, rfl⟩
    obtain ⟨T2, hT2⟩ : ∃ T2, acT N a0 C' P = T2 := ⟨_, rfl⟩
    obtain ⟨E2, hE2⟩ : ∃ E2, acE N a0 C' P = E2 := ⟨_, rfl⟩
    rw [hC2, hP2] at pl5
    rw [hC2] at g5
    rw [hP2] at hfu5
    rw [hT2, hE2]
    -- two sets that the copy is not of
    have away : ∀ j, (j = X ∨ (Value.slice A3 b.length p3).ownBlock = some j) → ¬ (Gr A' u3 u4 j ∨ B' j ∨ j = p) ∧ ¬ (Gr E' u4 u5 j ∨ F' j ∨ j = q) ∧ ¬ K j ∧ W.heap.size ≤ j := by
      intro j hj
      have hj1 : u.heap.size ≤ j := by
        rcases hj with hj | hj
        · omega
        · have := fr3 j hj; omega
      have hj2 : j < u3.heap.size := by
        rcases hj with hj | hj
        · rw [hj]; exact lt_of_block b3
        · exact hlo3 j hj
      refine ⟨fun e => ?_, fun e => ?_, fun e => ?_, ?_⟩
      · rcases e with (e | e) | e
        · have := pl'.ltU j (.inl e); omega
        · have : u3.heap.size ≤ j := e.1; omega
        · have := pl'.ltU j (.inr e); omega
      · rcases e with (e | e) | e
        · have := pl'.ltV j (.inl e); omega
        · have : u4.heap.size ≤ j := e.1; omega
        · have := pl'.ltV j (.inr e); omega
      · have := (pl'.kp j e).2.2
        have := pl'.ck.size
        omega
      · have := pl'.ch.size
        omega
    generalize Gr A' u3 u4 = A2' at *
    generalize Gr E' u4 u5 = E2' at *
    clear hsay hA0 hA' pl4 pl3 pl1 s4 s5
    have d0 := pl5.cell hcd Kd
    have d1 := pl5.cell hcw Kw
    have p0 : u5.cell? ⟨q, 0, none⟩ = some (.bool P2.off) := cell_blk pl5.rc.pw 0
    simp [go_sem]
    refine v_draw' [(0, none), (1, none), (2, none), (3, none), (4, none), (5, none), (6, none), (7, none), (8, none), (9, none), (11, none), (12, none), (13, none), (14, none), (10, some [11, 12, 13, 14]), (15, none), (16, none), (17, none), (18, none), (19, none), (20, none), (21, none), (22, none), (23, none), (24, none), (25, none), (26, some []), (27, none), (28, none)] (by kernel_rfl) (by kernel_rfl) ?_
    simp [go_sem, f5, f6, p0]
    refine (is_any p P2.off P2.fuse u5.drew pl5.sc.pw).mono ?_
    rintro _ x ⟨rfl, hx⟩
    subst x
    simp [go_sem, f6, f7, f8, d0, d1, p0, hkk2, hkki]
    have pl5d := pl5.stay (Ch.refl Nw u5).drew
    refine (alike_any pl5d.sc pl5d.rc (by omega) (by have := g5.1; omega)).mono ?_
    rintro _ u6 ⟨rfl, k6⟩
    have k6 := Ch.of_drew k6
    have pl6 := pl5.stay k6
    have bX6 := k6.obj bX5 id
    have o6 := own_ch o5 k6 fun _ _ e => e
    simp [go_sem]
    refine v_loop (fun t f u => ∃ j, t = b.length - j ∧ j ≤ b.length ∧ f 19 = .int .i64 j ∧ f 14 = .pointer (some ⟨X, 0, none⟩) ∧ f 12 = .int .i64 i ∧ f 0 = .int .u8 N ∧ f 1 = .slice (some ⟨ab, off, none⟩) L.length cp ∧ f 5 = .pointer (some ⟨p, 0, none⟩) ∧ f 6 = .pointer (some ⟨q, 0, none⟩) ∧ f 7 = .slice (some ⟨gd, 0, none⟩) 2 capd ∧ f 8 = .slice (some ⟨gw, 0, none⟩) 2 capw ∧
        Pl W w0 u K c' d' r' s' p q N C2 D' C2 D' P2 P2 A2' B' E2' F' ∧ u.heap[X]? = some (.cells #[.int .u8 dd, .int .u8 k, .int .u16 addr, .slice A3 b.length p3, .bool short, .int .i64 nn, .slice A2 ps.length c2'] 62 (0, 0)) ∧ ∃ l : List Value, u.ownsRow 0 5 1 (.slice A3 b.length p3) b.length l) b.length
      ⟨0, rfl, by omega, by simp, by simp, by simp [f12], by simp [f0], by simp [f1], by simp [f5], by simp [f6], by simp [f7], by simp [f8], pl6, bX6, _, o6⟩ ?_
    clear pl5 pl5d pl6 bX2 bX4 bX5 bX6 o2 o3 o4 o5 o6 cX2 cX3 fX2
    rintro J2 hJ2 _ f u ⟨j, rfl, hj, f19, f14, f12, f0, f1, f5, f6, f7, f8, pl6, bX6, l, o6⟩
    have cX6 := fun j => cell_blk bX6 j
    by_cases hjl : j < b.length
    · have hjj : (j : Int) < b.length := by omega
      have hwj : IntKind.i64.wrap ((j : Int) + 1) = ((j + 1 : Nat) : Int) := by rw [IntKind.wrap_i64]; omega
      obtain ⟨g, cg, curg, hg, hn, hm, hbg, hsz, hrg⟩ := ownS_blk o6 (by omega)
      cases hg
      have hcell := hrg j _ (List.getElem?_eq_getElem (l := l) (i := j) (by have := o6.1; omega))
      have fzg := frz_blk hbg j
      have aw := away g (.inr rfl)
      have cset : Ch (one g) u (u.setCell ⟨g, j, none⟩ (.int .u8 99)) := (Ch.refl (one g) u).setCell (p := ⟨g, j, none⟩) (.inl rfl) _
      have hgX : ¬ X = g := fun e => by
        subst e
        rw [hbg] at bX6
        cases bX6
      have pl7 := pl6.other cset fun x hx => by simp only [one] at hx; subst hx; exact aw
      have bX7 := cset.obj bX6 hgX
      have o7 := own_setG o6 j (.int .u8 99)
      simp [go_sem, f14, f19, cX6, hjj, hjl, hcell, fzg, hwj]
      exact Rnd.intro (b.length - (j + 1)) (by omega) (hJ2 _ _ _ ⟨j + 1, rfl, by omega, by simp, by simp [f14], by simp [f12], by simp [f0], by simp [f1], by simp [f5], by simp [f6], by simp [f7], by simp [f8], pl7, bX7, _, o7⟩)
    · obtain rfl : j = b.length := by omega
      simp [go_sem, f12, f14, f19, cX6, hwi]
      exact Rnd.intro (L.length - (i + 1)) (by omega) (hJ _ _ _ ⟨i + 1, rfl, by omega, by simp, by simp [f0], by simp [f1], by simp [f5], by simp [f6], by simp [f7], by simp [f8], back _ _ _ _ _ pl6 g5 hfu5⟩)
  · obtain rfl : i = L.length := by omega
    have d0 := pl.cell hd0 Kd
    have d1 := pl.cell hd1 Kd
    have w0' := pl.cell hw0 Kw
    have w1' := pl.cell hw1 Kw
    simp [go_sem, f1, f12, hlA]
    refine v_draw' [(0, none), (1, none), (2, none), (3, none), (4, none), (5, none), (6, some []), (7, none), (8, none), (9, none), (10, none), (11, none), (12, none), (13, none), (14, some []), (15, none), (16, none), (17, some []), (18, none), (19, none)] (by kernel_rfl) (by kernel_rfl) ?_
    simp [go_sem, f7, f8, d0, w0']
    have pld := pl.stay (Ch.refl Nw u).drew
    refine (alike_any pld.sc pld.rc (by omega) (by have := gC.1; omega)).mono ?_
    rintro _ u6 ⟨rfl, k6⟩
    have pl6 := pl.stay (Ch.of_drew k6)
    have d1 := pl6.cell hd1 Kd
    have w1' := pl6.cell hw1 Kw
    simp [go_sem, f7, f8, d1, w1']
    refine (alike_any pl6.sd pl6.rd (by omega) (by have := gD.1; omega)).mono ?_
    rintro _ u7 ⟨rfl, k7⟩
    have pl7 := pl6.stay k7
    simp [go_sem]
    refine (wakes_any u7).mono ?_
    rintro _ u8 ⟨rfl, k8⟩
    simp [go_sem]
    exact hR _ _ ⟨rfl, pl7.ch.trans k8⟩
end Go.Proofs.Ytmhnlgndgdmebaa
