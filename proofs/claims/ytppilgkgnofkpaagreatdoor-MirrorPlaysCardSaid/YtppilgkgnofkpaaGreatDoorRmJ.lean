/- MirrorPlays, walked. Conditions: the variables sha.constants and ptr.wide hold what the text lays; the arguments lie in the world. -/
import Derived.Test.YtppilgkgnofkpaaGreatDoorRmI
import Derived.Test.YtppilgkgnofkpaaGreatDoorMrW
import Derived.Test.YtppilgkgnofkpaaGreatDoorMrX
set_option linter.unusedSimpArgs false
set_option linter.unusedVariables false

namespace Go.Proofs.YtppilgkgnofkpaaGreatDoor
open Go.RowKit Go.Kin

theorem zc_mir : zc Tryz.prog 45 = mr0 := by kernel_rfl
theorem bld_mir0 {w : World} {K : Value → World → Prop} : VBld Tryz.prog 45 [] w K = K (.agg mr0) w :=
  VBld_struct Tryz.underlying45 (by kernel_rfl) (places := #[(0, 2), (2, 2), (4, 2), (6, 2), (8, 1)]) (by simp [go_sem]) (by simp [fillB, zc_mir])
theorem zc_rdk : zc Tryz.prog 49 = #[.int .i64 0, .pointer none, .slice none 0 0, .slice none 0 0, .slice none 0 0, .slice none 0 0, .bool false, .bool false, .slice none 0 0] := by kernel_rfl
theorem bld_rdk {w : World} {K : Value → World → Prop} (N Q : Nat) : VBld Tryz.prog 49 [(0, .int .i64 N), (1, .pointer (some ⟨Q, 0, none⟩))] w K = K (.agg (rcs N Q rz Dk.new)) w :=
  VBld_struct Tryz.underlying49 (by kernel_rfl) (places := #[(0, 1), (1, 1), (2, 1), (3, 1), (4, 1), (5, 1), (6, 1), (7, 1), (8, 1)]) (by simp [go_sem]) (by simp [fillB, zc_rdk, Value.cells, rcs, rz, Dk.new, blit])
theorem zc_rsk : zc Tryz.prog 51 = sks 0 (.slice none 0 0) := by kernel_rfl
theorem bld_rsk {w : World} {K : Value → World → Prop} (N : Nat) : VBld Tryz.prog 51 [(0, .int .i64 N)] w K = K (.agg (sks N (.slice none 0 0))) w :=
  VBld_struct Tryz.underlying51 (by kernel_rfl) (places := #[(0, 1), (1, 1), (2, 1), (3, 1)]) (by simp [go_sem]) (by simp [fillB, zc_rsk, Value.cells, sks, blit])
set_option maxRecDepth 100000 in
set_option maxHeartbeats 8000000 in
theorem mplays_any (N : Nat) (hN : N < 256) (va : Value) (L : List Am) (W : World) (ha : Lst W va amL 51 L) (hin : ∀ a ∈ L, a.In W) (hw : Lw W) (hk : Lk W) :
    Ret Tryz.prog 3 #[.int .u8 N, va] W fun v' w' => v' = .bool true ∧ Ch Nw W w' := by
  refine v_enter Tryz.func3 Tryz.ntmps3 rfl (by simp) fun R' hR => ?_
  obtain ⟨A0, c0, hva, _⟩ := id ha
  have hlA := ha.len Tryz.underlying22 3
  simp [go_sem]
  have wake : ∀ (u : World) {K : Value → World → Prop}, Ch Nw W u → (∀ u', Ch Nw W u' → K (.bool true) u') → Ret Tryz.prog 6 #[] u K := fun u K hc hK => (mrwakes_any u (hw.ch hc id) (hk.ch hc id)).mono fun v w' hh => by
    rw [hh.1]
    exact hK _ (hc.trans hh.2)
  refine (mgreat_any va L W ha hin).mono ?_
  rintro _ w1 ⟨g, rfl, hg, c1⟩
  cases g with
  | true =>
    simp [go_sem]
    exact wake _ c1 fun u hu => by
      simp [go_sem]
      exact hR _ _ ⟨rfl, hu⟩
  | false =>
  obtain ⟨hL60, hsm⟩ := hg rfl
  by_cases h1 : N < 1
  · have h1i : (N : Int) < 1 := by omega
    simp [go_sem, h1, h1i]
    exact wake _ c1 fun u hu => by
      simp [go_sem]
      exact hR _ _ ⟨rfl, hu⟩
  have h1i : ¬ (N : Int) < 1 := by omega
  by_cases h12 : 12 < N
  · have h12i : (12 : Int) < N := by omega
    simp [go_sem, h1, h1i, h12, h12i]
    exact wake _ c1 fun u hu => by
      simp [go_sem]
      exact hR _ _ ⟨rfl, hu⟩
  have h12i : ¬ (12 : Int) < N := by omega
  have hwN : IntKind.i64.wrap (N : Int) = N := by rw [IntKind.wrap_i64]; omega
  simp [go_sem, h1, h1i, h12, h12i, hwN]
  refine (begun_any N w1 (by omega) (by omega)).mono ?_
  rintro _ w2 ⟨x, p, m, z, rfl, hpr, c2⟩
  have cw2 := c1.trans c2
  have x4 : w2.cell? ⟨x, 4, none⟩ = some (.pointer (some ⟨m, 0, none⟩)) := hpr.cell 4
  obtain ⟨Q, hQ⟩ : ∃ Q, w2.heap.size = Q := ⟨_, rfl⟩
  simp [go_sem, x4, bld_mir0]
  rw [hQ]
  refine v_loop (fun r f u => ∃ i, r = 2 - i ∧ i ≤ 2 ∧ f 0 = .int .u8 N ∧ f 1 = va ∧ f 5 = .pointer (some ⟨x, 0, none⟩) ∧ f 6 = .pointer (some ⟨Q, 0, none⟩) ∧ f 7 = .pointer (some ⟨Q + 1, 0, none⟩) ∧ f 8 = .int .i64 i ∧ u = mkW N w2 i) 2
    ⟨0, rfl, by omega, by simp, by simp, by simp, by simp, by simp, by simp, rfl⟩ ?_
  rintro J hJ _ f u ⟨i, rfl, hi, f0, f1, f5, f6, f7, f8, rfl⟩
  by_cases hlt : i < 2
  · have hii : (i : Int) < 2 := by omega
    have hwi : IntKind.i64.wrap ((i : Int) + 1) = ((i + 1 : Nat) : Int) := by rw [IntKind.wrap_i64]; omega
    obtain ⟨⟨cs, hb, hcs⟩, hpw⟩ := mkW_blk N (by omega) w2 i
    rw [hQ] at hb
    obtain ⟨V, hV⟩ : ∃ V, mkW N w2 i = V := ⟨_, rfl⟩
    rw [hV] at hb ⊢
    obtain ⟨v1, hv1⟩ : ∃ v, cs[i]? = some v := ⟨_, Array.getElem?_eq_getElem (by omega)⟩
    have b1 := ((Ch.refl Nw V).alloc (.cells (rcs N Q rz Dk.new) 49)).obj hb id
    have d1 := (cell_blk b1 i).trans hv1
    have z1 := frz_blk b1 i
    have b2 : (((V.alloc (.cells (rcs N Q rz Dk.new) 49)).setCell ⟨Q + 1, i, none⟩ (.pointer (some ⟨V.heap.size, 0, none⟩))).alloc (.cells #[.int .i64 N, .slice none 0 0, .slice none 0 0, .slice none 0 0] 51)).heap[Q + 1]? = some (.cells (cs.setIfInBounds i (.pointer (some ⟨V.heap.size, 0, none⟩))) 45 (0, 0)) :=
      ((Ch.refl Nw _).alloc _).obj (by rw [hp_setCell, b1, setOf_cells]) id
    obtain ⟨v2, hv2⟩ : ∃ v, (cs.setIfInBounds i (.pointer (some ⟨V.heap.size, 0, none⟩)))[2 + i]? = some v := ⟨_, Array.getElem?_eq_getElem (by simp; omega)⟩
    have d2 := (cell_blk b2 (2 + i)).trans hv2
    have z2 := frz_blk b2 (2 + i)
    simp [go_sem, f0, f6, f7, f8, hii, hlt, hwN, bld_rdk, bld_rsk, d1, z1, d2, z2, hwi]
    exact Rnd.intro (2 - (i + 1)) (by omega) (hJ _ _ _ ⟨i + 1, rfl, by omega, by simp [f0], by simp [f1], by simp [f5], by simp [f6], by simp [f7], by simp, by show _ = mkS N w2.heap.size (w2.heap.size + 1) (mkW N w2 i) i; rw [hQ, hV]; rfl⟩)
  · obtain rfl : i = 2 := by omega
    simp [go_sem, f8]
    obtain ⟨hrm, c3⟩ := rm_new N (by omega) w2
    rw [hQ] at hrm
    obtain ⟨w3, hw3⟩ : ∃ w3, mkW N w2 2 = w3 := ⟨_, rfl⟩
    rw [hw3] at hrm c3 ⊢
    have cw3 := cw2.trans c3
    have hpr3 := hpr.ch c3 fun _ _ e => e
    have s1 := c1.size
    have s2 := c2.size
    have s3 := c3.size
    have h5 : SepL [] w3 fun _ => False := fun _ e => e.elim
    have h4 := h5.cons hrm (RmAt.ok ..) fun _ _ e => e
    have h3 : SepL (Two x p m N z (Q + 1) Q (dN Q) (eN Q) Mr.new Mr.new) w3 _ := h4.cons (H := fun w O => PrAt w x p m N z Mr.new O) hpr3 PrAt.ok fun k hk e => by simp at e; omega
    have kp3 := Keep.of h3 (W := W) (fun k hk => by simp at hk; omega) cw3
    obtain ⟨K, hK⟩ : ∃ K : Nat → Prop, (∀ k, k < w1.heap.size → K k) ∧ Keep W w3 w3 K (SepL (Two x p m N z (Q + 1) Q (dN Q) (eN Q) Mr.new Mr.new)) := ⟨_, fun k hk => ⟨by omega, fun e => by simp at e; omega⟩, kp3⟩
    obtain ⟨KW, kp3⟩ := hK
    have Kc : K 1 := KW _ (by have := hk.lt; omega)
    clear h3 h4 h5 hpr3 hrm hpr
    subst hva
    refine v_loop (fun r f u => ∃ k s, r = L.length - k ∧ k ≤ L.length ∧ f 0 = .int .u8 N ∧ f 1 = .slice A0 L.length c0 ∧ f 5 = .pointer (some ⟨x, 0, none⟩) ∧ f 7 = .pointer (some ⟨Q + 1, 0, none⟩) ∧ f 9 = .int .i64 k ∧ Keep W w3 u K (SepL (Two x p m N z (Q + 1) Q (dN Q) (eN Q) s s)) ∧ s.Fine (8 * k)) L.length
      ⟨0, Mr.new, rfl, Nat.zero_le _, by simp [f0], by simp [f1], by simp [f5], by simp [f7], by simp, kp3, Mr.Fine.new _⟩ ?_
    rintro J2 hJ2 _ f u ⟨k, s, rfl, hk1, f0, f1, f5, f7, f9, kp, fine⟩
    by_cases hlt : k < L.length
    · have hlti : (k : Int) < L.length := by omega
      have hwk : IntKind.i64.wrap ((k : Int) + 1) = ((k + 1 : Nat) : Int) := by rw [IntKind.wrap_i64]; omega
      obtain ⟨e, he⟩ : ∃ e, L[k]? = some e := ⟨_, List.getElem?_eq_getElem hlt⟩
      have hmem := List.mem_of_getElem? he
      have hine := hin e hmem
      have hsme := hsm e hmem
      have oke := hine.ok
      have hes := amv_size oke
      obtain ⟨b, off, c, cs, T, fr, hA0, hbw, hex, hcs⟩ := lst_big ha (fun y hy => (hin y hy).ok) he
      injection hA0 with hA0 _ hc0
      subst hA0 hc0
      have hbu := kp.ch.obj hbw id
      have hcu := kp.ch
      have hku := hk.ch hcu id
      have hwu := hw.ch hcu id
      simp [go_sem, f1, f9, hlA, hlti, hlt, hbu, hex, hcs]
      refine (sealed_any e u oke ((hine.ch hcu).sl) (by have := hsme.1; omega)).mono ?_
      rintro _ w5 ⟨v5, rfl, m5, c5, f5'⟩
      obtain ⟨q, hq⟩ : ∃ q, e.ptr = q := ⟨_, rfl⟩
      have okq : PtOk q := by rw [← hq]; exact Am.ptr_ok oke
      have hps := pt_size okq
      have hpa := pt_all okq
      have hzs := pt_size ptz_ok
      rw [hq]
      have c6 := (Ch.refl Nw w5).alloc (.cells (pt q) 58)
      have b6 := hp_alloc w5 (.cells (pt q) 58)
      obtain ⟨g9, hg9⟩ : ∃ g, w5.heap.size = g := ⟨_, rfl⟩
      have u5 : ∀ j, v5.ownBlock = some j → u.heap.size ≤ j ∧ j < g9 := fun j hj => ⟨f5' j hj, by rw [← hg9]; exact own_blt m5 j hj⟩
      obtain ⟨Au, cu, hv5⟩ : ∃ A c, v5 = .slice A 512 c := by
        rcases m5.2 with ⟨hv, h0⟩ | ⟨g, cap, cur, hv, _⟩
        · exact absurd h0 (by decide)
        · exact ⟨_, _, hv⟩
      have m6 := own_ch m5 c6 fun _ _ e => e
      simp [go_sem, hz_pt, zc_pt, hps, hpa, hzs, blit_whole]
      rw [hg9] at b6 ⊢
      have cu6 : Ch Nw u (w5.alloc (.cells (pt q) 58)) := c5.trans c6
      have l9 := lt_of_block b6
      have l9' : u.heap.size ≤ g9 := by rw [← hg9]; exact c5.size
      clear c6
      revert b6 cu6 l9 m6
      generalize w5.alloc (.cells (pt q) 58) = w6
      intro b6 m6 cu6 l9
      have kp6 := kp.more (SepL.ok Two.ok) cu6
      have back : ∀ {w' : World} {s' : Mr}, Keep W w6 w' (fun k => K k ∨ (u.heap.size ≤ k ∧ k < w6.heap.size)) (SepL (Two x p m N z (Q + 1) Q (dN Q) (eN Q) s' s')) → Keep W w3 w' K (SepL (Two x p m N z (Q + 1) Q (dN Q) (eN Q) s' s')) := fun h => h.back (kp.ck.trans (cu6.mono fun _ _ e => e.elim)) (fun k => .inl) kp.lt
      have K9 : K g9 ∨ (u.heap.size ≤ g9 ∧ g9 < w6.heap.size) := .inr ⟨l9', l9⟩
      have K5 : ∀ j, v5.ownBlock = some j → K j ∨ (u.heap.size ≤ j ∧ j < w6.heap.size) := fun j hj => .inr ⟨(u5 j hj).1, by have := (u5 j hj).2; omega⟩
      have hw6 := hw.ch kp6.ch id
      have hk6 := hk.ch kp6.ch id
      have hine6 := hine.ch kp6.ch
      have bu6 := kp6.ch.obj hbw id
      have hcd : w6.cell? ⟨b, off + k * 51, none⟩ = some (.int .u8 e.d) := by
        rw [cell_blk bu6]
        have h0 := amv_0 e
        rw [← hex, Array.getElem?_extract, if_pos (by omega)] at h0
        exact h0
      have Kg := fun {O : Nat → Prop} (hK : ∀ k, (K k ∨ (u.heap.size ≤ k ∧ k < w6.heap.size)) → ¬ O k) => hK _ (.inl Kc)
      obtain ⟨O6, h6, hO6, hK6⟩ := kp6.ex
      obtain ⟨Op6, hp6⟩ := Two.pr h6
      have x4u : w6.cell? ⟨x, 4, none⟩ = some (.pointer (some ⟨m, 0, none⟩)) := hp6.cell 4
      have kp6d : Keep W w6 w6.drew _ _ := kp6.stay (SepL.ok Two.ok) (Ch.refl Nw w6).drew
      have hN4 : N ≤ 4096 := by omega
      have nxt : ∀ (f' : Nat → Value) (w9 w10 : World) (s' : Mr), f' 0 = f 0 → f' 1 = f 1 → f' 5 = f 5 → f' 7 = f 7 → f' 9 = .int .i64 ((k + 1 : Nat) : Int) → Keep W w6 w9 (fun k => K k ∨ (u.heap.size ≤ k ∧ k < w6.heap.size)) (SepL (Two x p m N z (Q + 1) Q (dN Q) (eN Q) s' s')) → s'.Fine (8 * (k + 1)) → Ch Nw w9 w10 → J2 (L.length - (k + 1)) f' w10 := fun f' w9 w10 s' e0 e1 e5 e7 e9 hkp hf hc => hJ2 _ _ _ ⟨k + 1, s', rfl, by omega, by rw [e0, f0], by rw [e1, f1], by rw [e5, f5], by rw [e7, f7], e9, (back hkp).stay (SepL.ok Two.ok) hc, hf⟩
      clear hJ2
      simp [go_sem, f1, f9, hlti, hlt, hcd]
      obtain ⟨dd, hdd⟩ : ∃ dd, e.d = dd := ⟨_, rfl⟩
      have hcases : dd = 0 ∨ dd = 1 ∨ dd = 2 ∨ dd = 3 ∨ dd = 4 ∨ ∃ k, dd = k + 5 := by
        rcases Nat.lt_or_ge dd 5 with h | h
        · omega
        · exact .inr (.inr (.inr (.inr (.inr ⟨dd - 5, by omega⟩))))
      rw [hdd] at hcd ⊢
      rcases hcases with rfl | rfl | rfl | rfl | rfl | ⟨d5, rfl⟩
      · have hact : (s.act N e).1 = (s.heal N q false).1 := by unfold Mr.act; rw [hdd, hq] <;> rfl
        simp [go_sem]
        refine v_draw' [(0, none), (1, none), (2, none), (3, none), (4, none), (5, some []), (6, none), (7, none), (8, none), (9, none), (10, none)] (by kernel_rfl) (by kernel_rfl) ?_
        simp [go_sem, f5, x4u, b6, hps, hpa]
        have h6d := Two.ch h6 (Ch.refl Nw w6).drew fun _ _ e => e
        refine (two_read h6d q okq hw6 hk6 fine (by omega) hN4 (hK6 _ (.inl Kc))).mono ?_
        rintro _ w8 ⟨u8, rfl, c8, hheal⟩
        have c8' : Ch O6 w6 w8 := Ch.of_drew c8
        have b8 := c8'.obj b6 (hK6 _ K9)
        simp [go_sem, f7, b8, hps, hpa]
        refine hheal.mono ?_
        rintro _ w9 ⟨rfl, sl9, p9, c9⟩
        have c9 : Ch O6 w6 w9 := Ch.of_drew c9
        have hst := sl9.str (P := Tryz.prog) rfl Tryz.underlying59 Tryz.underlying5 Tryz.underlying9
        have kp9 := kp6.to hO6 hK6 p9 (fun k hk => hk.imp id fun e => e.1) c9
        simp [go_sem, hst]
        simp [go_sem, f5, f7]
        have kp9 : Keep W w6 w9 (fun k => K k ∨ (u.heap.size ≤ k ∧ k < w6.heap.size)) (SepL (Two x p m N z (Q + 1) Q (dN Q) (eN Q) (s.heal N q false).1 (s.heal N q false).1)) := kp9
        have fine9 : ((s.heal N q false).1).Fine (8 * (k + 1)) := by
          have h1 := (fine.act (n := N) e hine.ac.addr hine.ac.n.2).mono (c' := 8 * (k + 1)) (by omega)
          rw [hact] at h1
          exact h1
        obtain ⟨O9, h9, _⟩ := kp9.ex
        obtain ⟨Op, hp⟩ := Two.pr h9
        obtain ⟨Or, hr⟩ := Two.rm h9
        refine (same_any hp hr hN4 fine9 (by omega)).mono ?_
        rintro _ w10 ⟨rfl, c10⟩
        simp [go_sem, f9, hwk]
        exact Rnd.intro (L.length - (k + 1)) (by omega) (nxt _ _ _ _ (by simp) (by simp) (by simp) (by simp) (by simp) kp9 fine9 c10)
      · have hact : (s.act N e).1 = (s.heal N q true).1 := by unfold Mr.act; rw [hdd, hq] <;> rfl
        simp [go_sem]
        refine v_draw' [(0, none), (1, none), (2, none), (3, none), (4, none), (5, some []), (6, none)] (by kernel_rfl) (by kernel_rfl) ?_
        simp [go_sem, f5, x4u, b6, hps, hpa]
        refine (kp6d.step (R := fun v' _ => v' = .int .i64 (s.heal N q true).2.2) (H' := SepL (Two x p m N z (Q + 1) Q (dN Q) (eN Q) (s.heal N q true).1 s)) fun O h hO hK => Two.stepP h fun O1 h1 hO1 => h1.step fun O2 h2 h3 => (check_m h2 q okq hw6 hk6 fine (by omega) fun e => hK _ (.inl Kc) (hO1 _ (h3 _ e))).mono fun v w' hh => ⟨hh.1, hh.2.1, hh.2.2⟩).mono ?_
        rintro _ w8 ⟨rfl, kp8⟩
        have b8 := kp8.blk K9 b6
        simp [go_sem, f7, b8, hps, hpa]
        refine (kp8.step (R := fun v' _ => v' = .tuple #[.string ⟨(s.heal N q true).2.1.toArray⟩, .int .i64 (s.heal N q true).2.2]) (H' := SepL (Two x p m N z (Q + 1) Q (dN Q) (eN Q) (s.heal N q true).1 (s.heal N q true).1)) fun O h hO hK => Two.stepR h fun O1 h1 hO1 => (rheal_any h1 q okq true fine (by omega) hN4).mono fun v w' hh => ⟨hh.1, hh.2.1, hh.2.2⟩).mono ?_
        rintro _ w9 ⟨rfl, kp9⟩
        simp [go_sem, f5, f7]
        have kp9 : Keep W w6 w9 (fun k => K k ∨ (u.heap.size ≤ k ∧ k < w6.heap.size)) (SepL (Two x p m N z (Q + 1) Q (dN Q) (eN Q) (s.heal N q true).1 (s.heal N q true).1)) := kp9
        have fine9 : ((s.heal N q true).1).Fine (8 * (k + 1)) := by
          have h1 := (fine.act (n := N) e hine.ac.addr hine.ac.n.2).mono (c' := 8 * (k + 1)) (by omega)
          rw [hact] at h1
          exact h1
        obtain ⟨O9, h9, _⟩ := kp9.ex
        obtain ⟨Op, hp⟩ := Two.pr h9
        obtain ⟨Or, hr⟩ := Two.rm h9
        refine (same_any hp hr hN4 fine9 (by omega)).mono ?_
        rintro _ w10 ⟨rfl, c10⟩
        simp [go_sem, f9, hwk]
        exact Rnd.intro (L.length - (k + 1)) (by omega) (nxt _ _ _ _ (by simp) (by simp) (by simp) (by simp) (by simp) kp9 fine9 c10)
      · have hact : (s.act N e).1 = (s.write N q (fullB e.b)).1 := by unfold Mr.act; rw [hdd, hq] <;> rfl
        simp [go_sem]
        refine v_draw' [(0, none), (1, none), (2, none), (3, none), (4, none), (5, none), (6, some []), (7, none)] (by kernel_rfl) (by kernel_rfl) ?_
        simp [go_sem, f5, x4u, b6, hps, hpa]
        refine (kp6d.step (R := fun v' _ => v' = .int .i64 (s.write N q (fullB e.b)).2) (H' := SepL (Two x p m N z (Q + 1) Q (dN Q) (eN Q) (s.write N q (fullB e.b)).1 s)) fun O h hO hK => Two.stepP h fun O1 h1 hO1 => h1.step fun O2 h2 h3 => (mwrite_any h2 q okq hw6 hk6 (fullB e.b) v5 (by rw [fullB_len]; exact Sl.of_own m6) (fun j hj => own_blt m6 j hj) (fun _ j hj e => hK j (K5 j hj) (hO1 _ (h3 _ e))) (by rw [fullB_len]; decide) fine (by omega)).mono fun v w' hh => ⟨hh.1, hh.2.1, hh.2.2⟩).mono ?_
        rintro _ w8 ⟨rfl, kp8⟩
        have b8 := kp8.blk K9 b6
        have hst := (Sl.of_own (kp8.own m6 K5)).str (P := Tryz.prog) (fullB_len e.b) Tryz.underlying59 Tryz.underlying5 Tryz.underlying9
        simp [go_sem, f7, b8, hps, hpa, hst]
        refine (kp8.step (R := fun v' _ => v' = .int .i64 (s.write N q (fullB e.b)).2) (H' := SepL (Two x p m N z (Q + 1) Q (dN Q) (eN Q) (s.write N q (fullB e.b)).1 (s.write N q (fullB e.b)).1)) fun O h hO hK => Two.stepR h fun O1 h1 hO1 => (rwrite_any h1 q okq (fullB e.b) (by rw [fullB_len]; decide) fine (by omega)).mono fun v w' hh => ⟨hh.1, hh.2.1, hh.2.2⟩).mono ?_
        rintro _ w9 ⟨rfl, kp9⟩
        simp [go_sem, f5, f7]
        have kp9 : Keep W w6 w9 (fun k => K k ∨ (u.heap.size ≤ k ∧ k < w6.heap.size)) (SepL (Two x p m N z (Q + 1) Q (dN Q) (eN Q) (s.write N q (fullB e.b)).1 (s.write N q (fullB e.b)).1)) := kp9
        have fine9 : ((s.write N q (fullB e.b)).1).Fine (8 * (k + 1)) := by
          have h1 := (fine.act (n := N) e hine.ac.addr hine.ac.n.2).mono (c' := 8 * (k + 1)) (by omega)
          rw [hact] at h1
          exact h1
        obtain ⟨O9, h9, _⟩ := kp9.ex
        obtain ⟨Op, hp⟩ := Two.pr h9
        obtain ⟨Or, hr⟩ := Two.rm h9
        refine (same_any hp hr hN4 fine9 (by omega)).mono ?_
        rintro _ w10 ⟨rfl, c10⟩
        simp [go_sem, f9, hwk]
        exact Rnd.intro (L.length - (k + 1)) (by omega) (nxt _ _ _ _ (by simp) (by simp) (by simp) (by simp) (by simp) kp9 fine9 c10)
      · have hact : (s.act N e).1 = s.flush.1 := by unfold Mr.act; rw [hdd] <;> rfl
        simp [go_sem, f5, x4u]
        refine (kp6.step (R := fun v' _ => v' = .int .i64 s.flush.2) (H' := SepL (Two x p m N z (Q + 1) Q (dN Q) (eN Q) s.flush.1 s)) fun O h hO hK => Two.stepP h fun O1 h1 hO1 => h1.step fun O2 h2 h3 => (mflush_any h2 fine (by omega)).mono fun v w' hh => ⟨hh.1, hh.2.1, hh.2.2⟩).mono ?_
        rintro _ w8 ⟨rfl, kp8⟩
        simp [go_sem, f7]
        refine (kp8.step (R := fun v' _ => v' = .int .i64 s.flush.2) (H' := SepL (Two x p m N z (Q + 1) Q (dN Q) (eN Q) s.flush.1 s.flush.1)) fun O h hO hK => Two.stepR h fun O1 h1 hO1 => (rflush_any h1 fine (by omega)).mono fun v w' hh => ⟨hh.1, hh.2.1, hh.2.2⟩).mono ?_
        rintro _ w9 ⟨rfl, kp9⟩
        simp [go_sem, f5, f7]
        have kp9 : Keep W w6 w9 (fun k => K k ∨ (u.heap.size ≤ k ∧ k < w6.heap.size)) (SepL (Two x p m N z (Q + 1) Q (dN Q) (eN Q) s.flush.1 s.flush.1)) := kp9
        have fine9 : (s.flush.1).Fine (8 * (k + 1)) := by
          have h1 := (fine.act (n := N) e hine.ac.addr hine.ac.n.2).mono (c' := 8 * (k + 1)) (by omega)
          rw [hact] at h1
          exact h1
        obtain ⟨O9, h9, _⟩ := kp9.ex
        obtain ⟨Op, hp⟩ := Two.pr h9
        obtain ⟨Or, hr⟩ := Two.rm h9
        refine (same_any hp hr hN4 fine9 (by omega)).mono ?_
        rintro _ w10 ⟨rfl, c10⟩
        simp [go_sem, f9, hwk]
        exact Rnd.intro (L.length - (k + 1)) (by omega) (nxt _ _ _ _ (by simp) (by simp) (by simp) (by simp) (by simp) kp9 fine9 c10)
      · have hact : (s.act N e).1 = { s with moves := [] } := by unfold Mr.act; rw [hdd] <;> rfl
        simp [go_sem, f5, x4u]
        refine (kp6.step (R := fun v' _ => v' = .tuple #[]) (H' := SepL (Two x p m N z (Q + 1) Q (dN Q) (eN Q) { s with moves := [] } s)) fun O h hO hK => Two.stepP h fun O1 h1 hO1 => h1.step fun O2 h2 h3 => (mclear_any h2).mono fun v w' hh => ⟨hh.1, hh.2.1, hh.2.2⟩).mono ?_
        rintro _ w8 ⟨rfl, kp8⟩
        obtain ⟨O8, h8, hO8, hK8⟩ := kp8.ex
        obtain ⟨Or8, hr8⟩ := Two.rm h8
        obtain ⟨mv8, hb8⟩ := hr8.blk
        have hc8 := cell_blk hb8 8
        have hz8 := frz_blk hb8 8
        simp [rmcs] at hc8
        simp [go_sem, f7, hc8, hz8]
        obtain ⟨p9, k9⟩ := Two.moveR h8 fun O1 h1 _ => h1.clear
        have kp9 := kp8.to hO8 hK8 p9 (fun k hk => hk.imp id fun e => e.1) k9
        revert kp9
        generalize w8.setCell ⟨Q + 1, 8, none⟩ (.slice none 0 0) = w9
        intro kp9
        simp [go_sem, f5, f7]
        have kp9 : Keep W w6 w9 (fun k => K k ∨ (u.heap.size ≤ k ∧ k < w6.heap.size)) (SepL (Two x p m N z (Q + 1) Q (dN Q) (eN Q) { s with moves := [] } { s with moves := [] })) := kp9
        have fine9 : ({ s with moves := [] }).Fine (8 * (k + 1)) := by
          have h1 := (fine.act (n := N) e hine.ac.addr hine.ac.n.2).mono (c' := 8 * (k + 1)) (by omega)
          rw [hact] at h1
          exact h1
        obtain ⟨O9, h9, _⟩ := kp9.ex
        obtain ⟨Op, hp⟩ := Two.pr h9
        obtain ⟨Or, hr⟩ := Two.rm h9
        refine (same_any hp hr hN4 fine9 (by omega)).mono ?_
        rintro _ w10 ⟨rfl, c10⟩
        simp [go_sem, f9, hwk]
        exact Rnd.intro (L.length - (k + 1)) (by omega) (nxt _ _ _ _ (by simp) (by simp) (by simp) (by simp) (by simp) kp9 fine9 c10)
      · have hact : (s.act N e).1 = s.fau N e.ac := by unfold Mr.act; rw [hdd] <;> rfl
        have n0 : (((d5 + 5 : Nat) : Int) == 0) = false := beq_false_of_ne (by omega)
        have n1 : (((d5 + 5 : Nat) : Int) == 1) = false := beq_false_of_ne (by omega)
        have n2 : (((d5 + 5 : Nat) : Int) == 2) = false := beq_false_of_ne (by omega)
        have n3 : (((d5 + 5 : Nat) : Int) == 3) = false := beq_false_of_ne (by omega)
        have n4 : (((d5 + 5 : Nat) : Int) == 4) = false := beq_false_of_ne (by omega)
        generalize hD5 : ((d5 + 5 : Nat) : Int) = D5 at *
        have hexa : cs.extract (off + k * 51 + 44) (off + k * 51 + 44 + 7) = (acv e.ac).toArray := by
          apply Array.ext_getElem?
          intro i
          rw [Array.getElem?_extract]
          by_cases hi : i < 7
          · have h1 := amL_tail oke (2 + i)
            rw [← hex, Array.getElem?_extract, if_pos (by omega)] at h1
            rw [if_pos (by omega), show off + k * 51 + 44 + i = off + k * 51 + (42 + (2 + i)) by omega, h1]
            simp [show 2 + i = i + 1 + 1 by omega]
          · rw [if_neg (by omega), Array.getElem?_eq_none (by simp [acv]; omega)]
        have hc7 : ∀ (i : Nat) v, i < 7 → (acv e.ac)[i]? = some v → w6.cell? ⟨b, off + k * 51 + 44 + i, none⟩ = some v := fun i v hi hv => by
          rw [cell_blk bu6]
          have h0 : (cs.extract (off + k * 51 + 44) (off + k * 51 + 44 + 7))[i]? = some v := by rw [hexa]; simpa using hv
          rw [Array.getElem?_extract, if_pos (by omega)] at h0
          exact h0
        have g0 : w6.cell? ⟨b, off + k * 51 + 44, none⟩ = some (.int .u8 e.ac.d) := hc7 0 _ (by omega) rfl
        have g1 : w6.cell? ⟨b, off + k * 51 + 44 + 1, none⟩ = some (.int .u8 e.ac.k) := hc7 1 _ (by omega) rfl
        have g2 : w6.cell? ⟨b, off + k * 51 + 44 + 2, none⟩ = some (.int .u16 e.ac.addr) := hc7 2 _ (by omega) rfl
        have g3 : w6.cell? ⟨b, off + k * 51 + 44 + 3, none⟩ = some e.ac.v := hc7 3 _ (by omega) rfl
        have g4 : w6.cell? ⟨b, off + k * 51 + 44 + 4, none⟩ = some (.bool e.ac.short) := hc7 4 _ (by omega) rfl
        have g5 : w6.cell? ⟨b, off + k * 51 + 44 + 5, none⟩ = some (.int .i64 e.ac.n) := hc7 5 _ (by omega) rfl
        have g6 : w6.cell? ⟨b, off + k * 51 + 44 + 6, none⟩ = some e.ac.pv := hc7 6 _ (by omega) rfl
        simp [go_sem, n0, n1, n2, n3, n4, f1, f5, f7, f9, hlti, hlt, g0, g1, g2, g3, g4, g5, g6]
        refine (kp6.step (R := fun v' _ => v' = .tuple #[]) (H' := SepL (Two x p m N z (Q + 1) Q (dN Q) (eN Q) (s.fau N e.ac) (s.fau N e.ac))) fun O h hO hK => (faults_any h e.ac ((hine.at' hsme hO).ch kp6.ch).ac hine.ac.k fine (by omega)).mono fun v w' hh => ⟨hh.1, hh.2.1, hh.2.2⟩).mono ?_
        rintro _ w9 ⟨rfl, kp9⟩
        simp [go_sem, f5, f7]
        have kp9 : Keep W w6 w9 (fun k => K k ∨ (u.heap.size ≤ k ∧ k < w6.heap.size)) (SepL (Two x p m N z (Q + 1) Q (dN Q) (eN Q) (s.fau N e.ac) (s.fau N e.ac))) := kp9
        have fine9 : ((s.fau N e.ac)).Fine (8 * (k + 1)) := by
          have h1 := (fine.act (n := N) e hine.ac.addr hine.ac.n.2).mono (c' := 8 * (k + 1)) (by omega)
          rw [hact] at h1
          exact h1
        obtain ⟨O9, h9, _⟩ := kp9.ex
        obtain ⟨Op, hp⟩ := Two.pr h9
        obtain ⟨Or, hr⟩ := Two.rm h9
        refine (same_any hp hr hN4 fine9 (by omega)).mono ?_
        rintro _ w10 ⟨rfl, c10⟩
        simp [go_sem, f9, hwk]
        exact Rnd.intro (L.length - (k + 1)) (by omega) (nxt _ _ _ _ (by simp) (by simp) (by simp) (by simp) (by simp) kp9 fine9 c10)
    · obtain rfl : k = L.length := by omega
      simp [go_sem, f1, f9, hlA]
      exact wake _ kp.ch fun u hu => by
        simp [go_sem]
        exact hR _ _ ⟨rfl, hu⟩
end Go.Proofs.YtppilgkgnofkpaaGreatDoor
