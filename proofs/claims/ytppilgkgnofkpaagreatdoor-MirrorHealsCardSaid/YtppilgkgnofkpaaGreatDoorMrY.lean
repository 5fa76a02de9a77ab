/- MirrorHeals, walked. Conditions: the variables sha.constants and ptr.wide hold what the text lays; the arguments lie in the world. -/
import Derived.Test.YtppilgkgnofkpaaGreatDoorMrW
import Derived.Test.YtppilgkgnofkpaaGreatDoorMrX
set_option linter.unusedSimpArgs false
set_option linter.unusedVariables false

namespace Go.Proofs.YtppilgkgnofkpaaGreatDoor
open Go.RowKit Go.Kin

theorem kpw {W w0 w : World} {K : Nat → Prop} {x p m n : Nat} {z : Mz} {s : Mr} (h : Keep W w0 w K fun w O => PrAt w x p m n z s O) : PwAt w p s.P := by
  obtain ⟨O, mv, A, hP, _⟩ := kmr h
  exact (hP.sd 0 (by omega)).pw
set_option maxRecDepth 100000 in
set_option maxHeartbeats 8000000 in
theorem heals_any (N : Nat) (hN : N < 256) (va : Value) (L : List Am) (a : Am) (W : World) (ha : Lst W va amL 51 L) (hin : ∀ a ∈ L, a.In W) (hain : a.In W) (hw : Lw W) (hk : Lk W) :
    Ret Tryz.prog 4 #[.int .u8 N, va, .agg (amv a)] W fun v' w' => v' = .bool true ∧ Ch Nw W w' := by
  refine v_enter Tryz.func4 Tryz.ntmps4 rfl (by simp) fun R' hR => ?_
  have ok := hain.ok
  have has := amv_size ok
  have haa := amv_all ok
  obtain ⟨A0, c0, hva, _⟩ := id ha
  have hlA := ha.len Tryz.underlying22 3
  have ca := (Ch.refl Nw W).alloc (.cells (amv a) 65)
  have b0 := hp_alloc W (.cells (amv a) 65)
  obtain ⟨g5, hg5⟩ : ∃ g, W.heap.size = g := ⟨_, rfl⟩
  simp [go_sem, has, haa]
  rw [hg5] at b0 ⊢
  revert ca b0
  generalize W.alloc (.cells (amv a) 65) = w1
  intro ca b0
  have wake : ∀ (u : World) {K : Value → World → Prop}, Ch Nw W u → (∀ u', Ch Nw W u' → K (.bool true) u') → Ret Tryz.prog 6 #[] u K := fun u K hc hK => (mrwakes_any u (hw.ch hc id) (hk.ch hc id)).mono fun v w' hh => by
    rw [hh.1]
    exact hK _ (hc.trans hh.2)
  have ha1 := ha.ch ca fun _ _ _ e => e
  refine (mgreat_any va L w1 ha1 fun x hx => (hin x hx).ch ca).mono ?_
  rintro _ w2 ⟨g, rfl, hg, c2⟩
  have cw2 := ca.trans c2
  cases g with
  | true =>
    simp [go_sem]
    exact wake _ cw2 fun u hu => by
      simp [go_sem]
      exact hR _ _ ⟨rfl, hu⟩
  | false =>
  obtain ⟨hL60, hsm⟩ := hg rfl
  have b2 := c2.obj b0 id
  simp [↓VX_bsl1, go_sem, b2, has, haa]
  have hbs := bsl_am ok w2
  refine VBs_run hbs ?_
  have c3 := (Ch.refl Nw w2).alloc (.cells (amv a) 65)
  simp [go_sem]
  refine (mgreat_any _ [a] _ (lst_one w2 _ a) fun x hx => by
    simp at hx
    subst hx
    exact (hain.ch cw2).ch c3).mono ?_
  rintro _ w3 ⟨g, rfl, hg2, c3'⟩
  have c3 := c3.trans c3'
  have cw3 := cw2.trans c3
  cases g with
  | true =>
    simp [go_sem]
    exact wake _ cw3 fun u hu => by
      simp [go_sem]
      exact hR _ _ ⟨rfl, hu⟩
  | false =>
  have hsa := (hg2 rfl).2 a (by simp)
  by_cases h1 : N < 1
  · have h1i : (N : Int) < 1 := by omega
    simp [go_sem, h1, h1i]
    exact wake _ cw3 fun u hu => by
      simp [go_sem]
      exact hR _ _ ⟨rfl, hu⟩
  have h1i : ¬ (N : Int) < 1 := by omega
  by_cases h12 : 12 < N
  · have h12i : (12 : Int) < N := by omega
    simp [go_sem, h1, h1i, h12, h12i]
    exact wake _ cw3 fun u hu => by
      simp [go_sem]
      exact hR _ _ ⟨rfl, hu⟩
  have h12i : ¬ (12 : Int) < N := by omega
  have hwN : IntKind.i64.wrap (N : Int) = N := by rw [IntKind.wrap_i64]; omega
  simp [go_sem, h1, h1i, h12, h12i, hwN]
  refine (begun_any N w3 (by omega) (by omega)).mono ?_
  rintro _ w4 ⟨x, p, m, z, rfl, hpr, c4⟩
  have cw4 := cw3.trans c4
  have b4 := c4.obj (c3.obj b2 id) id
  have kp4 : Keep W w4 w4 _ (fun w O => PrAt w x p m N z Mr.new O) := Keep.of hpr (fun k hk => by have := cw3.size; omega) cw4
  obtain ⟨K, hK⟩ : ∃ K : Nat → Prop, K = fun k => k < w4.heap.size ∧ ¬ (w3.heap.size ≤ k ∧ k < w4.heap.size) := ⟨_, rfl⟩
  rw [← hK] at kp4
  have hs3 := cw3.size
  have hs4 := c4.size
  have KW : ∀ k, k < w3.heap.size → K k := fun k hk => by rw [hK]; exact ⟨by omega, fun e => by omega⟩
  have Kg : K g5 := KW _ (by have := lt_of_block b2; have := c3.size; omega)
  have Kc : K 1 := KW _ (by have := hk.lt; omega)
  have Kw : K 0 := KW _ (by have := hw.lt; omega)
  clear hpr
  have x4 : w4.cell? ⟨x, 4, none⟩ = some (.pointer (some ⟨m, 0, none⟩)) := kprc kp4 4
  simp [go_sem, x4]
  subst hva
  refine v_loop (fun r f u => ∃ k s, r = L.length - k ∧ k ≤ L.length ∧ f 0 = .int .u8 N ∧ f 1 = .slice A0 L.length c0 ∧ f 5 = .pointer (some ⟨g5, 0, none⟩) ∧ f 7 = .pointer (some ⟨x, 0, none⟩) ∧ f 8 = .int .i64 k ∧ Keep W w4 u K (fun w O => PrAt w x p m N z s O) ∧ s.Fine (8 * k)) L.length
    ⟨0, Mr.new, rfl, Nat.zero_le _, by simp, by simp, by simp, by simp, by simp, kp4, Mr.Fine.new _⟩ ?_
  rintro J hJ _ f u ⟨k, s, rfl, hk1, f0, f1, f5, f7, f8, kp, fine⟩
  by_cases hlt : k < L.length
  · have hlti : (k : Int) < L.length := by omega
    have hwk : IntKind.i64.wrap ((k : Int) + 1) = ((k + 1 : Nat) : Int) := by rw [IntKind.wrap_i64]; omega
    obtain ⟨e, he⟩ : ∃ e, L[k]? = some e := ⟨_, List.getElem?_eq_getElem hlt⟩
    have hmem := List.mem_of_getElem? he
    have hine := hin e hmem
    have hsme := hsm e hmem
    have oke := hine.ok
    have hes := amv_size oke
    obtain ⟨b, off, c, cs, T, fr, hA0, hbw, hex, hcs⟩ := lst_big ha (fun y hy => (hin y hy).ok) he
    injection hA0 with hA0 _ hc0
    subst hA0 hc0
    have hbu := kp.ch.obj hbw id
    have hcu := kp.ch
    have hku := hk.ch hcu id
    have hwu := hw.ch hcu id
    simp [go_sem, f1, f8, hlA, hlti, hlt, hbu, hex, hcs]
    refine (sealed_any e u oke ((hine.ch hcu).sl) (by have := hsme.1; omega)).mono ?_
    rintro _ w5 ⟨v5, rfl, m5, c5, f5'⟩
    obtain ⟨q, hq⟩ : ∃ q, e.ptr = q := ⟨_, rfl⟩
    have okq : PtOk q := by rw [← hq]; exact Am.ptr_ok oke
    have hps := pt_size okq
    have hpa := pt_all okq
    have hzs := pt_size ptz_ok
    rw [hq]
    have c6 := (Ch.refl Nw w5).alloc (.cells (pt q) 58)
    have b6 := hp_alloc w5 (.cells (pt q) 58)
    obtain ⟨g9, hg9⟩ : ∃ g, w5.heap.size = g := ⟨_, rfl⟩
    simp [go_sem, hz_pt, zc_pt, hps, hpa, hzs, blit_whole, f7]
    rw [hg9] at b6 ⊢
    have cu6 : Ch Nw u (w5.alloc (.cells (pt q) 58)) := c5.trans c6
    have l9 := lt_of_block b6
    have l9' : u.heap.size ≤ g9 := by rw [← hg9]; exact c5.size
    revert b6 cu6 l9
    clear c6
    generalize w5.alloc (.cells (pt q) 58) = w6
    intro b6 cu6 l9
    have kp6 := kp.more PrAt.ok cu6
    have back : ∀ {w' : World} {s' : Mr}, Keep W w6 w' (fun k => K k ∨ (u.heap.size ≤ k ∧ k < w6.heap.size)) (fun w O => PrAt w x p m N z s' O) → Keep W w4 w' K fun w O => PrAt w x p m N z s' O := fun h => h.back (kp.ck.trans (cu6.mono fun _ _ e => e.elim)) (fun k => .inl) kp.lt
    have Kb : K b := KW b (by have := lt_of_block hbw; omega)
    obtain ⟨O6, hp6, hO6, _⟩ := kp6.ex
    refine (mgood_any hp6 q okq (hku.ch cu6 id)).mono ?_
    rintro _ w7 ⟨⟨nb, rfl⟩, c7⟩
    have kp7 := kp6.stay PrAt.ok c7
    have b7 := c7.obj b6 id
    have x0 : w7.cell? ⟨x, 0, none⟩ = some (.pointer (some ⟨p, 0, none⟩)) := kprc kp7 0
    simp [go_sem, f7, x0]
    refine (is_any p s.P.off s.P.fuse w7 (kpw kp7)).mono ?_
    rintro _ w8 ⟨rfl, hw8⟩
    subst w8
    have bu7 := kp7.ch.obj hbw id
    simp [go_sem, f1, f7, f8, hlti, hlt, bu7, hex, hcs, hes]
    have hine7 := hine.ch kp7.ch
    have hw7 := hw.ch kp7.ch id
    have hk7 := hk.ch kp7.ch id
    refine (kp7.step (R := fun v w' => ∃ u, v = .tuple #[u, .int .i64 (s.act N e).2.2] ∧ Sl w' u (s.act N e).2.1.length (bvs (s.act N e).2.1) ∧ ∀ j, u.ownBlock = some j → w7.heap.size ≤ j) (H' := fun w O => PrAt w x p m N z (s.act N e).1 O) fun O hp hO hK7 => (mdoes_any hp e ((hine.at' hsme hO).ch kp7.ch) fine (by omega) hw7 hk7 fun e => hK7 _ (.inl Kc) e).mono fun v w' hh => ?_).mono ?_
    · obtain ⟨u', e1, e2, e3, e4, e5⟩ := hh
      exact ⟨⟨u', e1, e2, e3⟩, e4, e5⟩
    rintro _ w8 ⟨⟨u8, rfl, s8, o8⟩, kp8⟩
    have fine8 : (s.act N e).1.Fine (8 * (k + 1)) := (fine.act e hine.ac.addr hine.ac.n.2).mono (by omega)
    have b8 := kp8.blk (.inr ⟨l9', l9⟩) b6
    have hcd : w8.cell? ⟨b, off + k * 51, none⟩ = some (.int .u8 e.d) := by
      have hb8 := kp8.ch.obj hbw id
      rw [cell_blk hb8]
      have h0 := amv_0 e
      rw [← hex, Array.getElem?_extract, if_pos (by omega)] at h0
      exact h0
    have hk8 := hk.ch kp8.ch id
    have hw8 := hw.ch kp8.ch id
    have next : ∀ (f' : Nat → Value) (w' : World), f' 0 = f 0 → f' 1 = f 1 → f' 5 = f 5 → f' 7 = f 7 → f' 8 = .int .i64 ((k + 1 : Nat) : Int) → Ch Nw w8 w' → J (L.length - (k + 1)) f' w' := fun f' w' e0 e1 e5 e7 e8 hc => hJ _ _ _ ⟨k + 1, _, rfl, by omega, by rw [e0, f0], by rw [e1, f1], by rw [e5, f5], by rw [e7, f7], e8, (back kp8).stay PrAt.ok hc, fine8⟩
    clear hJ
    by_cases hd1 : 1 < e.d
    · have hd1i : (1 : Int) < e.d := by omega
      simp [go_sem, f1, f8, hlti, hlt, hcd, hd1, hd1i, hwk]
      exact Rnd.intro (L.length - (k + 1)) (by omega) (next _ _ (by simp) (by simp) (by simp) (by simp) (by simp) (Ch.refl _ _))
    have hd1i : ¬ (1 : Int) < e.d := by omega
    simp [go_sem, f1, f8, hlti, hlt, hcd, hd1, hd1i, b8, hps, hpa]
    refine (may_any q w8 okq hw8).mono ?_
    rintro _ w9 ⟨rfl, c9⟩
    cases hmay : mayP q with
    | false =>
      simp [go_sem, f8, hwk]
      exact Rnd.intro (L.length - (k + 1)) (by omega) (next _ _ (by simp) (by simp) (by simp) (by simp) (by simp) c9)
    | true =>
      have b9 := c9.obj b8 id
      have hcd9 := c9.cell hcd id
      have hE : (s.act N e).2.2 = if (s.fits N q ≠ 0) ∧ s.P.off = false then 0 else 21 := by
        have hd01 : e.d = 0 ∨ e.d = 1 := by omega
        unfold Mr.act
        rcases hd01 with h | h
        · rw [h, hq]
          exact Mr.heal_says N s q false hmay
        · rw [h, hq]
          exact Mr.heal_says N s q true hmay
      have hfit : e.d = 0 → (s.act N e).2.2 = 0 → fitB q (s.act N e).2.1 = true := fun h h0 => by
        unfold Mr.act at h0 ⊢
        rw [h, hq] at h0 ⊢
        exact Mr.heal_fit N s q false hmay h0
      obtain ⟨E, hEE⟩ : ∃ E, (s.act N e).2.2 = E := ⟨_, rfl⟩
      obtain ⟨B8, hB8⟩ : ∃ B8, (s.act N e).2.1 = B8 := ⟨_, rfl⟩
      rw [hEE] at hE hfit
      rw [hB8] at s8 hfit
      rw [hEE]
      obtain ⟨nf, hnf⟩ : ∃ nf, s.fits N q = nf := ⟨_, rfl⟩
      rw [hnf] at hE ⊢
      obtain ⟨pof, hoff⟩ : ∃ o, s.P.off = o := ⟨_, rfl⟩
      rw [hoff] at hE ⊢
      have hd01 : e.d = 0 ∨ e.d = 1 := by omega
      by_cases hnz : nf ≠ 0 ∧ pof = false
      · obtain ⟨hn0, rfl⟩ := hnz
        rw [if_pos ⟨hn0, rfl⟩] at hE
        subst hE
        have hnp : 0 < nf := by omega
        have hnpi : (0 : Int) < nf := by omega
        rcases hd01 with hd0 | hd0
        · have hf := hfit hd0 rfl
          have hbl := fitB_len hf
          rw [hd0] at hcd9
          simp [go_sem, f1, f8, hlti, hlt, hcd9, b9, hps, hpa]
          refine (fits_any q u8 B8 w9 okq (s8.ch c9 fun _ _ e => e) (fun j hj => Nat.lt_of_lt_of_le (sl_lt s8 (by omega) j hj) c9.size) (by omega) (hk8.ch c9 id)).mono ?_
          rintro _ w10 ⟨rfl, c10⟩
          rw [show (decide (B8.length = 512) && decide (digS q B8 = q.h)) = fitB q B8 from rfl, hf]
          simp [go_sem, f8, hwk, hnp, hnpi]
          exact Rnd.intro (L.length - (k + 1)) (by omega) (next _ _ (by simp) (by simp) (by simp) (by simp) (by simp) (c9.trans c10))
        · rw [hd0] at hcd9
          simp [go_sem, f1, f8, hlti, hlt, hcd9, b9, hps, hpa, hwk, hnp, hnpi]
          exact Rnd.intro (L.length - (k + 1)) (by omega) (next _ _ (by simp) (by simp) (by simp) (by simp) (by simp) c9)
      · rw [if_neg hnz] at hE
        subst hE
        have hcase : nf = 0 ∨ (0 < nf ∧ pof = true) := by
          rcases Nat.eq_zero_or_pos nf with h | h
          · exact .inl h
          · refine .inr ⟨h, ?_⟩
            cases pof with
            | true => rfl
            | false => exact absurd ⟨by omega, rfl⟩ hnz
        rcases hcase with rfl | ⟨hnp, rfl⟩
        · rcases hd01 with hd0 | hd0
          · rw [hd0] at hcd9
            simp [go_sem, f1, f8, hlti, hlt, hcd9, hwk]
            exact Rnd.intro (L.length - (k + 1)) (by omega) (next _ _ (by simp) (by simp) (by simp) (by simp) (by simp) c9)
          · rw [hd0] at hcd9
            simp [go_sem, f1, f8, hlti, hlt, hcd9, hwk]
            exact Rnd.intro (L.length - (k + 1)) (by omega) (next _ _ (by simp) (by simp) (by simp) (by simp) (by simp) c9)
        · have hnpi : (0 : Int) < nf := by omega
          rcases hd01 with hd0 | hd0
          · rw [hd0] at hcd9
            simp [go_sem, f1, f8, hlti, hlt, hcd9, hwk, hnp, hnpi]
            exact Rnd.intro (L.length - (k + 1)) (by omega) (next _ _ (by simp) (by simp) (by simp) (by simp) (by simp) c9)
          · rw [hd0] at hcd9
            simp [go_sem, f1, f8, hlti, hlt, hcd9, hwk, hnp, hnpi]
            exact Rnd.intro (L.length - (k + 1)) (by omega) (next _ _ (by simp) (by simp) (by simp) (by simp) (by simp) c9)
  · obtain rfl : k = L.length := by omega
    simp [go_sem, f1, f7, f8, hlA]
    have x0 : u.cell? ⟨x, 0, none⟩ = some (.pointer (some ⟨p, 0, none⟩)) := kprc kp 0
    simp [go_sem, x0]
    refine (kp.step (R := fun v _ => v = .tuple #[]) (H' := fun w O => PrAt w x p m N z { s with P := Pwr.on } O) fun O hp hO hK => hp.power fun hpw => (back_any p s.P.off s.P.fuse u hpw).mono fun v w' hh => ⟨hh.1, hh.2.1, hh.2.2.1⟩).mono ?_
    rintro _ w5 ⟨rfl, kp5⟩
    have fine5 : ({ s with P := Pwr.on } : Mr).Fine (8 * L.length) := ⟨by show (-1 : Int) ≤ _; decide, fine.cache, fine.astray, fine.found, fine.mended, fine.moves⟩
    clear kp fine hJ x0 hlt
    simp [go_sem]
    refine v_loop (fun r f u => ∃ k s, r = 2 - k ∧ k ≤ 2 ∧ f 0 = .int .u8 N ∧ f 5 = .pointer (some ⟨g5, 0, none⟩) ∧ f 7 = .pointer (some ⟨x, 0, none⟩) ∧ f 16 = .int .i64 k ∧ Keep W w4 u K (fun w O => PrAt w x p m N z s O) ∧ s.Fine (8 * L.length) ∧ s.P = Pwr.on ∧ ∀ i, i < k → (s.dk i).dead = true ∨ ((s.dk i).lose = false ∧ (s.dk i).astray = none)) 2
      ⟨0, _, rfl, Nat.zero_le _, by simp [f0], by simp [f5], by simp [f7], by simp, kp5, fine5, rfl, fun i hi => absurd hi (by omega)⟩ ?_
    clear kp5 fine5 f0 f1 f5 f7 f8
    rintro J hJ _ f u ⟨k, s, rfl, hk2, f0, f5, f7, f16, kp, fine, hP, hcalm⟩
    by_cases hk2' : k < 2
    · have hki : (k : Int) < 2 := by omega
      have hwk : IntKind.i64.wrap ((k : Int) + 1) = ((k + 1 : Nat) : Int) := by rw [IntKind.wrap_i64]; omega
      have xd := kdkc kp hk2'
      simp [go_sem, f7, f16, hki, hk2', xd]
      obtain ⟨E0, hE0⟩ : ∃ E : Int, (if (s.dk k).able s.P && s.P.made then 0 else 3) = E := ⟨_, rfl⟩
      refine (kmrs kp (R := fun v => v = .int .i64 E0) (s' := (s.flush1 k).1) fun O h1 hO hK => h1.disk hk2' (R := fun v' _ => v' = .int .i64 E0) fun B hB hBO => (hB.flush fine.fuse (by have := fine.cache k hk2'; omega)).mono fun v' w' hh => ⟨hh.1.trans (by rw [hE0]), hh.2.1, hh.2.2⟩).mono ?_
      rintro _ w6 ⟨rfl, kp6⟩
      have fine6 := fine.flush1 k
      obtain ⟨s1, hs1⟩ : ∃ s1, (s.flush1 k).1 = s1 := ⟨_, rfl⟩
      have hP1 : s1.P = Pwr.on := by
        rw [← hs1]
        show (if (s.dk k).able s.P then s.P.step else s.P) = _
        rw [hP]
        split <;> rfl
      have hdk1 : ∀ i, i ≠ k → s1.dk i = s.dk i := fun i hi => by
        rw [← hs1]
        show upd1 _ _ _ _ = _
        rw [upd1_ne _ _ hi]
      rw [hs1] at kp6 fine6
      have xd6 := kdkc kp6 hk2'
      simp [go_sem, f7, f16, hki, hk2', xd6]
      refine (kp6.step (R := fun v _ => v = .tuple #[]) (H' := fun w O => PrAt w x p m N z { s1 with dk := upd1 s1.dk k ((s1.dk k).crash []) } O) fun O hp hO hK => hp.disk hk2' fun B hB hBO hBp => (hB.crash [] (.slice none 0 0) (by have := fine6.cache k hk2'; omega) (by decide) (fun x hx => by simp at hx) (Sl.nil _) fun h0 => absurd h0 (by decide)).mono fun v w' hh => ⟨hh.1, hh.2.1, hh.2.2⟩).mono ?_
      rintro _ w7 ⟨rfl, kp7⟩
      simp [go_sem, f16, hwk]
      have hcr : ∀ D : Dk, (D.crash []).cache.length ≤ D.cache.length ∧ ((D.crash []).astray = D.astray ∨ (D.crash []).astray = none) ∧ ((D.crash []).dead = true ∨ ((D.crash []).lose = false ∧ (D.crash []).astray = none)) := fun D => by
        unfold Dk.crash
        cases hd : D.dead with
        | true => exact ⟨Nat.le_refl _, .inl rfl, .inl hd⟩
        | false => exact ⟨Nat.zero_le _, .inr rfl, .inr ⟨rfl, rfl⟩⟩
      obtain ⟨r1, r2, r3⟩ := hcr (s1.dk k)
      refine Rnd.intro (2 - (k + 1)) (by omega) (hJ _ _ _ ⟨k + 1, _, rfl, by omega, by simp [f0], by simp [f5], by simp [f7], by simp, kp7, ⟨fine6.fuse, fun i hi => ?_, fun i hi x hx => ?_, fine6.found, fine6.mended, fine6.moves⟩, hP1, fun i hi => ?_⟩)
      · by_cases e : i = k
        · subst e; simp only [upd1_same]; have := fine6.cache i hi; omega
        · simp only [upd1_ne _ _ e]; exact fine6.cache i hi
      · by_cases e : i = k
        · subst e
          simp only [upd1_same] at hx
          rcases r2 with r2 | r2
          · rw [r2] at hx; exact fine6.astray i hi x hx
          · rw [r2] at hx; cases hx
        · simp only [upd1_ne _ _ e] at hx; exact fine6.astray i hi x hx
      · by_cases e : i = k
        · subst e; simp only [upd1_same]; exact r3
        · simp only [upd1_ne _ _ e]
          rw [hdk1 i e]
          exact hcalm i (by omega)
    · obtain rfl : k = 2 := by omega
      have calm : s.Calm := ⟨hP, hcalm⟩
      clear hJ
      have b5 := kp.blk Kg b4
      simp [go_sem, f16, f5, b5, has, haa]
      have hcu := kp.ch
      refine (sealed_any a u ok (hain.sl.ch hcu fun _ _ e => e) (by have := hsa.1; omega)).mono ?_
      rintro _ w5 ⟨v5, rfl, m5, c5, f5'⟩
      obtain ⟨q, hq⟩ : ∃ q, a.ptr = q := ⟨_, rfl⟩
      have okq : PtOk q := by rw [← hq]; exact Am.ptr_ok ok
      have hps := pt_size okq
      have hpa := pt_all okq
      have hzs := pt_size ptz_ok
      rw [hq]
      have c6 := (Ch.refl Nw w5).alloc (.cells (pt q) 58)
      have b6 := hp_alloc w5 (.cells (pt q) 58)
      obtain ⟨g9, hg9⟩ : ∃ g, w5.heap.size = g := ⟨_, rfl⟩
      simp [go_sem, hz_pt, zc_pt, hps, hpa, hzs, blit_whole]
      rw [hg9] at b6 ⊢
      have cu6 : Ch Nw u (w5.alloc (.cells (pt q) 58)) := c5.trans c6
      have l9 := lt_of_block b6
      have l9' : u.heap.size ≤ g9 := by rw [← hg9]; exact c5.size
      revert b6 cu6 l9
      clear c6
      generalize w5.alloc (.cells (pt q) 58) = w6
      intro b6 cu6 l9
      have kp6 := kp.more PrAt.ok cu6
      have hw6 := hw.ch kp6.ch id
      have hk6 := hk.ch kp6.ch id
      refine (may_any q w6 okq hw6).mono ?_
      rintro _ w7 ⟨rfl, c7⟩
      have kp7 := kp6.stay PrAt.ok c7
      have b7 := c7.obj b6 id
      have hw7 := hw.ch kp7.ch id
      have hk7 := hk.ch kp7.ch id
      have x7 : w7.cell? ⟨x, 4, none⟩ = some (.pointer (some ⟨m, 0, none⟩)) := kprc kp7 4
      have kp7d := kp7.stay PrAt.ok (Ch.refl Nw w7).drew
      have chk := fun (w' : World) (kk : Keep W w6 w' (fun k => K k ∨ (u.heap.size ≤ k ∧ k < w6.heap.size)) (fun w O => PrAt w x p m N z s O)) => kmrs kk (R := fun v => v = .int .i64 (s.heal N q true).2.2) (s' := (s.heal N q true).1) fun O h1 hO hK => (check_m h1 q okq (hw.ch kk.ch id) (hk.ch kk.ch id) fine (by omega) fun e => hK _ (.inl Kc) e).mono fun v w' hh => ⟨hh.1, hh.2.1, hh.2.2⟩
      cases hmay : mayP q with
      | false =>
        simp [go_sem]
        refine v_draw' [(0, none), (1, none), (2, none), (3, none), (4, none), (5, some []), (6, none), (7, none), (8, some []), (9, none), (10, none)] (by kernel_rfl) (by kernel_rfl) ?_
        simp [go_sem, f7, x7, b7, hps, hpa]
        refine (chk _ kp7d).mono ?_
        rintro _ w8 ⟨rfl, kp8⟩
        rw [Mr.heal_may N s q true hmay]
        simp [go_sem]
        exact wake _ kp8.ch fun u hu => by
          simp [go_sem]
          exact hR _ _ ⟨rfl, hu⟩
      | true =>
        simp [go_sem, f7, b7, hps, hpa]
        obtain ⟨O7, hp7, _⟩ := kp7.ex
        refine (mgood_any hp7 q okq hk7).mono ?_
        rintro _ w8 ⟨⟨nb, rfl⟩, c8⟩
        have kp8 := kp7.stay PrAt.ok c8
        have b8 := c8.obj b7 id
        have x8 : w8.cell? ⟨x, 4, none⟩ = some (.pointer (some ⟨m, 0, none⟩)) := kprc kp8 4
        simp [go_sem]
        refine v_draw' [(0, none), (1, none), (2, none), (3, none), (4, none), (5, some []), (6, none)] (by kernel_rfl) (by kernel_rfl) ?_
        simp [go_sem, f7, x8, b8, hps, hpa]
        refine (chk _ (kp8.stay PrAt.ok (Ch.refl Nw w8).drew)).mono ?_
        rintro _ w9 ⟨rfl, kp9⟩
        have hE := Mr.heal_says N s q true hmay
        have hheal := fun h0 => Mr.healed (n := N) calm hmay h0
        obtain ⟨E, hEE⟩ : ∃ E, (s.heal N q true).2.2 = E := ⟨_, rfl⟩
        rw [hEE] at hE hheal ⊢
        obtain ⟨s3, hs3'⟩ : ∃ s3, (s.heal N q true).1 = s3 := ⟨_, rfl⟩
        rw [hs3'] at kp9 hheal
        obtain ⟨nf, hnf⟩ : ∃ nf, s.fits N q = nf := ⟨_, rfl⟩
        rw [hnf] at hE ⊢
        have hpo : s.P.off = false := by rw [hP]; rfl
        by_cases hn0 : nf = 0
        · rw [if_neg fun e => e.1 hn0] at hE
          subst hE hn0
          simp [go_sem, bne]
          exact wake _ kp9.ch fun u hu => by
            simp [go_sem]
            exact hR _ _ ⟨rfl, hu⟩
        rw [if_pos ⟨hn0, hpo⟩] at hE
        subst hE
        have hnp : 0 < nf := by omega
        have hnpi : (0 : Int) < nf := by omega
        simp [go_sem, bne, hnp, hnpi]
        have hok := hheal rfl
        have hfin3 : s3.Fine (8 * L.length + 8) := by rw [← hs3']; exact fine.heal q true
        obtain ⟨K9, hK9⟩ : ∃ K9 : Nat → Prop, K9 = fun k => K k ∨ (u.heap.size ≤ k ∧ k < w6.heap.size) := ⟨_, rfl⟩
        rw [← hK9] at kp9
        have K9g : K9 g9 := by rw [hK9]; exact .inr ⟨l9', l9⟩
        clear hcalm hheal calm
        refine v_loop (fun r f u => ∃ k : Nat, k ≤ 4 ∧ r = 4 - k ∧ f 0 = .int .u8 N ∧ f 7 = .pointer (some ⟨x, 0, none⟩) ∧ f 17 = .pointer (some ⟨g9, 0, none⟩) ∧ f 22 = .int .i64 k ∧ Keep W w6 u K9 fun w O => PrAt w x p m N z s3 O) 4
          ⟨0, by omega, rfl, by simp [f0], by simp [f7], by simp, by simp, kp9⟩ ?_
        clear kp9 f0 f5 f7 f16
        rintro J hJ _ f u' ⟨k, hk4, rfl, f0, f7, f17, f22, kp⟩
        by_cases hlt : k < 4
        · have hki : (k : Int) < 4 := by omega
          have bu := kp.blk K9g b6
          have hcell : u'.cell? ⟨g9, 37 + k, none⟩ = some (.int .u16 (adr q k)) := (cell_blk bu _).trans (pt_adr okq hlt)
          have hwk : IntKind.i64.wrap ((k : Int) + 1) = ((k + 1 : Nat) : Int) := by rw [IntKind.wrap_i64]; omega
          have hal := adr_lt okq k
          obtain ⟨i, hi⟩ : ∃ i, k / 2 = i := ⟨_, rfl⟩
          have hi2 : i < 2 := by omega
          have hi2i : (i : Int) < 2 := by omega
          have hqd : (k : Int).tdiv 2 = (i : Int) := by rw [Int.tdiv_eq_ediv_of_nonneg (by omega)]; omega
          have hwi : IntKind.i64.wrap (i : Int) = (i : Int) := by rw [IntKind.wrap_i64]; omega
          have next : ∀ (f' : Nat → Value) (w' : World), f' 0 = f 0 → f' 7 = f 7 → f' 17 = f 17 → f' 22 = .int .i64 ((k + 1 : Nat) : Int) → Ch Nw u' w' → J (4 - (k + 1)) f' w' := fun f' w' e0 e7 e17 e22 hc => hJ _ _ _ ⟨k + 1, by omega, rfl, by rw [e0, f0], by rw [e7, f7], by rw [e17, f17], e22, kp.stay PrAt.ok hc⟩
          clear hJ
          by_cases h0 : adr q k = 0
          · simp [go_sem, f17, f22, hki, hlt, hcell, h0, hwk]
            exact Rnd.intro (4 - (k + 1)) (by omega) (next _ _ (by simp) (by simp) (by simp) (by simp) (Ch.refl _ _))
          have h0i : ((adr q k : Int) == 0) = false := beq_false_of_ne (by omega)
          have hmem : k ∈ cseq q.a 4 := by
            unfold cseq
            rw [List.mem_filter, List.mem_range]
            exact ⟨hlt, by simpa [adr] using h0⟩
          have hokk := hok k hmem
          unfold Mr.okc at hokk
          rw [hi] at hokk
          have xd := kdkc kp hi2
          simp [go_sem, f7, f17, f22, hki, hlt, hcell, h0, h0i, hqd, hwi, xd, hi2, hi2i]
          obtain ⟨O1, hp1, _⟩ := kp.ex
          refine (hp1.dead hi2).mono ?_
          rintro _ w10 ⟨rfl, hw10⟩
          subst w10
          cases hdd : (s3.dk i).dead with
          | true =>
            simp [go_sem, f22, hwk]
            exact Rnd.intro (4 - (k + 1)) (by omega) (next _ _ (by simp) (by simp) (by simp) (by simp) (Ch.refl _ _))
          | false =>
            rw [hdd] at hokk
            have hokk := hokk.resolve_left (by decide)
            simp [go_sem]
            refine v_draw' [(0, none), (1, none), (2, none), (3, none), (4, none), (5, none), (6, none), (7, none), (8, none), (9, none), (10, none), (11, some []), (12, none), (13, none), (14, none), (15, none), (16, none)] (by kernel_rfl) (by kernel_rfl) ?_
            simp [go_sem, f7, f17, f22, hki, hlt, hcell, hqd, hwi, xd, hi2, hi2i]
            refine ((hp1.ch (Ch.refl Nw u').drew fun _ _ e => e).look hi2 (adr q k) hal).mono ?_
            rintro v11 w11 ⟨hl, c11⟩
            have c11 : Ch Nw u' w11 := Ch.of_drew c11
            have kp11 := kp.stay PrAt.ok c11
            have b11 := c11.obj bu id
            have hcell11 := c11.cell hcell id
            have hwa : IntKind.i64.wrap (adr q k : Int) = (adr q k : Int) := by rw [IntKind.wrap_i64]; omega
            -- a copy that is not good
            have bad : s3.lgood N q k = false → ∀ (w' : World), Keep W w6 w' K9 (fun w O => PrAt w x p m N z s3 O) → adr q k < N → Ret Tryz.prog 29 #[.pointer (some ⟨z.sp, 0, none⟩), .int .i64 i, .int .u16 (adr q k)] w' fun v w => v = .bool true ∧ w = w' := fun hlg w' kk han => by
              obtain ⟨O, mv, A, hP', _⟩ := kmr kk
              refine (spis_any hP' hi2 (adr q k) hal).mono ?_
              rintro _ _ ⟨rfl, rfl⟩
              refine ⟨?_, rfl⟩
              rw [hlg] at hokk
              rcases hokk with h | h | h
              · cases h
              · omega
              · simp [han, h]
            have x12 := kprc kp11 3
            have x12 : w11.cell? ⟨x, 3, none⟩ = some (.pointer (some ⟨z.sp, 0, none⟩)) := x12
            cases hlk : (s3.dk i).look N (adr q k) with
            | none =>
              have hlg : s3.lgood N q k = false := by unfold Mr.lgood; rw [hi, hlk]; rfl
              rw [hlk] at hl
              have hl : v11 = .tuple #[.slice none 0 0, .bool false] := hl
              subst hl
              by_cases han : adr q k < N
              · have hani : (adr q k : Int) < N := by omega
                simp [go_sem, f0, f17, f22, hki, hlt, hcell11, hwa, hwN, han, hani]
                refine v_draw' [(0, none), (1, none), (2, none), (3, none), (4, some []), (5, none), (6, none), (7, none), (8, none), (9, none), (10, none), (11, none), (12, none), (13, none), (14, none), (15, none), (16, none), (17, none), (18, none), (19, none), (20, none), (21, some []), (22, none), (23, none)] (by kernel_rfl) (by kernel_rfl) ?_
                simp [go_sem, f7, f17, f22, hki, hlt, hcell11, hqd, hwi, x12]
                refine (bad hlg _ (kp11.stay PrAt.ok (Ch.refl Nw w11).drew) han).mono ?_
                rintro _ _ ⟨rfl, rfl⟩
                simp [go_sem, f22, hwk]
                exact Rnd.intro (4 - (k + 1)) (by omega) (next _ _ (by simp) (by simp) (by simp) (by simp) c11.drew)
              · have hani : ¬ (adr q k : Int) < N := by omega
                simp [go_sem, f0, f17, f22, hki, hlt, hcell11, hwa, hwN, han, hani]
                refine v_draw' [(0, none), (1, none), (2, none), (3, none), (4, some []), (5, none), (6, none), (7, none), (8, none), (9, none), (10, none), (11, none), (12, none), (13, none), (14, none), (15, none), (16, none), (17, none), (18, none), (19, none), (20, none), (21, some []), (22, none), (23, none)] (by kernel_rfl) (by kernel_rfl) ?_
                simp [go_sem, f22, hwk]
                exact Rnd.intro (4 - (k + 1)) (by omega) (next _ _ (by simp) (by simp) (by simp) (by simp) c11.drew)
            | some bb =>
              rw [hlk] at hl
              obtain ⟨u2, rfl, hb5, sl2, fr2, lt2'⟩ := hl
              have hlg : s3.lgood N q k = fitB q bb := by unfold Mr.lgood; rw [hi, hlk]; rfl
              have hftc := fun W' (hc' : Ch Nw w11 W') => fits_any q u2 bb W' okq (by rw [hb5]; exact sl2.ch hc' fun _ _ e => e) (fun j hj => Nat.lt_of_lt_of_le (lt2' j hj) hc'.size) (by omega) (hk.ch (kp11.ch.trans hc') id)
              by_cases han : adr q k < N
              · have hani : (adr q k : Int) < N := by omega
                simp [go_sem, f0, f17, f22, hki, hlt, hcell11, hwa, hwN, han, hani]
                refine v_draw' [(0, none), (1, none), (2, none), (3, none), (4, some []), (5, none), (6, none), (7, none), (8, none), (9, none), (10, none), (11, none), (12, none), (13, none), (14, none), (15, none), (16, none), (17, none), (18, none), (19, none), (20, none), (21, some []), (22, none), (23, none)] (by kernel_rfl) (by kernel_rfl) ?_
                simp [go_sem, f17, b11, hps, hpa]
                refine (hftc _ (Ch.refl Nw w11).drew).mono ?_
                rintro _ w12 ⟨rfl, c12⟩
                have c12 : Ch Nw w11 w12 := Ch.of_drew c12
                rw [show (decide (bb.length = 512) && decide (digS q bb = q.h)) = fitB q bb from rfl]
                cases hfb : fitB q bb with
                | true =>
                  simp [go_sem, f22, hwk]
                  exact Rnd.intro (4 - (k + 1)) (by omega) (next _ _ (by simp) (by simp) (by simp) (by simp) (c11.trans c12))
                | false =>
                  have x13 : w12.cell? ⟨x, 3, none⟩ = some (.pointer (some ⟨z.sp, 0, none⟩)) := c12.cell x12 id
                  have hcell12 := c12.cell hcell11 id
                  simp [go_sem, f7, f17, f22, hki, hlt, hcell12, hqd, hwi, x13]
                  refine (bad (hlg.trans hfb) _ (kp11.stay PrAt.ok c12) han).mono ?_
                  rintro _ _ ⟨rfl, rfl⟩
                  simp [go_sem, f22, hwk]
                  exact Rnd.intro (4 - (k + 1)) (by omega) (next _ _ (by simp) (by simp) (by simp) (by simp) (c11.trans c12))
              · have hani : ¬ (adr q k : Int) < N := by omega
                simp [go_sem, f0, f17, f22, hki, hlt, hcell11, hwa, hwN, han, hani]
                refine v_draw' [(0, none), (1, none), (2, none), (3, none), (4, some []), (5, none), (6, none), (7, none), (8, none), (9, none), (10, none), (11, none), (12, none), (13, none), (14, none), (15, none), (16, none), (17, none), (18, none), (19, none), (20, none), (21, some []), (22, none), (23, none)] (by kernel_rfl) (by kernel_rfl) ?_
                simp [go_sem, f17, b11, hps, hpa]
                refine (hftc _ (Ch.refl Nw w11).drew).mono ?_
                rintro _ w12 ⟨rfl, c12⟩
                have c12 : Ch Nw w11 w12 := Ch.of_drew c12
                rw [show (decide (bb.length = 512) && decide (digS q bb = q.h)) = fitB q bb from rfl]
                cases hfb : fitB q bb with
                | true =>
                  simp [go_sem, f22, hwk]
                  exact Rnd.intro (4 - (k + 1)) (by omega) (next _ _ (by simp) (by simp) (by simp) (by simp) (c11.trans c12))
                | false =>
                  simp [go_sem, f22, hwk]
                  exact Rnd.intro (4 - (k + 1)) (by omega) (next _ _ (by simp) (by simp) (by simp) (by simp) (c11.trans c12))
        · obtain rfl : k = 4 := by omega
          simp [go_sem, f22]
          exact wake _ kp.ch fun u hu => by
            simp [go_sem]
            exact hR _ _ ⟨rfl, hu⟩
end Go.Proofs.YtppilgkgnofkpaaGreatDoor
