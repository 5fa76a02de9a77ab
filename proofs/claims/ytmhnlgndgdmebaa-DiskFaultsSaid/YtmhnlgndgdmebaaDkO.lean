/- DiskFaults. No condition. (Printed by genDkFa.py.) -/
import Derived.Test.YtmhnlgndgdmebaaDkN
namespace Go.Proofs.Ytmhnlgndgdmebaa
open Go.RowKit Go.Kin

theorem faults_any (W : World) : Ret Try.prog 8 #[] W fun v' w' => v' = .bool true ∧ Ch Nw W w' := by
  refine v_enter Try.func8 Try.ntmps8 rfl (by simp) fun R' hR => ?_
  have hfn : ∀ (x : List Value) (w : World), (callFunc 36 x.toArray).run Try.prog w = .ok (.enter 36 x.toArray) w := fun x w => by simp [go_sem]
  simp [go_sem]
  refine (on_pw W).mono ?_
  rintro _ w1 ⟨rfl, h1, c1⟩
  simp [go_sem]
  refine (sd_new 9 W.heap.size w1 Pwr.on (by omega) (by omega) h1).mono ?_
  rintro _ w2 ⟨d, rfl, h2, c2⟩
  simp [go_sem]
  have bq0 := hp_alloc w2 (.cells #[.pointer (some ⟨d, 0, none⟩)] 56)
  have cq := (Ch.refl Nw w2).alloc (.cells #[.pointer (some ⟨d, 0, none⟩)] 56)
  have sq : w2.heap.size < (w2.alloc (.cells #[.pointer (some ⟨d, 0, none⟩)] 56)).heap.size := lt_of_block bq0
  revert bq0 cq sq
  generalize w2.alloc (.cells #[.pointer (some ⟨d, 0, none⟩)] 56) = w3
  generalize hq : w2.heap.size = q
  intro bq0 cq sq
  have sx := fun {w : World} {v : Value} {l : List UInt8} (h : Sl w v 512 (bvs l)) (hn : l.length = 512) => h.str (P := Try.prog) hn Try.underlying60 Try.underlying5 Try.underlying9
  have nil : ∀ u : World, Ret Try.prog 33 #[.slice none 0 0] u fun v' w' => Mine 5 u v' 512 (bvs zb) w' := fun u => by
    have := full_any (.slice none 0 0) [] u (Sl.nil u) (by simp)
    rwa [full0] at this
  obtain ⟨a, ha0⟩ : ∃ a, fullB [UInt8.ofNat (1 : Int).toNat] = a := ⟨_, rfl⟩
  obtain ⟨b, hb0⟩ : ∃ b, fullB [UInt8.ofNat (2 : Int).toNat] = b := ⟨_, rfl⟩
  have ha : a.length = 512 := by rw [← ha0]; exact fullB_len _
  have hb : b.length = 512 := by rw [← hb0]; exact fullB_len _
  obtain ⟨I, hI⟩ : ∃ I : (Nat → Value) → World → Prop, I = fun f u => f 1 = .pointer (some ⟨q, 0, none⟩) ∧ f 3 = .string ⟨a.toArray⟩ ∧ f 4 = .string ⟨b.toArray⟩ ∧ f 5 = .string ⟨zb.toArray⟩ ∧ Ch Nw w3 u := ⟨_, rfl⟩
  refine v_join I [[(0, some []), (1, some []), (2, none), (3, some [2]), (4, some [2]), (5, none), (6, some [2, 5]), (7, none), (8, none), (9, none), (10, none)],
    [(0, some []), (3, some []), (1, some []), (2, none), (4, some [2]), (5, none), (6, some [2, 5]), (7, none), (8, none), (9, none), (10, none)],
    [(3, some []), (0, some []), (1, some []), (2, none), (4, some [2]), (5, none), (6, some [2, 5]), (7, none), (8, none), (9, none), (10, none)]] (by kernel_rfl) (by kernel_rfl) ?_ ?_
  · intro plan hp
    simp only [List.mem_cons, List.not_mem_nil, or_false] at hp
    rcases hp with rfl | rfl | rfl
    · have l1 := (lit1 w3 1 (by omega)).drew
      simp [go_sem]
      refine (full_any _ [UInt8.ofNat (1 : Int).toNat] _ l1 (by simp)).mono fun va u1 ma => ?_
      rw [ha0] at ma
      simp [go_sem, sx ma.sl ha, sx (ma.sl.alloc (.cells #[.int .u8 2] 5)) ha]
      refine full_lit _ 2 (by omega) fun vb u2 mb => ?_
      rw [hb0] at mb
      have ma2 := ma.sl.ch mb.ch fun _ _ e => e
      simp [go_sem, sx mb.sl hb, sx ma2 ha]
      refine (nil _).mono fun vc u3 mc => ?_
      simp [go_sem, sx mc.sl zb_len, sx (ma2.ch mc.ch fun _ _ e => e) ha, sx (mb.sl.ch mc.ch fun _ _ e => e) hb, hI]
      exact ((((Ch.refl Nw w3).alloc (.cells #[.int .u8 1] 5)).drew).trans ma.ch).trans (mb.ch.trans mc.ch)
    · have l1 := ((lit1 w3 1 (by omega)).alloc (.cells #[.int .u8 2] 5)).drew
      have l2 := (lit1 (w3.alloc (.cells #[.int .u8 1] 5)) 2 (by omega)).drew
      rw [show (w3.alloc (.cells #[.int .u8 1] 5)).heap.size = w3.heap.size + 1 from by simp] at l2
      simp [go_sem]
      refine (full_any _ [UInt8.ofNat (1 : Int).toNat] _ l1 (by simp)).mono fun va u1 ma => ?_
      rw [ha0] at ma
      simp [go_sem, sx ma.sl ha]
      refine (full_any _ [UInt8.ofNat (2 : Int).toNat] _ (l2.ch ma.ch fun _ _ e => e) (by simp)).mono fun vb u2 mb => ?_
      rw [hb0] at mb
      have ma2 := ma.sl.ch mb.ch fun _ _ e => e
      simp [go_sem, sx mb.sl hb, sx ma2 ha]
      refine (nil _).mono fun vc u3 mc => ?_
      simp [go_sem, sx mc.sl zb_len, sx (ma2.ch mc.ch fun _ _ e => e) ha, sx (mb.sl.ch mc.ch fun _ _ e => e) hb, hI]
      exact (((((Ch.refl Nw w3).alloc (.cells #[.int .u8 1] 5)).alloc (.cells #[.int .u8 2] 5)).drew).trans ma.ch).trans (mb.ch.trans mc.ch)
    · have l1 := (lit1 (w3.alloc (.cells #[.int .u8 2] 5)) 1 (by omega)).drew
      have l2 := ((lit1 w3 2 (by omega)).alloc (.cells #[.int .u8 1] 5)).drew
      rw [show (w3.alloc (.cells #[.int .u8 2] 5)).heap.size = w3.heap.size + 1 from by simp] at l1
      simp [go_sem]
      refine (full_any _ [UInt8.ofNat (1 : Int).toNat] _ l1 (by simp)).mono fun va u1 ma => ?_
      rw [ha0] at ma
      simp [go_sem, sx ma.sl ha]
      refine (full_any _ [UInt8.ofNat (2 : Int).toNat] _ (l2.ch ma.ch fun _ _ e => e) (by simp)).mono fun vb u2 mb => ?_
      rw [hb0] at mb
      have ma2 := ma.sl.ch mb.ch fun _ _ e => e
      simp [go_sem, sx mb.sl hb, sx ma2 ha]
      refine (nil _).mono fun vc u3 mc => ?_
      simp [go_sem, sx mc.sl zb_len, sx (ma2.ch mc.ch fun _ _ e => e) ha, sx (mb.sl.ch mc.ch fun _ _ e => e) hb, hI]
      exact (((((Ch.refl Nw w3).alloc (.cells #[.int .u8 2] 5)).alloc (.cells #[.int .u8 1] 5)).drew).trans ma.ch).trans (mb.ch.trans mc.ch)
  rintro f w4 hf
  rw [hI] at hf
  obtain ⟨f1, f3, f4, f5, c34⟩ := hf
  have c4 : Ch Nw W w4 := ((c1.trans c2).trans cq).trans c34
  have s12 := c2.size
  have s01 := c1.size
  have hpw : W.heap.size < w1.heap.size := lt_of_block h1
  have h0 : Fz W w3 (fun k => k = q) w4 d W.heap.size Dk.new (fun k => w1.heap.size ≤ k ∧ k < w2.heap.size) := by
    refine ⟨(h2.ch cq (fun _ _ e => e) id).ch c34 (fun _ _ e => e) id, fun k hk => by omega, Nat.le_refl _, fun k hk => ?_, c34.mono fun _ _ e => e.elim, c4⟩
    exact ⟨by omega, by omega, by omega⟩
  obtain ⟨K, hK⟩ : ∃ K : Nat → Prop, K = fun k => k = q := ⟨_, rfl⟩
  rw [← hK] at h0
  have Kq : K q := by rw [hK]
  have q0 := h0.hp Kq bq0 0
  obtain ⟨D0, nD0⟩ : ∃ D : Dk, D = ⟨fun _ => none, [], fun _ => false, fun _ => false, false, false, none⟩ := ⟨_, rfl⟩
  rw [show Dk.new = D0 from by rw [nD0]; rfl] at h0
  simp [go_sem, q0, f1]
  refine h0.lose.mono ?_
  rintro _ w1 ⟨rfl, O1, h1⟩
  obtain ⟨D1, nD1⟩ : ∃ D : Dk, D = ⟨(fun _ => none), [], (fun _ => false), (fun _ => false), false, true, none⟩ := ⟨_, rfl⟩
  rw [show ({ D0 with lose := true } : Dk) = D1 from by rw [nD0, nD1]] at h1
  have q1 := h1.hp Kq bq0 0
  simp [go_sem, q1, f1]
  refine (h1.astray 5).mono ?_
  rintro _ w2 ⟨rfl, O2, h2⟩
  obtain ⟨D2, nD2⟩ : ∃ D : Dk, D = ⟨(fun _ => none), [], (fun _ => false), (fun _ => false), false, true, some 5⟩ := ⟨_, rfl⟩
  rw [show ({ D1 with astray := some 5 } : Dk) = D2 from by rw [nD1, nD2]] at h2
  have q2 := h2.hp Kq bq0 0
  obtain ⟨v3, u3, e3, V3⟩ := h2.conv a ha
  simp [go_sem, q2, e3, f1, f3]
  obtain ⟨D3, nD3⟩ : ∃ D : Dk, D = ⟨(fun _ => none), [], (fun _ => false), (fun _ => false), false, false, some 5⟩ := ⟨_, rfl⟩
  refine (V3.write (D' := D3) 3 (by omega) (by rw [nD2]) (by rw [nD2]; simp) (by rw [nD2]; simp) (by rw [nD2, nD3]; rfl)).mono ?_
  rintro _ w3 ⟨rfl, O3, h3⟩
  have q3 := h3.hp Kq bq0 0
  simp [go_sem]
  rw [VCall_closure _ _ _ _ [.pointer (some ⟨q, 0, none⟩)] _ (hfn _ _)]
  refine (h3.tells q3 3 (by omega) (by rw [nD3]) (r := .string ⟨(zb : Byts).toArray⟩) (by rw [nD3]; simp [Dk.look, Dk.tells, lastC, blockM, tellS])).mono ?_
  rintro _ w4 ⟨rfl, O4, h4⟩
  have q4 := h4.hp Kq bq0 0
  obtain ⟨v5, u5, e5, V5⟩ := h4.conv b hb
  simp [go_sem, q4, e5, f1, f4, f5]
  obtain ⟨D4, nD4⟩ : ∃ D : Dk, D = ⟨(fun _ => none), [(5, b)], (fun _ => false), (fun _ => false), false, false, none⟩ := ⟨_, rfl⟩
  refine (V5.write (D' := D4) 4 (by omega) (by rw [nD3]) (by rw [nD3]; simp) (by rw [nD3]; simp) (by rw [nD3, nD4]; rfl)).mono ?_
  rintro _ w5 ⟨rfl, O5, h5⟩
  have q5 := h5.hp Kq bq0 0
  simp [go_sem]
  rw [VCall_closure _ _ _ _ [.pointer (some ⟨q, 0, none⟩)] _ (hfn _ _)]
  refine (h5.tells q5 4 (by omega) (by rw [nD4]) (r := .string ⟨(zb : Byts).toArray⟩) (by rw [nD4]; simp [Dk.look, Dk.tells, lastC, blockM, tellS])).mono ?_
  rintro _ w6 ⟨rfl, O6, h6⟩
  have q6 := h6.hp Kq bq0 0
  simp [go_sem, f5]
  rw [VCall_closure _ _ _ _ [.pointer (some ⟨q, 0, none⟩)] _ (hfn _ _)]
  refine (h6.tells q6 5 (by omega) (by rw [nD4]) (r := .string ⟨(b : Byts).toArray⟩) (by rw [nD4]; simp [Dk.look, Dk.tells, lastC, tellS])).mono ?_
  rintro _ w7 ⟨rfl, O7, h7⟩
  have q7 := h7.hp Kq bq0 0
  obtain ⟨v8, u8, e8, V8⟩ := h7.conv a ha
  simp [go_sem, q7, e8, f1, f3, f4]
  obtain ⟨D5, nD5⟩ : ∃ D : Dk, D = ⟨(fun _ => none), [(5, b), (3, a)], (fun _ => false), (fun _ => false), false, false, none⟩ := ⟨_, rfl⟩
  refine (V8.write (D' := D5) 3 (by omega) (by rw [nD4]) (by rw [nD4]; simp) (by rw [nD4]; simp) (by rw [nD4, nD5]; rfl)).mono ?_
  rintro _ w8 ⟨rfl, O8, h8⟩
  have q8 := h8.hp Kq bq0 0
  simp [go_sem]
  rw [VCall_closure _ _ _ _ [.pointer (some ⟨q, 0, none⟩)] _ (hfn _ _)]
  refine (h8.tells q8 3 (by omega) (by rw [nD5]) (r := .string ⟨(a : Byts).toArray⟩) (by rw [nD5]; simp [Dk.look, Dk.tells, lastC, tellS])).mono ?_
  rintro _ w9 ⟨rfl, O9, h9⟩
  have q9 := h9.hp Kq bq0 0
  simp [go_sem, q9, f1, f3]
  obtain ⟨D6, nD6⟩ : ∃ D : Dk, D = ⟨(fun x => (lastC [(5, b), (3, a)] x).or ((fun _ => none) x)), [], (fun x => if (lastC [(5, b), (3, a)] x).isSome then false else (fun _ => false) x), (fun _ => false), false, false, none⟩ := ⟨_, rfl⟩
  refine (h9.flush (D' := D6) (by rw [nD5]) (by rw [nD5]; simp) (by rw [nD5, nD6]; rfl)).mono ?_
  rintro _ w10 ⟨rfl, O10, h10⟩
  have q10 := h10.hp Kq bq0 0
  obtain ⟨v11, u11, e11, V11⟩ := h10.conv b hb
  simp [go_sem, q10, e11, f1, f4]
  refine (V11.rot 3 (by omega) (by rw [nD6]; simp)).mono ?_
  rintro _ w11 ⟨rfl, O11, h11⟩
  obtain ⟨D7, nD7⟩ : ∃ D : Dk, D = ⟨(fun x => if x = 3 then some b else (fun x => (lastC [(5, b), (3, a)] x).or ((fun _ => none) x)) x), [], (fun x => if (lastC [(5, b), (3, a)] x).isSome then false else (fun _ => false) x), (fun _ => false), false, false, none⟩ := ⟨_, rfl⟩
  rw [show D6.rot 3 b = D7 from by rw [nD6, nD7]; rfl] at h11
  have q11 := h11.hp Kq bq0 0
  simp [go_sem]
  rw [VCall_closure _ _ _ _ [.pointer (some ⟨q, 0, none⟩)] _ (hfn _ _)]
  refine (h11.tells q11 3 (by omega) (by rw [nD7]) (r := .string ⟨(b : Byts).toArray⟩) (by rw [nD7]; simp [Dk.look, Dk.tells, lastC, blockM, tellS])).mono ?_
  rintro _ w12 ⟨rfl, O12, h12⟩
  have q12 := h12.hp Kq bq0 0
  simp [go_sem, q12, f1, f4]
  refine (h12.bad 3 (by omega) (by rw [nD7]; simp)).mono ?_
  rintro _ w13 ⟨rfl, O13, h13⟩
  obtain ⟨D8, nD8⟩ : ∃ D : Dk, D = ⟨(fun x => if x = 3 then some b else (fun x => (lastC [(5, b), (3, a)] x).or ((fun _ => none) x)) x), [], (fun x => if x = 3 then true else (fun x => if (lastC [(5, b), (3, a)] x).isSome then false else (fun _ => false) x) x), (fun _ => false), false, false, none⟩ := ⟨_, rfl⟩
  rw [show D7.bads 3 = D8 from by rw [nD7, nD8]; rfl] at h13
  have q13 := h13.hp Kq bq0 0
  simp [go_sem]
  rw [VCall_closure _ _ _ _ [.pointer (some ⟨q, 0, none⟩)] _ (hfn _ _)]
  refine (h13.tells q13 3 (by omega) (by rw [nD8]) (r := .string ⟨([98, 97, 100] : Byts).toArray⟩) (by rw [nD8]; simp [Dk.look, Dk.tells, lastC, tellS])).mono ?_
  rintro _ w14 ⟨rfl, O14, h14⟩
  have q14 := h14.hp Kq bq0 0
  obtain ⟨v15, u15, e15, V15⟩ := h14.conv a ha
  simp [go_sem, q14, e15, f1, f3]
  obtain ⟨D9, nD9⟩ : ∃ D : Dk, D = ⟨(fun x => if x = 3 then some b else (fun x => (lastC [(5, b), (3, a)] x).or ((fun _ => none) x)) x), [(3, a)], (fun x => if x = 3 then true else (fun x => if (lastC [(5, b), (3, a)] x).isSome then false else (fun _ => false) x) x), (fun _ => false), false, false, none⟩ := ⟨_, rfl⟩
  refine (V15.write (D' := D9) 3 (by omega) (by rw [nD8]) (by rw [nD8]; simp) (by rw [nD8]; simp) (by rw [nD8, nD9]; rfl)).mono ?_
  rintro _ w15 ⟨rfl, O15, h15⟩
  have q15 := h15.hp Kq bq0 0
  simp [go_sem]
  rw [VCall_closure _ _ _ _ [.pointer (some ⟨q, 0, none⟩)] _ (hfn _ _)]
  refine (h15.tells q15 3 (by omega) (by rw [nD9]) (r := .string ⟨(a : Byts).toArray⟩) (by rw [nD9]; simp [Dk.look, Dk.tells, lastC, tellS])).mono ?_
  rintro _ w16 ⟨rfl, O16, h16⟩
  have q16 := h16.hp Kq bq0 0
  simp [go_sem, q16, f1, f3]
  obtain ⟨D10, nD10⟩ : ∃ D : Dk, D = ⟨(fun x => if x = 3 then some b else (fun x => (lastC [(5, b), (3, a)] x).or ((fun _ => none) x)) x), [], (fun x => if x = 3 then true else (fun x => if (lastC [(5, b), (3, a)] x).isSome then false else (fun _ => false) x) x), (fun _ => false), false, false, none⟩ := ⟨_, rfl⟩
  refine (h16.crash (D' := D10) (by rw [nD9]) (by rw [nD9]; simp) (by rw [nD9, nD10])).mono ?_
  rintro _ w17 ⟨rfl, O17, h17⟩
  have q17 := h17.hp Kq bq0 0
  simp [go_sem]
  rw [VCall_closure _ _ _ _ [.pointer (some ⟨q, 0, none⟩)] _ (hfn _ _)]
  refine (h17.tells q17 3 (by omega) (by rw [nD10]) (r := .string ⟨([98, 97, 100] : Byts).toArray⟩) (by rw [nD10]; simp [Dk.look, Dk.tells, lastC, tellS])).mono ?_
  rintro _ w18 ⟨rfl, O18, h18⟩
  have q18 := h18.hp Kq bq0 0
  obtain ⟨v19, u19, e19, V19⟩ := h18.conv a ha
  simp [go_sem, q18, e19, f1, f3]
  obtain ⟨D11, nD11⟩ : ∃ D : Dk, D = ⟨(fun x => if x = 3 then some b else (fun x => (lastC [(5, b), (3, a)] x).or ((fun _ => none) x)) x), [(3, a)], (fun x => if x = 3 then true else (fun x => if (lastC [(5, b), (3, a)] x).isSome then false else (fun _ => false) x) x), (fun _ => false), false, false, none⟩ := ⟨_, rfl⟩
  refine (V19.write (D' := D11) 3 (by omega) (by rw [nD10]) (by rw [nD10]; simp) (by rw [nD10]; simp) (by rw [nD10, nD11]; rfl)).mono ?_
  rintro _ w19 ⟨rfl, O19, h19⟩
  have q19 := h19.hp Kq bq0 0
  simp [go_sem, q19, f1]
  obtain ⟨D12, nD12⟩ : ∃ D : Dk, D = ⟨(fun x => (lastC [(3, a)] x).or ((fun x => if x = 3 then some b else (fun x => (lastC [(5, b), (3, a)] x).or ((fun _ => none) x)) x) x)), [], (fun x => if (lastC [(3, a)] x).isSome then false else (fun x => if x = 3 then true else (fun x => if (lastC [(5, b), (3, a)] x).isSome then false else (fun _ => false) x) x) x), (fun _ => false), false, false, none⟩ := ⟨_, rfl⟩
  refine (h19.flush (D' := D12) (by rw [nD11]) (by rw [nD11]; simp) (by rw [nD11, nD12]; rfl)).mono ?_
  rintro _ w20 ⟨rfl, O20, h20⟩
  have q20 := h20.hp Kq bq0 0
  simp [go_sem]
  rw [VCall_closure _ _ _ _ [.pointer (some ⟨q, 0, none⟩)] _ (hfn _ _)]
  refine (h20.tells q20 3 (by omega) (by rw [nD12]) (r := .string ⟨(a : Byts).toArray⟩) (by rw [nD12]; simp [Dk.look, Dk.tells, lastC, blockM, tellS])).mono ?_
  rintro _ w21 ⟨rfl, O21, h21⟩
  have q21 := h21.hp Kq bq0 0
  simp [go_sem, q21, f1, f3]
  refine (h21.stick 3 (by omega) (by rw [nD12]; simp)).mono ?_
  rintro _ w22 ⟨rfl, O22, h22⟩
  obtain ⟨D13, nD13⟩ : ∃ D : Dk, D = ⟨(fun x => (lastC [(3, a)] x).or ((fun x => if x = 3 then some b else (fun x => (lastC [(5, b), (3, a)] x).or ((fun _ => none) x)) x) x)), [], (fun x => if (lastC [(3, a)] x).isSome then false else (fun x => if x = 3 then true else (fun x => if (lastC [(5, b), (3, a)] x).isSome then false else (fun _ => false) x) x) x), (fun x => if x = 3 then true else (fun _ => false) x), false, false, none⟩ := ⟨_, rfl⟩
  rw [show D12.stick 3 = D13 from by rw [nD12, nD13]; rfl] at h22
  have q22 := h22.hp Kq bq0 0
  obtain ⟨v23, u23, e23, V23⟩ := h22.conv b hb
  simp [go_sem, q22, e23, f1, f4]
  obtain ⟨D14, nD14⟩ : ∃ D : Dk, D = ⟨(fun x => (lastC [(3, a)] x).or ((fun x => if x = 3 then some b else (fun x => (lastC [(5, b), (3, a)] x).or ((fun _ => none) x)) x) x)), [(3, b)], (fun x => if (lastC [(3, a)] x).isSome then false else (fun x => if x = 3 then true else (fun x => if (lastC [(5, b), (3, a)] x).isSome then false else (fun _ => false) x) x) x), (fun x => if x = 3 then true else (fun _ => false) x), false, false, none⟩ := ⟨_, rfl⟩
  refine (V23.write (D' := D14) 3 (by omega) (by rw [nD13]) (by rw [nD13]; simp) (by rw [nD13]; simp) (by rw [nD13, nD14]; rfl)).mono ?_
  rintro _ w23 ⟨rfl, O23, h23⟩
  have q23 := h23.hp Kq bq0 0
  simp [go_sem, q23, f1]
  obtain ⟨D15, nD15⟩ : ∃ D : Dk, D = ⟨(fun x => (lastC [(3, b)] x).or ((fun x => (lastC [(3, a)] x).or ((fun x => if x = 3 then some b else (fun x => (lastC [(5, b), (3, a)] x).or ((fun _ => none) x)) x) x)) x)), [], (fun x => if (lastC [(3, b)] x).isSome then false else (fun x => if (lastC [(3, a)] x).isSome then false else (fun x => if x = 3 then true else (fun x => if (lastC [(5, b), (3, a)] x).isSome then false else (fun _ => false) x) x) x) x), (fun x => if x = 3 then true else (fun _ => false) x), false, false, none⟩ := ⟨_, rfl⟩
  refine (h23.flush (D' := D15) (by rw [nD14]) (by rw [nD14]; simp) (by rw [nD14, nD15]; rfl)).mono ?_
  rintro _ w24 ⟨rfl, O24, h24⟩
  have q24 := h24.hp Kq bq0 0
  simp [go_sem]
  rw [VCall_closure _ _ _ _ [.pointer (some ⟨q, 0, none⟩)] _ (hfn _ _)]
  refine (h24.tells q24 3 (by omega) (by rw [nD15]) (r := .string ⟨([98, 97, 100] : Byts).toArray⟩) (by rw [nD15]; simp [Dk.look, tellS])).mono ?_
  rintro _ w25 ⟨rfl, O25, h25⟩
  have q25 := h25.hp Kq bq0 0
  simp [go_sem, q25, f1]
  refine (h25.astray 100).mono ?_
  rintro _ w26 ⟨rfl, O26, h26⟩
  obtain ⟨D16, nD16⟩ : ∃ D : Dk, D = ⟨(fun x => (lastC [(3, b)] x).or ((fun x => (lastC [(3, a)] x).or ((fun x => if x = 3 then some b else (fun x => (lastC [(5, b), (3, a)] x).or ((fun _ => none) x)) x) x)) x)), [], (fun x => if (lastC [(3, b)] x).isSome then false else (fun x => if (lastC [(3, a)] x).isSome then false else (fun x => if x = 3 then true else (fun x => if (lastC [(5, b), (3, a)] x).isSome then false else (fun _ => false) x) x) x) x), (fun x => if x = 3 then true else (fun _ => false) x), false, false, some 100⟩ := ⟨_, rfl⟩
  rw [show ({ D15 with astray := some 100 } : Dk) = D16 from by rw [nD15, nD16]] at h26
  have q26 := h26.hp Kq bq0 0
  obtain ⟨v27, u27, e27, V27⟩ := h26.conv a ha
  simp [go_sem, q26, e27, f1, f3]
  obtain ⟨D17, nD17⟩ : ∃ D : Dk, D = ⟨(fun x => (lastC [(3, b)] x).or ((fun x => (lastC [(3, a)] x).or ((fun x => if x = 3 then some b else (fun x => (lastC [(5, b), (3, a)] x).or ((fun _ => none) x)) x) x)) x)), [], (fun x => if (lastC [(3, b)] x).isSome then false else (fun x => if (lastC [(3, a)] x).isSome then false else (fun x => if x = 3 then true else (fun x => if (lastC [(5, b), (3, a)] x).isSome then false else (fun _ => false) x) x) x) x), (fun x => if x = 3 then true else (fun _ => false) x), false, false, none⟩ := ⟨_, rfl⟩
  refine (V27.write (D' := D17) 6 (by omega) (by rw [nD16]) (by rw [nD16]; simp) (by rw [nD16]; simp) (by rw [nD16, nD17]; rfl)).mono ?_
  rintro _ w27 ⟨rfl, O27, h27⟩
  have q27 := h27.hp Kq bq0 0
  simp [go_sem]
  rw [VCall_closure _ _ _ _ [.pointer (some ⟨q, 0, none⟩)] _ (hfn _ _)]
  refine (h27.tells q27 6 (by omega) (by rw [nD17]) (r := .string ⟨(zb : Byts).toArray⟩) (by rw [nD17]; simp [Dk.look, Dk.tells, lastC, blockM, tellS])).mono ?_
  rintro _ w28 ⟨rfl, O28, h28⟩
  have q28 := h28.hp Kq bq0 0
  obtain ⟨v29, u29, e29, V29⟩ := h28.conv a ha
  simp [go_sem, q28, e29, f1, f3, f5]
  refine (V29.rotOut 9 (by omega) (by omega) (by rw [nD17]; simp)).mono ?_
  rintro _ w29 ⟨rfl, O29, h29⟩
  have q29 := h29.hp Kq bq0 0
  simp [go_sem, q29, f1]
  refine (h29.rotNil 1 (by omega) (by rw [nD17]; simp)).mono ?_
  rintro _ w30 ⟨rfl, O30, h30⟩
  have q30 := h30.hp Kq bq0 0
  simp [go_sem, q30, f1]
  refine h30.die.mono ?_
  rintro _ w31 ⟨rfl, O31, h31⟩
  obtain ⟨D18, nD18⟩ : ∃ D : Dk, D = ⟨(fun x => (lastC [(3, b)] x).or ((fun x => (lastC [(3, a)] x).or ((fun x => if x = 3 then some b else (fun x => (lastC [(5, b), (3, a)] x).or ((fun _ => none) x)) x) x)) x)), [], (fun x => if (lastC [(3, b)] x).isSome then false else (fun x => if (lastC [(3, a)] x).isSome then false else (fun x => if x = 3 then true else (fun x => if (lastC [(5, b), (3, a)] x).isSome then false else (fun _ => false) x) x) x) x), (fun x => if x = 3 then true else (fun _ => false) x), true, false, none⟩ := ⟨_, rfl⟩
  rw [show ({ D17 with dead := true } : Dk) = D18 from by rw [nD17, nD18]] at h31
  have q31 := h31.hp Kq bq0 0
  simp [go_sem, q31, f1]
  refine (h31.readDead 5 (by omega) (by rw [nD18])).mono ?_
  rintro _ w32 ⟨rfl, O32, h32⟩
  have q32 := h32.hp Kq bq0 0
  simp [go_sem, q32, f1]
  refine (h32.lookDead 5 (by omega) (by rw [nD18])).mono ?_
  rintro _ w33 ⟨rfl, O33, h33⟩
  have q33 := h33.hp Kq bq0 0
  obtain ⟨v34, u34, e34, V34⟩ := h33.conv a ha
  simp [go_sem, q33, e34, f1, f3]
  refine (V34.writeDead 5 (by omega) (by rw [nD18]) (by rw [nD18]; simp) (by rw [nD18]; simp)).mono ?_
  rintro _ w34 ⟨rfl, O34, h34⟩
  have q34 := h34.hp Kq bq0 0
  simp [go_sem, q34, f1]
  refine (h34.flushDead (by rw [nD18]) (by rw [nD18]; simp)).mono ?_
  rintro _ w35 ⟨rfl, O35, h35⟩
  have q35 := h35.hp Kq bq0 0
  simp [go_sem, q35, f1]
  refine h35.sd.dead.mono ?_
  rintro _ wd ⟨rfl, rfl⟩
  rw [nD18]
  simp [go_sem]
  refine (wakes_any _).mono ?_
  rintro _ wl ⟨rfl, cl⟩
  simp [go_sem]
  exact hR _ _ ⟨rfl, h35.ch.trans cl⟩
end Go.Proofs.Ytmhnlgndgdmebaa
