/- OverlayWhole. Condition: the variable ptr.wide holds what the text lays. -/
import Derived.Test.YtmhnlgndgdmebaaDoorOvM
namespace Go.Proofs.YtmhnlgndgdmebaaDoor
open Go.RowKit Go.Kin Go.Maps

theorem tNum_ne (tl : Tl) : tNum tl 12 ≠ [] := fun e => by
  have := congrArg List.length e
  simp [tNum, headT] at this
/-- an act in a list -/
theorem lst_act {w : World} {v : Value} {l : List Ac} (h : Lst w v acv 49 l) {i : Nat} {a : Ac} (hi : l[i]? = some a) (ok : a.Ok) : ∃ b off cp C T fr, v = .slice (some ⟨b, off, none⟩) l.length cp ∧ b < w.heap.size ∧ w.heap[b]? = some (.cells C T fr) ∧ off + i * 49 + 49 ≤ C.size ∧ C.extract (off + i * 49) (off + i * 49 + 49) = (acv a).toArray := by
  obtain ⟨A, cp, rfl, _, _, h3⟩ := h
  obtain ⟨b, off, rfl, hb, hr⟩ := h3 (by have := (List.getElem?_eq_some_iff.1 hi).1; omega)
  have hl := acv_len ok
  have hc : ∀ j u, (acv a)[j]? = some u → w.cell? ⟨b, off + i * 49 + j, none⟩ = some u := fun j u hu => hr i a j u hi hu
  obtain ⟨C, T, fr, hC⟩ : ∃ C T fr, w.heap[b]? = some (.cells C T fr) := by
    obtain ⟨u, hu⟩ : ∃ u, (acv a)[0]? = some u := ⟨_, rfl⟩
    have h0 := hc 0 u hu
    simp only [World.cell?] at h0
    cases hb : w.heap[b]? with
    | none => rw [hb] at h0; cases h0
    | some ob =>
      rw [hb] at h0
      cases ob with
      | cells C T fr => exact ⟨C, T, fr, rfl⟩
      | _ => cases h0
  have hc2 : ∀ j, j < 49 → C[off + i * 49 + j]? = (acv a)[j]? := fun j hj => by
    obtain ⟨u, hu⟩ : ∃ u, (acv a)[j]? = some u := ⟨_, List.getElem?_eq_getElem (by omega)⟩
    rw [hu, ← hc j u hu, cell_blk hC]
  have hsz : off + i * 49 + 49 ≤ C.size := by
    have h48 := hc2 48 (by omega)
    rw [List.getElem?_eq_getElem (by omega)] at h48
    have := (Array.getElem?_eq_some_iff.1 h48).1
    omega
  refine ⟨b, off, cp, C, T, fr, rfl, hb, hC, hsz, ?_⟩
  apply Array.ext'
  apply List.ext_getElem?
  intro j
  rw [Array.toList_extract, List.extract_eq_take_drop, List.getElem?_take, List.getElem?_drop]
  by_cases hj : j < 49
  · rw [if_pos (by omega), Array.getElem?_toList, hc2 j hj]
  · rw [if_neg (by omega), List.getElem?_eq_none (by simp only; omega)]
set_option maxRecDepth 100000 in
set_option maxHeartbeats 8000000 in
theorem whole_any (bad : Nat) (hbad : bad < 65536) (v1 v2 v3 : Value) (L1 L2 L3 : List Ac) (ends : Bool) (W : World) (hw : Lw W) (h1 : Lst W v1 acv 49 L1) (h2 : Lst W v2 acv 49 L2) (h3 : Lst W v3 acv 49 L3) (ok1 : ∀ a ∈ L1, a.Ok) (ok2 : ∀ a ∈ L2, a.Ok) (ok3 : ∀ a ∈ L3, a.Ok) :
    Ret Tryd.prog 5 #[.int .u16 bad, v1, v2, v3, .bool ends] W fun v' w' => v' = .bool true ∧ Ch Nw W w' := by
  refine v_enter Tryd.func5 Tryd.ntmps5 rfl (by simp) fun R' hR => ?_
  have n1 := h1.len Tryd.underlying40 3
  have n2 := h2.len Tryd.underlying40 3
  have n3 := h3.len Tryd.underlying40 3
  by_cases q1 : L1.length ≤ 60
  case neg =>
    have q1' : (60 : Int) < L1.length := by omega
    simp [go_sem, n1, q1']
    refine (wakes_any W).mono ?_
    rintro _ w' ⟨rfl, c⟩
    simp [go_sem]
    exact hR _ _ ⟨rfl, c⟩
  have q1' : ¬ (60 : Int) < L1.length := by omega
  by_cases q2 : L2.length ≤ 60
  case neg =>
    have q2' : (60 : Int) < L2.length := by omega
    simp [go_sem, n1, n2, q1', q2']
    refine (wakes_any W).mono ?_
    rintro _ w' ⟨rfl, c⟩
    simp [go_sem]
    exact hR _ _ ⟨rfl, c⟩
  have q2' : ¬ (60 : Int) < L2.length := by omega
  by_cases q3 : L3.length ≤ 60
  case neg =>
    have q3' : (60 : Int) < L3.length := by omega
    simp [go_sem, n1, n2, n3, q1', q2', q3']
    refine (wakes_any W).mono ?_
    rintro _ w' ⟨rfl, c⟩
    simp [go_sem]
    exact hR _ _ ⟨rfl, c⟩
  have q3' : ¬ (60 : Int) < L3.length := by omega
  have b0 := hp_alloc W (.cells #[.int .u16 bad, .int .i64 0] 47)
  have ca := (Ch.refl Nw W).alloc (.cells #[.int .u16 bad, .int .i64 0] 47)
  have sa : (W.alloc (.cells #[.int .u16 bad, .int .i64 0] 47)).heap.size = W.heap.size + 1 := by simp
  simp [go_sem, n1, n2, n3, q1', q2', q3', mi_g]
  obtain ⟨g, hg⟩ : ∃ g, W.heap.size = g := ⟨_, rfl⟩
  rw [hg] at b0 sa ⊢
  generalize W.alloc (.cells #[.int .u16 bad, .int .i64 0] 47) = w1 at *
  refine (tp_new W w1 g bad hg.symm b0 sa ca).mono ?_
  rintro _ w2 ⟨o, zo, Xo, rfl, ho, c2, s2⟩
  simp [go_sem]
  obtain ⟨A, hA⟩ : ∃ A : (Nat → Value) → Prop, A = fun f => f 1 = v1 ∧ f 2 = v2 ∧ f 3 = v3 ∧ f 4 = .bool ends ∧ f 11 = oP o := ⟨_, rfl⟩
  refine v_loop (fun r f u => ∃ i D Y, r = L1.length - i ∧ i ≤ L1.length ∧ f 13 = .int .i64 i ∧ (f 1 = v1 ∧ f 2 = v2 ∧ f 3 = v3 ∧ f 4 = .bool ends ∧ f 11 = oP o) ∧ Tp W u g bad 0 (g + 1) (gV g) (.pointer none) (gT bad) o i D Xo Y zo ∧ g + 1 < u.heap.size) L1.length
    ⟨0, Ov.new, _, rfl, Nat.zero_le _, by simp, by simp, ho, s2⟩ ?_
  clear ho c2 s2
  rintro J hJ _ f u ⟨i, D, Y, rfl, hi, f13, ⟨f1, f2, f3, f4, f11⟩, ho, su⟩
  obtain ⟨i0, hi0⟩ : ∃ i0, i = i0 := ⟨_, rfl⟩
  by_cases hlt : i < L1.length
  · have hii : (i : Int) < L1.length := by omega
    have hwi : IntKind.i64.wrap ((i : Int) + 1) = ((i + 1 : Nat) : Int) := by rw [IntKind.wrap_i64]; omega
    obtain ⟨a, hai⟩ : ∃ a, L1[i]? = some a := ⟨_, List.getElem?_eq_getElem hlt⟩
    have ok := ok1 a (List.mem_of_getElem? hai)
    obtain ⟨b, off, cp, C, T, fr, rfl, hb, hC, hsz, hex⟩ := lst_act h1 hai ok
    have hC' := ho.ch.obj hC id
    simp [go_sem, f13, f1, f11, n1, hii, hlt, hC', hsz, hex]
    refine (ho.deed (by omega) a ok hw (by omega)).mono ?_
    rintro v5 w5 ⟨Y5, h5, c5⟩
    have hwi' : IntKind.i64.wrap ((i : Int) + 1) = (i : Int) + 1 := by rw [hwi]; omega
    simp [go_sem, f13, hwi']
    exact Rnd.intro (L1.length - (i + 1)) (by omega) (hJ _ _ _ ⟨i + 1, _, _, rfl, by omega, by simp, by simp [f1, f2, f3, f4, f11], h5, by have := c5.size; omega⟩)
  have hge : ¬ (i : Int) < L1.length := by omega
  have hi60 : i0 ≤ 60 := by omega
  simp [go_sem, f13, f1, n1, hge, f11, hlt]
  refine ho.told.mono ?_
  rintro _ w3 ⟨rfl, g3, c3⟩
  have ho3 := ho.ask c3 g3
  rw [hi0] at ho3
  have s3 := c3.size
  obtain ⟨to, hto⟩ : ∃ tl, ovT D (gT bad) = tl := ⟨_, rfl⟩
  rw [hto]
  simp [go_sem, f11]
  refine (ho3.begin (by omega)).mono ?_
  rintro _ w4 ⟨t, zt, Xt, rfl, ht, c4, s4⟩
  obtain ⟨s, hs⟩ : ∃ s, w3.heap.size = s := ⟨_, rfl⟩
  have hio := ho3.ov.lt
  rw [hs] at ht s4 hio
  have ho4 := ho3.chg (e := s) (by omega) hio c4 (fun _ e => e.elim)
  rw [hto] at ht
  simp [go_sem, f11]
  refine ht.told.mono ?_
  rintro _ w5 ⟨rfl, g5, c5⟩
  have ho5 := ho4.ask c5 g5
  have ht5 := ht.ask c5 g5
  have s5 := c5.size
  rw [← hto, new_tells, hto]
  obtain ⟨was, hwas⟩ : ∃ b : ByteArray, (⟨(tNum to 12).toArray⟩ : ByteArray) = b := ⟨_, rfl⟩
  have hwe : was.toList.isEmpty = false := by
    rw [ByteArray.toList_eq, ← hwas]
    cases hh : tNum to 12 with
    | nil => exact absurd hh (tNum_ne to)
    | cons _ _ => rfl
  rw [hwas]
  simp [go_sem, hwe]
  have told_o : ∀ {u i' D' Y'}, Tp W u g bad 0 (g + 1) (gV g) (.pointer none) (gT bad) o i' D' Xo Y' zo → ovT D' (gT bad) = to → Ret Tryd.prog 17 #[oP o] u fun v' w' => v' = .string was ∧ GrAt w' g bad ∧ Ch (one g) u w' := fun {u i' D' Y'} h e => by
    have := h.told
    rw [e, hwas] at this
    exact this
  clear hwas
  have s05 : s < w5.heap.size := by omega
  refine v_loop (fun r f u => ∃ i E Yt, r = L2.length - i ∧ i ≤ L2.length ∧ f 16 = .int .i64 i ∧ (f 1 = v1 ∧ f 2 = v2 ∧ f 3 = v3 ∧ f 4 = .bool ends ∧ f 11 = oP o ∧ f 14 = .string was ∧ f 15 = oP t) ∧ Tp W u g bad 0 (g + 1) (gV g) (.pointer none) (gT bad) o i0 D Xo Y zo ∧ Tp W u g bad 1 s (oV o) (oP o) to t i E Xt Yt zt ∧ s < u.heap.size) L2.length
    ⟨0, Ov.new, _, rfl, Nat.zero_le _, by simp, by simp [f1, f2, f3, f4, f11], ho5, ht5, s05⟩ ?_
  clear hJ J f1 f2 f3 f4 f11 f13 ho ho3 ho4 ho5 ht ht5 c3 c4 c5 g3 g5 f s05
  rintro J hJ _ f u ⟨i, E, Yt, rfl, hi, f16, ⟨f1, f2, f3, f4, f11, f14, f15⟩, ho, ht, su⟩
  by_cases hlt : i < L2.length
  · have hii : (i : Int) < L2.length := by omega
    have hwi : IntKind.i64.wrap ((i : Int) + 1) = ((i + 1 : Nat) : Int) := by rw [IntKind.wrap_i64]; omega
    obtain ⟨a, hai⟩ : ∃ a, L2[i]? = some a := ⟨_, List.getElem?_eq_getElem hlt⟩
    have ok := ok2 a (List.mem_of_getElem? hai)
    obtain ⟨b, off, cp, C, T, fr, rfl, hb, hC, hsz, hex⟩ := lst_act h2 hai ok
    have hC' := ho.ch.obj hC id
    simp [go_sem, f16, f2, f15, n2, hii, hlt, hC', hsz, hex]
    refine (ht.deed (by omega) a ok hw (by omega)).mono ?_
    rintro v5 w5 ⟨Y5, ht5, c5⟩
    have ho5 := ho.chg (e := s) (by omega) hio c5 fun k hk => ht.lo k (.inl hk)
    simp [go_sem, f11]
    refine (told_o ho5 hto).mono ?_
    rintro _ w6 ⟨rfl, g6, c6⟩
    have hwi' : IntKind.i64.wrap ((i : Int) + 1) = (i : Int) + 1 := by rw [hwi]; omega
    simp [go_sem, f14, f16, hwi']
    exact Rnd.intro (L2.length - (i + 1)) (by omega) (hJ _ _ _ ⟨i + 1, _, _, rfl, by omega, by simp, by simp [f1, f2, f3, f4, f11, f14, f15], ho5.ask c6 g6, ht5.ask c6 g6, by have := c5.size; have := c6.size; omega⟩)
  have hge : ¬ (i : Int) < L2.length := by omega
  obtain ⟨m0, hm0⟩ : ∃ m, i = m := ⟨_, rfl⟩
  have hm60 : m0 ≤ 60 := by omega
  obtain ⟨tt, htt⟩ : ∃ tl, ovT E to = tl := ⟨_, rfl⟩
  obtain ⟨mid, hmid⟩ : ∃ b : ByteArray, (⟨(tNum tt 12).toArray⟩ : ByteArray) = b := ⟨_, rfl⟩
  have hme : mid.toList.isEmpty = false := by
    rw [ByteArray.toList_eq, ← hmid]
    cases hh : tNum tt 12 with
    | nil => exact absurd hh (tNum_ne tt)
    | cons _ _ => rfl
  have told_t : ∀ {u i' E' Y'}, Tp W u g bad 1 s (oV o) (oP o) to t i' E' Xt Y' zt → ∀ {b : ByteArray}, (⟨(tNum (ovT E' to) 12).toArray⟩ : ByteArray) = b → Ret Tryd.prog 17 #[oP t] u fun v' w' => v' = .string b ∧ GrAt w' g bad ∧ Ch (one g) u w' := fun {u i' E' Y'} h {b} e => by
    have := h.told
    rw [e] at this
    exact this
  simp [go_sem, f16, f2, n2, hge, hlt, f15]
  refine (told_t ht (b := mid) (by rw [htt, hmid])).mono ?_
  rintro _ w3 ⟨rfl, g3, c3⟩
  have ho3 := ho.ask c3 g3
  have ht3 := ht.ask c3 g3
  rw [hm0] at ht3
  have s3 := c3.size
  simp [go_sem, f15]
  refine (ht3.begin (by omega)).mono ?_
  rintro _ w4 ⟨x, zx, Xx, rfl, hx, c4, s4⟩
  obtain ⟨s', hs'⟩ : ∃ s, w3.heap.size = s := ⟨_, rfl⟩
  have hit := ht3.ov.lt
  rw [hs'] at hx s4 hit
  have ho4 := ho3.chg (e := s) (by omega) hio c4 (fun _ e => e.elim)
  have ht4 := ht3.chg (e := s') (by omega) hit c4 (fun _ e => e.elim)
  rw [htt] at hx
  simp [go_sem]
  refine v_loop (fun r f u => ∃ i G Yx, r = L3.length - i ∧ i ≤ L3.length ∧ f 19 = .int .i64 i ∧ (f 3 = v3 ∧ f 4 = .bool ends ∧ f 11 = oP o ∧ f 14 = .string was ∧ f 15 = oP t ∧ f 17 = .string mid ∧ f 18 = oP x) ∧ Tp W u g bad 0 (g + 1) (gV g) (.pointer none) (gT bad) o i0 D Xo Y zo ∧ Tp W u g bad 1 s (oV o) (oP o) to t m0 E Xt Yt zt ∧ Tp W u g bad 2 s' (oV t) (oP t) tt x i G Xx Yx zx ∧ s' < u.heap.size) L3.length
    ⟨0, Ov.new, _, rfl, Nat.zero_le _, by simp, by simp [f3, f4, f11, f14, f15], ho4, ht4, hx, s4⟩ ?_
  have hss : s < s' := by omega
  clear hJ J f1 f2 f3 f4 f11 f14 f15 f16 ho ho3 ho4 ht ht3 ht4 hx c3 c4 g3 s3 s4 su f
  rintro J hJ _ f u ⟨i, G, Yx, rfl, hi, f19, ⟨f3, f4, f11, f14, f15, f17, f18⟩, ho, ht, hx, su⟩
  by_cases hlt : i < L3.length
  · have hii : (i : Int) < L3.length := by omega
    have hwi : IntKind.i64.wrap ((i : Int) + 1) = ((i + 1 : Nat) : Int) := by rw [IntKind.wrap_i64]; omega
    obtain ⟨a, hai⟩ : ∃ a, L3[i]? = some a := ⟨_, List.getElem?_eq_getElem hlt⟩
    have ok := ok3 a (List.mem_of_getElem? hai)
    obtain ⟨b, off, cp, C, T, fr, rfl, hb, hC, hsz, hex⟩ := lst_act h3 hai ok
    have hC' := ho.ch.obj hC id
    simp [go_sem, f19, f3, f18, n3, hii, hlt, hC', hsz, hex]
    refine (hx.deed (by omega) a ok hw (by omega)).mono ?_
    rintro v5 w5 ⟨Y5, hx5, c5⟩
    have ho5 := ho.chg (e := s) (by omega) hio c5 fun k hk => by have := hx.lo k (.inl hk); omega
    have ht5 := ht.chg (e := s') (by omega) hit c5 fun k hk => hx.lo k (.inl hk)
    have hwi' : IntKind.i64.wrap ((i : Int) + 1) = (i : Int) + 1 := by rw [hwi]; omega
    simp [go_sem, f19, hwi']
    exact Rnd.intro (L3.length - (i + 1)) (by omega) (hJ _ _ _ ⟨i + 1, _, _, rfl, by omega, by simp, by simp [f3, f4, f11, f14, f15, f17, f18], ho5, ht5, hx5, by have := c5.size; omega⟩)
  have hge : ¬ (i : Int) < L3.length := by omega
  simp [go_sem, f19, f3, n3, hge, hlt, f15]
  refine (told_t ht (b := mid) (by rw [htt, hmid])).mono ?_
  rintro _ w3 ⟨rfl, g3, c3⟩
  have ho := ho.ask c3 g3
  have ht := ht.ask c3 g3
  have hx := hx.ask c3 g3
  have s3 := c3.size
  simp [go_sem, f11, f17]
  refine (told_o ho hto).mono ?_
  rintro _ w4 ⟨rfl, g4, c4⟩
  have ho := ho.ask c4 g4
  have ht := ht.ask c4 g4
  have hx := hx.ask c4 g4
  have s4 := c4.size
  have hot : o ≠ t := fun e => by
    have := hio o (.inl (ho.ov.x o (.inl rfl)))
    have := ht.lo t (.inl (ht.ov.x t (.inl rfl)))
    omega
  cases ends with
  | false =>
    simp [go_sem, f14, f17, f4, f15]
    refine (told_t ht (b := mid) (by rw [htt, hmid])).mono ?_
    rintro _ w5 ⟨rfl, g5, c5⟩
    have ho := ho.ask c5 g5
    have ht := ht.ask c5 g5
    have hx := hx.ask c5 g5
    simp [go_sem, f11]
    refine (told_o ho hto).mono ?_
    rintro _ w6 ⟨rfl, g6, c6⟩
    have ho := ho.ask c6 g6
    have ht := ht.ask c6 g6
    have hx := hx.ask c6 g6
    simp [go_sem, f14, f11, f18]
    refine (endNot_any o x t hx.ov (fun e => hot e.symm) ho.ov.blk ht.ov.blk).mono ?_
    rintro _ w7 ⟨rfl, rfl⟩
    simp [go_sem, f11, f15]
    refine (ho.end ht (by omega) hio (by omega)).mono ?_
    rintro _ w8 ⟨rfl, ho8, _, _⟩
    simp [go_sem, f11]
    have hto8 := ho8.told
    rw [merge_tells, hto, htt, hmid] at hto8
    refine hto8.mono ?_
    rintro _ w9 ⟨rfl, g9, c9⟩
    have ho := ho8.ask c9 g9
    simp [go_sem, hme]
    refine (wakes_any w9).mono ?_
    rintro _ w10 ⟨rfl, c10⟩
    simp [go_sem]
    exact hR _ _ ⟨rfl, ho.ch.trans c10⟩
  | true =>
    obtain ⟨tx, htx⟩ : ∃ tl, ovT G tt = tl := ⟨_, rfl⟩
    obtain ⟨want, hwant⟩ : ∃ b : ByteArray, (⟨(tNum tx 12).toArray⟩ : ByteArray) = b := ⟨_, rfl⟩
    have hne : want.toList.isEmpty = false := by
      rw [ByteArray.toList_eq, ← hwant]
      cases hh : tNum tx 12 with
      | nil => exact absurd hh (tNum_ne tx)
      | cons _ _ => rfl
    have hxt := hx.told
    rw [htx, hwant] at hxt
    simp [go_sem, f14, f17, f4, f18]
    refine hxt.mono ?_
    rintro _ w5 ⟨rfl, g5, c5⟩
    have ho := ho.ask c5 g5
    have ht := ht.ask c5 g5
    have hx := hx.ask c5 g5
    simp [go_sem, f15, f18]
    refine (ht.end hx (by omega) hit (by omega)).mono ?_
    rintro _ w6 ⟨rfl, ht6, hx6, c6⟩
    have ho6 := ho.chg (e := s) (by omega) hio c6 fun k hk => hk.elim (fun e => ht.lo k (.inl e)) fun e => by subst e; have := hx.lo k (.inl (hx.ov.x k (.inl rfl))); omega
    simp [go_sem, f15]
    refine (told_t ht6 (b := want) (by rw [merge_tells, htt, htx, hwant])).mono ?_
    rintro _ w7 ⟨rfl, g7, c7⟩
    have ho := ho6.ask c7 g7
    have ht := ht6.ask c7 g7
    have kx : ∀ {u u'}, Ch (one g) u u' → OvP u x (oV t) (.pointer none) i G Xx Yx zx → OvP u' x (oV t) (.pointer none) i G Xx Yx zx := fun hc hh => hh.ch hc (fun k hk e => by simp only [one] at e; have := hx.lo k (.inl hk); omega) fun k hk e => by simp only [one] at e; have := hx.lo k (.inr hk); omega
    have hx7 := kx c7 hx6
    simp [go_sem, f11]
    refine (told_o ho hto).mono ?_
    rintro _ w8 ⟨rfl, g8, c8⟩
    have ho := ho.ask c8 g8
    have ht := ht.ask c8 g8
    have hx8 := kx c8 hx7
    simp [go_sem, f14, f11, f18]
    refine (endNil_any o x hx8).mono ?_
    rintro _ w9 ⟨rfl, rfl⟩
    simp [go_sem, f11, f15]
    refine (ho.end ht (by omega) hio (by omega)).mono ?_
    rintro _ w10 ⟨rfl, ho10, _, _⟩
    simp [go_sem, f11]
    have hto10 := ho10.told
    rw [merge_tells, hto, merge_tells, htt, htx, hwant] at hto10
    refine hto10.mono ?_
    rintro _ w11 ⟨rfl, g11, c11⟩
    have ho := ho10.ask c11 g11
    simp [go_sem, hne]
    refine (wakes_any w11).mono ?_
    rintro _ w12 ⟨rfl, c12⟩
    simp [go_sem]
    exact hR _ _ ⟨rfl, ho.ch.trans c12⟩
end Go.Proofs.YtmhnlgndgdmebaaDoor
