/- OverlayWhole. Condition: the variable ptr.wide holds what the text lays. -/
import Derived.Test.YtnefdmbdkljifaaDoorOvL
set_option linter.unusedSimpArgs false
set_option linter.unusedVariables false

/- An overlay that is known. No condition. -/
namespace Go.Proofs.YtnefdmbdkljifaaDoor
open Go.RowKit Go.Kin Go.Maps

theorem mi_g (g : Nat) (w : World) : (Instr.makeInterface 26 (.pointer (some ⟨g, 0, none⟩))).run Tryd.prog w = .ok (gV g) w := by kernel_rfl
set_option maxRecDepth 100000 in
set_option maxHeartbeats 2000000 in
theorem wakes_any (W : World) : Ret Tryd.prog 4 #[] W fun v' w' => v' = .bool true ∧ Ch Nw W w' := by
  refine v_enter Tryd.func4 Tryd.ntmps4 rfl (by simp) fun R' hR => ?_
  have b0 := hp_alloc W (.cells #[.int .u16 0, .int .i64 0] 28)
  have ca := (Ch.refl Nw W).alloc (.cells #[.int .u16 0, .int .i64 0] 28)
  have sa : (W.alloc (.cells #[.int .u16 0, .int .i64 0] 28)).heap.size = W.heap.size + 1 := by simp
  simp [go_sem, mi_g]
  obtain ⟨g, hg⟩ : ∃ g, W.heap.size = g := ⟨_, rfl⟩
  rw [hg] at b0 sa ⊢
  generalize W.alloc (.cells #[.int .u16 0, .int .i64 0] 28) = w1 at *
  refine (tp_new W w1 g 0 hg.symm b0 sa ca).mono ?_
  rintro _ w2 ⟨o, zo, Xo, rfl, ho, c2, s2⟩
  simp [go_sem]
  refine (ho.begin (by omega)).mono ?_
  rintro _ w3 ⟨t, zt, Xt, rfl, ht, c3, s3⟩
  have hi := ho.ov.lt
  have ho3 := ho.chg (e := w2.heap.size) (by omega) hi c3 (fun _ e => e.elim)
  have hwipe := wipe_any ht.ov (nm 5) (by omega)
  rw [show (((nm 5).val : Nat) : Int) = 5 from rfl] at hwipe
  simp [go_sem]
  refine hwipe.mono ?_
  rintro _ w4 ⟨rfl, h4, c4⟩
  have ht4 := ht.put h4 (fun k hk => .inl hk) c4
  have ho4 := ho3.chg (e := w2.heap.size) (by omega) hi c4 fun k hk => ht.lo k (.inl hk)
  have hok : okN (nm 5) 0 = true := rfl
  have hok2 : okN (nm 5) (of' 0) = true := rfl
  have l4 := ht4.leaf (nm 5) (of' 0)
  have e1 : ∀ tl, (ovT (Ov.new.wipe (nm 5)) tl).lf (nm 5) (of' 0) = ([], 0) := fun tl => by simp [ovT, hok2, Ov.wipe, hok, Ov.new]
  rw [e1, show (((nm 5).val : Nat) : Int) = 5 from rfl, show (((of' 0).val : Nat) : Int) = 0 from rfl] at l4
  rw [hok]
  simp [go_sem]
  refine l4.mono ?_
  rintro _ w5 ⟨⟨x5, rfl, q5, f5⟩, g5, c5⟩
  have ht5 := ht4.ask c5 g5
  have ho5 := ho4.ask c5 g5
  have l5 := ho5.leaf (nm 5) (of' 0)
  have e2 : (ovT Ov.new (gT 0)).lf (nm 5) (of' 0) = (gLeaf (nm 5), 0) := by rfl
  rw [e2, show (((nm 5).val : Nat) : Int) = 5 from rfl, show (((of' 0).val : Nat) : Int) = 0 from rfl] at l5
  simp [go_sem]
  refine l5.mono ?_
  rintro _ w6 ⟨⟨x6, rfl, q6, f6⟩, g6, c6⟩
  have ht6 := ht5.ask c6 g6
  have ho6 := ho5.ask c6 g6
  simp [go_sem]
  refine (ho6.end ht6 (by omega) hi (by omega)).mono ?_
  rintro _ w7 ⟨rfl, ho7, ht7, c7⟩
  have l7 := ho7.leaf (nm 5) (of' 0)
  have e3 : ∀ tl, (ovT (Ov.new.merge (Ov.new.wipe (nm 5))) tl).lf (nm 5) (of' 0) = ([], 0) := fun tl => by simp [ovT, hok2, Ov.wipe, hok, Ov.new, Ov.merge]
  rw [e3, show (((nm 5).val : Nat) : Int) = 5 from rfl, show (((of' 0).val : Nat) : Int) = 0 from rfl] at l7
  simp [go_sem]
  refine l7.mono ?_
  rintro _ w8 ⟨⟨x8, rfl, q8, f8⟩, g8, c8⟩
  have ho8 := ho7.ask c8 g8
  have ht8 := ht7.ch c8 (fun k hk e => by simp only [Kin.one] at e; have := ht.lo k (.inl hk); omega) fun k hk e => hk.elim
  have hw8 := wiped_any ho8.ov (nm 5)
  have ee := endNil_any o t ht8
  rw [show (((nm 5).val : Nat) : Int) = 5 from rfl, show (Ov.new.merge (Ov.new.wipe (nm 5))).wiped (nm 5) = true by simp [Ov.merge, Ov.wipe, hok, Ov.new]] at hw8
  have n5 := q5.len Tryd.underlying44 3
  have n6 := q6.len Tryd.underlying44 3
  have n8 := q8.len Tryd.underlying44 3
  have hgl : (gLeaf (nm 5)).length = 512 := by unfold gLeaf; rw [List.length_set, z512_len]
  have q6' : Sl w8 x6 512 (bvs (gLeaf (nm 5))) := by
    have q7 := q6.ch c7 fun k hk e => by
      have := f6 k hk
      have h5 : Xo k ∨ k = t := e
      have ht5lt := ht5.ov.lt t (.inl (ht5.ov.x t (.inl rfl)))
      rcases h5 with h5 | h5
      · have := ho5.ov.lt k (.inl h5); omega
      · omega
    have q8 := q7.ch c8 fun k hk e => by
      simp only [Kin.one] at e
      have := f6 k hk
      have := ho5.gl
      omega
    rw [← hgl]
    exact q8
  obtain ⟨ad, hat, hcl, _⟩ := q6'.at tyB (by rw [bvs_length, hgl]) (show (bvs (gLeaf (nm 5)))[0]? = some (bv 5) from rfl)
  have hcl : w8.cell? ad = some (.int .u8 5) := hcl
  have hat0 : ∀ w', (Instr.indexAt 44 x6 (.int .i64 0)).run Tryd.prog w' = .ok (.pointer (some ad)) w' := hat
  simp [go_sem, n5, n6, n8, hgl, hat0, hcl]
  refine hw8.mono ?_
  rintro _ w9 ⟨rfl, rfl⟩
  simp [go_sem]
  refine ee.mono ?_
  rintro _ w10 ⟨rfl, rfl⟩
  simp [go_sem]
  exact hR _ _ ⟨rfl, ho8.ch⟩
end Go.Proofs.YtnefdmbdkljifaaDoor

namespace Go.Proofs.YtnefdmbdkljifaaDoor
open Go.RowKit Go.Kin Go.Maps

theorem tNum_ne (tl : Tl) : tNum tl 12 ≠ [] := fun e => by
  have := congrArg List.length e
  simp [tNum, headT] at this
/-- an act in a list -/
theorem lst_act {w : World} {v : Value} {l : List Ac} (h : Lst w v acv 49 l) {i : Nat} {a : Ac} (hi : l[i]? = some a) (ok : a.Ok) : ∃ b off cp C T fr, v = .slice (some ⟨b, off, none⟩) l.length cp ∧ b < w.heap.size ∧ w.heap[b]? = some (.cells C T fr) ∧ off + i * 49 + 49 ≤ C.size ∧ C.extract (off + i * 49) (off + i * 49 + 49) = (acv a).toArray := by
  obtain ⟨A, cp, rfl, _, _, h3⟩ := h
  obtain ⟨b, off, rfl, hb, hr⟩ := h3 (by have := (List.getElem?_eq_some_iff.1 hi).1; omega)
  have hl := acv_len ok
  have hc : ∀ j u, (acv a)[j]? = some u → w.cell? ⟨b, off + i * 49 + j, none⟩ = some u := fun j u hu => hr i a j u hi hu
  obtain ⟨C, T, fr, hC⟩ : ∃ C T fr, w.heap[b]? = some (.cells C T fr) := by
    obtain ⟨u, hu⟩ : ∃ u, (acv a)[0]? = some u := ⟨_, rfl⟩
    have h0 := hc 0 u hu
    simp only [World.cell?] at h0
    cases hb : w.heap[b]? with
    | none => rw [hb] at h0; cases h0
    | some ob =>
      rw [hb] at h0
      cases ob with
      | cells C T fr => exact ⟨C, T, fr, rfl⟩
      | _ => cases h0
  have hc2 : ∀ j, j < 49 → C[off + i * 49 + j]? = (acv a)[j]? := fun j hj => by
    obtain ⟨u, hu⟩ : ∃ u, (acv a)[j]? = some u := ⟨_, List.getElem?_eq_getElem (by omega)⟩
    rw [hu, ← hc j u hu, cell_blk hC]
  have hsz : off + i * 49 + 49 ≤ C.size := by
    have h48 := hc2 48 (by omega)
    rw [List.getElem?_eq_getElem (by omega)] at h48
    have := (Array.getElem?_eq_some_iff.1 h48).1
    omega
  refine ⟨b, off, cp, C, T, fr, rfl, hb, hC, hsz, ?_⟩
  apply Array.ext'
  apply List.ext_getElem?
  intro j
  rw [Array.toList_extract, List.extract_eq_take_drop, List.getElem?_take, List.getElem?_drop]
  by_cases hj : j < 49
  · rw [if_pos (by omega), Array.getElem?_toList, hc2 j hj]
  · rw [if_neg (by omega), List.getElem?_eq_none (by simp only; omega)]
end Go.Proofs.YtnefdmbdkljifaaDoor
