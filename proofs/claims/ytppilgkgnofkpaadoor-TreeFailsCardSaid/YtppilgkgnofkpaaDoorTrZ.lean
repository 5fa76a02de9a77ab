/- TreeMaps answers true. Conditions: the variables ptr.wide and tree.hole hold what the text lays; the arguments lie in the world. -/
import Derived.Test.YtppilgkgnofkpaaDoorTrY
set_option linter.unusedSimpArgs false
set_option linter.unusedVariables false

namespace Go.Proofs.YtppilgkgnofkpaaDoor
open Go.RowKit Go.Kin

/-- an act's cells in a list -/
theorem ta_cells {W u : World} {va : Value} {L : List Ta} (ha : Lst W va taL 3 L) (hc : Ch Nw W u) {i : Nat} {a : Ta} (hi : L[i]? = some a) : ∃ b off c, va = .slice (some ⟨b, off, none⟩) L.length c ∧ u.cell? ⟨b, off + i * 3, none⟩ = some a.v ∧ u.cell? ⟨b, off + i * 3 + 1, none⟩ = some (.int .u64 a.holes) ∧ u.cell? ⟨b, off + i * 3 + 2, none⟩ = some (.bool a.same) := by
  obtain ⟨A, c, rfl, _, _, h3⟩ := ha
  obtain ⟨b, off, rfl, _, hr⟩ := h3 (by have := (List.getElem?_eq_some_iff.1 hi).1; omega)
  exact ⟨b, off, c, rfl, hc.cell (hr i a 0 _ hi rfl) id, hc.cell (hr i a 1 _ hi rfl) id, hc.cell (hr i a 2 _ hi rfl) id⟩
/-- the leaves of an act are good -/
theorem lvs_good {bl : List (List UInt8)} {root : Pt} {top h : List Pt} (tp : TreeP bl root top h) (a : Ta) {n : Nat} (hn : n < 1000000) : ∀ x ∈ a.lvs n h 64, (PtOk x.2 ∧ okP x.2 = true) ∧ (x.2 = ptz ∨ x.2.k = 1) := fun x hx => by
  obtain ⟨h1, h2⟩ := a.lvs_mem n h 64 hx
  have okh := tp.ok
  have hok := Ta.pt_ok (a := a) (n := n) (h := h) (off := x.1) (by omega) (by omega) okh
  rw [← h2] at hok
  have hmem : h.getD x.1 ptz ∈ h := by
    rw [List.getD_eq_getElem?_getD, List.getElem?_eq_getElem (by rw [tp.hl]; exact h1)]
    exact List.getElem_mem _
  have hgood : okP (h.getD x.1 ptz) = true := by
    have g := tp.gr (x.1 / 8) (by omega)
    have e := slT_get (g := x.1 / 8) (h := h) (show x.1 % 8 < 8 by omega)
    rw [show 8 * (x.1 / 8) + x.1 % 8 = x.1 by omega] at e
    rw [← e, List.getD_eq_getElem?_getD, List.getElem?_eq_getElem (by rw [slT_len tp.hl (by omega)]; omega)]
    exact List.all_eq_true.1 g.rs.all _ (List.getElem_mem _)
  unfold Ta.pt at h2
  split at h2
  · rw [h2] at hok ⊢
    exact ⟨⟨hok, hgood⟩, tp.lf _ hmem⟩
  · split at h2
    · rw [h2]
      exact ⟨⟨ptz_ok, rfl⟩, .inl rfl⟩
    · rw [h2] at hok ⊢
      exact ⟨⟨hok, okP_iff.2 (.inr (lfp_may _ _))⟩, .inr rfl⟩
structure MpI (W : World) (va : Value) (g gr i : Nat) (s : Shf) (root : Pt) (top h : List Pt) (vh vn vro vma : Value) (roots : List Pt) (hs : List (List Pt)) (mv : List Value) (K : Nat → Prop) (u : World) : Prop where
  kp : Keep W u u K (MpH g gr W s root roots vro mv vma)
  tp : TreeP s.bl root top h
  bad : s.bad = []
  room : s.room = -1
  bl : s.bl.length ≤ 9 * i
  fuel : 1000000000 - 5000 * i ≤ shM s
  lh : PtLst u vh h
  kh : ∀ k, vh.ownBlock = some k → K k
  ln : PtLst u vn (nodesOf root top)
  kn : ∀ k, vn.ownBlock = some k → K k
  ro : RoM K mv hs u
  lmv : mv.length = i + 1
  lhs : hs.length = i + 1
  lro : roots.length = i + 1
  all : ∀ (j : Nat) (r : Pt) (c : List Pt), roots[j]? = some r → hs[j]? = some c → ∃ t, TreeP s.bl r t c
theorem nodes_ok {bl : List (List UInt8)} {root : Pt} {top h : List Pt} (tp : TreeP bl root top h) : ∀ p ∈ nodesOf root top, PtOk p := fun p hp => by
  rcases (nodes_mem tp.rs.okn.len tp.rs.iff.1 p).1 hp with ⟨_, rfl⟩ | ⟨g, hg, rfl, _⟩
  · exact tp.rs.okp
  · exact (tp.gr g hg).rs.okp
theorem nodes_len {bl : List (List UInt8)} {root : Pt} {top h : List Pt} (tp : TreeP bl root top h) : (nodesOf root top).length ≤ 9 := by
  rw [tp.len]
  have : grpN h ≤ 8 := Nat.le_trans List.countP_le_length (by simp)
  split <;> omega
set_option maxRecDepth 100000 in
set_option maxHeartbeats 8000000 in
theorem treeMaps_any (va : Value) (L : List Ta) (W : World) (ha : Lst W va taL 3 L) (hin : ∀ a ∈ L, a.In W) (env : TEnv W) :
    Ret Tryd.prog 4 #[va] W fun v' w' => v' = .bool true ∧ Ch Nw W w' := by
  refine v_enter Tryd.func4 Tryd.ntmps4 rfl (by simp) fun R' hR => ?_
  have hlA := ha.len Tryd.underlying56 3
  simp [go_sem]
  refine (trgreat_any va L W ha hin).mono ?_
  rintro _ w0 ⟨gt, rfl, hgt, hw0⟩
  obtain rfl := hw0.symm
  cases gt with
  | true =>
    simp [go_sem]
    refine (twakes_any W env).mono ?_
    rintro _ u ⟨rfl, hu⟩
    simp [go_sem]
    exact hR _ _ ⟨rfl, hu⟩
  | false =>
  obtain ⟨hL60, hoff⟩ := hgt rfl
  have hzs := pt_size ptz_ok
  have hza := pt_all ptz_ok
  obtain ⟨W5, hW5, b0, b1, b2, b3, b4, sa, ca⟩ := al5 W (.cells #[.slice none 0 0, .slice none 0 0, .slice none 0 0, .slice none 0 0, .int .i64 (-1), .slice none 0 0] 62) (.cells (pt ptz) 28) (.cells (rowsOf pt hs0) 28) (.cells (pt ptz) 28) (.cells #[.slice (some ⟨W.heap.size + 2, 0, none⟩) 64 64] 48)
  have hsr := setRow_alloc (W.alloc (.cells #[.slice none 0 0, .slice none 0 0, .slice none 0 0, .slice none 0 0, .int .i64 (-1), .slice none 0 0] 62)) (pt ptz) (pt ptz) 28 (0, 0)
  rw [show (W.alloc (.cells #[.slice none 0 0, .slice none 0 0, .slice none 0 0, .slice none 0 0, .int .i64 (-1), .slice none 0 0] 62)).heap.size = W.heap.size + 1 by simp] at hsr
  simp [↓VX_bsl1, go_sem, bld_sh, hz_pt, zc_pt, bld_pt0, hzs, hza, blit_whole, mk64, hsr]
  refine VBs_run (bsl_ptr ptz_ok _) ?_
  simp [go_sem]
  rw [hW5]
  have hs0l : hs0.length = 64 := List.length_replicate
  obtain ⟨g, hg⟩ : ∃ g, W.heap.size = g := ⟨_, rfl⟩
  rw [hg] at b0 b1 b2 b3 b4 sa ⊢
  clear hW5 hsr
  have own3 : W5.ownsRow 0 28 41 (.slice (some ⟨g + 3, 0, none⟩) 1 1) 1 (rowsL pt [ptz]) := by
    have hl : (pt ptz).toList.length = 41 := by rw [Array.length_toList, hzs]
    rw [rowsL_one]
    exact ⟨by rw [hl], .inr ⟨g + 3, 1, pt ptz, rfl, Nat.zero_le _, b3, Nat.le_refl _, by decide, by rw [hzs], List.take_of_length_le (by omega)⟩⟩
  have own4 : W5.ownsRow 0 48 1 (.slice (some ⟨g + 4, 0, none⟩) 1 1) 1 [.slice (some ⟨g + 2, 0, none⟩) 64 64] := ⟨rfl, .inr ⟨g + 4, 1, _, rfl, Nat.zero_le _, b4, Nat.le_refl _, by decide, rfl, rfl⟩⟩
  have hh0 : PtLst W5 (.slice (some ⟨g + 2, 0, none⟩) 64 64) hs0 := by
    have hz : ∀ p ∈ hs0, (pt p).size = 41 := fun p hp => pt_size (hs0_ok p hp)
    have hl : (rowsL pt hs0).length = 64 * 41 := by rw [rowsL_length hs0 hz, hs0l]
    have hs : (rowsOf pt hs0).size = 64 * 41 := by rw [rows_size hz, hs0l]
    have own2 : W5.ownsRow 0 28 41 (.slice (some ⟨g + 2, 0, none⟩) 64 64) hs0.length (rowsL pt hs0) := by
      rw [hs0l]
      exact ⟨hl, .inr ⟨g + 2, 64, rowsOf pt hs0, rfl, Nat.zero_le _, b2, Nat.le_refl _, by decide, hs, List.take_of_length_le (by show (rowsL pt hs0).length ≤ _; omega)⟩⟩
    exact ptLst_own own2 hs0_ok
  have kp0 : Keep W W5 W5 (one (g + 2)) (MpH g (g + 1) W sh0 ptz [ptz] (.slice (some ⟨g + 3, 0, none⟩) 1 1) [.slice (some ⟨g + 2, 0, none⟩) 64 64] (.slice (some ⟨g + 4, 0, none⟩) 1 1)) := by
    have e1 : ∀ j, j < 5 → ∀ k, one (g + j) k → k < W5.heap.size := fun j hj k hk => by simp only [one] at hk; omega
    have ow : ∀ {j n c : Nat}, ∀ k, (Value.slice (some ⟨g + j, 0, none⟩) n c).ownBlock = some k → one (g + j) k := fun {j n c} k hk => by
      simp [Value.ownBlock] at hk
      simp only [one]
      omega
    refine ⟨⟨fun k => k = g ∨ k = g + 1 ∨ k = g + 3 ∨ k = g + 4, ⟨one g, fun k => k = g + 1 ∨ k = g + 3 ∨ k = g + 4, ShH.new W b0, ⟨one (g + 1), fun k => k = g + 3 ∨ k = g + 4, ⟨b1, rfl, e1 1 (by decide)⟩, ⟨one (g + 3), one (g + 4), ⟨own3, ow, e1 3 (by decide)⟩, ⟨one (g + 4), fun _ => False, ⟨own4, ow, e1 4 (by decide)⟩, fun _ h => h.elim, fun _ _ h => h, fun k h => h.elim id fun h => h.elim, e1 4 (by decide)⟩, ?_, fun _ h => h, ?_⟩, ?_, fun _ h => h, ?_⟩, ?_, fun _ h => h, ?_⟩, ?_, ?_⟩, ?_, Ch.refl _ _, ca⟩
    all_goals
      intro k hk
      simp only [one] at *
      first | omega | (intro h; omega)
  refine v_loop (fun r f u => ∃ (i : Nat) (s : Shf) (root : Pt) (top h : List Pt) (vh vn vro vma : Value) (roots : List Pt) (hs : List (List Pt)) (mv : List Value) (K : Nat → Prop), r = L.length - i ∧ i ≤ L.length ∧ f 0 = va ∧ f 3 = .pointer (some ⟨g, 0, none⟩) ∧ f 4 = .pointer (some ⟨g + 1, 0, none⟩) ∧ f 5 = vh ∧ f 6 = vro ∧ f 7 = vma ∧ f 8 = vn ∧ f 9 = .int .i64 i
      ∧ MpI W va g (g + 1) i s root top h vh vn vro vma roots hs mv K u) L.length
    ⟨0, sh0, ptz, ndz, hs0, .slice (some ⟨g + 2, 0, none⟩) 64 64, .slice none 0 0, .slice (some ⟨g + 3, 0, none⟩) 1 1, .slice (some ⟨g + 4, 0, none⟩) 1 1, [ptz], [hs0], [.slice (some ⟨g + 2, 0, none⟩) 64 64], one (g + 2), rfl, by omega, by simp, by simp, by simp, by simp, by simp, by simp, by simp, by simp, ?_⟩ ?_
  · refine ⟨kp0, TreeP.z _, rfl, rfl, by simp [sh0], by simp [shM, sh0], hh0, fun k hk => ?_, ?_, fun k hk => by simp [Value.ownBlock] at hk, ?_, rfl, rfl, rfl, fun j r c hr hc => ?_⟩
    · simp [Value.ownBlock] at hk
      simp only [one]
      omega
    · have e : nodesOf ptz ndz = [] := by unfold nodesOf; rw [if_pos rfl]
      rw [e]
      exact ⟨none, 0, rfl, Nat.le_refl _, by decide, fun h => absurd h (by simp)⟩
    · intro j v c hv hc
      cases j with
      | zero =>
        simp at hv hc
        subst hv hc
        refine ⟨hh0, fun k hk => ?_⟩
        simp [Value.ownBlock] at hk
        simp only [one]
        omega
      | succ j => simp at hv
    · cases j with
      | zero =>
        simp at hr hc
        subst hr hc
        exact ⟨ndz, TreeP.z _⟩
      | succ j => simp at hr
  rintro J hJ _ f u ⟨i, s, root, top, h, vh, vn, vro, vma, roots, hs, mv, K, rfl, hi, f0, f3, f4, f5, f6, f7, f8, f9, I⟩
  have cu := I.kp.ch
  by_cases hlt : i < L.length
  · have hii : (i : Int) < L.length := by omega
    have hwi : IntKind.i64.wrap ((i : Int) + 1) = ((i + 1 : Nat) : Int) := by rw [IntKind.wrap_i64]; omega
    obtain ⟨a, hai⟩ : ∃ a, L[i]? = some a := ⟨_, List.getElem?_eq_getElem hlt⟩
    have hain := hin a (List.mem_of_getElem? hai)
    have hoffa := hoff a (List.mem_of_getElem? hai)
    obtain ⟨O, hSO, _, _⟩ := MpH.get0 I.kp
    obtain ⟨vB, vD, vM, vG, vR, hb, _, _, _, _, _, _⟩ := hSO.reads
    have k2 : u.cell? ⟨g, 2, none⟩ = some vM := cell_blk hb 2
    have k3 : u.cell? ⟨g, 3, none⟩ = some vG := cell_blk hb 3
    have fz2 := frz_blk hb 2
    have fz3 := frz_blk hb 3
    have kp1 := MpH.forget I.kp
    obtain ⟨b, off, c, hva, ka0, ka1, ka2⟩ := ta_cells ha kp1.ch hai
    obtain ⟨Av, cv, hav, _⟩ := id hain.sl
    rw [hav] at ka0
    rw [hva] at f0
    have hlA' : ∀ w', (Builtin.len_ #[56] 3 #[.slice (some ⟨b, off, none⟩) L.length c]).run Tryd.prog w' = .ok (.int .i64 L.length) w' := fun w' => by rw [← hva]; exact hlA w'
    simp [go_sem, f0, f3, f5, f9, hlA', hii, k2, k3, fz2, fz3, hlt, ka0, ka1, ka2]
    rw [← hav]
    have lh1 := I.lh.ch kp1.ck fun b _ hb e => e (I.kh b hb)
    have ln1 := I.ln.ch kp1.ck fun b _ hb e => e (I.kn b hb)
    have ro1 := I.ro.ch kp1.ck
    have kp1 := kp1.base
    have okh := I.tp.ok
    have h64 := I.tp.hl
    have hi60 : i < 60 := by omega
    generalize (u.setCell ⟨g, 2, none⟩ (.slice none 0 0)).setCell ⟨g, 3, none⟩ (.slice none 0 0) = w1 at *
    clear k2 k3 fz2 fz3 hb hSO ka0 ka1 ka2
    refine (tlvs_any a i vh h w1 (hain.ch kp1.ch) (by omega) lh1 okh h64 hoffa).mono ?_
    rintro vl w2 ⟨own2, c2, fl2⟩
    obtain ⟨ls, hls⟩ : ∃ ls, a.lvs i h 64 = ls := ⟨_, rfl⟩
    have lsg := lvs_good I.tp a (n := i) (by omega)
    have lsl := a.lvs_len i h 64
    have lsm : ∀ x ∈ ls, x.1 < 64 := fun x hx => (a.lvs_mem i h 64 (by rw [hls]; exact hx)).1
    have lsr := a.lvs_rise i h 64
    rw [hls] at own2 lsg lsl lsr
    have lsok : ∀ x ∈ ls, LfOk x := fun x hx => ⟨by have := lsm x hx; omega, (lsg x hx).1.1⟩
    have hLl : Lst w2 vl (fun x => (lfv x).toList) 42 ls := Lst.of_own own2 fun x hx => lfv_size (lsok x hx)
    have lnL := hLl.len Tryd.underlying64 3
    have vl2 : ∀ k, vl.ownBlock = some k → w1.heap.size ≤ k ∧ k < w2.heap.size := fun k hk => ⟨fl2 k hk, own_in own2 k hk⟩
    have lh2 := lh1.ch' c2 fun _ _ e => e
    obtain ⟨Ah, ch, hvh, _, _, hrh⟩ := id lh2
    obtain ⟨bh, oh, hAh, hbh, hch⟩ := hrh (by omega)
    subst hAh
    rw [h64] at hvh
    have okhz : ∀ p ∈ h, (pt p).size = 41 := fun p hp => pt_size (okh p hp)
    have hrl : (rowsL pt h).length = 64 * 41 := by rw [rowsL_length h okhz, h64]
    have src : ∀ j u, (rowsL pt h)[j]? = some u → w2.cell? ((⟨bh, oh, none⟩ : Addr).add j) = some u := fun j u hj => by
      have hjl := (List.getElem?_eq_some_iff.1 hj).1
      rw [hrl] at hjl
      obtain ⟨p, hp⟩ : ∃ p, h[j / 41]? = some p := ⟨_, List.getElem?_eq_getElem (by omega)⟩
      obtain ⟨x, hx⟩ : ∃ x, (pt p).toList[j % 41]? = some x := ⟨_, List.getElem?_eq_getElem (by rw [Array.length_toList, okhz p (List.mem_of_getElem? hp)]; omega)⟩
      have e := rowsL_at okhz hp hx
      rw [show j / 41 * 41 + j % 41 = j by omega, hj] at e
      have e2 := hch (j / 41) p (j % 41) x hp hx
      rw [Addr.add_lit, e, ← e2]
      congr 2
      omega
    subst hvh
    simp [go_sem, f5]
    refine VB_appS tyPtr (World.ownsRow_nil _ _ _ _) (n := 0) (m := 64) (news := rowsL pt h) hrl src (fun x hx => by
      obtain ⟨p, _, hp⟩ := List.mem_flatMap.1 hx
      exact ones_mem (pt_ones p) x hp) (by decide) (by decide) fun v3 w3 own3 cl3 ff3 => ?_
    have cl3 : Ch Nw w2 w3 := cl3.mono fun k _ e => by simp [Value.ownBlock] at e
    have own3 : w3.ownsRow 0 28 41 v3 h.length (rowsL pt h) := by rw [h64]; simpa using own3
    have f3' : Fresh w2.heap.size v3 := ff3.elim (fun e k hk => by rw [e] at hk; simp [Value.ownBlock] at hk) id
    have lx3 : PtLst w3 v3 h := ptLst_own own3 okh
    obtain ⟨gn, cap3, cur3, hv3, _, _, hb3, _, _⟩ := ownS_blk own3 (by omega)
    rw [h64] at hv3
    rw [hv3] at lx3
    have gn2 : w2.heap.size ≤ gn ∧ gn < w3.heap.size := ⟨f3' gn (by rw [hv3]; rfl), lt_of_block hb3⟩
    subst hv3
    simp [go_sem, f9]
    have lnx : ∀ l, (nxtT h l).length = 64 := fun l => by rw [nxtT_len, h64]
    have lvl : ls.length ≤ 64 := lsl
    refine v_loop (fun r f' u' => ∃ (k : Nat) (cs : Array Value), r = ls.length - k ∧ k ≤ ls.length ∧ f' 0 = va ∧ f' 3 = .pointer (some ⟨g, 0, none⟩) ∧ f' 4 = .pointer (some ⟨g + 1, 0, none⟩) ∧ f' 5 = .slice (some ⟨bh, oh, none⟩) 64 ch ∧ f' 6 = vro ∧ f' 7 = vma ∧ f' 8 = vn ∧ f' 9 = .int .i64 i ∧ f' 10 = vl ∧ f' 11 = .slice (some ⟨gn, 0, none⟩) 64 cap3 ∧ f' 12 = .int .i64 k
        ∧ PtLst u' (.slice (some ⟨gn, 0, none⟩) 64 cap3) (nxtT h (ls.take k)) ∧ u'.heap[gn]? = some (.cells cs 28 (0, 0)) ∧ Ch (one gn) w3 u') ls.length
      ⟨0, cur3, rfl, by omega, by simp [f0, hva], by simp [f3], by simp [f4], by simp [f5], by simp [f6], by simp [f7], by simp [f8], by simp [f9], by simp, by simp, by simp, by simpa [nxtT] using lx3, hb3, Ch.refl _ _⟩ ?_
    clear f0 f3 f4 f5 f6 f7 f8 f9
    rintro J2 hJ2 _ f u' ⟨k, cs, rfl, hk, f0, f3, f4, f5, f6, f7, f8, f9, f10, f11, f12, lx, hbx, cu'⟩
    have okx : ∀ p ∈ nxtT h (ls.take k), PtOk p := nxtT_mem _ _ (fun x hx => (lsok x (List.mem_of_mem_take hx)).p) okh
    by_cases hkl : k < ls.length
    · have hki : (k : Int) < ls.length := by omega
      have hwk : IntKind.i64.wrap ((k : Int) + 1) = ((k + 1 : Nat) : Int) := by rw [IntKind.wrap_i64]; omega
      obtain ⟨x, hx⟩ : ∃ x, ls[k]? = some x := ⟨_, List.getElem?_eq_getElem hkl⟩
      have hxm := List.mem_of_getElem? hx
      have okl := lsok x hxm
      have hx64 := lsm x hxm
      have hps := pt_size okl.p
      obtain ⟨bl, ol, cl, csl, Tl, frl, hvl, hbl, hel, hcl⟩ := hLl.elem (by decide) (fun y hy => lfv_size (lsok y hy)) hx
      have hblt := lt_of_block hbl
      have hbu := cu'.obj (cl3.obj hbl id) fun e => by simp only [one] at e; omega
      have hel1 : csl.extract (ol + k * 42 + 1) (ol + k * 42 + 1 + 41) = pt x.2 := by
        have := congrArg (fun y => y.extract 1 42) hel
        simp only [Array.extract_extract, lfv_pt okl] at this
        rw [← this]
        congr 1
        omega
      have hel0 : u'.cell? ⟨bl, ol + k * 42, none⟩ = some (.int .u32 x.1) := by
        rw [cell_blk hbu]
        have := congrArg (fun y => y[0]?) hel
        simp only [Array.getElem?_extract, lfv_0] at this
        rw [if_pos (by omega)] at this
        simpa using this
      have lnL' : ∀ w', (Builtin.len_ #[64] 3 #[.slice (some ⟨bl, ol, none⟩) ls.length cl]).run Tryd.prog w' = .ok (.int .i64 ls.length) w' := fun w' => by rw [← hvl]; exact lnL w'
      rw [hvl] at f10
      have lx' : PtLst u' (.slice (some ⟨gn, 0, none⟩) (nxtT h (ls.take k)).length cap3) (nxtT h (ls.take k)) := by rw [lnx]; exact lx
      obtain ⟨hsz, lput⟩ := PtLst.put lx' okx hbx (i := x.1) (by rw [lnx]; exact hx64) okl.p
      rw [Nat.zero_add] at hsz lput
      have hnx : (nxtT h (ls.take k)).set x.1 x.2 = nxtT h (ls.take (k + 1)) := by
        rw [List.take_add_one, hx, nxtT_app]
        rfl
      rw [hnx, lnx] at lput
      have hx64i : (x.1 : Int) < 64 := by omega
      have hsz2 : ol + k * 42 + 1 + 41 ≤ csl.size := by omega
      have hbud : u'.drew.heap[bl]? = some (.cells csl Tl frl) := hbu
      have hbxd : u'.drew.heap[gn]? = some (.cells cs 28 (0, 0)) := hbx
      simp [go_sem, f10, f12, lnL', hki]
      refine v_draw' [(0, none), (1, none), (2, none), (3, none), (4, none), (5, none), (6, none), (7, none), (8, none), (9, none), (10, none), (11, none), (12, some [])] (by kernel_rfl) (by kernel_rfl) ?_
      simp [go_sem, f10, f11, f12, hkl, hel0, hbu, hbud, hel1, hsz2, hx64, hx64i, hbx, hbxd, hps, hsz, hwk]
      exact Rnd.intro (ls.length - (k + 1)) (by omega) (hJ2 _ _ _ ⟨k + 1, blit cs (x.1 * 41) (pt x.2), rfl, by omega, by simp [f0], by simp [f3], by simp [f4], by simp [f5], by simp [f6], by simp [f7], by simp [f8], by simp [f9], by simp [f10, hvl], by simp [f11], by simp, lput.ch' (Ch.refl Nw _).drew fun _ _ e => e, by
        show (u'.setRow gn _).heap[gn]? = _
        rw [hp_setRow, hbx]
        rfl, (cu'.setRow (.inl rfl) _).drew⟩)
    · obtain rfl : k = ls.length := by omega
      rw [List.take_length] at lx okx
      obtain ⟨c', hc'⟩ : ∃ c', nxtT h ls = c' := ⟨_, rfl⟩
      rw [hc'] at lx okx
      have c13 : Ch Nw w1 w3 := c2.trans cl3
      have c24 : Ch Nw w2 u' := cl3.trans' cu' fun k hk e => by simp only [one] at e; omega
      have c14 : Ch Nw w1 u' := c2.trans c24
      have kp4 := kp1.more (MpH.ok _ _ _ _ _ _ _ _ _) c14
      have sz12 := c2.size
      have sz14 := c14.size
      have sz24 := c24.size
      have sz34 := cu'.size
      have szW := kp1.ch.size
      have lh4 := lh1.ch' c14 fun _ _ e => e
      have ln4 := ln1.ch' c14 fun _ _ e => e
      have ro4 := (ro1.ch (c14.mono fun _ _ e => e.elim)).mono (K' := fun k => K k ∨ (w1.heap.size ≤ k ∧ k < u'.heap.size)) fun k hk => .inl hk
      have hLl4 : Lst u' vl lfL 42 ls := hLl.ch' c24 fun _ _ e => e
      obtain ⟨K4, hK4⟩ : ∃ K4 : Nat → Prop, (fun k => K k ∨ (w1.heap.size ≤ k ∧ k < u'.heap.size)) = K4 := ⟨_, rfl⟩
      have kh4 : ∀ k, (Value.slice (some ⟨bh, oh, none⟩) 64 ch).ownBlock = some k → K4 k := fun k hk => by rw [← hK4]; exact .inl (I.kh k hk)
      have kn4 : ∀ k, vn.ownBlock = some k → K4 k := fun k hk => by rw [← hK4]; exact .inl (I.kn k hk)
      have kx4 : ∀ k, (Value.slice (some ⟨gn, 0, none⟩) 64 cap3).ownBlock = some k → K4 k := fun k hk => by
        simp [Value.ownBlock] at hk
        rw [← hK4]
        exact .inr ⟨by omega, by omega⟩
      have kl4 : ∀ k, vl.ownBlock = some k → K4 k ∧ k < u'.heap.size := fun k hk => by
        have := vl2 k hk
        rw [← hK4]
        exact ⟨.inr ⟨by omega, by omega⟩, by omega⟩
      rw [hK4] at kp4 ro4
      obtain ⟨hbr, hgrK, hgrW⟩ := MpH.rootB kp4
      have tpk := I.tp
      have okr := tpk.rs.okp
      have hrs := pt_size okr
      have hra := pt_all okr
      generalize hw4 : u' = w4 at *
      simp [go_sem, f3, f4, f10, f12, lnL, hbr, hrs, hra]
      have hbl9 := I.bl
      obtain ⟨s', r', n', hset, tp', F, hb', hr', ⟨ext, hext⟩, hbl'⟩ := tset_sh (s := { s with made := [], gone := [] }) tpk I.bad I.room rfl rfl (show s.bl.length + 9 < 30000 by omega) (obj := 9) (by decide) lsr lsm lsg
      rw [hc'] at tp' F
      have hfu := I.fuel
      have hmf : shM s ≤ shM { s with made := [], gone := [] } := by unfold shM; simp; omega
      have hms := tset_m (shSnk g W fun _ => False) 9 { s with made := [], gone := [] } root ls
      rw [hset] at hms
      have hms : shM { s with made := [], gone := [] } ≤ shM s' + 16 * (4 * ls.length + 3) := hms
      have env4 := env.ch kp4.ch fun _ _ e => e
      refine (MpH.sh (R := fun v' _ => v' = .tuple #[.agg (pt r'), .int .i64 0]) (s' := s') kp4 fun O hSO hW' hK' => (tset_any (shSnk g W fun _ => False) (ShH.ok _ _ _) hSO root okr 9 vl ls (by omega) hLl4 lsok (fun j hj => ⟨hK' j (kl4 j hj).1, (kl4 j hj).2⟩) env4 (fun k hk e => by have := hW' k e; have := env.lt k hk; omega) (by decide)).mono ?_).mono ?_
      · rintro v' w' ⟨rfl, _, x, y⟩
        rw [hset] at x ⊢
        exact ⟨rfl, x, y⟩
      rintro _ w5 ⟨rfl, kp5⟩
      have lx5 := lx.ch kp5.ck fun b _ hb e => e (kx4 b hb)
      have lh5 := lh4.ch kp5.ck fun b _ hb e => e (kh4 b hb)
      have ln5 := ln4.ch kp5.ck fun b _ hb e => e (kn4 b hb)
      have ro5 := ro4.ch kp5.ck
      have okr' := tp'.rs.okp
      have hrs' := pt_size okr'
      have hra' := pt_all okr'
      have c6 := (Ch.refl Nw w5).alloc (.cells (pt r') 28)
      have b6 := hp_alloc w5 (.cells (pt r') 28)
      have sa6 : (w5.alloc (.cells (pt r') 28)).heap.size = w5.heap.size + 1 := by simp
      have kp6 := kp5.base.more (MpH.ok _ _ _ _ _ _ _ _ _) c6
      have lx6 := lx5.ch' c6 fun _ _ e => e
      have lh6 := lh5.ch' c6 fun _ _ e => e
      have ln6 := ln5.ch' c6 fun _ _ e => e
      have ro6 := (ro5.ch (c6.mono fun _ _ e => e.elim)).mono (K' := fun k => K4 k ∨ (w5.heap.size ≤ k ∧ k < (w5.alloc (.cells (pt r') 28)).heap.size)) fun k hk => .inl hk
      obtain ⟨K6, hK6⟩ : ∃ K6 : Nat → Prop, (fun k => K4 k ∨ (w5.heap.size ≤ k ∧ k < (w5.alloc (.cells (pt r') 28)).heap.size)) = K6 := ⟨_, rfl⟩
      have k46 : ∀ k, K4 k → K6 k := fun k hk => by rw [← hK6]; exact .inl hk
      have kg6 : K6 w5.heap.size := by rw [← hK6]; exact .inr ⟨Nat.le_refl _, by omega⟩
      rw [hK6] at kp6 ro6
      simp [go_sem, hz_pt, zc_pt, hrs', hra', hzs, blit_whole, f3, f11]
      obtain ⟨g6, hg6⟩ : ∃ g6, w5.heap.size = g6 := ⟨_, rfl⟩
      rw [hg6] at b6 kg6 ⊢
      generalize w5.alloc (.cells (pt r') 28) = w6 at *
      refine (MpH.tells kp6 tp' hb' (by omega) _ lx6 (fun k hk => k46 k (kx4 k hk)) env).mono ?_
      rintro _ w7 ⟨vn', l7, rfl, hl7, own7, c7, kp7⟩
      have lx7 := lx6.ch c7 fun b _ hb e => e (k46 b (kx4 b hb))
      have lh7 := lh6.ch c7 fun b _ hb e => e (k46 b (kh4 b hb))
      have ln7 := ln6.ch c7 fun b _ hb e => e (k46 b (kn4 b hb))
      have ro7 := (ro6.ch c7).mono (K' := fun k => K6 k ∨ vn'.ownBlock = some k) fun k hk => .inl hk
      have b67 := c7.obj b6 fun e => e kg6
      have okn' := nodes_ok tp'
      have lo7 := ptLst_own own7 okn'
      have hlen' := nodes_len tp'
      have hlen0 := nodes_len tpk
      obtain ⟨K7, hK7⟩ : ∃ K7 : Nat → Prop, (fun k => K6 k ∨ vn'.ownBlock = some k) = K7 := ⟨_, rfl⟩
      have k67 : ∀ k, K6 k → K7 k := fun k hk => by rw [← hK7]; exact .inl hk
      have ko7 : ∀ k, vn'.ownBlock = some k → K7 k := fun k hk => by rw [← hK7]; exact .inr hk
      rw [hK7] at kp7 ro7
      obtain ⟨O7, hSO7, _, _⟩ := MpH.get0 kp7
      have F7 : SetF (s'.more l7) (nodesOf root top) (nodesOf r' n') h c' := ⟨F.nm, F.nc, F.gm, F.gc, F.gl⟩
      simp [go_sem, f3, f5, f8, f11]
      refine (tturned_any hSO7 F7 tp'.len vn vn' _ _ ln7 lo7 lh7 lx7 (nodes_ok tpk) okn' okh okx h64 tp'.hl hlen0 hlen').mono ?_
      rintro _ w8 ⟨rfl, c8⟩
      have kp8 := kp7.stay (MpH.ok _ _ _ _ _ _ _ _ _) c8
      have kp8 := kp8.base
      have lx8 := lx7.ch' c8 fun _ _ e => e
      have lo8 := lo7.ch' c8 fun _ _ e => e
      have ro8 := ro7.ch (c8.mono fun _ _ e => e.elim)
      have b68 := c8.obj b67 id
      obtain ⟨hbr8, hgrK8, _⟩ := MpH.rootB kp8
      have kp9 := MpH.setRoot kp8 r'
      have b69 := kp9.ck.obj b68 fun e => e (k67 _ kg6)
      obtain ⟨hbr9, _, _⟩ := MpH.rootB kp9
      have lx9 := lx8.ch kp9.ck fun b _ hb e => e (k67 b (k46 b (kx4 b hb)))
      have lo9 := lo8.ch kp9.ck fun b _ hb e => e (ko7 b hb)
      have ro9 := ro8.ch kp9.ck
      have kp9 := kp9.base
      simp [↓VX_bsl1, go_sem, f4, f6, b68, hbr8, hrs, hrs', hra', blit_whole, hbr9]
      generalize w8.setRow (g + 1) (pt r') = w9 at *
      refine VBs_run (bsl_ptr okr' _) ?_
      obtain ⟨ownR, ownM⟩ := MpH.rows kp9
      have hlr := I.lro
      have hlm := I.lmv
      simp [go_sem, f6]
      refine VB_app1S (us := (pt r').toList) tyPtr ownR (by rw [Array.length_toList, hrs']) (ones_mem (pt_ones r')) (by unfold maxLen; omega) (by omega) fun v10 w10 own10 cl10 ff10 => ?_
      have kp10 := MpH.pushRoot kp9 own10 cl10 ff10
      have lx10 := lx9.ch kp10.ck fun b _ hb e => e (k67 b (k46 b (kx4 b hb)))
      have lo10 := lo9.ch kp10.ck fun b _ hb e => e (ko7 b hb)
      have ro10 := ro9.ch kp10.ck
      have kp10 := kp10.base
      obtain ⟨_, ownM10⟩ := MpH.rows kp10
      simp [go_sem, f7, f11]
      refine VB_app1 tyMs (w := w10) (u := .slice (some ⟨gn, 0, none⟩) 64 cap3) ownM10 rfl (by unfold maxLen; omega) (by omega) fun v11 w11 own11 cl11 ff11 => ?_
      have kp11 := MpH.pushMap kp10 own11 cl11 ff11
      have lx11 := lx10.ch kp11.ck fun b _ hb e => e (k67 b (k46 b (kx4 b hb)))
      have lo11 := lo10.ch kp11.ck fun b _ hb e => e (ko7 b hb)
      have ro11 := (ro10.ch kp11.ck).push (by rw [I.lmv, I.lhs]) lx11 fun k hk => k67 k (k46 k (kx4 k hk))
      have kp11 := kp11.base
      have hml := shM_more s' l7
      have hext' : ∃ l, s'.bl = s.bl ++ l := ⟨ext, hext⟩
      simp [go_sem, f9, hwi]
      refine Rnd.intro (L.length - (i + 1)) (by omega) (hJ _ _ _ ⟨i + 1, s'.more l7, r', n', c', .slice (some ⟨gn, 0, none⟩) 64 cap3, vn', v10, v11, roots ++ [r'], hs ++ [c'], mv ++ [.slice (some ⟨gn, 0, none⟩) 64 cap3], K7, rfl, by omega, by simp [f0], by simp [f3], by simp [f4], by simp, by simp, by simp, by simp, by simp, ?_⟩)
      refine ⟨kp11, tp', hb', hr', ?_, by omega, lx11, fun k hk => k67 k (k46 k (kx4 k hk)), lo11, ko7, ro11, by simp [hlm], by simp [I.lhs], by simp [hlr], fun j r c hr hc => ?_⟩
      · have : s'.bl.length ≤ s.bl.length + 9 := hbl'
        show s'.bl.length ≤ 9 * (i + 1)
        omega
      · by_cases hj : j < roots.length
        · rw [List.getElem?_append_left hj] at hr
          rw [List.getElem?_append_left (by rw [I.lhs]; omega)] at hc
          obtain ⟨t, ht⟩ := I.all j r c hr hc
          exact ⟨t, ht.ext hext'⟩
        · have e : j = roots.length := by
            have := (List.getElem?_eq_some_iff.1 hr).1
            simp at this
            omega
          subst e
          rw [List.getElem?_append_right (Nat.le_refl _), Nat.sub_self] at hr
          rw [show roots.length = hs.length by rw [hlr, I.lhs], List.getElem?_append_right (Nat.le_refl _), Nat.sub_self] at hc
          cases hr
          cases hc
          exact ⟨n', tp'⟩
  · obtain rfl : i = L.length := by omega
    have hlA0 := hlA
    simp [go_sem, f0, f9, hlA]
    have hlr := I.lro
    have hroots : ∀ p ∈ roots, PtOk p := fun p hp => by
      obtain ⟨j, hj⟩ := List.mem_iff_getElem?.1 hp
      have hjl := (List.getElem?_eq_some_iff.1 hj).1
      obtain ⟨t, ht⟩ := I.all j p _ hj (List.getElem?_eq_getElem (by rw [I.lhs]; omega))
      exact ht.rs.okp
    have hfu := I.fuel
    refine v_loop (fun r f u' => ∃ (j : Nat) (l : List Pt) (K' : Nat → Prop), r = roots.length - j ∧ j ≤ roots.length ∧ f 3 = .pointer (some ⟨g, 0, none⟩) ∧ f 6 = vro ∧ f 7 = vma ∧ f 17 = .int .i64 j ∧ l.length ≤ 150 * j ∧ Keep W u' u' K' (MpH g (g + 1) W (s.more l) root roots vro mv vma) ∧ RoM K' mv hs u') roots.length
      ⟨0, [], K, rfl, by omega, by simp [f3], by simp [f6], by simp [f7], by simp, by simp, by simpa using I.kp, I.ro⟩ ?_
    clear f0 f3 f4 f5 f6 f7 f8 f9 hJ
    rintro J hJ _ f u' ⟨j, l, K', rfl, hj, f3, f6, f7, f17, hll, kp, ro⟩
    obtain ⟨ownR, ownM⟩ := MpH.rows kp
    have hlm := I.lmv
    have lR : PtLst u' vro roots := ptLst_own ownR hroots
    have lnR := lR.len Tryd.underlying48 3
    by_cases hjl : j < roots.length
    · have hji : (j : Int) < roots.length := by omega
      have hwj : IntKind.i64.wrap ((j : Int) + 1) = ((j + 1 : Nat) : Int) := by rw [IntKind.wrap_i64]; omega
      obtain ⟨r, hr⟩ : ∃ r, roots[j]? = some r := ⟨_, List.getElem?_eq_getElem hjl⟩
      obtain ⟨c, hc⟩ : ∃ c, hs[j]? = some c := ⟨_, List.getElem?_eq_getElem (by rw [I.lhs]; omega)⟩
      obtain ⟨v, hv⟩ : ∃ v, mv[j]? = some v := ⟨_, List.getElem?_eq_getElem (by omega)⟩
      obtain ⟨t, ht⟩ := I.all j r c hr hc
      obtain ⟨lc, kc⟩ := ro j v c hv hc
      have okr := ht.rs.okp
      have hrs := pt_size okr
      obtain ⟨br, of', cr, cs, T, fr, hvr, hbr, hex, hcs⟩ := lR.elem (by decide) (fun q hq => pt_size (hroots q hq)) hr
      obtain ⟨gm, capm, curm, hvm, hbm, _, _, hcm, hexm⟩ := own_blk ownM (by omega)
      have hcv : u'.cell? ⟨gm, j, none⟩ = some v := by
        rw [cell_blk hbm]
        have := congrArg (fun x => x[j]?) hexm
        simp only [Array.getElem?_extract, List.getElem?_toArray, hv] at this
        rw [if_pos (by omega)] at this
        simpa using this
      obtain ⟨Av, cv, hvv, _⟩ := id lc
      have lnR' : ∀ w', (Builtin.len_ #[48] 3 #[.slice (some ⟨br, of', none⟩) roots.length cr]).run Tryd.prog w' = .ok (.int .i64 roots.length) w' := fun w' => by rw [← hvr]; exact lnR w'
      rw [hvr] at f6
      rw [hvm] at f7
      rw [hvv] at hcv lc kc
      have hjm : j < mv.length := by omega
      have hcvd : u'.drew.cell? ⟨gm, j, none⟩ = some (.slice Av c.length cv) := hcv
      have hbrd : u'.drew.heap[br]? = some (.cells cs T fr) := hbr
      simp [go_sem, f6, f17, lnR', hji]
      refine v_draw' [(0, none), (1, none), (2, none), (3, none), (4, none), (5, none), (6, none), (7, none), (8, none), (9, some []), (10, none), (11, none), (12, none), (13, none), (14, none)] (by kernel_rfl) (by kernel_rfl) ?_
      simp [go_sem, f3, f6, f7, f17, hjl, hjm, hbr, hbrd, hex, hcs, hcv, hcvd]
      have kpd := (kp.stay (MpH.ok _ _ _ _ _ _ _ _ _) (Ch.refl Nw u').drew).base
      have hml := shM_more s l
      refine (MpH.tells kpd (r := r) (top := t) (c := c) ht I.bad (by omega) _ (lc.ch' (Ch.refl Nw u').drew fun _ _ e => e) kc env).mono ?_
      rintro _ w7 ⟨vn', l7, rfl, hl7, own7, c7, kp7⟩
      have ro7 := ((ro.ch ((Ch.refl Nw u').drew.mono fun _ _ e => e.elim)).ch c7).mono (K' := fun k => K' k ∨ vn'.ownBlock = some k) fun k hk => .inl hk
      rw [Shf.more_more] at kp7
      simp [go_sem, f17, hwj]
      exact Rnd.intro (roots.length - (j + 1)) (by omega) (hJ _ _ _ ⟨j + 1, l ++ l7, _, rfl, by omega, by simp [f3], by simp [f6, hvr], by simp [f7, hvm], by simp, by rw [List.length_append]; omega, kp7, ro7⟩)
    · obtain rfl : j = roots.length := by omega
      simp [go_sem, f6, f17, lnR]
      refine (twakes_any u' (env.ch kp.ch fun _ _ e => e)).mono ?_
      rintro _ w9 ⟨rfl, c9⟩
      simp [go_sem]
      exact hR _ _ ⟨rfl, kp.ch.trans c9⟩
end Go.Proofs.YtppilgkgnofkpaaDoor
