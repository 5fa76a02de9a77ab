/- Trees: all leaves and nodes, of any source. Conditions: the variables ptr.wide and tree.hole hold what the text lays. -/
import Derived.Test.YtnefdmbdkljifaaGreatDoorTrF
import Derived.Test.YtnefdmbdkljifaaGreatDoorKep
import Derived.Test.YtnefdmbdkljifaaGreatDoorBsl
set_option linter.unusedSimpArgs false
set_option linter.unusedVariables false

namespace Go.Proofs.YtnefdmbdkljifaaGreatDoor
open Go.RowKit Go.Kin

/-- the leaves of a node -/
def tlvsK (i : Nat) (n : List Pt) (k : Nat) : List (Nat × Pt) := (List.range k).filterMap fun k => if n.getD k ptz = ptz then none else some (8 * i + k, n.getD k ptz)
def tlvs (i : Nat) (n : List Pt) : List (Nat × Pt) := (List.range 8).filterMap fun k => if n.getD k ptz = ptz then none else some (8 * i + k, n.getD k ptz)
theorem tlvsK_step (i : Nat) (n : List Pt) (k : Nat) : tlvsK i n (k + 1) = tlvsK i n k ++ if n.getD k ptz = ptz then [] else [(8 * i + k, n.getD k ptz)] := by
  unfold tlvsK
  rw [List.range_succ, List.filterMap_append]
  congr 1
  simp only [List.filterMap_cons, List.filterMap_nil]
  by_cases h : n.getD k ptz = ptz
  · simp only [if_pos h]
  · simp only [if_neg h]
/-- the nodes of some places -/
def twk {σ : Type} (rd : Src σ) (top : List Pt) : List Nat → σ → List (Nat × Pt) → List Pt → σ × List (Nat × Pt) × List Pt × Int
  | [], s, ls, ns => (s, ls, ns, 0)
  | i :: L, s, ls, ns => if top.getD i ptz = ptz then twk rd top L s ls ns else
      if (tread rd s (top.getD i ptz)).2.2 ≠ 0 then ((tread rd s (top.getD i ptz)).1, ls, ns ++ [top.getD i ptz], (tread rd s (top.getD i ptz)).2.2)
      else twk rd top L (tread rd s (top.getD i ptz)).1 (ls ++ tlvs i (tread rd s (top.getD i ptz)).2.1) (ns ++ [top.getD i ptz])
def twalk {σ : Type} (rd : Src σ) (s : σ) (root : Pt) : σ × List (Nat × Pt) × List Pt × Int :=
  if root = ptz then (s, [], [], 0) else if (tread rd s root).2.2 ≠ 0 then ((tread rd s root).1, [], [root], (tread rd s root).2.2) else twk rd (tread rd s root).2.1 (List.range 8) (tread rd s root).1 [] [root]
def tall {σ : Type} (rd : Src σ) (s : σ) (root : Pt) : σ × List (Nat × Pt) × List Pt × Int :=
  if mayT root then (if (twalk rd s root).2.2.2 ≠ 0 then ((twalk rd s root).1, [], [], (twalk rd s root).2.2.2) else twalk rd s root) else (s, [], [], 1)
theorem tyPtr : TyS Tryz.prog 28 37 (.agg (pt ptz)) 41 56 := ⟨Tryz.underlying28, by kernel_rfl, by rw [show (Value.agg (pt ptz)).cells = pt ptz from rfl]; exact pt_size ptz_ok, by decide⟩
theorem bsl_ptr {x : Pt} (ok : PtOk x) (w : World) : (Instr.buildSlice 28 1 #[(0, .agg (pt x))]).run Tryz.prog w = .ok (.slice (some ⟨w.heap.size, 0, none⟩) 1 1) (w.alloc (.cells (pt x) 37)) :=
  run_buildSlice1 (z := .agg (pt ptz)) Tryz.underlying28 Tryz.sizeOf37 (by kernel_rfl) (pt_size ok) (by decide) (by decide) w
theorem bsl_lf {x : Nat × Pt} (ok : LfOk x) (w : World) : (Instr.buildSlice 84 1 #[(0, .agg (lfv x))]).run Tryz.prog w = .ok (.slice (some ⟨w.heap.size, 0, none⟩) 1 1) (w.alloc (.cells (lfv x) 93)) :=
  run_buildSlice1 (z := .agg (lfv (0, ptz))) Tryz.underlying84 Tryz.sizeOf93 (by kernel_rfl) (lfv_size ok) (by decide) (by decide) w
abbrev BxN (g : Nat) (ns : List Pt) : HP := BoxRow g 28 37 41 ns.length (rowsL pt ns)
abbrev BxL (g : Nat) (ls : List (Nat × Pt)) : HP := BoxRow g 84 93 42 ls.length (rowsL lfv ls)
theorem ones_mem {a : Array Value} (h : ones a = true) : ∀ u ∈ a.toList, u.oneCell' = true := fun u hu => by
  unfold ones at h
  exact Array.all_eq_true'.1 h u (by simpa using hu)
theorem ttold_any {g : Nat} {ns : List Pt} {w : World} {O : Nat → Prop} (h : BxN g ns w O) (p : Pt) (ok : PtOk p) (hl : ns.length ≤ 1000000) :
    Ret Tryz.prog 59 #[.agg (pt p), .pointer (some ⟨g, 0, none⟩)] w fun v' w' => True ∧ BxN g (ns ++ [p]) w' (Gr O w w') ∧ Ch O w w' := by
  refine v_enter Tryz.func59 Tryz.ntmps59 rfl (by simp) fun R' hR => ?_
  obtain ⟨v, hb, own, hvg, hO, hvO, hlt⟩ := h
  have hps := pt_size ok
  have hpa := pt_all ok
  have ca := (Ch.refl Nw w).alloc (.cells (pt p) 37)
  have b0 := hp_alloc w (.cells (pt p) 37)
  have b1 := ca.obj hb id
  have hv1 := own_ch own ca fun _ _ e => e
  have cg := cell_blk b1 0
  obtain ⟨q, hq⟩ : ∃ q, w.heap.size = q := ⟨_, rfl⟩
  simp [go_sem, hps, hpa]
  rw [hq] at b0 ⊢
  have hs1 : (w.alloc (.cells (pt p) 37)).heap.size = q + 1 := by simp [hq]
  generalize w.alloc (.cells (pt p) 37) = w1 at *
  have cg : w1.cell? ⟨g, 0, none⟩ = some v := cg
  simp [↓VX_bsl1, go_sem, cg, b0, hps, hpa]
  refine VBs_run (bsl_ptr ok _) ?_
  simp [go_sem]
  refine VB_app1S (us := (pt p).toList) tyPtr hv1 (by rw [Array.length_toList, hps]) (ones_mem (pt_ones p)) (by unfold maxLen; omega) (by omega) fun v6 w6 own6 cl6 ff6 => ?_
  have b6 := cl6.obj b1 fun e => Nat.lt_irrefl _ (hvg _ e)
  have f6 := frz_blk b6 0
  have hl6 : ∀ k, v6.ownBlock = some k → k < w6.heap.size := own_in own6
  obtain ⟨gq, capq, curq, hv6, _⟩ := ownS_blk own6 (by omega)
  subst hv6
  have hgr := BoxRow.grown hb hvg hO hvO hlt (own_ch own6 (Ch.refl Nw w6) fun _ _ e => e) ((ca.mono (S' := fun k => v.ownBlock = some k) fun _ _ e => e.elim).trans cl6) (ff6.imp id fun e => e.mono ca.size) hl6
  have c6 : w6.cell? ⟨g, 0, none⟩ = some v := cell_blk b6 0
  simp [go_sem, f6, c6]
  have e : rowsL pt (ns ++ [p]) = rowsL pt ns ++ (pt p).toList := by rw [rowsL_append, rowsL_one]
  exact hR _ _ ⟨trivial, by unfold BxN; rw [show (ns ++ [p]).length = ns.length + 1 by simp, e]; exact hgr.1, hgr.2⟩
theorem bld_lf {x : Nat × Pt} (ok : LfOk x) {w : World} {K : Value → World → Prop} : VBld Tryz.prog 93 [(0, .int .u32 x.1), (1, .agg (pt x.2))] w K = K (.agg (lfv x)) w := by
  refine VBld_struct Tryz.underlying93 hz_lf (places := #[(0, 1), (1, 41)]) (by simp [go_sem]) ?_
  have hs := pt_size ok.p
  have hz := pt_size ptz_ok
  simp [fillB, zc_lf, Value.cells, blit_size, lfv_size lfz_ok, hs]
  unfold blit
  apply Array.ext'
  simp [lfv, lfL, hs, hz]
theorem tleafs_any {g : Nat} {ls : List (Nat × Pt)} {w : World} {O : Nat → Prop} (h : BxL g ls w O) (x : Nat × Pt) (ok : LfOk x) (hl : ls.length ≤ 1000000) :
    Ret Tryz.prog 60 #[.int .u32 x.1, .agg (pt x.2), .pointer (some ⟨g, 0, none⟩)] w fun v' w' => True ∧ BxL g (ls ++ [x]) w' (Gr O w w') ∧ Ch O w w' := by
  refine v_enter Tryz.func60 Tryz.ntmps60 rfl (by simp) fun R' hR => ?_
  obtain ⟨v, hb, own, hvg, hO, hvO, hlt⟩ := h
  have hps := pt_size ok.p
  have hpa := pt_all ok.p
  have ca := (Ch.refl Nw w).alloc (.cells (pt x.2) 37)
  have b0 := hp_alloc w (.cells (pt x.2) 37)
  have b1 := ca.obj hb id
  have hv1 := own_ch own ca fun _ _ e => e
  have cg := cell_blk b1 0
  obtain ⟨q, hq⟩ : ∃ q, w.heap.size = q := ⟨_, rfl⟩
  simp [go_sem, hps, hpa]
  rw [hq] at b0 ⊢
  generalize w.alloc (.cells (pt x.2) 37) = w1 at *
  have cg : w1.cell? ⟨g, 0, none⟩ = some v := cg
  simp [↓VX_bsl1, go_sem, cg, b0, hps, hpa, bld_lf ok]
  refine VBs_run (bsl_lf ok _) ?_
  simp [go_sem]
  refine VB_app1S (us := (lfv x).toList) tyLf hv1 (by rw [Array.length_toList, lfv_size ok]) (ones_mem (lfv_ones x)) (by unfold maxLen; omega) (by omega) fun v6 w6 own6 cl6 ff6 => ?_
  have b6 := cl6.obj b1 fun e => Nat.lt_irrefl _ (hvg _ e)
  have f6 := frz_blk b6 0
  have hl6 : ∀ k, v6.ownBlock = some k → k < w6.heap.size := own_in own6
  obtain ⟨gq, capq, curq, hv6, _⟩ := ownS_blk own6 (by omega)
  subst hv6
  have hgr := BoxRow.grown hb hvg hO hvO hlt (own_ch own6 (Ch.refl Nw w6) fun _ _ e => e) ((ca.mono (S' := fun k => v.ownBlock = some k) fun _ _ e => e.elim).trans cl6) (ff6.imp id fun e => e.mono ca.size) hl6
  have c6 : w6.cell? ⟨g, 0, none⟩ = some v := cell_blk b6 0
  simp [go_sem, f6, c6]
  have e : rowsL lfv (ls ++ [x]) = rowsL lfv ls ++ (lfv x).toList := by rw [rowsL_append, rowsL_one]
  exact hR _ _ ⟨trivial, by unfold BxL; rw [show (ls ++ [x]).length = ls.length + 1 by simp, e]; exact hgr.1, hgr.2⟩
theorem range8_drop {i : Nat} (h : i < 8) : (List.range 8).drop i = i :: (List.range 8).drop (i + 1) := by
  have : i = 0 ∨ i = 1 ∨ i = 2 ∨ i = 3 ∨ i = 4 ∨ i = 5 ∨ i = 6 ∨ i = 7 := by omega
  rcases this with rfl | rfl | rfl | rfl | rfl | rfl | rfl | rfl <;> rfl
theorem tlvsK_len (i : Nat) (n : List Pt) (k : Nat) : (tlvsK i n k).length ≤ k := Nat.le_trans (List.length_filterMap_le _ _) (by simp)
section
variable {σ : Type} {H : σ → HP} {m : σ → Nat} {rd : Src σ} {bt : TypeId} {bv sv : Value} {s : σ} {w w' : World} {O : Nat → Prop}
/-- a source, the nodes and the leaves that were told -/
def TW (H : σ → HP) (gn gl : Nat) (s : σ) (ns : List Pt) (ls : List (Nat × Pt)) : HP := Star (H s) (Star (BxN gn ns) (BxL gl ls))
theorem TW.ok (hH : ∀ s, HOk (H s)) (gn gl : Nat) (s : σ) (ns : List Pt) (ls : List (Nat × Pt)) : HOk (TW H gn gl s ns ls) := Star.ok (hH s) (Star.ok (BoxRow.ok _ _ _ _ _ _) (BoxRow.ok _ _ _ _ _ _))
abbrev fnT (gn : Nat) : Value := .func (.func 59) #[] #[.pointer (some ⟨gn, 0, none⟩)]
abbrev fnL (gl : Nat) : Value := .func (.func 60) #[] #[.pointer (some ⟨gl, 0, none⟩)]
theorem TW.told {gn gl : Nat} {ns : List Pt} {ls : List (Nat × Pt)} (hH : ∀ s, HOk (H s)) (h : TW H gn gl s ns ls w O) (p : Pt) (ok : PtOk p) (hl : ns.length ≤ 1000000) {K : Value → World → Prop} (hK : ∀ v' w', TW H gn gl s (ns ++ [p]) ls w' (Gr O w w') → Ch O w w' → K v' w') :
    VCall Tryz.prog (fnT gn) [.agg (pt p)] w K := by
  have hfn : ∀ (x : List Value) (w : World), (callFunc 59 x.toArray).run Tryz.prog w = .ok (.enter 59 x.toArray) w := fun x w => by simp [go_sem]
  rw [VCall_closure _ _ _ _ [.pointer (some ⟨gn, 0, none⟩)] _ (hfn _ _)]
  refine (Star.step2 h (hH s) (Star.ok (BoxRow.ok _ _ _ _ _ _) (BoxRow.ok _ _ _ _ _ _)) fun O1 h1 _ => Star.step1 (R := fun _ _ => True) h1 (BoxRow.ok _ _ _ _ _ _) (BoxRow.ok _ _ _ _ _ _) (BoxRow.ok _ _ _ _ _ _) fun O2 h2 _ => ttold_any h2 p ok hl).mono ?_
  rintro v' w' ⟨_, a, b⟩
  exact hK v' w' a b
theorem TW.leaf {gn gl : Nat} {ns : List Pt} {ls : List (Nat × Pt)} (hH : ∀ s, HOk (H s)) (h : TW H gn gl s ns ls w O) (x : Nat × Pt) (ok : LfOk x) (hl : ls.length ≤ 1000000) {K : Value → World → Prop} (hK : ∀ v' w', TW H gn gl s ns (ls ++ [x]) w' (Gr O w w') → Ch O w w' → K v' w') :
    VCall Tryz.prog (fnL gl) [.int .u32 x.1, .agg (pt x.2)] w K := by
  have hfn : ∀ (x : List Value) (w : World), (callFunc 60 x.toArray).run Tryz.prog w = .ok (.enter 60 x.toArray) w := fun x w => by simp [go_sem]
  rw [VCall_closure _ _ _ _ [.pointer (some ⟨gl, 0, none⟩)] _ (hfn _ _)]
  refine (Star.step2 h (hH s) (Star.ok (BoxRow.ok _ _ _ _ _ _) (BoxRow.ok _ _ _ _ _ _)) fun O1 h1 _ => Star.step2 (R := fun _ _ => True) h1 (BoxRow.ok _ _ _ _ _ _) (BoxRow.ok _ _ _ _ _ _) fun O2 h2 _ => tleafs_any h2 x ok hl).mono ?_
  rintro v' w' ⟨_, a, b⟩
  exact hK v' w' a b
theorem TW.src {gn gl : Nat} {ns : List Pt} {ls : List (Nat × Pt)} (h : TW H gn gl s ns ls w O) : ∃ O1, H s w O1 := by
  obtain ⟨O1, _, h1, _⟩ := h
  exact ⟨O1, h1⟩
theorem TW.read {gn gl : Nat} {ns : List Pt} {ls : List (Nat × Pt)} (hs : SrcOk H m rd (.iface bt bv)) (hm : 16 ≤ m s) (hH : ∀ s, HOk (H s)) (h : TW H gn gl s ns ls w O) (p : Pt) (ok : PtOk p) (env : TEnv w) (hg : GlOk H O) :
    Ret Tryz.prog 53 #[.iface bt bv, .agg (pt p)] w fun v' w' => v' = .tuple #[.agg (nd (tread rd s p).2.1), .int .i64 (tread rd s p).2.2] ∧ TW H gn gl (tread rd s p).1 ns ls w' (Gr O w w') ∧ Ch O w w' :=
  Star.step1 h (hH s) (Star.ok (BoxRow.ok _ _ _ _ _ _) (BoxRow.ok _ _ _ _ _ _)) (hH _) fun O1 h1 hO => tread_any hs hm hH h1 p ok env (hg.mono hO)
set_option maxRecDepth 100000 in
set_option maxHeartbeats 4000000 in
theorem twalk_any (hs : SrcOk H m rd (.iface bt bv)) (hm : 144 ≤ m s) (hH : ∀ s, HOk (H s)) {gn gl : Nat} (h : TW H gn gl s [] [] w O) (p : Pt) (ok : PtOk p) (env : TEnv w) (hg : GlOk H O) :
    Ret Tryz.prog 58 #[.iface bt bv, .agg (pt p), fnT gn, fnL gl] w fun v' w' => v' = .int .i64 (twalk rd s p).2.2.2 ∧ TW H gn gl (twalk rd s p).1 (twalk rd s p).2.2.1 (twalk rd s p).2.1 w' (Gr O w w') ∧ Ch O w w' := by
  refine v_enter Tryz.func58 Tryz.ntmps58 rfl (by simp) fun R' hR => ?_
  have hps := pt_size ok
  have hpa := pt_all ok
  have hlO := (TW.ok hH gn gl s [] []).lt h
  have nO : ∀ j, w.heap.size ≤ j → ¬ O j := fun j hj e => by have := hlO j e; omega
  have ca := (Ch.refl Nw w).alloc (.cells (pt p) 37)
  have b0 := hp_alloc w (.cells (pt p) 37)
  have env1 := env.ch ca fun _ _ e => e
  have h1 := (TW.ok hH gn gl s [] []).ch h ca fun _ _ e => e
  have sa : (w.alloc (.cells (pt p) 37)).heap.size = w.heap.size + 1 := by simp
  have heqp : ∀ w, (Op.equalIn 10000 37 (.agg (pt p)) (.agg (pt ptz))).run Tryz.prog w = .ok (decide (p = ptz)) w := fun w => eq_pt w ok ptz_ok
  obtain ⟨w1, hw1⟩ : ∃ w1, w.alloc (.cells (pt p) 37) = w1 := ⟨_, rfl⟩
  rw [hw1] at ca b0 env1 h1 sa
  simp [go_sem, hps, hpa, hw1]
  obtain ⟨g, hgs⟩ : ∃ g, w.heap.size = g := ⟨_, rfl⟩
  rw [hgs] at b0 sa nO ⊢
  clear hw1
  obtain ⟨cs, T, fr, hh, hx, hz⟩ := id env1.lh
  have fin : ∀ {W : World} {x : σ × List (Nat × Pt) × List Pt × Int}, twalk rd s p = x → TW H gn gl x.1 x.2.2.1 x.2.1 W (Gr O w1 W) → Ch O w1 W → R' (.int .i64 x.2.2.2) W := fun {W x} e a c => by
    subst e
    have hsW := c.size
    exact hR _ _ ⟨rfl, (TW.ok hH _ _ _ _ _).weak a (fun k hk => hk.imp id fun e => ⟨by omega, e.2⟩) (Gr.lt hlO (by omega)), (ca.mono fun _ _ e => e.elim).trans c⟩
  clear hR
  have hl1 : ∀ k, O k → k < w1.heap.size := fun k hk => by have := hlO k hk; omega
  by_cases hp : p = ptz
  · have ht : twalk rd s p = (s, [], [], 0) := by unfold twalk; rw [if_pos hp]
    subst hp
    simp [go_sem, b0, hps, hpa, hh, hx, hz, heqp]
    exact fin ht ((TW.ok hH _ _ _ _ _).weak h1 (fun k hk => .inl hk) (Gr.lt hl1 (Nat.le_refl _))) (Ch.refl _ _)
  · have ht : twalk rd s p = if (tread rd s p).2.2 ≠ 0 then ((tread rd s p).1, [], [p], (tread rd s p).2.2) else twk rd (tread rd s p).2.1 (List.range 8) (tread rd s p).1 [] [p] := by unfold twalk; rw [if_neg hp]
    simp [go_sem, b0, hps, hpa, hh, hx, hz, heqp, hp]
    refine TW.told hH h1 p ok (by simp) fun v2 w2 h2 c2 => ?_
    have hs2 := c2.size
    have env2 := hg.env env1 c2 h2.src fun _ _ e => e
    have b02 := c2.obj b0 (nO g (Nat.le_refl _))
    have hg2 : GlOk H (Gr O w1 w2) := hg.gr env1
    have hm3 := tread_m hs s p
    simp [go_sem, b02, hps, hpa]
    refine (TW.read hs (by omega) hH h2 p ok env2 hg2).mono ?_
    rintro _ w3 ⟨rfl, h3, c3⟩
    have ok8 := tread_ok rd s p
    obtain ⟨⟨s3, N3, e3⟩, hT3⟩ : ∃ T, tread rd s p = T := ⟨_, rfl⟩
    rw [hT3] at ok8 h3 ht hm3 ⊢
    simp only at ok8 h3 ht hm3 ⊢
    have h8s := nd_size ok8
    have h8a := nd_all ok8
    have hs3 := c3.size
    have env3 := hg2.env env2 c3 h3.src fun _ _ e => e
    have c4 := (Ch.refl Nw w3).alloc (.cells (nd N3) 128)
    have b4 := hp_alloc w3 (.cells (nd N3) 128)
    have env4 := env3.ch c4 fun _ _ e => e
    have h4 := (TW.ok hH _ _ _ _ _).ch h3 c4 fun _ _ e => e
    simp [go_sem, hz_nd, zc_nd, h8s, h8a, nd_size ndz_ok, blit_whole]
    obtain ⟨g4, hg4⟩ : ∃ g4, w3.heap.size = g4 := ⟨_, rfl⟩
    rw [hg4] at b4 ⊢
    have hs4 := c4.size
    have cw4 : Ch O w1 (w3.alloc (.cells (nd N3) 128)) := (c2.trans' c3 fun k hk e => e.elim id fun e => by omega).trans (c4.mono fun _ _ e => e.elim)
    generalize w3.alloc (.cells (nd N3) 128) = w4 at *
    have h4 : TW H gn gl s3 [p] [] w4 (Gr O w1 w4) := (TW.ok hH _ _ _ _ _).weak h4 (fun k hk => by
      rcases hk with (hk | hk) | hk
      · exact .inl hk
      · exact .inr ⟨hk.1, by omega⟩
      · exact .inr ⟨by omega, by omega⟩) (Gr.lt hl1 (by omega))
    by_cases he : e3 = 0
    · subst he
      rw [if_neg (by simp)] at ht
      simp [go_sem, b4, h8s, h8a]
      have hsz4 : w1.heap.size ≤ w4.heap.size := by omega
      refine v_loop (fun r f u => ∃ (i : Nat) (s' : σ) (ls : List (Nat × Pt)) (ns : List Pt), r = 8 - i ∧ i ≤ 8 ∧ f 0 = .iface bt bv ∧ f 2 = fnT gn ∧ f 3 = fnL gl ∧ f 32 = .agg (nd N3) ∧ f 33 = .int .i64 i ∧ twk rd N3 (List.range 8) s3 [] [p] = twk rd N3 ((List.range 8).drop i) s' ls ns
          ∧ ns.length ≤ i + 1 ∧ ls.length ≤ 8 * i ∧ 16 * (8 - i) ≤ m s' ∧ TW H gn gl s' ns ls u (Gr O w1 u) ∧ Ch O w1 u ∧ w4.heap.size ≤ u.heap.size) 8
        ⟨0, s3, [], [p], rfl, by omega, by simp, by simp, by simp, by simp, by simp, rfl, by simp, by simp, by omega, h4, cw4, Nat.le_refl _⟩ ?_
      rintro J hJ _ f u ⟨i, s', ls, ns, rfl, hi, f0, f2, f3, f32, f33, htw, hns, hls, hmu, hu, cu, hsu⟩
      have envu := hg.env env1 cu hu.src fun _ _ e => e
      have hgu : GlOk H (Gr O w1 u) := hg.gr env1
      by_cases hlt : i < 8
      · have hi8 : (i : Int) < 8 := by omega
        obtain ⟨q, hq⟩ : ∃ q, N3[i]? = some q := ⟨_, List.getElem?_eq_getElem (by rw [ok8.len]; exact hlt)⟩
        have okq := ok8.all _ (List.mem_of_getElem? hq)
        have hqd : N3.getD i ptz = q := by rw [List.getD_eq_getElem?_getD, hq]; rfl
        have hidx := nd_index ok8 hlt hq
        have hqs := pt_size okq
        have hqa := pt_all okq
        have hwi : IntKind.i64.wrap ((i : Int) + 1) = ((i + 1 : Nat) : Int) := by rw [IntKind.wrap_i64]; omega
        rw [range8_drop hlt, twk, hqd] at htw
        have c5 := (Ch.refl Nw u).alloc (.cells (pt q) 37)
        have b5 := hp_alloc u (.cells (pt q) 37)
        have env5 := envu.ch c5 fun _ _ e => e
        have h5 := (TW.ok hH _ _ _ _ _).ch hu c5 fun _ _ e => e
        have hsu5 : (u.alloc (.cells (pt q) 37)).heap.size = u.heap.size + 1 := by simp
        obtain ⟨w5, hw5⟩ : ∃ w5, u.alloc (.cells (pt q) 37) = w5 := ⟨_, rfl⟩
        rw [hw5] at c5 b5 env5 h5 hsu5
        simp [go_sem, f33, f32, hi8, hidx, hz_pt, zc_pt, hqs, hqa, pt_size ptz_ok, blit_whole, hw5]
        obtain ⟨g5, hg5⟩ : ∃ g5, u.heap.size = g5 := ⟨_, rfl⟩
        rw [hg5] at b5 hsu5 ⊢
        clear hw5
        have heqq : ∀ w, (Op.equalIn 10000 37 (.agg (pt q)) (.agg (pt ptz))).run Tryz.prog w = .ok (decide (q = ptz)) w := fun w => eq_pt w okq ptz_ok
        obtain ⟨cs5, T5, fr5, hh5, hx5, hz5⟩ := id env5.lh
        have h5' : TW H gn gl s' ns ls w5 (Gr O w1 w5) := (TW.ok hH _ _ _ _ _).weak h5 (fun k hk => hk.imp id fun e => ⟨e.1, by omega⟩) (Gr.lt hl1 (by omega))
        have cu5 : Ch O w1 w5 := cu.trans (c5.mono fun _ _ e => e.elim)
        have n5 : ¬ Gr O w1 u g5 := fun e => e.elim (nO g5 (by omega)) fun e => by omega
        by_cases hqz : q = ptz
        · rw [if_pos hqz] at htw
          subst hqz
          simp [go_sem, b5, hqs, hqa, hh5, hx5, hz5, heqq, f33, hwi]
          exact Rnd.intro (8 - (i + 1)) (by omega) (hJ _ _ _ ⟨i + 1, s', ls, ns, rfl, by omega, by simp [f0], by simp [f2], by simp [f3], by simp [f32], by simp, htw, by omega, by omega, by omega, h5', cu5, by omega⟩)
        · rw [if_neg hqz] at htw
          simp [go_sem, b5, hqs, hqa, hh5, hx5, hz5, heqq, hqz, f2]
          refine TW.told hH h5 q okq (by omega) fun v6 w6 h6 c6 => ?_
          have hs6 := c6.size
          have b6 := c6.obj b5 n5
          have env6 := hgu.env env5 c6 h6.src fun _ _ e => e
          have hg6 : GlOk H (Gr (Gr O w1 u) w5 w6) := hgu.gr env5
          have hm7 := tread_m hs s' q
          simp [go_sem, b6, hqs, hqa, f0]
          refine (TW.read hs (by omega) hH h6 q okq env6 hg6).mono ?_
          rintro _ w7 ⟨rfl, h7, c7⟩
          have ok7 := tread_ok rd s' q
          obtain ⟨⟨s7, N7, e7⟩, hT7⟩ : ∃ T, tread rd s' q = T := ⟨_, rfl⟩
          rw [hT7] at ok7 h7 htw hm7 ⊢
          simp only at ok7 h7 htw hm7 ⊢
          have h7s := nd_size ok7
          have h7a := nd_all ok7
          have hs7 := c7.size
          have env7 := hg6.env env6 c7 h7.src fun _ _ e => e
          have c8 := (Ch.refl Nw w7).alloc (.cells (nd N7) 128)
          have b8 := hp_alloc w7 (.cells (nd N7) 128)
          have env8 := env7.ch c8 fun _ _ e => e
          have h8 := (TW.ok hH _ _ _ _ _).ch h7 c8 fun _ _ e => e
          simp [go_sem, hz_nd, zc_nd, h7s, h7a, nd_size ndz_ok, blit_whole]
          obtain ⟨g8, hg8⟩ : ∃ g8, w7.heap.size = g8 := ⟨_, rfl⟩
          rw [hg8] at b8 ⊢
          have hs8 := c8.size
          have cu7 : Ch O w1 w7 := (cu5.trans' c6 fun k hk e => e.elim id fun e => by omega).trans' c7 fun k hk e => e.elim (fun e => e.elim id fun e => by omega) fun e => by omega
          have cu8 : Ch O w1 (w7.alloc (.cells (nd N7) 128)) := cu7.trans (c8.mono fun _ _ e => e.elim)
          generalize w7.alloc (.cells (nd N7) 128) = w8 at *
          have h8 : TW H gn gl s7 (ns ++ [q]) ls w8 (Gr O w1 w8) := (TW.ok hH _ _ _ _ _).weak h8 (fun k hk => by
            rcases hk with ((hk | hk) | hk) | hk
            · exact .inl hk
            · exact .inr ⟨hk.1, by omega⟩
            · exact .inr ⟨by omega, by omega⟩
            · exact .inr ⟨by omega, by omega⟩) (Gr.lt hl1 (by omega))
          by_cases he7 : e7 = 0
          · subst he7
            rw [if_neg (by simp)] at htw
            simp [go_sem, b8, h7s, h7a]
            refine v_loop (fun r f u => ∃ (k : Nat), r = 8 - k ∧ k ≤ 8 ∧ f 0 = .iface bt bv ∧ f 2 = fnT gn ∧ f 3 = fnL gl ∧ f 32 = .agg (nd N3) ∧ f 33 = .int .i64 i ∧ f 11 = .int .i64 i ∧ f 52 = .agg (nd N7) ∧ f 53 = .int .i64 k
                ∧ TW H gn gl s7 (ns ++ [q]) (ls ++ tlvsK i N7 k) u (Gr O w1 u) ∧ Ch O w1 u ∧ w4.heap.size ≤ u.heap.size) 8
              ⟨0, rfl, by omega, by simp [f0], by simp [f2], by simp [f3], by simp [f32], by simp [f33], by simp, by simp, by simp, by simpa [tlvsK] using h8, cu8, by omega⟩ ?_
            rintro J2 hJ2 _ f u' ⟨k, rfl, hk, f0, f2, f3, f32, f33, f11, f52, f53, hu2, cu2, hsu2⟩
            by_cases hlk : k < 8
            · have hk8 : (k : Int) < 8 := by omega
              obtain ⟨x, hx⟩ : ∃ x, N7[k]? = some x := ⟨_, List.getElem?_eq_getElem (by rw [ok7.len]; exact hlk)⟩
              have okx := ok7.all _ (List.mem_of_getElem? hx)
              have hxd : N7.getD k ptz = x := by rw [List.getD_eq_getElem?_getD, hx]; rfl
              have hidx2 := nd_index ok7 hlk hx
              have hxs := pt_size okx
              have hxa := pt_all okx
              have hwk : IntKind.i64.wrap ((k : Int) + 1) = ((k + 1 : Nat) : Int) := by rw [IntKind.wrap_i64]; omega
              have hwm : IntKind.i64.wrap ((i : Int) * 8) = ((8 * i : Nat) : Int) := by rw [IntKind.wrap_i64]; omega
              have hwa : IntKind.i64.wrap (8 * (i : Int) + k) = 8 * (i : Int) + k := by rw [IntKind.wrap_i64]; omega
              have hwu : IntKind.u32.wrap (8 * (i : Int) + k) = 8 * (i : Int) + k := by simp [IntKind.wrap, IntKind.bits, IntKind.signed]; omega
              have heqx : ∀ w, (Op.equalIn 10000 37 (.agg (pt x)) (.agg (pt ptz))).run Tryz.prog w = .ok (decide (x = ptz)) w := fun w => eq_pt w okx ptz_ok
              have c9 := (Ch.refl Nw u').alloc (.cells (pt x) 37)
              have b9 := hp_alloc u' (.cells (pt x) 37)
              have env9 := (hg.env env1 cu2 hu2.src fun _ _ e => e).ch c9 fun _ _ e => e
              have h9 := (TW.ok hH _ _ _ _ _).ch hu2 c9 fun _ _ e => e
              have hsu9 : (u'.alloc (.cells (pt x) 37)).heap.size = u'.heap.size + 1 := by simp
              have cu9 : Ch O w1 (u'.alloc (.cells (pt x) 37)) := cu2.trans (c9.mono fun _ _ e => e.elim)
              obtain ⟨w9, hw9⟩ : ∃ w9, u'.alloc (.cells (pt x) 37) = w9 := ⟨_, rfl⟩
              rw [hw9] at c9 b9 env9 h9 hsu9 cu9
              simp [go_sem, f52, f53, hk8, hidx2, hz_pt, zc_pt, hxs, hxa, pt_size ptz_ok, blit_whole, hw9]
              obtain ⟨g9, hg9⟩ : ∃ g9, u'.heap.size = g9 := ⟨_, rfl⟩
              rw [hg9] at b9 hsu9 ⊢
              clear hw9
              obtain ⟨cs9, T9, fr9, hh9, hx9, hz9⟩ := id env9.lh
              have h9' : TW H gn gl s7 (ns ++ [q]) (ls ++ tlvsK i N7 k) w9 (Gr O w1 w9) := (TW.ok hH _ _ _ _ _).weak h9 (fun k hk => hk.imp id fun e => ⟨e.1, by omega⟩) (Gr.lt hl1 (by omega))
              by_cases hxz : x = ptz
              · have e1 : tlvsK i N7 (k + 1) = tlvsK i N7 k := by rw [tlvsK_step, hxd, if_pos hxz, List.append_nil]
                subst hxz
                simp [go_sem, b9, hxs, hxa, hh9, hx9, hz9, heqx, f53, hwk]
                exact Rnd.intro (8 - (k + 1)) (by omega) (hJ2 _ _ _ ⟨k + 1, rfl, by omega, by simp [f0], by simp [f2], by simp [f3], by simp [f32], by simp [f33], by simp [f11], by simp [f52], by simp, by rw [e1]; exact h9', cu9, by omega⟩)
              · have e1 : ls ++ tlvsK i N7 (k + 1) = (ls ++ tlvsK i N7 k) ++ [(8 * i + k, x)] := by rw [tlvsK_step, hxd, if_neg hxz, List.append_assoc]
                have hkl := tlvsK_len i N7 k
                simp [go_sem, b9, hxs, hxa, hh9, hx9, hz9, heqx, hxz, f3, f11, f53, hwm, hwa, hwu]
                have n9 : ¬ Gr O w1 u' g9 := fun e => e.elim (nO g9 (by omega)) fun e => by omega
                have hxl : LfOk (8 * i + k, x) := ⟨by show 8 * i + k < _; omega, okx⟩
                have hcast : (8 * (i : Int) + k) = ((8 * i + k : Nat) : Int) := by omega
                rw [hcast]
                refine TW.leaf hH h9 (8 * i + k, x) hxl (by rw [List.length_append]; omega) fun v10 w10 h10 c10 => ?_
                have hs10 := c10.size
                have cu10 : Ch O w1 w10 := cu9.trans' c10 fun k hk e => e.elim id fun e => by omega
                have h10' : TW H gn gl s7 (ns ++ [q]) (ls ++ tlvsK i N7 (k + 1)) w10 (Gr O w1 w10) := by
                  rw [e1]
                  exact (TW.ok hH _ _ _ _ _).weak h10 (fun k hk => by
                    rcases hk with (hk | hk) | hk
                    · exact .inl hk
                    · exact .inr ⟨hk.1, by omega⟩
                    · exact .inr ⟨by omega, by omega⟩) (Gr.lt hl1 (by omega))
                simp [go_sem, f53, hwk]
                exact Rnd.intro (8 - (k + 1)) (by omega) (hJ2 _ _ _ ⟨k + 1, rfl, by omega, by simp [f0], by simp [f2], by simp [f3], by simp [f32], by simp [f33], by simp [f11], by simp [f52], by simp, h10', cu10, by omega⟩)
            · obtain rfl : k = 8 := by omega
              simp [go_sem, f53, f33, hwi]
              exact Rnd.intro (8 - (i + 1)) (by omega) (hJ _ _ _ ⟨i + 1, s7, ls ++ tlvs i N7, ns ++ [q], rfl, by omega, by simp [f0], by simp [f2], by simp [f3], by simp [f32], by simp, htw, by simp; omega, by
                have := tlvsK_len i N7 8
                rw [List.length_append, show tlvs i N7 = tlvsK i N7 8 from rfl]
                omega, by omega, hu2, cu2, by omega⟩)
          · rw [if_pos he7] at htw
            have he72 : (e7 == 0) = false := beq_false_of_ne he7
            simp [go_sem, he7, he72, bne]
            exact fin (x := (s7, ls, ns ++ [q], e7)) (ht.trans htw) h8 cu8
      · obtain rfl : i = 8 := by omega
        have htw : twk rd N3 (List.range 8) s3 [] [p] = (s', ls, ns, 0) := htw
        simp [go_sem, f33]
        exact fin (x := (s', ls, ns, 0)) (ht.trans htw) hu cu
    · rw [if_pos he] at ht
      have he2 : (e3 == 0) = false := beq_false_of_ne he
      simp [go_sem, he, he2, bne]
      exact fin ht h4 cw4
/-- what All hands out -/
def AllR (H : σ → HP) (w : World) (O : Nat → Prop) (x : σ × List (Nat × Pt) × List Pt × Int) (v' : Value) (w' : World) : Prop :=
  ∃ vl vn O', v' = .tuple #[vl, vn, .int .i64 x.2.2.2] ∧ w'.ownsRow 0 93 42 vl x.2.1.length (rowsL lfv x.2.1) ∧ w'.ownsRow 0 37 41 vn x.2.2.1.length (rowsL pt x.2.2.1) ∧ H x.1 w' O' ∧ (∀ k, O' k → Gr O w w' k) ∧
    (∀ k, vl.ownBlock = some k → ¬ O' k ∧ w.heap.size ≤ k) ∧ (∀ k, vn.ownBlock = some k → ¬ O' k ∧ w.heap.size ≤ k) ∧ Ch O w w'
set_option maxRecDepth 100000 in
set_option maxHeartbeats 4000000 in
theorem tall_gl (hs : SrcOk H m rd (.iface bt bv)) (hm : 144 ≤ m s) (hH : ∀ s, HOk (H s)) (h : H s w O) (p : Pt) (ok : PtOk p) (env : TEnv w) (hg : GlOk H O) :
    Ret Tryz.prog 34 #[.iface bt bv, .agg (pt p)] w (AllR H w O (tall rd s p)) := by
  refine v_enter Tryz.func34 Tryz.ntmps34 rfl (by simp) fun R' hR => ?_
  have hps := pt_size ok
  have hpa := pt_all ok
  have hlO := (hH s).lt h
  have nO : ∀ j, w.heap.size ≤ j → ¬ O j := fun j hj e => by have := hlO j e; omega
  have ca := (Ch.refl Nw w).alloc (.cells (pt p) 37)
  have b0 := hp_alloc w (.cells (pt p) 37)
  have env1 := env.ch ca fun _ _ e => e
  simp [go_sem, hps, hpa]
  obtain ⟨g, hgs⟩ : ∃ g, w.heap.size = g := ⟨_, rfl⟩
  rw [hgs] at b0 nO ⊢
  have sa := ca.size
  generalize w.alloc (.cells (pt p) 37) = w1 at *
  have nils : ∀ {W : World} {e : Int} {s' : σ}, tall rd s p = (s', [], [], e) → H s' W (Gr O w W) → Ch O w W → R' (.tuple #[.slice none 0 0, .slice none 0 0, .int .i64 e]) W := fun {W e s'} e1 a c => by
    refine hR _ _ ?_
    rw [e1]
    exact ⟨_, _, _, rfl, World.ownsRow_nil _ _ _ _, World.ownsRow_nil _ _ _ _, a, fun k hk => hk, fun k hk => by simp [Value.ownBlock] at hk, fun k hk => by simp [Value.ownBlock] at hk, c⟩
  refine (tmay_any p w1 ok env1).mono ?_
  rintro _ w2 ⟨rfl, c2⟩
  have cw2 := ca.trans c2
  have b02 := c2.obj b0 id
  have h2 := (hH s).ch h cw2 fun _ _ e => e
  have hs2 := cw2.size
  cases hmt : mayT p with
  | false =>
    simp [go_sem]
    exact nils (by unfold tall; rw [hmt]; rfl) ((hH _).weak h2 (fun k hk => .inl hk) (Gr.lt hlO hs2)) (cw2.mono fun _ _ e => e.elim)
  | true =>
    have ht : tall rd s p = if (twalk rd s p).2.2.2 ≠ 0 then ((twalk rd s p).1, [], [], (twalk rd s p).2.2.2) else twalk rd s p := by unfold tall; rw [hmt]; rfl
    have c4 := ((Ch.refl Nw w2).alloc (.cells #[.slice none 0 0] 84)).alloc (.cells #[.slice none 0 0] 28)
    have b7 := al2_0 w2 (.cells #[.slice none 0 0] 84) (.cells #[.slice none 0 0] 28)
    have b8 := al2_1 w2 (.cells #[.slice none 0 0] 84) (.cells #[.slice none 0 0] 28)
    have sz4 : ((w2.alloc (.cells #[.slice none 0 0] 84)).alloc (.cells #[.slice none 0 0] 28)).heap.size = w2.heap.size + 2 := by simp
    have b04 := c4.obj b02 id
    have h4 := (hH s).ch h2 c4 fun _ _ e => e
    have env4 := (env1.ch c2 fun _ _ e => e).ch c4 fun _ _ e => e
    have cw4 := cw2.trans c4
    simp [go_sem, b04, b02, hps, hpa]
    obtain ⟨g7, hg7⟩ : ∃ g7, w2.heap.size = g7 := ⟨_, rfl⟩
    rw [hg7] at b7 b8 sz4 ⊢
    generalize (w2.alloc (.cells #[.slice none 0 0] 84)).alloc (.cells #[.slice none 0 0] 28) = w4 at *
    have hl4 : ∀ k, (O k ∨ k = g7 ∨ k = g7 + 1) → k < w4.heap.size := fun k hk => by
      rcases hk with hk | hk | hk
      · have := hlO k hk; omega
      · omega
      · omega
    have hB : TW H (g7 + 1) g7 s [] [] w4 (fun k => O k ∨ k = g7 ∨ k = g7 + 1) := by
      refine ⟨O, fun k => k = g7 ∨ k = g7 + 1, h4, ⟨one (g7 + 1), one g7, BoxRow.begin b8 rfl (fun k hk => by simp only [one] at hk; omega), BoxRow.begin b7 rfl (fun k hk => by simp only [one] at hk; omega), fun k hk e => by simp only [one] at hk e; omega, fun k hk => by simp only [one] at hk; omega, fun k hk => hl4 k (.inr hk)⟩, fun k hk e => nO k (by omega) hk, fun k hk => hk, hl4⟩
    have hgB : GlOk H (fun k => O k ∨ k = g7 ∨ k = g7 + 1) := hg.imp (fun hg k hk e => by
      rcases e with e | e
      · exact hg k hk e
      · have := env.lt k hk; omega) id
    refine (twalk_any hs hm hH hB p ok env4 hgB).mono ?_
    rintro _ w5 ⟨rfl, h5, c5⟩
    obtain ⟨⟨s5, L5, N5, e5⟩, hT5⟩ : ∃ T, twalk rd s p = T := ⟨_, rfl⟩
    rw [hT5] at h5 ht ⊢
    have h5 : TW H (g7 + 1) g7 s5 N5 L5 w5 (Gr (fun k => O k ∨ k = g7 ∨ k = g7 + 1) w4 w5) := h5
    have hs5 := c5.size
    have cw5 : Ch O w w5 := (cw4.mono fun _ _ e => e.elim).trans' c5 fun k hk e => by
      rcases e with e | e
      · exact e
      · omega
    obtain ⟨O1, O2, a1, ⟨O3, O4, a3, a4, d34, u34, _⟩, d12, u12, _⟩ := h5
    have hO1 : ∀ k, O1 k → Gr O w w5 k := fun k hk => by
      rcases u12 k (.inl hk) with (hk | hk) | hk
      · exact .inl hk
      · exact .inr ⟨by omega, by omega⟩
      · exact .inr ⟨by omega, by omega⟩
    by_cases he : e5 = 0
    · subst he
      rw [if_neg (by simp)] at ht
      obtain ⟨vn, bn, ownn, hvn, hOn, hvnO, _⟩ := a3
      obtain ⟨vl, bl, ownl, hvl, hOl, hvlO, _⟩ := a4
      obtain ⟨An, cn, hven, _⟩ := Sl.of_own ownn
      obtain ⟨Al, cl, hvel, _⟩ := Sl.of_own ownl
      subst hven hvel
      have k7 : w5.cell? ⟨g7, 0, none⟩ = some (.slice Al L5.length cl) := cell_blk bl 0
      have k8 : w5.cell? ⟨g7 + 1, 0, none⟩ = some (.slice An N5.length cn) := cell_blk bn 0
      simp [go_sem]
      refine v_draw' [(0, none), (1, none), (2, none), (3, none), (4, none)] (by kernel_rfl) (by kernel_rfl) ?_
      simp [go_sem, k7, k8]
      refine hR _ _ ?_
      rw [ht]
      exact ⟨_, _, O1, rfl, ownl, ownn, (hH _).ch a1 (Ch.refl Nw w5).drew fun _ _ e => e, hO1, fun k hk => ⟨fun e => d12 k e (u34 k (.inr (hvlO k hk))), by have := hvl k hk; omega⟩, fun k hk => ⟨fun e => d12 k e (u34 k (.inl (hvnO k hk))), by have := hvn k hk; omega⟩, cw5.drew⟩
    · rw [if_pos he] at ht
      have he2 : (e5 == 0) = false := beq_false_of_ne he
      simp [go_sem, he, he2, bne]
      exact nils ht ((hH _).weak a1 hO1 (Gr.lt hlO (by omega))) cw5
theorem tall_any (hs : SrcOk H m rd (.iface bt bv)) (hm : 144 ≤ m s) (hH : ∀ s, HOk (H s)) (h : H s w O) (p : Pt) (ok : PtOk p) (env : TEnv w) (hg : ∀ k, glT k → ¬ O k) :
    Ret Tryz.prog 34 #[.iface bt bv, .agg (pt p)] w (AllR H w O (tall rd s p)) :=
  tall_gl hs hm hH h p ok env (.inl hg)
end
end Go.Proofs.YtnefdmbdkljifaaGreatDoor
