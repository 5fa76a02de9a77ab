/- MirrorNil answers true for every input. Condition: the listed package variables hold what the text lays. (Printed by genMnQ.py.) -/
import Derived.Test.YtppilgkgnofkpaaDoorPtO
import Derived.Test.YtppilgkgnofkpaaDoorMrL
import Derived.Test.YtppilgkgnofkpaaDoorMrW
set_option linter.unusedSimpArgs false
set_option linter.unusedVariables false

/- The variables sha.constants and ptr.wide as the text lays them; a world that meets the conditions. No condition. -/
namespace Go.Proofs.YtppilgkgnofkpaaDoor
open Go.ChangeShapes Go.WideShapes Go.ChangeAt Go.RowKit Go.Kin

def Kz : List Int := [1116352408, 1899447441, 3049323471, 3921009573, 961987163, 1508970993, 2453635748, 2870763221, 3624381080, 310598401, 607225278, 1426881987, 1925078388, 2162078206, 2614888103, 3248222580, 3835390401, 4022224774, 264347078, 604807628, 770255983, 1249150122, 1555081692, 1996064986, 2554220882, 2821834349, 2952996808, 3210313671, 3336571891, 3584528711, 113926993, 338241895, 666307205, 773529912, 1294757372, 1396182291, 1695183700, 1986661051, 2177026350, 2456956037, 2730485921, 2820302411, 3259730800, 3345764771, 3516065817, 3600352804, 4094571909, 275423344, 430227734, 506948616, 659060556, 883997877, 958139571, 1322822218, 1537002063, 1747873779, 1955562222, 2024104815, 2227730452, 2361852424, 2428436474, 2756734187, 3204031479, 3329325298]
theorem Kz_eq : Kz = Kc.map fun n : Nat => (n : Int) := by decide +kernel
theorem consts_g : Tryd.prog.globalNamed "kintsugi/sha.constants" = some 2 := by kernel_rfl
theorem consts_T : (Tryd.prog.globals[(2 : Nat)]?).map (·.type) = some 219 := by kernel_rfl
theorem laid_consts {H : Type} : (Rows.laid_kintsugi_sha_constants : DataW H) = .agg (Kz.map fun z => .lit (.int .u32 z)) := rfl
theorem lw_of_laid3 {w : World} (h : laidMetH Tryd.prog [("kintsugi/sha.constants", Rows.laid_kintsugi_sha_constants), ("kintsugi/ptr.wide", Rows.laid_kintsugi_ptr_wide)] w) : Lw w := by
  have h' : laidMet Tryd.prog [("kintsugi/sha.constants", Rows.laid_kintsugi_sha_constants), ("kintsugi/ptr.wide", .agg (([0, 1, 2, 2, 2, 2] : List Int).map fun z => .lit (.int .i64 z)))] w := h
  exact lw_of_laid1 (h'.filter fun x => x.1 == "kintsugi/ptr.wide")
theorem lk_of_laid3 {w : World} (h : laidMetH Tryd.prog [("kintsugi/sha.constants", Rows.laid_kintsugi_sha_constants), ("kintsugi/ptr.wide", Rows.laid_kintsugi_ptr_wide)] w) : Lk w := by
  have h' : laidMet Tryd.prog [("kintsugi/sha.constants", Rows.laid_kintsugi_sha_constants), ("kintsugi/ptr.wide", Rows.laid_kintsugi_ptr_wide)] w := h
  have h2 : laidMet Tryd.prog [("kintsugi/sha.constants", Rows.laid_kintsugi_sha_constants)] w := h'.filter fun x => x.1 == "kintsugi/sha.constants"
  rw [laid_consts] at h2
  have := laid_ints consts_g consts_T Tryd.underlying219 Tryd.underlying23 (by kernel_rfl) (by kernel_rfl) rfl h2
  intro i hi
  have hl : Kc.length = 64 := rfl
  have e : Kz[i]? = some ((Kc.getD i 0 : Nat) : Int) := by
    rw [Kz_eq, List.getElem?_map, List.getD_eq_getElem?_getD, List.getElem?_eq_getElem (by omega)]
    rfl
  exact this i _ e
/-- A world that meets the conditions. -/
noncomputable def laidWorld3 (os : Os) : World :=
  let w0 := World.holding Tryd.prog os ⟨#[], #[], []⟩
  { w0 with heap := (w0.heap.modify 0 fun
      | .cells _ t frozen => .cells #[.int .i64 0, .int .i64 1, .int .i64 2, .int .i64 2, .int .i64 2, .int .i64 2] t frozen
      | o => o).modify 2 fun
      | .cells _ t frozen => .cells (Kz.map fun z => Value.int .u32 z).toArray t frozen
      | o => o }
theorem laidWorld3_met (os : Os) (args : Array Value) : laidMetH Tryd.prog [("kintsugi/sha.constants", Rows.laid_kintsugi_sha_constants), ("kintsugi/ptr.wide", Rows.laid_kintsugi_ptr_wide)] ((laidWorld3 os).forCall (fun _ _ => 0) ⟨#[], args, []⟩).memory :=
  laidMetH_of_parts (laidMet_of_run' 8 (by kernel_rfl) (by kernel_rfl)) (by kernel_rfl)
end Go.Proofs.YtppilgkgnofkpaaDoor

/- No mirror: what is answered; MirrorNil, walked. Conditions: the variables sha.constants and ptr.wide hold what the text lays. -/
namespace Go.Proofs.YtppilgkgnofkpaaDoor
open Go.RowKit Go.Kin

theorem mnew_nil (a b s : Option Addr) (h : a = none ∨ b = none ∨ s = none) (w : World) : Ret Tryd.prog 9 #[.pointer a, .pointer b, .pointer s] w fun v' w' => v' = .tuple #[.pointer none, .int .i64 2] ∧ w' = w := by
  refine v_enter Tryd.func9 Tryd.ntmps9 rfl (by simp) fun R' hR => ?_
  cases a with
  | none =>
    simp [go_sem]
    exact hR _ _ ⟨rfl, rfl⟩
  | some a =>
    cases b with
    | none =>
      simp [go_sem]
      exact hR _ _ ⟨rfl, rfl⟩
    | some b =>
      cases s with
      | none =>
        simp [go_sem]
        exact hR _ _ ⟨rfl, rfl⟩
      | some s => rcases h with h | h | h <;> cases h
theorem mclear_nil (w : World) : Ret Tryd.prog 10 #[.pointer none] w fun v' w' => v' = .tuple #[] ∧ w' = w := by
  refine v_enter Tryd.func10 Tryd.ntmps10 rfl (by simp) fun R' hR => ?_
  simp [go_sem]
  exact hR _ _ ⟨rfl, rfl⟩
theorem heal_nil (p : Pt) (ok : PtOk p) (f : Value) (w : World) : Ret Tryd.prog 38 #[.pointer none, .agg (pt p), f] w fun v' w' => v' = .tuple #[.slice none 0 0, .int .i64 2] ∧ Ch Nw w w' := by
  refine v_enter Tryd.func38 Tryd.ntmps38 rfl (by simp) fun R' hR => ?_
  simp [go_sem, pt_size ok, pt_all ok]
  exact hR _ _ ⟨rfl, (Ch.refl Nw w).alloc _⟩
theorem mread_nil (p : Pt) (ok : PtOk p) (w : World) : Ret Tryd.prog 11 #[.pointer none, .agg (pt p)] w fun v' w' => v' = .tuple #[.slice none 0 0, .int .i64 2] ∧ Ch Nw w w' := by
  refine v_enter Tryd.func11 Tryd.ntmps11 rfl (by simp) fun R' hR => ?_
  simp [go_sem, pt_size ok, pt_all ok]
  refine (heal_nil p ok _ _).mono ?_
  rintro _ w1 ⟨rfl, c1⟩
  simp [go_sem]
  exact hR _ _ ⟨rfl, ((Ch.refl Nw w).alloc _).trans c1⟩
theorem check_nil (p : Pt) (ok : PtOk p) (w : World) : Ret Tryd.prog 12 #[.pointer none, .agg (pt p)] w fun v' w' => v' = .int .i64 2 ∧ Ch Nw w w' := by
  refine v_enter Tryd.func12 Tryd.ntmps12 rfl (by simp) fun R' hR => ?_
  simp [go_sem, pt_size ok, pt_all ok]
  refine (heal_nil p ok _ _).mono ?_
  rintro _ w1 ⟨rfl, c1⟩
  simp [go_sem]
  exact hR _ _ ⟨rfl, ((Ch.refl Nw w).alloc _).trans c1⟩
theorem mwrite_nil (p : Pt) (ok : PtOk p) (A : Option Addr) (n c : Nat) (w : World) : Ret Tryd.prog 13 #[.pointer none, .agg (pt p), .slice A n c] w fun v' w' => v' = .int .i64 2 ∧ Ch Nw w w' := by
  refine v_enter Tryd.func13 Tryd.ntmps13 rfl (by simp) fun R' hR => ?_
  simp [go_sem, pt_size ok, pt_all ok]
  exact hR _ _ ⟨rfl, (((Ch.refl Nw w).alloc _).alloc _).alloc _⟩
theorem mflush_nil (w : World) : Ret Tryd.prog 14 #[.pointer none] w fun v' w' => v' = .int .i64 2 ∧ w' = w := by
  refine v_enter Tryd.func14 Tryd.ntmps14 rfl (by simp) fun R' hR => ?_
  simp [go_sem]
  exact hR _ _ ⟨rfl, rfl⟩
theorem moves_nil (w : World) : Ret Tryd.prog 15 #[.pointer none] w fun v' w' => v' = .slice none 0 0 ∧ w' = w := by
  refine v_enter Tryd.func15 Tryd.ntmps15 rfl (by simp) fun R' hR => ?_
  simp [go_sem]
  exact hR _ _ ⟨rfl, rfl⟩
theorem health_nil (k : Int) (w : World) : Ret Tryd.prog 16 #[.pointer none, .int .i64 k] w fun v' w' => v' = .int .u8 2 ∧ w' = w := by
  refine v_enter Tryd.func16 Tryd.ntmps16 rfl (by simp) fun R' hR => ?_
  simp [go_sem]
  exact hR _ _ ⟨rfl, rfl⟩
theorem health_two (m : Addr) (w : World) : Ret Tryd.prog 16 #[.pointer (some m), .int .i64 2] w fun v' w' => v' = .int .u8 2 ∧ w' = w := by
  refine v_enter Tryd.func16 Tryd.ntmps16 rfl (by simp) fun R' hR => ?_
  simp [go_sem]
  exact hR _ _ ⟨rfl, rfl⟩
theorem count_nil (k : Int) (w : World) : Ret Tryd.prog 17 #[.pointer none, .int .i64 k] w fun v' w' => v' = .agg #[.int .i64 0, .int .i64 0] ∧ Ch Nw w w' := by
  refine v_enter Tryd.func17 Tryd.ntmps17 rfl (by simp) fun R' hR => ?_
  simp [go_sem]
  exact hR _ _ ⟨rfl, (Ch.refl Nw w).alloc _⟩
theorem count_neg (m : Addr) (w : World) : Ret Tryd.prog 17 #[.pointer (some m), .int .i64 (-1)] w fun v' w' => v' = .agg #[.int .i64 0, .int .i64 0] ∧ Ch Nw w w' := by
  refine v_enter Tryd.func17 Tryd.ntmps17 rfl (by simp) fun R' hR => ?_
  simp [go_sem]
  exact hR _ _ ⟨rfl, (Ch.refl Nw w).alloc _⟩
set_option maxRecDepth 100000 in
set_option maxHeartbeats 4000000 in
theorem mnil_any (q : Pt) (v : Value) (b : Byts) (k : Int) (W : World) (ok : PtOk q) (hs : Sl W v b.length (bvs b)) (hw : Lw W) (hk : Lk W) :
    Ret Tryd.prog 3 #[.agg (pt q), v, .int .i64 k] W fun v' w' => v' = .bool true ∧ Ch Nw W w' := by
  refine v_enter Tryd.func3 Tryd.ntmps3 rfl (by simp) fun R' hR => ?_
  have hps := pt_size ok
  have hpa := pt_all ok
  obtain ⟨A, c, rfl, _⟩ := id hs
  have hlen := hs.len Tryd.underlying29 3
  have ca := (Ch.refl Nw W).alloc (.cells (pt q) 28)
  have b0 := hp_alloc W (.cells (pt q) 28)
  obtain ⟨g, hg⟩ : ∃ g, W.heap.size = g := ⟨_, rfl⟩
  have wake : ∀ (u : World) {K : Value → World → Prop}, Ch Nw W u → (∀ u', Ch Nw W u' → K (.bool true) u') → Ret Tryd.prog 7 #[] u K := fun u K hc hK => (mrwakes_any u (hw.ch hc id) (hk.ch hc id)).mono fun v w' hh => by
    rw [hh.1]
    exact hK _ (hc.trans hh.2)
  by_cases h6 : (600 : Int) < b.length
  · simp [go_sem, hps, hpa, hlen, h6]
    exact wake _ ca fun u hu => by
      simp [go_sem]
      exact hR _ _ ⟨rfl, hu⟩
  simp [go_sem, hps, hpa, hlen, h6]
  rw [hg] at b0 ⊢
  revert ca b0
  generalize W.alloc (.cells (pt q) 28) = w1
  intro ca b0
  refine (begun_any 3 w1 (by decide) (by decide)).mono ?_
  rintro _ w2 ⟨x, p, m, z, rfl, hpr, c2⟩
  have cw2 := ca.trans c2
  have b2 := c2.obj b0 id
  have c0 := hpr.cell 0
  have c1 := hpr.cell 1
  have c3 := hpr.cell 2
  have c4 := hpr.cell 3
  have c5 := hpr.cell 4
  simp [prc] at c0 c1 c3 c4 c5
  simp [go_sem]
  refine v_draw' [(0, none), (1, none), (2, none), (3, none), (4, none), (5, none), (6, none), (7, none), (8, none), (9, some []), (10, none), (11, none), (12, none), (13, none), (14, none)] (by kernel_rfl) (by kernel_rfl) ?_
  simp [go_sem, c3, c4]
  refine (mnew_nil none _ _ (.inl rfl) w2.drew).mono ?_
  rintro _ _ ⟨rfl, rfl⟩
  simp [go_sem]
  refine v_draw' [(0, none), (1, none), (2, none), (3, none), (4, none), (5, none), (6, none), (7, none), (8, none), (9, some []), (10, none), (11, none), (12, none), (13, none), (14, none)] (by kernel_rfl) (by kernel_rfl) ?_
  simp [go_sem, c1, c4]
  refine (mnew_nil _ none _ (.inr (.inl rfl)) _).mono ?_
  rintro _ _ ⟨rfl, rfl⟩
  simp [go_sem]
  refine v_draw' [(0, none), (1, none), (2, none), (3, none), (4, none), (5, none), (6, none), (7, none), (8, none), (9, none), (10, some []), (11, none), (12, none), (13, none), (14, none), (15, none)] (by kernel_rfl) (by kernel_rfl) ?_
  simp [go_sem, c1, c3]
  refine (mnew_nil _ _ none (.inr (.inr rfl)) _).mono ?_
  rintro _ _ ⟨rfl, rfl⟩
  simp [go_sem]
  refine (mclear_nil _).mono ?_
  rintro _ w3 ⟨rfl, h3⟩
  have cw3 : Ch Nw w2 w3 := by rw [h3]; exact (((Ch.refl Nw w2).drew).drew).drew
  clear h3
  have b3 := cw3.obj b2 id
  have d5 := cw3.cell c5 id
  simp [go_sem, b3, hps, hpa]
  refine (mread_nil q ok w3).mono ?_
  rintro _ w4 ⟨rfl, c34⟩
  have b4 := c34.obj b3 id
  have d5 := c34.cell d5 id
  simp [go_sem, b4, hps, hpa]
  refine (check_nil q ok w4).mono ?_
  rintro _ w5 ⟨rfl, c45⟩
  have b5 := c45.obj b4 id
  have d5 := c45.cell d5 id
  simp [go_sem, b5, hps, hpa]
  refine (mwrite_nil q ok A b.length c w5).mono ?_
  rintro _ w6 ⟨rfl, c56⟩
  have d5 := c56.cell d5 id
  simp [go_sem]
  refine (mflush_nil w6).mono ?_
  rintro _ _ ⟨rfl, rfl⟩
  simp [go_sem]
  refine (moves_nil _).mono ?_
  rintro _ _ ⟨rfl, rfl⟩
  simp [go_sem]
  refine (health_nil k _).mono ?_
  rintro _ _ ⟨rfl, rfl⟩
  simp [go_sem]
  refine (count_nil k _).mono ?_
  rintro _ w7 ⟨rfl, c67⟩
  have d5 := c67.cell d5 id
  simp [go_sem, d5]
  refine (health_two _ w7).mono ?_
  rintro _ _ ⟨rfl, rfl⟩
  simp [go_sem, d5]
  refine (count_neg _ _).mono ?_
  rintro _ w8 ⟨rfl, c78⟩
  have cw8 : Ch Nw W w8 := cw2.trans (cw3.trans (c34.trans (c45.trans (c56.trans (c67.trans c78)))))
  simp [go_sem]
  refine (wide_any 0 w8 (by decide) (hw.ch cw8 id)).mono ?_
  rintro _ _ ⟨rfl, rfl⟩
  simp [go_sem, wideN]
  exact wake _ cw8 fun u hu => by
    simp [go_sem]
    exact hR _ _ ⟨rfl, hu⟩
end Go.Proofs.YtppilgkgnofkpaaDoor

namespace Go.Proofs.YtppilgkgnofkpaaDoor
open Go.ChangeShapes Go.WideShapes Go.ChangeAt Go.RowKit Go.Kin

set_option maxRecDepth 100000 in
theorem mirrorNil_lifted (os : Os) (started : os.Started) (H : Type) (enc : TypeId × Value → H) :
    ReturnsInHanded {} Tryd.checked os 3 .any (fun w args => (Rows.mirrorNilSpec.pre enc Tryd.prog Tryd.f3 [] false w args ∧ laidMetH Tryd.prog Rows.mirrorNilRow.laid w) ∧ sizedMet enc Tryd.prog Tryd.f3 (OpenSpec.ofChange Rows.mirrorNilSpec) false w args)
      (Rows.mirrorNilSpec.post enc Tryd.prog Tryd.f3 false true false false) := by
  refine returnsInHanded_of_change_and (C := Tryd.checked) (X := fun w _ => laidMetH Tryd.prog Rows.mirrorNilRow.laid w) (fun _ _ _ hh h => h.of_heap hh) own started (by kernel_rfl) Tryd.func3
    (ChangeSpec.witness_at (enc := enc) (C := Tryd.checked) (os := os) (X := fun w _ => laidMetH Tryd.prog Rows.mirrorNilRow.laid w) false (laidWorld3 os) #[.agg (pt ptz), .slice none 0 0, .int .i64 0] 8 rfl (by kernel_rfl) (by kernel_rfl) (by kernel_rfl) (by kernel_rfl) (by kernel_rfl) (laidWorld3_met os _)) ?_
  intro W base args ds gs before hval0 hW _ _ hL _
  have hval : ∀ (j : Nat) t v, Tryd.f3.params[j]? = some t → args[j]? = some v → Value.okWide Tryd.prog W .any base t v := hval0
  have hW' := hW
  obtain ⟨p, q, hA0, hV, rfl, hfz, hnd⟩ := hW
  have hA : DataW.TrodAll enc Tryd.prog W 0 (fun _ => true) true Tryd.f3.params.toList args.toList ds p := hA0
  have hAk := hA
  rw [Tryd.params3] at hA hval
  obtain ⟨v0, vs0, d0, ds0, p0, q0, hargs, rfl, rfl, h0, hA⟩ := trodAll_cons hA
  obtain ⟨v1, vs1, d1, ds1, p1, q1, rfl, rfl, rfl, h1, hA⟩ := trodAll_cons hA
  obtain ⟨v2, vs2, d2, ds2, p2, q2, rfl, rfl, rfl, h2, hA⟩ := trodAll_cons hA
  obtain ⟨rfl, rfl, rfl⟩ := trodAll_nil hA
  obtain rfl : args = #[v0, v1, v2] := Array.ext' hargs
  obtain ⟨rfl, rfl⟩ := trodVars_none hV
  have o0 := hval 0 28 v0 rfl rfl
  have o1 := hval 1 29 v1 rfl rfl
  have o2 := hval 2 3 v2 rfl rfl
  obtain ⟨fuel0, cs0, rfl, hf0⟩ := open_agg o0 (.inl ⟨_, Tryd.underlying28⟩) h0
  obtain ⟨p0', ok0, rfl⟩ := trod_pt hf0
  obtain ⟨l1, hs1⟩ := open_bytes Tryd.underlying29 Tryd.underlying5 (by kernel_rfl) o1 h1
  obtain ⟨z2, rfl, _, _⟩ := open_i64 Tryd.underlying3 o2 h2
  refine (mnil_any p0' v1 l1 z2 W ok0 hs1 (lw_of_laid3 hL) (lk_of_laid3 hL)).calls.mono fun e W' ⟨v, he, hv, hc⟩ => ?_
  subst he; subst hv
  exact ⟨_, rfl, post_law laidOut hW' hAk rfl (by kernel_rfl) (by kernel_rfl) Tryd.underlying4 rfl rfl hc.below⟩
theorem mirrorNil_row : Rows.MirrorNilSaid :=
  OpenClaim.holds_of_wide 3 Tryd.f3 rfl rfl rfl rfl rfl rfl rfl ⟨rfl, rfl, rfl, rfl, rfl⟩ rfl rfl rfl rfl rfl (by kernel_rfl) Tryd.func3 (by kernel_rfl)
    (of_decide_eq_true (by kernel_rfl)) (by unfold Func.isWrapper; first | (rw [if_pos (by decide +kernel)]; kernel_rfl) | (rw [if_neg (by decide +kernel)]; exact ⟨rfl, rfl⟩))
    (fun os started H enc _ => mirrorNil_lifted os started H enc)
theorem mirrorNil_holds : Rows.MirrorNilCardSaid :=
  Claim7.holds_tied_plain_at .later [] [.data, .data] true (true, "80faa658f577bf6ac4f02202467926dd6cb099b7cc0cf69058a714d874fc86c6") false
    mirrorNil_row (fun _ h => by cases h) (by kernel_rfl) (fun _ h => by cases h) mirrorNil_row_tie rfl ⟨rfl, rfl⟩ (by kernel_rfl) rfl
    (fun f fn hf hfn => by
      obtain rfl : f = 3 := Option.some.inj ((show Tryd.prog.funcNamed "kintsugi/kintsugilaw08.MirrorNil" = some 3 by kernel_rfl).symm.trans hf) |>.symm
      obtain rfl : fn = Tryd.f3 := (Option.some.inj (Tryd.func3.symm.trans hfn)).symm
      exact ⟨by kernel_rfl, fun j t ht => no_stand (by kernel_rfl) j t ht⟩)
    (by kernel_rfl)
#print axioms mirrorNil_holds
end Go.Proofs.YtppilgkgnofkpaaDoor
