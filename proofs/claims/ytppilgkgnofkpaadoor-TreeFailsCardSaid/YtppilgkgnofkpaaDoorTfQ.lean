/- TreeFails answers true for every input. Condition: the listed package variables hold what the text lays. (Printed by genTfQ.py.) -/
import Derived.Test.YtppilgkgnofkpaaDoorPtO
import Derived.Test.YtppilgkgnofkpaaDoorLsr
import Derived.Test.YtppilgkgnofkpaaDoorRow
import Derived.Test.YtppilgkgnofkpaaDoorTrT
import Derived.Test.YtppilgkgnofkpaaDoorTfB
set_option linter.unusedSimpArgs false
set_option linter.unusedVariables false

/- The variables ptr.wide and tree.hole as the text lays them; a world that meets the conditions; the tree law's acts, opened. No condition. -/
namespace Go.Proofs.YtppilgkgnofkpaaDoor
open Go.ChangeShapes Go.WideShapes Go.ChangeAt Go.RowKit Go.Kin

section
variable {H : Type} {enc : TypeId × Value → H} {P : Program} {W : World} {base : Nat} {spare : Nat → Bool} {held : Bool} {fuel : Nat} {cs : List Value} {x : DataW H × List MemPlace}
theorem lit_cells {t : TypeId} {k : IntKind} (he : P.underlying t = some (.int k)) (h : DataW.trod enc P W base spare held fuel t cs = some x) (hx : x.1 = .lit (.int k 0)) : cs = [.int k 0] := by
  obtain ⟨n, rfl, rfl, _⟩ := DataW.trod_int he h
  simp at hx
  rw [hx]
theorem lits_cells {t e : TypeId} {n : Nat} {k : IntKind} (ht : P.underlying t = some (.array n e)) (he : P.underlying e = some (.int k)) (hc : P.cellsOf e = 1) (hn : P.cellsOf t = n) (h : DataW.trod enc P W base spare held fuel t cs = some x) (hx : x.1 = .agg (List.replicate n (.lit (.int k 0)))) : cs = List.replicate n (.int k 0) := by
  obtain ⟨xs, m, _, rfl, hl, hxl, hi⟩ := DataW.trod_array ht h
  simp at hx
  apply List.ext_getElem?
  intro i
  by_cases hin : i < n
  · have := hi i hin
    rw [hc, Nat.mul_one, List.getElem?_eq_getElem (by omega)] at this
    have e1 : (xs[i]'(by omega)).1 = .lit (.int k 0) := by
      have h2 := congrArg (fun l => l[i]?) hx
      simp only [List.getElem?_map, List.getElem?_replicate, if_pos hin] at h2
      rw [List.getElem?_eq_getElem (by omega)] at h2
      simpa using h2
    have h3 := lit_cells he this e1
    have h4 : ((cs.drop i).take 1)[0]? = some (.int k 0) := by rw [h3]; rfl
    rw [List.getElem?_take, if_pos (by omega), List.getElem?_drop] at h4
    rw [List.getElem?_replicate, if_pos hin]
    simpa using h4
  · rw [List.getElem?_eq_none (by omega), List.getElem?_eq_none (by simp; omega)]
end
theorem hole_g : Tryd.prog.globalNamed "kintsugi/tree.hole" = some 1 := by kernel_rfl
theorem hole_T : (Tryd.prog.globals[(1 : Nat)]?).map (·.type) = some 28 := by kernel_rfl
theorem ptz_list : (pt ptz).toList = [.int .u8 0, .int .u8 0, .int .u16 0, .int .u32 0, .int .u64 0] ++ (List.replicate 32 (.int .u8 0) ++ List.replicate 4 (.int .u16 0)) := by rfl
section
variable {H : Type} {enc : TypeId × Value → H} {W : World} {base : Nat} {spare : Nat → Bool} {held : Bool} {fuel : Nat} {cs : List Value} {x : DataW H × List MemPlace}
set_option maxRecDepth 100000 in
theorem trod_hole (h : DataW.trod enc Tryd.prog W base spare held fuel 28 cs = some x) (hx : x.1 = Rows.laid_kintsugi_tree_hole) : cs = (pt ptz).toList := by
  obtain ⟨xs, m, _, rfl, hl, hxl, hf⟩ := DataW.trod_struct Tryd.underlying28 h
  have hc : Tryd.prog.cellsOf 28 = 41 := by kernel_rfl
  rw [hc] at hl
  match xs, hxl with
  | [y0, y1, y2, y3, y4, y5, y6], _ =>
    have f0 := hf 0 _ rfl
    have f1 := hf 1 _ rfl
    have f2 := hf 2 _ rfl
    have f3 := hf 3 _ rfl
    have f4 := hf 4 _ rfl
    have f5 := hf 5 _ rfl
    have f6 := hf 6 _ rfl
    unfold Rows.laid_kintsugi_tree_hole at hx
    simp only [List.map_cons, List.map_nil, DataW.agg.injEq, List.cons.injEq, and_true] at hx
    obtain ⟨x0, x1, x2, x3, x4, x5, x6⟩ := hx
    have c8 : Tryd.prog.cellsOf 5 = 1 := by kernel_rfl
    have c16 : Tryd.prog.cellsOf 22 = 1 := by kernel_rfl
    have c32 : Tryd.prog.cellsOf 23 = 1 := by kernel_rfl
    have c64 : Tryd.prog.cellsOf 24 = 1 := by kernel_rfl
    have cA : Tryd.prog.cellsOf 25 = 32 := by kernel_rfl
    have cB : Tryd.prog.cellsOf 26 = 4 := by kernel_rfl
    have hk : (cs.drop 0).take (Tryd.prog.cellsOf 5) = _ := lit_cells Tryd.underlying5 f0 x0
    have hlv : (cs.drop 1).take (Tryd.prog.cellsOf 5) = _ := lit_cells Tryd.underlying5 f1 x1
    have ho : (cs.drop 2).take (Tryd.prog.cellsOf 22) = _ := lit_cells Tryd.underlying22 f2 x2
    have hff : (cs.drop 3).take (Tryd.prog.cellsOf 23) = _ := lit_cells Tryd.underlying23 f3 x3
    have hb : (cs.drop 4).take (Tryd.prog.cellsOf 24) = _ := lit_cells Tryd.underlying24 f4 x4
    have hlc : (cs.drop 5).take (Tryd.prog.cellsOf 25) = _ := lits_cells Tryd.underlying25 Tryd.underlying5 c8 cA f5 x5
    have hac : (cs.drop 37).take (Tryd.prog.cellsOf 26) = _ := lits_cells Tryd.underlying26 Tryd.underlying22 c16 cB f6 x6
    rw [c8] at hk hlv
    rw [c16] at ho
    rw [c32] at hff
    rw [c64] at hb
    rw [cA] at hlc
    rw [cB] at hac
    have st : ∀ i j, (cs.drop i).take j ++ cs.drop (i + j) = cs.drop i := fun i j => by rw [← List.drop_drop, List.take_append_drop]
    have e1 : cs = (cs.drop 0).take 1 ++ ((cs.drop 1).take 1 ++ ((cs.drop 2).take 1 ++ ((cs.drop 3).take 1 ++ ((cs.drop 4).take 1 ++ ((cs.drop 5).take 32 ++ (cs.drop 37).take 4))))) := by
      rw [List.take_of_length_le (i := 4) (by simp; omega), st 5 32, st 4 1, st 3 1, st 2 1, st 1 1, st 0 1, List.drop_zero]
    rw [e1, hk, hlv, ho, hff, hb, hlc, hac, ptz_list]
    rfl
set_option maxRecDepth 100000 in
theorem trod_ta (h : DataW.trod enc Tryd.prog W 0 spare held fuel 67 cs = some x) : ∃ a : Ta, a.In W ∧ cs = taL a := by
  obtain ⟨xs, m, _, _, hl, hxl, hf⟩ := DataW.trod_struct Tryd.underlying67 h
  have hc : Tryd.prog.cellsOf 67 = 3 := by kernel_rfl
  rw [hc] at hl
  match xs, hxl with
  | [y0, y1, y2], _ =>
    have f0 := hf 0 _ rfl
    have f1 := hf 1 _ rfl
    have f2 := hf 2 _ rfl
    obtain ⟨v, l, hv, sl, lt⟩ := trod_bytesF Tryd.underlying29 Tryd.underlying5 (by kernel_rfl) f0
    obtain ⟨n, hn, hn64, _⟩ := trod_nat Tryd.underlying24 (.inl rfl) f1
    obtain ⟨b, hb⟩ := trod_b Tryd.underlying4 f2
    have c64 : Tryd.prog.cellsOf 24 = 1 := by kernel_rfl
    have cB : Tryd.prog.cellsOf 29 = 1 := by kernel_rfl
    have cb : Tryd.prog.cellsOf 4 = 1 := by kernel_rfl
    have hv : (cs.drop 0).take (Tryd.prog.cellsOf 29) = [v] := hv
    have hn : (cs.drop 1).take (Tryd.prog.cellsOf 24) = [.int .u64 n] := hn
    have hb : (cs.drop 2).take (Tryd.prog.cellsOf 4) = [.bool b] := hb
    rw [cB] at hv
    rw [c64] at hn
    rw [cb] at hb
    refine ⟨⟨v, l, n, b⟩, ⟨sl, hn64 rfl⟩, ?_⟩
    match cs, hl with
    | [a0, a1, a2], _ =>
      simp at hv hn hb
      rw [hv, hn, hb]
      rfl
end
theorem lh_of_laid {w : World} (h : laidMet Tryd.prog [("kintsugi/tree.hole", Rows.laid_kintsugi_tree_hole)] w) : Lh w := by
  obtain ⟨ps, ⟨g', t', cs, fuel, p, q, h1, h2, h3, h4, _⟩, _⟩ := h
  rw [hole_g] at h1
  obtain rfl := Option.some.inj h1
  rw [hole_T] at h2
  obtain rfl := Option.some.inj h2
  have hcs := trod_hole h4 rfl
  have hl : Lst w (.slice (some ⟨1, 0, none⟩) 1 1) (fun p => (pt p).toList) 41 [ptz] := by
    have hcell : ∀ i u, (pt ptz).toList[i]? = some u → w.cell? ⟨1, i, none⟩ = some u := fun i u hu => by
      rw [World.var?_cell hole_g h3 i, ← hu, ← hcs]
      simp
    refine ⟨_, 1, rfl, Nat.le_refl _, by decide, fun _ => ⟨_, _, rfl, World.block_lt_of_cell? w _ (hcell 0 _ rfl), fun j a i u hj hu => ?_⟩⟩
    cases j with
    | zero =>
      simp at hj
      subst hj
      have := hcell i u hu
      simpa using this
    | succ j => simp at hj
  obtain ⟨b, off, c, cs', T, fr, e, hb, hx, hz⟩ := hl.elem (by decide) (fun q hq => by simp at hq; subst hq; exact pt_size ptz_ok) (i := 0) rfl
  injection e with e1 _ _
  injection e1 with e1
  injection e1 with e2 e3
  subst e2 e3
  exact ⟨cs', T, fr, hb, by simpa using hx, by simpa using hz⟩
theorem tenv_of_laid {w : World} (h : laidMetH Tryd.prog [("kintsugi/ptr.wide", Rows.laid_kintsugi_ptr_wide), ("kintsugi/tree.hole", Rows.laid_kintsugi_tree_hole)] w) : TEnv w := by
  have h' : laidMet Tryd.prog [("kintsugi/ptr.wide", .agg (([0, 1, 2, 2, 2, 2] : List Int).map fun z => .lit (.int .i64 z))), ("kintsugi/tree.hole", Rows.laid_kintsugi_tree_hole)] w := h
  exact ⟨lw_of_laid1 (h'.filter fun x => x.1 == "kintsugi/ptr.wide"), lh_of_laid (h'.filter fun x => x.1 == "kintsugi/tree.hole")⟩
noncomputable def laidWorld5 (os : Os) : World :=
  let w0 := World.holding Tryd.prog os ⟨#[], #[], []⟩
  { w0 with heap := w0.heap.modify 0 fun
      | .cells _ t frozen => .cells #[.int .i64 0, .int .i64 1, .int .i64 2, .int .i64 2, .int .i64 2, .int .i64 2] t frozen
      | o => o }
theorem laidWorld5_met (os : Os) (args : Array Value) : laidMetH Tryd.prog [("kintsugi/ptr.wide", Rows.laid_kintsugi_ptr_wide), ("kintsugi/tree.hole", Rows.laid_kintsugi_tree_hole)] ((laidWorld5 os).forCall (fun _ _ => 0) ⟨#[], args, []⟩).memory :=
  laidMetH_of_parts (laidMet_of_run' 8 (by kernel_rfl) (by kernel_rfl)) (by kernel_rfl)
end Go.Proofs.YtppilgkgnofkpaaDoor

/- A leaf of a tree, opened; addresses opened. No condition. -/
namespace Go.Proofs.YtppilgkgnofkpaaDoor
open Go.ChangeShapes Go.WideShapes Go.ChangeAt Go.RowKit Go.Kin

section
variable {H : Type} {enc : TypeId × Value → H} {W : World} {base : Nat} {spare : Nat → Bool} {held : Bool} {fuel : Nat} {cs : List Value} {x : DataW H × List MemPlace}
set_option maxRecDepth 100000 in
theorem trod_lf (h : DataW.trod enc Tryd.prog W base spare held fuel 69 cs = some x) : ∃ a : Nat × Pt, LfOk a ∧ cs = lfL a := by
  obtain ⟨xs, m, _, _, hl, hxl, hf⟩ := DataW.trod_struct Tryd.underlying69 h
  have hc : Tryd.prog.cellsOf 69 = 42 := by kernel_rfl
  rw [hc] at hl
  match xs, hxl with
  | [y0, y1], _ =>
    have f0 := hf 0 _ rfl
    have f1 := hf 1 _ rfl
    obtain ⟨n, hn, hn32⟩ := trod_u32 Tryd.underlying23 f0
    obtain ⟨p, ok, hp⟩ := trod_pt f1
    have c32 : Tryd.prog.cellsOf 23 = 1 := by kernel_rfl
    have cP : Tryd.prog.cellsOf 28 = 41 := by kernel_rfl
    have hn : (cs.drop 0).take (Tryd.prog.cellsOf 23) = [.int .u32 n] := hn
    have hp : (cs.drop 1).take (Tryd.prog.cellsOf 28) = (pt p).toList := hp
    rw [c32] at hn
    rw [cP] at hp
    refine ⟨(n, p), ⟨hn32, ok⟩, ?_⟩
    have e : cs = cs.take 1 ++ (cs.drop 1).take 41 := by
      rw [List.take_of_length_le (i := 41) (by rw [List.length_drop]; omega), List.take_append_drop]
    rw [e, hp, show cs.take 1 = [.int .u32 n] from hn]
    rfl
set_option maxRecDepth 100000 in
theorem open_pt {v : Value} {d : DataW H} {p : List MemPlace} {r : Reach} {b0 : Nat} (hv : Value.okWide Tryd.prog W r b0 28 v) (h : DataW.Trod enc Tryd.prog W 0 spare held 28 v d p) : ∃ q, PtOk q ∧ v = .agg (pt q) := by
  obtain ⟨fuel, cs, rfl, hf⟩ := open_agg hv (.inl ⟨_, Tryd.underlying28⟩) h
  obtain ⟨q, ok, rfl⟩ := trod_pt hf
  exact ⟨q, ok, by simp⟩
end
end Go.Proofs.YtppilgkgnofkpaaDoor

namespace Go.Proofs.YtppilgkgnofkpaaDoor
open Go.ChangeShapes Go.WideShapes Go.ChangeAt Go.RowKit Go.Kin

set_option maxRecDepth 100000 in
theorem treeFails_lifted (os : Os) (started : os.Started) (H : Type) (enc : TypeId × Value → H) :
    ReturnsInHanded {} Tryd.checked os 5 .any (fun w args => (Rows.treeFailsSpec.pre enc Tryd.prog Tryd.f5 [] false w args ∧ laidMetH Tryd.prog Rows.treeFailsRow.laid w) ∧ sizedMet enc Tryd.prog Tryd.f5 (OpenSpec.ofChange Rows.treeFailsSpec) false w args)
      (Rows.treeFailsSpec.post enc Tryd.prog Tryd.f5 false true false false) := by
  refine returnsInHanded_of_change_and (C := Tryd.checked) (X := fun w _ => laidMetH Tryd.prog Rows.treeFailsRow.laid w) (fun _ _ _ hh h => h.of_heap hh) own started (by kernel_rfl) Tryd.func5
    (ChangeSpec.witness_at (enc := enc) (C := Tryd.checked) (os := os) (X := fun w _ => laidMetH Tryd.prog Rows.treeFailsRow.laid w) false (laidWorld5 os) #[.slice none 0 0, .slice none 0 0, .int .u8 0, .int .u32 0, .agg #[.slice none 0 0, .int .u64 0, .bool false]] 8 rfl (by kernel_rfl) (by kernel_rfl) (by kernel_rfl) (by kernel_rfl) (by kernel_rfl) (laidWorld5_met os _)) ?_
  intro W base args ds gs before hval0 hW _ _ hL _
  have hval : ∀ (j : Nat) t v, Tryd.f5.params[j]? = some t → args[j]? = some v → Value.okWide Tryd.prog W .any base t v := hval0
  have hW' := hW
  obtain ⟨p, q, hA0, hV, rfl, hfz, hnd⟩ := hW
  have hA : DataW.TrodAll enc Tryd.prog W 0 (fun _ => true) true Tryd.f5.params.toList args.toList ds p := hA0
  have hAk := hA
  rw [Tryd.params5] at hA hval
  obtain ⟨v0, vs0, d0, ds0, p0, q0, hargs, rfl, rfl, h0, hA⟩ := trodAll_cons hA
  obtain ⟨v1, vs1, d1, ds1, p1, q1, rfl, rfl, rfl, h1, hA⟩ := trodAll_cons hA
  obtain ⟨v2, vs2, d2, ds2, p2, q2, rfl, rfl, rfl, h2, hA⟩ := trodAll_cons hA
  obtain ⟨v3, vs3, d3, ds3, p3, q3, rfl, rfl, rfl, h3, hA⟩ := trodAll_cons hA
  obtain ⟨v4, vs4, d4, ds4, p4, q4, rfl, rfl, rfl, h4, hA⟩ := trodAll_cons hA
  obtain ⟨rfl, rfl, rfl⟩ := trodAll_nil hA
  obtain rfl : args = #[v0, v1, v2, v3, v4] := Array.ext' hargs
  obtain ⟨rfl, rfl⟩ := trodVars_none hV
  have o0 := hval 0 56 v0 rfl rfl
  have o1 := hval 1 60 v1 rfl rfl
  have o2 := hval 2 5 v2 rfl rfl
  have o3 := hval 3 23 v3 rfl rfl
  have o4 := hval 4 67 v4 rfl rfl
  obtain ⟨L0, hin0, hL0⟩ := open_list (fun a : Ta => a.In W) taL (k := 3) (by decide) Tryd.underlying56 (by kernel_rfl) o0 h0 fun cs fuel x hl ht => trod_ta ht
  obtain ⟨l1, hin1, hL1⟩ := open_list (fun x : Nat => x < 65536) (fun x : Nat => [Value.int .u16 x]) (k := 1) (by decide) Tryd.underlying60 (by kernel_rfl) o1 h1 fun cs fuel x hl ht => (trod_u16 Tryd.underlying22 ht).imp fun z h => ⟨h.2, h.1⟩
  have hov1 := own_lt Tryd.underlying60 o1
  obtain ⟨n2, rfl, hn2⟩ := open_u8 Tryd.underlying5 o2 h2
  obtain ⟨n3, rfl, hn3⟩ := open_u32 Tryd.underlying23 o3 h3
  obtain ⟨fuel4, cs4, rfl, hf4⟩ := open_agg o4 (.inl ⟨_, Tryd.underlying67⟩) h4
  obtain ⟨a4, ha4, rfl⟩ := trod_ta hf4
  refine (treeFails_any v0 L0 v1 l1 n2 n3 a4 W hL0 hin0 hL1 hin1 hov1 hn2 hn3 ha4 (tenv_of_laid hL)).calls.mono fun e W' ⟨v, he, hv, hc⟩ => ?_
  subst he; subst hv
  exact ⟨_, rfl, post_law laidOut hW' hAk rfl (by kernel_rfl) (by kernel_rfl) Tryd.underlying4 rfl rfl hc.below⟩
theorem treeFails_row : Rows.TreeFailsSaid :=
  OpenClaim.holds_of_wide 5 Tryd.f5 rfl rfl rfl rfl rfl rfl rfl ⟨rfl, rfl, rfl, rfl, rfl⟩ rfl rfl rfl rfl rfl (by kernel_rfl) Tryd.func5 (by kernel_rfl)
    (of_decide_eq_true (by kernel_rfl)) (by unfold Func.isWrapper; first | (rw [if_pos (by decide +kernel)]; kernel_rfl) | (rw [if_neg (by decide +kernel)]; exact ⟨rfl, rfl⟩))
    (fun os started H enc _ => treeFails_lifted os started H enc)
theorem treeFails_holds : Rows.TreeFailsCardSaid :=
  Claim7.holds_tied_plain_at .later [] [.data, .data] true (true, "80faa658f577bf6ac4f02202467926dd6cb099b7cc0cf69058a714d874fc86c6") false
    treeFails_row (fun _ h => by cases h) (by kernel_rfl) (fun _ h => by cases h) treeFails_row_tie rfl ⟨rfl, rfl⟩ (by kernel_rfl) rfl
    (fun f fn hf hfn => by
      obtain rfl : f = 5 := Option.some.inj ((show Tryd.prog.funcNamed "kintsugi/kintsugilaw10.TreeFails" = some 5 by kernel_rfl).symm.trans hf) |>.symm
      obtain rfl : fn = Tryd.f5 := (Option.some.inj (Tryd.func5.symm.trans hfn)).symm
      exact ⟨by kernel_rfl, fun j t ht => no_stand (by kernel_rfl) j t ht⟩)
    (by kernel_rfl)
#print axioms treeFails_holds
end Go.Proofs.YtppilgkgnofkpaaDoor
