/- The tree law's turned: just the nodes made that are new, just what is gone old. Conditions: the values are of their types, the shelf lies in the world. -/
import Derived.Test.YtnefdmbdkljifaaGreatDoorKep
import Derived.Test.YtnefdmbdkljifaaGreatDoorBsl
import Derived.Test.YtnefdmbdkljifaaGreatDoorAgg
import Derived.Test.YtnefdmbdkljifaaGreatDoorTrS
import Derived.WalkSmall
import Derived.Test.YtnefdmbdkljifaaGreatDoorPtO
set_option linter.unusedSimpArgs false
set_option linter.unusedVariables false

/- Rows of values of several cells, read. They speak of no program. No condition. -/
namespace Go.Kin
open Go Go.RowKit

section
variable {α : Type} {w : World} {v : Value} {en : α → Array Value} {k : Nat} {L : List α}
/-- an element, in its block -/
theorem Lst.elem (h : Lst w v (fun a => (en a).toList) k L) (hk : 0 < k) (hin : ∀ a ∈ L, (en a).size = k) {i : Nat} {a : α} (hi : L[i]? = some a) : ∃ b off c cs T fr, v = .slice (some ⟨b, off, none⟩) L.length c ∧ w.heap[b]? = some (.cells cs T fr) ∧ cs.extract (off + i * k) (off + i * k + k) = en a ∧ off + i * k + k ≤ cs.size := by
  obtain ⟨A, c, rfl, _, _, h3⟩ := h
  have hlt := (List.getElem?_eq_some_iff.1 hi).1
  obtain ⟨b, off, rfl, _, hr⟩ := h3 (by omega)
  have hl : (en a).toList.length = k := by rw [Array.length_toList]; exact hin a (List.mem_of_getElem? hi)
  obtain ⟨u0, hu0⟩ : ∃ u, (en a).toList[0]? = some u := ⟨_, List.getElem?_eq_getElem (by omega)⟩
  obtain ⟨o, ho, hoc⟩ := cells_of_cell (hr i a 0 u0 hi hu0)
  have ho : w.heap[b]? = some o := ho
  obtain ⟨cs, T, fr, rfl⟩ : ∃ cs T fr, o = .cells cs T fr := by
    cases o with
    | cells cs T fr => exact ⟨_, _, _, rfl⟩
    | _ => cases hoc
  have hc : ∀ j, j < k → cs[off + i * k + j]? = (en a).toList[j]? := fun j hj => by
    obtain ⟨u, hu⟩ : ∃ u, (en a).toList[j]? = some u := ⟨_, List.getElem?_eq_getElem (by omega)⟩
    rw [hu, ← hr i a j u hi hu, cell_blk ho]
  have hsz : off + i * k + k ≤ cs.size := by
    have h50 := hc (k - 1) (by omega)
    rw [List.getElem?_eq_getElem (show k - 1 < (en a).toList.length by omega)] at h50
    have := (Array.getElem?_eq_some_iff.1 h50).1
    omega
  refine ⟨b, off, c, cs, T, fr, rfl, ho, ?_, hsz⟩
  apply Array.ext_getElem?
  intro j
  rw [Array.getElem?_extract]
  by_cases hj : j < k
  · rw [if_pos (by omega), hc j hj]
    simp
  · rw [if_neg (by omega), Array.getElem?_eq_none (by rw [Array.length_toList] at hl; omega)]
theorem rowsL_at (hin : ∀ a ∈ L, (en a).size = k) {j : Nat} {a : α} (hj : L[j]? = some a) {i : Nat} {u : Value} (hu : (en a).toList[i]? = some u) : (rowsL en L)[j * k + i]? = some u := by
  have hlt := (List.getElem?_eq_some_iff.1 hj).1
  have h1 := rowsL_take_length hin (Nat.le_of_lt hlt)
  rw [rowsL_split hj, List.getElem?_append_right (by omega), h1, show j * k + i - j * k = i by omega, List.getElem?_append_left (List.getElem?_eq_some_iff.1 hu).1]
  exact hu
theorem Lst.of_own {e : Nat} (h : w.ownsRow 0 e k v L.length (rowsL en L)) (hin : ∀ a ∈ L, (en a).size = k) : Lst w v (fun a => (en a).toList) k L := by
  obtain ⟨A, c, hv, h1, h2, _⟩ := Sl.of_own h
  refine ⟨A, c, hv, h1, h2, fun hp => ?_⟩
  obtain ⟨g, cap, cur, hv2, _, _, hb, _, hc⟩ := ownS_blk h hp
  rw [hv] at hv2
  injection hv2 with hA
  refine ⟨g, 0, hA, lt_of_block hb, fun j a i u hj hu => ?_⟩
  rw [Nat.zero_add]
  exact hc _ _ (rowsL_at hin hj hu)
/-- the block that a row of one's own has -/
theorem Lst.ch' {S : Nat → Prop} {w w' : World} {en : α → List Value} {v : Value} (h : Lst w v en k L) (hc : Ch S w w') (hn : ∀ b, v.ownBlock = some b → ¬ S b) : Lst w' v en k L := h.ch hc fun b _ hb => hn b hb
end
end Go.Kin

/- The tree law's small functions: a leaf, a pointer in a list, acts. Conditions: the arguments lie in the world. -/
namespace Go.Proofs.YtnefdmbdkljifaaGreatDoor
open Go.RowKit Go.Kin

abbrev ptl (p : Pt) : List Value := (pt p).toList
abbrev PtLst (w : World) (v : Value) (l : List Pt) : Prop := Lst w v (fun p => (pt p).toList) 41 l
theorem ptLst_own {w : World} {v : Value} {l : List Pt} (h : w.ownsRow 0 37 41 v l.length (rowsL pt l)) (hin : ∀ p ∈ l, PtOk p) : PtLst w v l := Lst.of_own h fun p hp => pt_size (hin p hp)
def lfp (n off : Nat) : Pt := ⟨1, 0, 9, off, n, zb 32, [0, 0, 7, 0]⟩
theorem lfp_ok {n off : Nat} (hn : n < 18446744073709551616) (ho : off < 4294967296) : PtOk (lfp n off) := ⟨by show 1 < 256; decide, by show 0 < 256; decide, by show 9 < 65536; decide, ho, hn, zb_length 32, rfl, by intro x hx; simp [lfp] at hx; omega⟩
theorem lfp_may (n off : Nat) : mayP (lfp n off) = true := by
  rw [mayP_eq (p := lfp n off) (a0 := 0) (a1 := 0) (a2 := 7) (a3 := 0) (n := 1) rfl rfl]
  rfl
theorem lfp_ne (n off : Nat) : lfp n off ≠ ptz := fun e => by
  have := congrArg Pt.k e
  cases this
theorem bld_at4 {w : World} {K : Value → World → Prop} (a b c d : Int) : VBld Tryz.prog 35 [(0, .int .u16 a), (1, .int .u16 b), (2, .int .u16 c), (3, .int .u16 d)] w K = K (.agg #[.int .u16 a, .int .u16 b, .int .u16 c, .int .u16 d]) w := by
  simp [go_sem]
/-- an act: offsets, holes, the same -/
structure Ta where
  v : Value
  offs : List UInt8
  holes : Nat
  same : Bool
def taL (a : Ta) : List Value := [a.v, .int .u64 a.holes, .bool a.same]
structure Ta.In (w : World) (a : Ta) : Prop where
  sl : Sl w a.v a.offs.length (bvs a.offs)
  holes : a.holes < 18446744073709551616
theorem Ta.In.ch {w w' : World} {a : Ta} (h : a.In w) (hc : Ch Nw w w') : a.In w' := ⟨h.sl.ch hc fun _ _ e => e, h.holes⟩
def Ta.has (a : Ta) (off : Nat) : Bool := a.offs.any fun c => c.toNat % 64 == off
def Ta.pt (a : Ta) (n : Nat) (h : List Pt) (off : Nat) : Pt := if a.same then h.getD off ptz else if a.holes / 2 ^ off % 2 = 1 then ptz else lfp (n + 1) off
/-- the leaves of an act -/
def Ta.lvs (a : Ta) (n : Nat) (h : List Pt) (k : Nat) : List (Nat × Pt) := (List.range k).filterMap fun off => if a.has off then some (off, a.pt n h off) else none
theorem Ta.lvs_step (a : Ta) (n : Nat) (h : List Pt) (k : Nat) : a.lvs n h (k + 1) = a.lvs n h k ++ if a.has k then [(k, a.pt n h k)] else [] := by
  unfold Ta.lvs
  rw [List.range_succ, List.filterMap_append]
  congr 1
  simp only [List.filterMap_cons, List.filterMap_nil]
  cases a.has k <;> rfl
theorem Ta.lvs_len (a : Ta) (n : Nat) (h : List Pt) (k : Nat) : (a.lvs n h k).length ≤ k := Nat.le_trans (List.length_filterMap_le _ _) (by simp)
theorem Ta.lvs_mem (a : Ta) (n : Nat) (h : List Pt) (k : Nat) {x : Nat × Pt} (hx : x ∈ a.lvs n h k) : x.1 < k ∧ x.2 = a.pt n h x.1 := by
  unfold Ta.lvs at hx
  obtain ⟨off, h1, h2⟩ := List.mem_filterMap.1 hx
  split at h2
  · cases h2
    exact ⟨List.mem_range.1 h1, rfl⟩
  · cases h2
theorem Ta.lvs_rise (a : Ta) (n : Nat) (h : List Pt) : ∀ k, (a.lvs n h k).Pairwise fun x y => x.1 < y.1
  | 0 => List.Pairwise.nil
  | k + 1 => by
    rw [Ta.lvs_step, List.pairwise_append]
    refine ⟨Ta.lvs_rise a n h k, ?_, fun x hx y hy => ?_⟩
    · split <;> simp
    · split at hy
      · simp at hy
        have := (a.lvs_mem n h k hx).1
        rw [hy]
        exact this
      · cases hy
theorem Ta.pt_ok {a : Ta} {n : Nat} {h : List Pt} {off : Nat} (hn : n + 1 < 18446744073709551616) (ho : off < 4294967296) (hh : ∀ p ∈ h, PtOk p) : PtOk (a.pt n h off) := by
  unfold Ta.pt
  split
  · rw [List.getD_eq_getElem?_getD]
    by_cases hl : off < h.length
    · rw [List.getElem?_eq_getElem hl]; exact hh _ (List.getElem_mem hl)
    · rw [List.getElem?_eq_none (by omega)]; exact ptz_ok
  · split
    · exact ptz_ok
    · exact lfp_ok hn ho
end Go.Proofs.YtnefdmbdkljifaaGreatDoor

/- The variables ptr.wide and tree.hole as the text lays them; a world that meets the conditions; the tree law's acts, opened. No condition. -/
namespace Go.Proofs.YtnefdmbdkljifaaGreatDoor
open Go.ChangeShapes Go.WideShapes Go.ChangeAt Go.RowKit Go.Kin

section
variable {H : Type} {enc : TypeId × Value → H} {P : Program} {W : World} {base : Nat} {spare : Nat → Bool} {held : Bool} {fuel : Nat} {cs : List Value} {x : DataW H × List MemPlace}
theorem lit_cells {t : TypeId} {k : IntKind} (he : P.underlying t = some (.int k)) (h : DataW.trod enc P W base spare held fuel t cs = some x) (hx : x.1 = .lit (.int k 0)) : cs = [.int k 0] := by
  obtain ⟨n, rfl, rfl, _⟩ := DataW.trod_int he h
  simp at hx
  rw [hx]
theorem lits_cells {t e : TypeId} {n : Nat} {k : IntKind} (ht : P.underlying t = some (.array n e)) (he : P.underlying e = some (.int k)) (hc : P.cellsOf e = 1) (hn : P.cellsOf t = n) (h : DataW.trod enc P W base spare held fuel t cs = some x) (hx : x.1 = .agg (List.replicate n (.lit (.int k 0)))) : cs = List.replicate n (.int k 0) := by
  obtain ⟨xs, m, _, rfl, hl, hxl, hi⟩ := DataW.trod_array ht h
  simp at hx
  apply List.ext_getElem?
  intro i
  by_cases hin : i < n
  · have := hi i hin
    rw [hc, Nat.mul_one, List.getElem?_eq_getElem (by omega)] at this
    have e1 : (xs[i]'(by omega)).1 = .lit (.int k 0) := by
      have h2 := congrArg (fun l => l[i]?) hx
      simp only [List.getElem?_map, List.getElem?_replicate, if_pos hin] at h2
      rw [List.getElem?_eq_getElem (by omega)] at h2
      simpa using h2
    have h3 := lit_cells he this e1
    have h4 : ((cs.drop i).take 1)[0]? = some (.int k 0) := by rw [h3]; rfl
    rw [List.getElem?_take, if_pos (by omega), List.getElem?_drop] at h4
    rw [List.getElem?_replicate, if_pos hin]
    simpa using h4
  · rw [List.getElem?_eq_none (by omega), List.getElem?_eq_none (by simp; omega)]
end
theorem hole_g : Tryz.prog.globalNamed "kintsugi/tree.hole" = some 0 := by kernel_rfl
theorem hole_T : (Tryz.prog.globals[(0 : Nat)]?).map (·.type) = some 37 := by kernel_rfl
theorem ptz_list : (pt ptz).toList = [.int .u8 0, .int .u8 0, .int .u16 0, .int .u32 0, .int .u64 0] ++ (List.replicate 32 (.int .u8 0) ++ List.replicate 4 (.int .u16 0)) := by rfl
section
variable {H : Type} {enc : TypeId × Value → H} {W : World} {base : Nat} {spare : Nat → Bool} {held : Bool} {fuel : Nat} {cs : List Value} {x : DataW H × List MemPlace}
set_option maxRecDepth 100000 in
theorem trod_hole (h : DataW.trod enc Tryz.prog W base spare held fuel 37 cs = some x) (hx : x.1 = Rows.laid_kintsugi_tree_hole) : cs = (pt ptz).toList := by
  obtain ⟨xs, m, _, rfl, hl, hxl, hf⟩ := DataW.trod_struct Tryz.underlying37 h
  have hc : Tryz.prog.cellsOf 37 = 41 := by kernel_rfl
  rw [hc] at hl
  match xs, hxl with
  | [y0, y1, y2, y3, y4, y5, y6], _ =>
    have f0 := hf 0 _ rfl
    have f1 := hf 1 _ rfl
    have f2 := hf 2 _ rfl
    have f3 := hf 3 _ rfl
    have f4 := hf 4 _ rfl
    have f5 := hf 5 _ rfl
    have f6 := hf 6 _ rfl
    unfold Rows.laid_kintsugi_tree_hole at hx
    simp only [List.map_cons, List.map_nil, DataW.agg.injEq, List.cons.injEq, and_true] at hx
    obtain ⟨x0, x1, x2, x3, x4, x5, x6⟩ := hx
    have c8 : Tryz.prog.cellsOf 5 = 1 := by kernel_rfl
    have c16 : Tryz.prog.cellsOf 31 = 1 := by kernel_rfl
    have c32 : Tryz.prog.cellsOf 32 = 1 := by kernel_rfl
    have c64 : Tryz.prog.cellsOf 33 = 1 := by kernel_rfl
    have cA : Tryz.prog.cellsOf 34 = 32 := by kernel_rfl
    have cB : Tryz.prog.cellsOf 35 = 4 := by kernel_rfl
    have hk : (cs.drop 0).take (Tryz.prog.cellsOf 5) = _ := lit_cells Tryz.underlying5 f0 x0
    have hlv : (cs.drop 1).take (Tryz.prog.cellsOf 5) = _ := lit_cells Tryz.underlying5 f1 x1
    have ho : (cs.drop 2).take (Tryz.prog.cellsOf 31) = _ := lit_cells Tryz.underlying31 f2 x2
    have hff : (cs.drop 3).take (Tryz.prog.cellsOf 32) = _ := lit_cells Tryz.underlying32 f3 x3
    have hb : (cs.drop 4).take (Tryz.prog.cellsOf 33) = _ := lit_cells Tryz.underlying33 f4 x4
    have hlc : (cs.drop 5).take (Tryz.prog.cellsOf 34) = _ := lits_cells Tryz.underlying34 Tryz.underlying5 c8 cA f5 x5
    have hac : (cs.drop 37).take (Tryz.prog.cellsOf 35) = _ := lits_cells Tryz.underlying35 Tryz.underlying31 c16 cB f6 x6
    rw [c8] at hk hlv
    rw [c16] at ho
    rw [c32] at hff
    rw [c64] at hb
    rw [cA] at hlc
    rw [cB] at hac
    have st : ∀ i j, (cs.drop i).take j ++ cs.drop (i + j) = cs.drop i := fun i j => by rw [← List.drop_drop, List.take_append_drop]
    have e1 : cs = (cs.drop 0).take 1 ++ ((cs.drop 1).take 1 ++ ((cs.drop 2).take 1 ++ ((cs.drop 3).take 1 ++ ((cs.drop 4).take 1 ++ ((cs.drop 5).take 32 ++ (cs.drop 37).take 4))))) := by
      rw [List.take_of_length_le (i := 4) (by simp; omega), st 5 32, st 4 1, st 3 1, st 2 1, st 1 1, st 0 1, List.drop_zero]
    rw [e1, hk, hlv, ho, hff, hb, hlc, hac, ptz_list]
    rfl
end
theorem lh_of_laid {w : World} (h : laidMet Tryz.prog [("kintsugi/tree.hole", Rows.laid_kintsugi_tree_hole)] w) : Lh w := by
  obtain ⟨ps, ⟨g', t', cs, fuel, p, q, h1, h2, h3, h4, _⟩, _⟩ := h
  rw [hole_g] at h1
  obtain rfl := Option.some.inj h1
  rw [hole_T] at h2
  obtain rfl := Option.some.inj h2
  have hcs := trod_hole h4 rfl
  have hl : Lst w (.slice (some ⟨0, 0, none⟩) 1 1) (fun p => (pt p).toList) 41 [ptz] := by
    have hcell : ∀ i u, (pt ptz).toList[i]? = some u → w.cell? ⟨0, i, none⟩ = some u := fun i u hu => by
      rw [World.var?_cell hole_g h3 i, ← hu, ← hcs]
      simp
    refine ⟨_, 1, rfl, Nat.le_refl _, by decide, fun _ => ⟨_, _, rfl, World.block_lt_of_cell? w _ (hcell 0 _ rfl), fun j a i u hj hu => ?_⟩⟩
    cases j with
    | zero =>
      simp at hj
      subst hj
      have := hcell i u hu
      simpa using this
    | succ j => simp at hj
  obtain ⟨b, off, c, cs', T, fr, e, hb, hx, hz⟩ := hl.elem (by decide) (fun q hq => by simp at hq; subst hq; exact pt_size ptz_ok) (i := 0) rfl
  injection e with e1 _ _
  injection e1 with e1
  injection e1 with e2 e3
  subst e2 e3
  exact ⟨cs', T, fr, hb, by simpa using hx, by simpa using hz⟩
theorem tenv_of_laid {w : World} (h : laidMetH Tryz.prog [("kintsugi/ptr.wide", Rows.laid_kintsugi_ptr_wide), ("kintsugi/tree.hole", Rows.laid_kintsugi_tree_hole)] w) : TEnv w := by
  have h' : laidMet Tryz.prog [("kintsugi/ptr.wide", .agg (([0, 1, 2, 2, 2, 2] : List Int).map fun z => .lit (.int .i64 z))), ("kintsugi/tree.hole", Rows.laid_kintsugi_tree_hole)] w := h
  exact ⟨lw_of_laid1 (h'.filter fun x => x.1 == "kintsugi/ptr.wide"), lh_of_laid (h'.filter fun x => x.1 == "kintsugi/tree.hole")⟩
noncomputable def laidWorld5 (os : Os) : World :=
  let w0 := World.holding Tryz.prog os ⟨#[], #[], []⟩
  { w0 with heap := w0.heap.modify 1 fun
      | .cells _ t frozen => .cells #[.int .i64 0, .int .i64 1, .int .i64 2, .int .i64 2, .int .i64 2, .int .i64 2] t frozen
      | o => o }
theorem laidWorld5_met (os : Os) (args : Array Value) : laidMetH Tryz.prog [("kintsugi/ptr.wide", Rows.laid_kintsugi_ptr_wide), ("kintsugi/tree.hole", Rows.laid_kintsugi_tree_hole)] ((laidWorld5 os).forCall (fun _ _ => 0) ⟨#[], args, []⟩).memory :=
  laidMetH_of_parts (laidMet_of_run' 8 (by kernel_rfl) (by kernel_rfl)) (by kernel_rfl)
end Go.Proofs.YtnefdmbdkljifaaGreatDoor

/- The tree law's tells: a tree tells its map. Conditions: the variables ptr.wide and tree.hole hold what the text lays. -/
namespace Go.Proofs.YtnefdmbdkljifaaGreatDoor
open Go.RowKit Go.Kin

theorem eq_lf (w : World) {x y : Nat × Pt} (hx : LfOk x) (hy : LfOk y) : (Op.equalIn 10000 93 (.agg (lfv x)) (.agg (lfv y))).run Tryz.prog w = .ok (decide (x = y)) w := by
  have e1 : ∀ w, (Op.equalIn 9999 37 (.agg (pt x.2)) (.agg (pt y.2))).run Tryz.prog w = .ok (decide (x.2 = y.2)) w := fun w => eq_pt_any w 9996 hx.p hy.p
  have hc : ((x.1 : Int) == (y.1 : Int)) = decide (x.1 = y.1) := by
    by_cases h : x.1 = y.1
    · simp [h]
    · rw [beq_false_of_ne (by omega), decide_eq_false h]
  have hxs := lfv_size hx
  have hys := lfv_size hy
  rw [Op.equalIn]
  simp [go_sem, lfv_0, lfv_g0, lfv_pt hx, lfv_pt hy, e1, hc, hxs, hys]
  obtain ⟨a, p⟩ := x
  obtain ⟨b, q⟩ := y
  simp only [Prod.mk.injEq]
  by_cases h1 : a = b <;> by_cases h2 : p = q <;> simp [h1, h2]
theorem lvsOf_ok {h : List Pt} (hh : ∀ p ∈ h, PtOk p) {k : Nat} (hk : k ≤ 64) : ∀ x ∈ lvsOf h k, LfOk x := fun x hx => by
  unfold lvsOf at hx
  obtain ⟨off, h1, h2⟩ := List.mem_filterMap.1 hx
  have h1 := List.mem_range.1 h1
  split at h2
  · cases h2
  · cases h2
    refine ⟨by show off < _; omega, ?_⟩
    show PtOk (h.getD off ptz)
    rw [List.getD_eq_getElem?_getD]
    by_cases hl : off < h.length
    · rw [List.getElem?_eq_getElem hl]; exact hh _ (List.getElem_mem hl)
    · rw [List.getElem?_eq_none (by omega)]; exact ptz_ok
/-- what tells hands out -/
def TellR (g : Nat) (W0 : World) (Bk : Nat → Prop) (s : Shf) (nodes : List Pt) (w : World) (O : Nat → Prop) (v' : Value) (w' : World) : Prop :=
  ∃ vn l O', v' = .tuple #[vn, .bool true] ∧ w'.ownsRow 0 37 41 vn nodes.length (rowsL pt nodes) ∧ ShH g W0 Bk (s.more l) w' O' ∧ (∀ k, O' k → Gr O w w' k) ∧ (∀ k, vn.ownBlock = some k → ¬ O' k ∧ w.heap.size ≤ k) ∧ Ch O w w' ∧ l.length ≤ 150
theorem shM_more (s : Shf) (l : List Pt) : shM s ≤ shM (s.more l) + l.length := by
  unfold shM
  simp
  omega
section
variable {g : Nat} {W0 : World} {Bk : Nat → Prop} {s : Shf} {w : World} {O : Nat → Prop}
end
end Go.Proofs.YtnefdmbdkljifaaGreatDoor

namespace Go.Proofs.YtnefdmbdkljifaaGreatDoor
open Go.RowKit Go.Kin

section
variable {g : Nat} {W0 : World} {Bk : Nat → Prop} {s : Shf} {w : World} {O : Nat → Prop}
/-- what is read of a shelf -/
theorem ShH.reads (hS : ShH g W0 Bk s w O) : ∃ vB vD vM vG vR, w.heap[g]? = some (.cells #[vB, vD, vM, vG, .int .i64 s.room, vR] 30 (0, 0)) ∧ PtLst w vM s.made ∧ PtLst w vG s.gone ∧ PtLst w vR s.red ∧ (∀ k, vM.ownBlock = some k ∨ vG.ownBlock = some k ∨ vR.ownBlock = some k → O k) ∧ O g ∧ ShGood s := by
  obtain ⟨vB, vD, vM, vG, vR, lB, hgd, hlB, hL⟩ := hS
  obtain ⟨O0, h0, i0⟩ := hL.get (i := 0) rfl
  obtain ⟨O2, h2, i2⟩ := hL.get (i := 2) rfl
  obtain ⟨O3, h3, i3⟩ := hL.get (i := 3) rfl
  obtain ⟨O4, h4, i4⟩ := hL.get (i := 4) rfl
  refine ⟨vB, vD, vM, vG, vR, h0.1, ptLst_own h2.1 hgd.made, ptLst_own h3.1 hgd.gone, ptLst_own h4.1 hgd.red, ?_, i0 _ h0.2.1, hgd⟩
  rintro k (hk | hk | hk)
  · exact i2 k (h2.2.1 k hk)
  · exact i3 k (h3.2.1 k hk)
  · exact i4 k (h4.2.1 k hk)
end
end Go.Proofs.YtnefdmbdkljifaaGreatDoor
