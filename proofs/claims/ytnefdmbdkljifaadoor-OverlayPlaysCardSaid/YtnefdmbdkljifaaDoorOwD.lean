/- What an overlay has of a number's leaves, in order. No condition but on sizes. -/
import Derived.Test.YtnefdmbdkljifaaDoorChecked
import Derived.Shelf.SlSortCmp.WholeK
import Derived.Test.YtnefdmbdkljifaaDoorOwC
import Derived.Test.YtnefdmbdkljifaaDoorSlK
set_option linter.unusedSimpArgs false
set_option linter.unusedVariables false

/- The library's sort of structs by a function, found in the program. (Printed by genSl.py.) No condition. -/
namespace Go.Proofs.YtnefdmbdkljifaaDoor
open Go Go.Shelf

def sortCh_ren : Go.Shelf.Ren := ⟨fun | 6 => 48 | 15 => 58 | 14 => 57 | 28 => 71 | 29 => 72 | 20 => 63 | 21 => 64 | 22 => 65 | 23 => 66 | 24 => 67 | 25 => 68 | 26 => 69 | 27 => 70 | 46 => 83 | 47 => 84 | 48 => 85 | 49 => 86 | 50 => 87 | 57 => 92 | n => n, fun | 22 => 94 | 24 => 98 | 25 => 111 | 3 => 3 | 39 => 119 | 0 => 0 | 53 => 24 | 55 => 35 | 4 => 4 | 46 => 129 | 45 => 128 | 50 => 133 | 5 => 5 | 9 => 9 | 66 => 144 | 70 => 148 | 76 => 152 | 77 => 99 | n => n, fun | n => n⟩
theorem sortCh : Go.Proofs.SlLaysF0.n6 Tryd.prog sortCh_ren := {
  mixed := by kernel_rfl
  f6 := ⟨Tryd.f48.name, by decide, Tryd.func48.trans (congrArg some (by kernel_rfl))⟩
  f14 := ⟨Tryd.f57.name, by decide, Tryd.func57.trans (congrArg some (by kernel_rfl))⟩
  f15 := Tryd.func58.trans (congrArg some (by kernel_rfl))
  f20 := ⟨Tryd.f63.name, by decide, Tryd.func63.trans (congrArg some (by kernel_rfl))⟩
  f21 := ⟨Tryd.f64.name, by decide, Tryd.func64.trans (congrArg some (by kernel_rfl))⟩
  f22 := ⟨Tryd.f65.name, by decide, Tryd.func65.trans (congrArg some (by kernel_rfl))⟩
  f23 := ⟨Tryd.f66.name, by decide, Tryd.func66.trans (congrArg some (by kernel_rfl))⟩
  f24 := ⟨Tryd.f67.name, by decide, Tryd.func67.trans (congrArg some (by kernel_rfl))⟩
  f25 := ⟨Tryd.f68.name, by decide, Tryd.func68.trans (congrArg some (by kernel_rfl))⟩
  f26 := ⟨Tryd.f69.name, by decide, Tryd.func69.trans (congrArg some (by kernel_rfl))⟩
  f27 := ⟨Tryd.f70.name, by decide, Tryd.func70.trans (congrArg some (by kernel_rfl))⟩
  f28 := Tryd.func71.trans (congrArg some (by kernel_rfl))
  f29 := Tryd.func72.trans (congrArg some (by kernel_rfl))
  f46 := ⟨Tryd.f83.name, by decide, Tryd.func83.trans (congrArg some (by kernel_rfl))⟩
  f47 := Tryd.func84.trans (congrArg some (by kernel_rfl))
  f48 := Tryd.func85.trans (congrArg some (by kernel_rfl))
  f49 := ⟨Tryd.f86.name, by decide, Tryd.func86.trans (congrArg some (by kernel_rfl))⟩
  f50 := ⟨Tryd.f87.name, by decide, Tryd.func87.trans (congrArg some (by kernel_rfl))⟩
  f57 := ⟨Tryd.f92.name, by decide, Tryd.func92.trans (congrArg some (by kernel_rfl))⟩
  t0 := Tryd.underlying0
  a0 := Tryd.isAgg0
  z0 := Tryd.sizeOf0
  v0 := Tryd.zeroValue0
  t3 := Tryd.underlying3
  a3 := Tryd.isAgg3
  z3 := Tryd.sizeOf3
  v3 := Tryd.zeroValue3
  t4 := Tryd.underlying4
  a4 := Tryd.isAgg4
  z4 := Tryd.sizeOf4
  v4 := Tryd.zeroValue4
  t5 := Tryd.underlying5
  a5 := Tryd.isAgg5
  z5 := Tryd.sizeOf5
  v5 := Tryd.zeroValue5
  t9 := Tryd.underlying9
  a9 := Tryd.isAgg9
  z9 := Tryd.sizeOf9
  v9 := Tryd.zeroValue9
  t22 := Tryd.underlying94
  a22 := Tryd.isAgg94
  z22 := Tryd.sizeOf94
  v22 := Tryd.zeroValue94
  t25 := Tryd.underlying111
  a25 := Tryd.isAgg111
  z25 := Tryd.sizeOf111
  v25 := Tryd.zeroValue111
  t39 := Tryd.underlying119
  a39 := Tryd.isAgg119
  z39 := Tryd.sizeOf119
  v39 := Tryd.zeroValue119
  t45 := Tryd.underlying128
  a45 := Tryd.isAgg128
  z45 := Tryd.sizeOf128
  v45 := Tryd.zeroValue128
  t46 := Tryd.underlying129
  a46 := Tryd.isAgg129
  z46 := Tryd.sizeOf129
  v46 := Tryd.zeroValue129
  t50 := Tryd.underlying133
  a50 := Tryd.isAgg133
  z50 := Tryd.sizeOf133
  v50 := Tryd.zeroValue133
  t53 := Tryd.underlying24
  a53 := Tryd.isAgg24
  z53 := Tryd.sizeOf24
  v53 := Tryd.zeroValue24
  t55 := Tryd.underlying35
  a55 := Tryd.isAgg35
  z55 := Tryd.sizeOf35
  v55 := Tryd.zeroValue35
  t66 := Tryd.underlying144
  a66 := Tryd.isAgg144
  z66 := Tryd.sizeOf144
  v66 := Tryd.zeroValue144
  t70 := Tryd.underlying148
  a70 := Tryd.isAgg148
  z70 := Tryd.sizeOf148
  v70 := Tryd.zeroValue148
  t76 := Tryd.underlying152
  a76 := Tryd.isAgg152
  z76 := Tryd.sizeOf152
  v76 := Tryd.zeroValue152
  t77 := Tryd.underlying99
  a77 := Tryd.isAgg99
  z77 := Tryd.sizeOf99
  v77 := Tryd.zeroValue99 }
end Go.Proofs.YtnefdmbdkljifaaDoor

namespace Go.Proofs.YtnefdmbdkljifaaDoor
open Go.RowKit Go.Kin Go.Maps Go.Sort

/-- a change: its offset, its block's slice -/
abbrev Cg := Off × { v : Value // v.oneCell' = true }
def enCh (x : Cg) : List Value := [.int .u32 x.1.val, x.2.val]
instance : Inhabited Cg := ⟨0, ⟨.bool false, rfl⟩⟩
def cmpI (x y : Int) : Int := if x < y then -1 else if y < x then 1 else 0
def cf (x y : Cg) : Int := cmpI x.1.val y.1.val
theorem ltCf (x y : Cg) : ltOf cf x y = decide (x.1.val < y.1.val) := by
  unfold ltOf cf cmpI
  by_cases h1 : x.1.val < y.1.val
  · have : (x.1.val : Int) < y.1.val := by omega
    simp [h1, this]
  · have : ¬ (x.1.val : Int) < y.1.val := by omega
    by_cases h2 : y.1.val < x.1.val
    · have h2' : (y.1.val : Int) < x.1.val := by omega
      simp [h1, this, h2']
    · have h2' : ¬ (y.1.val : Int) < x.1.val := by omega
      simp [h1, this, h2']
theorem swoCf : SWO (ltOf cf) where
  irrefl x := by rw [ltCf]; simp
  trans x y z h1 h2 := by rw [ltCf, decide_eq_true_eq] at *; omega
  ntrans x y z h1 h2 := by rw [ltCf, decide_eq_false_iff_not] at *; omega
theorem nan32 (x : Off) (w : World) : Ret Tryd.prog 59 #[.int .u32 x.val] w fun v' w' => v' = .bool false ∧ w' = w := by
  refine v_enter Tryd.func59 Tryd.ntmps59 rfl (by simp) fun R' hR => ?_
  simp [go_sem]
  exact hR _ _ ⟨rfl, rfl⟩
theorem cmp32 (x y : Off) (w : World) : Ret Tryd.prog 50 #[.int .u32 x.val, .int .u32 y.val] w fun v' w' => v' = .int .i64 (cmpI x.val y.val) ∧ w' = w := by
  refine v_enter Tryd.func50 Tryd.ntmps50 rfl (by simp) fun R' hR => ?_
  unfold cmpI at hR
  simp [go_sem]
  refine (nan32 x w).mono ?_
  rintro _ w1 ⟨rfl, hw⟩
  subst w1
  simp [go_sem]
  refine (nan32 y w).mono ?_
  rintro _ w1 ⟨rfl, hw⟩
  subst w1
  by_cases h1 : (x.val : Int) < y.val
  · have h1' : x < y := by show x.val < y.val; omega
    simp [go_sem, h1, h1']
    exact hR _ _ ⟨by rw [if_pos h1], rfl⟩
  · have h1' : ¬ x < y := fun e => h1 (by have : x.val < y.val := e; omega)
    by_cases h2 : (y.val : Int) < x.val
    · have h2' : y < x := by show y.val < x.val; omega
      simp [go_sem, h1, h1', h2, h2']
      exact hR _ _ ⟨by rw [if_neg h1, if_pos h2], rfl⟩
    · have h2' : ¬ y < x := fun e => h2 (by have : y.val < x.val := e; omega)
      simp [go_sem, h1, h1', h2, h2']
      exact hR _ _ ⟨by rw [if_neg h1, if_neg h2], rfl⟩
theorem chcmp (x y : Cg) (W : World) : Ret Tryd.prog 49 #[.agg (enCh x).toArray, .agg (enCh y).toArray] W fun v' w' => v' = .int .i64 (cf x y) ∧ ∃ q os', w' = grow (W.drewN q) os' := by
  refine v_enter Tryd.func49 Tryd.ntmps49 rfl (by simp) fun R' hR => ?_
  obtain ⟨a, v, hv⟩ := x
  obtain ⟨b, u, hu⟩ := y
  have e : ∀ o1 o2 : Obj, (W.alloc o1).alloc o2 = grow (W.drewN 0) #[o1, o2] := fun o1 o2 => by
    rw [alloc_eq_grow, alloc_eq_grow, grow_grow]
    rfl
  simp [go_sem, enCh]
  refine (cmp32 a b _).mono ?_
  rintro _ w1 ⟨rfl, hw⟩
  subst w1
  simp [go_sem]
  exact hR _ _ ⟨rfl, 0, _, e _ _⟩
theorem tyCh : TyS Tryd.prog 94 98 (.agg #[.int .u32 0, .slice none 0 0]) 2 32 := ⟨Tryd.underlying94, by kernel_rfl, rfl, by decide⟩
/-- slices.SortFunc at changes -/
theorem sortc_any (w : World) (blk cap : Nat) (d : Array Cg) (hH : HoldsK enCh 2 w blk 0 d) (hblk : blk < w.heap.size) (hsz : d.size < 1000000) :
    Ret Tryd.prog 48 #[.slice (some ⟨blk, 0, none⟩) d.size cap, .func (.func 49) #[] #[]] w fun _ w' => ∃ d' : Array Cg, PermIn 0 d.size d d' ∧ SortedIn (ltOf cf) 0 d.size d' ∧ HoldsK enCh 2 w' blk 0 d' ∧ Ch (Go.Kin.one blk) w w' := by
  have eg : ∀ args w, (callFunc 49 args).run Tryd.prog w = .ok (.enter 49 args) w := fun args w => by simp [go_sem]
  have hcon := AnyQ.slices_SortFunc sortCh 2 Tryd.isAgg98 Tryd.sizeOf98 enCh (fun _ => rfl) (fun x v hv => by
    simp [enCh] at hv
    rcases hv with rfl | rfl
    · rfl
    · exact x.2.2) cf swoCf 49 #[] blk 0 cap d w eg (fun m os dk _ x y => Calls.mono (chcmp x y _).calls (by
      rintro e w' ⟨v, rfl, rfl, h⟩
      exact ⟨rfl, h⟩)) hH hblk (by omega)
  change Calls Tryd.prog 48 _ _ _ at hcon
  unfold Ret
  refine Calls.mono hcon ?_
  rintro e w' ⟨rfl, d', n, os, hp, hs, rfl⟩
  exact ⟨_, rfl, d', hp, hs, holdsK_sortWorldK_c enCh 2 w blk 0 d d' n os hH hblk hp.1, Ch.sortK _ _ _ _ _⟩
theorem insc_nil (w : World) (A : Option Addr) (cap : Nat) (c : Value) : Ret Tryd.prog 63 #[.slice A 0 cap, .int .i64 0, .int .i64 0, c] w fun _ w' => Ch Nw w w' := by
  refine v_enter Tryd.func63 Tryd.ntmps63 rfl (by simp) fun R' hR => ?_
  have hw1 : IntKind.i64.wrap 1 = 1 := rfl
  simp [go_sem, hw1]
  refine v_loop (fun r f u => r = 0 ∧ f 8 = .int .i64 1 ∧ f 2 = .int .i64 0 ∧ u = w) 0 ⟨rfl, by simp, by simp, rfl⟩ ?_
  rintro J hJ r f u ⟨rfl, f8, f2, rfl⟩
  simp [go_sem, f8, f2]
  exact hR _ _ (Ch.refl _ _)
theorem sortc_nil (w : World) (A : Option Addr) (cap : Nat) (c : Value) : Ret Tryd.prog 48 #[.slice A 0 cap, c] w fun _ w' => Ch Nw w w' := by
  refine v_enter Tryd.func48 Tryd.ntmps48 rfl (by simp) fun R' hR => ?_
  have hl : Ret Tryd.prog 58 #[.int .u64 0] w fun v' w' => v' = .int .i64 0 ∧ w' = w := S16.len_any 0 (by omega) w
  simp [go_sem]
  refine hl.mono ?_
  rintro _ w1 ⟨rfl, hw⟩
  subst w1
  simp [go_sem]
  have hp : Ret Tryd.prog 57 #[.slice A 0 cap, .int .i64 0, .int .i64 0, .int .i64 0, c] w fun _ w' => Ch Nw w w' := by
    refine v_enter Tryd.func57 Tryd.ntmps57 rfl (by simp) fun R' hR => ?_
    simp [go_sem]
    refine v_loop (fun r f u => r = 0 ∧ f 0 = .slice A 0 cap ∧ f 1 = .int .i64 0 ∧ f 2 = .int .i64 0 ∧ f 4 = c ∧ u = w) 0 ⟨rfl, by simp, by simp, by simp, by simp, rfl⟩ ?_
    rintro J hJ r f u ⟨rfl, f0, f1, f2, f4, rfl⟩
    have hw0 : IntKind.i64.wrap 0 = 0 := rfl
    simp [go_sem, f0, f1, f2, f4, hw0]
    refine (insc_nil u A cap c).mono ?_
    intro _ w2 c2
    simp [go_sem]
    exact hR _ _ c2
  refine hp.mono ?_
  intro _ w2 c2
  simp [go_sem]
  exact hR _ _ c2
end Go.Proofs.YtnefdmbdkljifaaDoor
