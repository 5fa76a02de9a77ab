/- The table law's tells: a table tells its map. Conditions: the variables ptr.wide and tree.hole hold what the text lays. -/
import Derived.Test.YtnefdmbdkljifaaGreatDoorTbN
import Derived.Test.YtnefdmbdkljifaaGreatDoorTbG
import Derived.Test.YtnefdmbdkljifaaGreatDoorTrV
set_option linter.unusedSimpArgs false
set_option linter.unusedVariables false

/- The table law's blocks and tells: a table tells its map. Conditions: the variables ptr.wide and tree.hole hold what the text lays. -/
namespace Go.Proofs.YtnefdmbdkljifaaGreatDoor
open Go.RowKit Go.Kin

abbrev InLst (w : World) (v : Value) (l : List In) : Prop := Lst w v (fun x => (ino x).toList) 44 l
theorem itv_g0 (x : Nat × In) (h : 0 < (itv x).size) : (itv x)[0] = .int .u16 x.1 := rfl
theorem eq_it (w : World) {x y : Nat × In} (hx : ItOk x) (hy : ItOk y) : (Op.equalIn 10000 76 (.agg (itv x)) (.agg (itv y))).run Tryz.prog w = .ok (decide (x = y)) w := by
  have e1 : ∀ w, (Op.equalIn 9999 56 (.agg (ino x.2)) (.agg (ino y.2))).run Tryz.prog w = .ok (decide (x.2 = y.2)) w := fun w => eq_ino_any w 9995 hx.i hy.i
  have hc : ((x.1 : Int) == (y.1 : Int)) = decide (x.1 = y.1) := by
    by_cases h : x.1 = y.1
    · simp [h]
    · rw [beq_false_of_ne (by omega), decide_eq_false h]
  have hxs := itv_size hx
  have hys := itv_size hy
  rw [Op.equalIn]
  simp [go_sem, itv_0, itv_g0, itv_i hx, itv_i hy, e1, hc, hxs, hys]
  obtain ⟨a, p⟩ := x
  obtain ⟨b, q⟩ := y
  simp only [Prod.mk.injEq]
  by_cases h1 : a = b <;> by_cases h2 : p = q <;> simp [h1, h2]
theorem TabP.okv {bl : List (List UInt8)} {root : Pt} {top h : List Pt} {v : List In} (t : TabP bl root top h v) : ∀ x ∈ v, InOk x := fun x hx => by
  obtain ⟨n, hn⟩ := List.mem_iff_getElem?.1 hx
  have hlt := (List.getElem?_eq_some_iff.1 hn).1
  rw [t.hl] at hlt
  have e := slI_get (o := n / 4) (v := v) (show n % 4 < 4 by omega)
  have hl := slI_len t.hl (show n / 4 < 64 by omega)
  rw [show 4 * (n / 4) + n % 4 = n by omega, List.getD_eq_getElem?_getD, List.getD_eq_getElem?_getD, hn, List.getElem?_eq_getElem (by rw [hl]; omega)] at e
  have e : (slI (n / 4) v)[n % 4]'(by rw [hl]; omega) = x := e
  rw [← e]
  exact (t.lf (n / 4) (by omega)).ok.all _ (List.getElem_mem _)
theorem itsOf_ok {v : List In} (hv : ∀ x ∈ v, InOk x) {k : Nat} (hk : k ≤ 256) : ∀ x ∈ itsOf v k, ItOk x := fun x hx => by
  unfold itsOf at hx
  obtain ⟨n, h1, h2⟩ := List.mem_filterMap.1 hx
  have h1 := List.mem_range.1 h1
  split at h2
  · cases h2
  · cases h2
    refine ⟨by show n < _; omega, ?_⟩
    show InOk (v.getD n inz)
    rw [List.getD_eq_getElem?_getD]
    by_cases hl : n < v.length
    · rw [List.getElem?_eq_getElem hl]; exact hv _ (List.getElem_mem hl)
    · rw [List.getElem?_eq_none (by omega)]; exact inz_ok
/-- an inode of a map -/
theorem in_at {w : World} {vv : Value} {v : List In} (hl : InLst w vv v) (hv : ∀ x ∈ v, InOk x) {n : Nat} (hn : n < v.length) : ∃ b off c cs T fr, vv = .slice (some ⟨b, off, none⟩) v.length c ∧ w.heap[b]? = some (.cells cs T fr) ∧ cs.extract (off + n * 44) (off + n * 44 + 44) = ino (v.getD n inz) ∧ off + n * 44 + 44 ≤ cs.size ∧ InOk (v.getD n inz) ∧ vv.ownBlock = some b := by
  obtain ⟨x, hx⟩ : ∃ x, v[n]? = some x := ⟨_, List.getElem?_eq_getElem hn⟩
  have e : v.getD n inz = x := by rw [List.getD_eq_getElem?_getD, hx]; rfl
  rw [e]
  obtain ⟨b, off, c, cs, T, fr, h1, h2, h3, h4⟩ := hl.elem (by decide) (fun q hq => ino_size (hv q hq)) hx
  exact ⟨b, off, c, cs, T, fr, h1, h2, h3, h4, hv x (List.mem_of_getElem? hx), by rw [h1]; rfl⟩
theorem slI_ne {o : Nat} {v : List In} (hl : v.length = 256) (ho : o < 64) : decide (slI o v ≠ ibz) = (List.range 4).any fun i => decide (v.getD (4 * o + i) inz ≠ inz) := by
  have hz : ∀ i, ibz.getD i inz = inz := fun i => by
    unfold ibz
    rw [List.getD_eq_getElem?_getD, List.getElem?_replicate]
    split <;> rfl
  rw [Bool.eq_iff_iff, decide_eq_true_eq, List.any_eq_true]
  constructor
  · intro h
    apply Classical.byContradiction
    intro hn
    apply h
    refine ext_gD inz (by rw [slI_len hl ho]; rfl) fun i hi => ?_
    rw [slI_len hl ho] at hi
    rw [slI_get hi, hz]
    apply Classical.byContradiction
    intro e
    exact hn ⟨i, List.mem_range.2 hi, decide_eq_true e⟩
  · rintro ⟨i, hi, h⟩ e
    have hi := List.mem_range.1 hi
    have h := of_decide_eq_true h
    rw [← slI_get hi, e, hz] at h
    exact h rfl
theorem any_snoc (p : Nat → Bool) (k : Nat) : (List.range (k + 1)).any p = ((List.range k).any p || p k) := by
  rw [List.range_succ, List.any_append]
  simp
theorem countP_snoc (p : Nat → Bool) (k : Nat) : (List.range (k + 1)).countP p = (List.range k).countP p + if p k then 1 else 0 := by
  rw [List.range_succ, List.countP_append]
  simp [List.countP_cons]
set_option maxRecDepth 100000 in
set_option maxHeartbeats 4000000 in
theorem blocks_any (vv : Value) (v : List In) (w : World) (hl : InLst w vv v) (hv : ∀ x ∈ v, InOk x) (h256 : v.length = 256) :
    Ret Tryz.prog 12 #[vv] w fun v' w' => v' = .int .i64 (blkN v : Nat) ∧ w' = w := by
  refine v_enter Tryz.func12 Tryz.ntmps12 rfl (by simp) fun R' hR => ?_
  obtain ⟨p, hp⟩ : ∃ p : Nat → Bool, (fun o => decide (slI o v ≠ ibz)) = p := ⟨_, rfl⟩
  have hbl : blkN v = if (List.range 8).countP (fun g => (List.range 8).any fun k => p (8 * g + k)) = 0 then 0 else (List.range 64).countP p + (List.range 8).countP (fun g => (List.range 8).any fun k => p (8 * g + k)) + 1 := by
    unfold blkN lfN gpN
    rw [← hp]
  obtain ⟨q, hq⟩ : ∃ q : Nat → Bool, (fun g => (List.range 8).any fun k => p (8 * g + k)) = q := ⟨_, rfl⟩
  rw [hq] at hbl
  simp [go_sem]
  refine v_loop (fun r f u => ∃ g, r = 8 - g ∧ g ≤ 8 ∧ f 0 = vv ∧ f 5 = .int .i64 (g : Nat) ∧ f 3 = .int .i64 ((List.range (8 * g)).countP p : Nat) ∧ f 4 = .int .i64 ((List.range g).countP q : Nat) ∧ u = w) 8
    ⟨0, rfl, by omega, by simp, by simp, by simp, by simp, rfl⟩ ?_
  rintro J hJ _ f u ⟨g, rfl, hg, f0, f5, f3, f4, rfl⟩
  have hcl := List.countP_le_length (p := q) (l := List.range g)
  rw [List.length_range] at hcl
  have hcl2 := List.countP_le_length (p := p) (l := List.range (8 * g))
  rw [List.length_range] at hcl2
  by_cases hlt : g < 8
  case neg =>
    obtain rfl : g = 8 := by omega
    simp only [show 8 * 8 = 64 from rfl] at f3 hcl2
    obtain ⟨A, hA⟩ : ∃ A, (List.range 64).countP p = A := ⟨_, rfl⟩
    obtain ⟨B, hB⟩ : ∃ B, (List.range 8).countP q = B := ⟨_, rfl⟩
    rw [hA] at f3 hcl2 hbl
    rw [hB] at f4 hcl hbl
    by_cases hz : B = 0
    · rw [if_pos hz] at hbl
      subst hz
      simp [go_sem, f5, f4]
      exact hR _ _ ⟨by rw [hbl]; rfl, rfl⟩
    · rw [if_neg hz] at hbl
      have hzb : ((B : Int) == 0) = false := beq_false_of_ne (by omega)
      have hw1 : IntKind.i64.wrap ((A : Int) + B) = ((A + B : Nat) : Int) := by rw [IntKind.wrap_i64]; omega
      have hw2 : IntKind.i64.wrap (((A + B : Nat) : Int) + 1) = ((A + B + 1 : Nat) : Int) := by rw [IntKind.wrap_i64]; omega
      have hw3 : IntKind.i64.wrap ((A : Int) + B + 1) = ((A + B + 1 : Nat) : Int) := by rw [IntKind.wrap_i64]; omega
      simp [go_sem, f5, f4, f3, hz, hzb, hw1, hw2, hw3]
      exact hR _ _ ⟨by rw [hbl]; simp, rfl⟩
  have hgi : (g : Int) < 8 := by omega
  have hwg : IntKind.i64.wrap ((g : Int) + 1) = ((g + 1 : Nat) : Int) := by rw [IntKind.wrap_i64]; omega
  simp [go_sem, f5, hgi]
  refine v_loop (fun r f u' => ∃ k, r = 8 - k ∧ k ≤ 8 ∧ f 0 = vv ∧ f 5 = .int .i64 (g : Nat) ∧ f 7 = .int .i64 (k : Nat) ∧ f 3 = .int .i64 ((List.range (8 * g + k)).countP p : Nat) ∧ f 4 = .int .i64 ((List.range g).countP q : Nat) ∧ f 6 = .bool ((List.range k).any fun k => p (8 * g + k)) ∧ u' = u) 8
    ⟨0, rfl, by omega, by simp [f0], by simp [f5], by simp, by simp [f3], by simp [f4], by simp, rfl⟩ ?_
  clear f0 f5 f3 f4
  rintro J2 hJ2 _ f u' ⟨k, rfl, hk, f0, f5, f7, f3, f4, f6, rfl⟩
  have hcl3 := List.countP_le_length (p := p) (l := List.range (8 * g + k))
  rw [List.length_range] at hcl3
  by_cases hlk : k < 8
  case neg =>
    obtain rfl : k = 8 := by omega
    have hqg : q g = (List.range 8).any fun k => p (8 * g + k) := by rw [← hq]
    rw [← hqg] at f6
    have hcs := countP_snoc q g
    rw [show 8 * g + 8 = 8 * (g + 1) by omega] at f3
    cases hqv : q g with
    | false =>
      rw [hqv] at f6 hcs
      simp [go_sem, f7, f6, f5, hwg]
      exact Rnd.intro (8 - (g + 1)) (by omega) (hJ _ _ _ ⟨g + 1, rfl, by omega, by simp [f0], by simp, by simp [f3], by simp [f4, hcs], rfl⟩)
    | true =>
      rw [hqv] at f6 hcs
      have hwc : IntKind.i64.wrap ((((List.range g).countP q : Nat) : Int) + 1) = (((List.range g).countP q + 1 : Nat) : Int) := by rw [IntKind.wrap_i64]; omega
      simp [go_sem, f7, f6, f5, f4, hwg, hwc]
      exact Rnd.intro (8 - (g + 1)) (by omega) (hJ _ _ _ ⟨g + 1, rfl, by omega, by simp [f0], by simp, by simp [f3], by simp [hcs], rfl⟩)
  have hki : (k : Int) < 8 := by omega
  have hwk : IntKind.i64.wrap ((k : Int) + 1) = ((k + 1 : Nat) : Int) := by rw [IntKind.wrap_i64]; omega
  simp [go_sem, f7, hki]
  refine v_loop (fun r f u'' => ∃ i, r = 4 - i ∧ i ≤ 4 ∧ f 0 = vv ∧ f 5 = .int .i64 (g : Nat) ∧ f 7 = .int .i64 (k : Nat) ∧ f 9 = .int .i64 (i : Nat) ∧ f 3 = .int .i64 ((List.range (8 * g + k)).countP p : Nat) ∧ f 4 = .int .i64 ((List.range g).countP q : Nat) ∧ f 6 = .bool ((List.range k).any fun k => p (8 * g + k)) ∧ f 8 = .bool ((List.range i).any fun i => decide (v.getD (4 * (8 * g + k) + i) inz ≠ inz)) ∧ u'' = u') 4
    ⟨0, rfl, by omega, by simp [f0], by simp [f5], by simp [f7], by simp, by simp [f3], by simp [f4], by simp [f6], by simp, rfl⟩ ?_
  clear f0 f5 f7 f3 f4 f6
  rintro J3 hJ3 _ f u'' ⟨i, rfl, hi, f0, f5, f7, f9, f3, f4, f6, f8, rfl⟩
  by_cases hli : i < 4
  case neg =>
    obtain rfl : i = 4 := by omega
    have hpk : p (8 * g + k) = (List.range 4).any fun i => decide (v.getD (4 * (8 * g + k) + i) inz ≠ inz) := by rw [← hp]; exact slI_ne h256 (by omega)
    rw [← hpk] at f8
    have hcs := countP_snoc p (8 * g + k)
    have has := any_snoc (fun k => p (8 * g + k)) k
    rw [show 8 * g + k + 1 = 8 * g + (k + 1) by omega] at hcs
    cases hpv : p (8 * g + k) with
    | false =>
      rw [hpv] at f8 hcs has
      simp [go_sem, f9, f8, f7, hwk]
      exact Rnd.intro (8 - (k + 1)) (by omega) (hJ2 _ _ _ ⟨k + 1, rfl, by omega, by simp [f0], by simp [f5], by simp, by simp [f3, hcs], by simp [f4], by simp [f6, has], rfl⟩)
    | true =>
      rw [hpv] at f8 hcs has
      have hwc : IntKind.i64.wrap ((((List.range (8 * g + k)).countP p : Nat) : Int) + 1) = (((List.range (8 * g + k)).countP p + 1 : Nat) : Int) := by rw [IntKind.wrap_i64]; omega
      simp [go_sem, f9, f8, f7, f3, hwk, hwc]
      exact Rnd.intro (8 - (k + 1)) (by omega) (hJ2 _ _ _ ⟨k + 1, rfl, by omega, by simp [f0], by simp [f5], by simp, by simp [hcs], by simp [f4], by simp [has], rfl⟩)
  have hii : (i : Int) < 4 := by omega
  have hwi : IntKind.i64.wrap ((i : Int) + 1) = ((i + 1 : Nat) : Int) := by rw [IntKind.wrap_i64]; omega
  have has := any_snoc (fun i => decide (v.getD (4 * (8 * g + k) + i) inz ≠ inz)) i
  cases hb : (List.range i).any fun i => decide (v.getD (4 * (8 * g + k) + i) inz ≠ inz) with
  | true =>
    rw [hb] at f8 has
    simp [go_sem, f9, f8, hii, hwi]
    exact Rnd.intro (4 - (i + 1)) (by omega) (hJ3 _ _ _ ⟨i + 1, rfl, by omega, by simp [f0], by simp [f5], by simp [f7], by simp, by simp [f3], by simp [f4], by simp [f6], by rw [has]; simp, rfl⟩)
  | false =>
    rw [hb] at f8 has
    have hn : 4 * (8 * g + k) + i < v.length := by omega
    obtain ⟨b, off, c, cs, T, fr, hvv, hbb, hex, hcs, okx, _⟩ := in_at hl hv hn
    obtain ⟨n, hne⟩ : ∃ n, 4 * (8 * g + k) + i = n := ⟨_, rfl⟩
    rw [hne] at hn hex hcs okx has
    obtain ⟨x, hx⟩ : ∃ x, v.getD n inz = x := ⟨_, rfl⟩
    rw [hx] at hex okx has
    rw [hvv] at f0
    have hw1 : IntKind.i64.wrap (32 * (g : Int)) = ((32 * g : Nat) : Int) := by rw [IntKind.wrap_i64]; omega
    have hw2 : IntKind.i64.wrap (4 * (k : Int)) = ((4 * k : Nat) : Int) := by rw [IntKind.wrap_i64]; omega
    have hw3 : IntKind.i64.wrap (((32 * g : Nat) : Int) + ((4 * k : Nat) : Int)) = ((32 * g + 4 * k : Nat) : Int) := by rw [IntKind.wrap_i64]; omega
    have hw4 : IntKind.i64.wrap (((32 * g + 4 * k : Nat) : Int) + (i : Int)) = ((n : Nat) : Int) := by rw [IntKind.wrap_i64]; omega
    have hw3' : IntKind.i64.wrap (32 * (g : Int) + 4 * (k : Int)) = ((32 * g + 4 * k : Nat) : Int) := by rw [IntKind.wrap_i64]; omega
    have hw4' : IntKind.i64.wrap (32 * (g : Int) + 4 * (k : Int) + (i : Int)) = ((n : Nat) : Int) := by rw [IntKind.wrap_i64]; omega
    have hn2 : n < 256 := by omega
    have hn3 : (n : Int) < 256 := by omega
    rw [h256] at f0
    have hxs := ino_size okx
    have heq := fun w => eq_rino w okx inz_ok
    simp [go_sem, f9, f8, f7, f5, f0, hii, hwi, hw1, hw2, hw3, hw4, hw3', hw4', hn2, hn3, hbb, hex, hcs, hxs, bld_rino0, heq]
    refine Rnd.intro (4 - (i + 1)) (by omega) (hJ3 _ _ _ ⟨i + 1, rfl, by omega, by simp [f0, hvv, h256], by simp [f5], by simp [f7], by simp, by simp [f3], by simp [f4], by simp [f6], ?_, rfl⟩)
    rw [has]
    simp
end Go.Proofs.YtnefdmbdkljifaaGreatDoor

namespace Go.Proofs.YtnefdmbdkljifaaGreatDoor
open Go.RowKit Go.Kin

/-- what tells hands out -/
def TelR (g : Nat) (W0 : World) (Bk : Nat → Prop) (s : Shf) (n : Nat) (w : World) (O : Nat → Prop) (v' : Value) (w' : World) : Prop :=
  ∃ l, v' = .tuple #[.int .i64 n, .bool true] ∧ ShH g W0 Bk (s.more l) w' (Gr O w w') ∧ Ch O w w' ∧ l.length ≤ 900
section
variable {g : Nat} {W0 : World} {Bk : Nat → Prop} {s : Shf} {w : World} {O : Nat → Prop}
set_option maxRecDepth 100000 in
set_option maxHeartbeats 4000000 in
theorem ktells_gl (hS : ShH g W0 Bk s w O) {root : Pt} {top h : List Pt} {v : List In} (tp : TabP s.bl root top h v) (hb : s.bad = []) (hm : 10000 ≤ shM s) (vv : Value) (hl : InLst w vv v) (hvO : ∀ j, vv.ownBlock = some j → ¬ O j ∧ j < w.heap.size) (env : TEnv w) (hg : GlOk (ShH g W0 Bk) O) :
    Ret Tryz.prog 11 #[.pointer (some ⟨g, 0, none⟩), .agg (pt root), vv] w (TelR g W0 Bk s (blkN v) w O) := by
  refine v_enter Tryz.func11 Tryz.ntmps11 rfl (by simp) fun R' hR => ?_
  have ok := tp.tp.rs.okp
  have okv := tp.okv
  have hps := pt_size ok
  have hpa := pt_all ok
  have hlO := (ShH.ok _ _ _ _).lt hS
  have nO : ∀ j, w.heap.size ≤ j → ¬ O j := fun j hj e => by have := hlO j e; omega
  have ca := (Ch.refl Nw w).alloc (.cells (pt root) 37)
  have b0 := hp_alloc w (.cells (pt root) 37)
  have sa1 : (w.alloc (.cells (pt root) 37)).heap.size = w.heap.size + 1 := by simp
  obtain ⟨w1, hw1⟩ : ∃ w1, w.alloc (.cells (pt root) 37) = w1 := ⟨_, rfl⟩
  rw [hw1] at ca b0 sa1
  have hS1 := (ShH.ok _ _ _ _).ch hS ca fun _ _ e => e
  have env1 := env.ch ca fun _ _ e => e
  have hl1 := hl.ch' ca fun _ _ e => e
  obtain ⟨q, hq⟩ : ∃ q, w.heap.size = q := ⟨_, rfl⟩
  simp [go_sem, hps, hpa, hw1, b0]
  rw [hq] at b0 nO sa1 ⊢
  have sa := ca.size
  clear hw1
  refine (btall_any (shSnk g W0 Bk).rd (by omega) (ShH.ok g W0 Bk) hS1 root ok env1 hg).mono ?_
  obtain ⟨l0, hl0, hall⟩ := tp.all hb
  have hblk := tp.blocks
  obtain ⟨ps, hps'⟩ : ∃ ps, nodesOf root top ++ (lvsOf h 64).map (·.2) = ps := ⟨_, rfl⟩
  rw [hps'] at hall hblk
  rw [hall]
  rintro _ w2 ⟨vl, vn, O2, rfl, ownl, ownn, hS2, hO2, hvl, hvn, c2⟩
  have ownl : w2.ownsRow 0 76 45 vl (itsOf v 256).length (rowsL itv (itsOf v 256)) := ownl
  have ownn : w2.ownsRow 0 37 41 vn ps.length (rowsL pt ps) := ownn
  have hS2 : ShH g W0 Bk (s.more l0) w2 O2 := hS2
  have hs2 := c2.size
  have env2 := hg.env env1 c2 ⟨_, hS2⟩ fun _ _ e => e
  have b02 := c2.obj b0 (nO _ (Nat.le_refl _))
  have hl2 := hl1.ch' c2 fun j hj => (hvO j hj).1
  have hitok := itsOf_ok okv (Nat.le_refl 256)
  have hLl : Lst w2 vl (fun x => (itv x).toList) 45 (itsOf v 256) := Lst.of_own ownl fun x hx => itv_size (hitok x hx)
  have hlenL := hLl.len Tryz.underlying43 3
  have hL256 := itsOf_len v 256
  have hlenN : ∀ w', (Builtin.len_ #[28] 3 #[vn]).run Tryz.prog w' = .ok (.int .i64 (blkN v : Nat)) w' := by
    rw [← hblk]
    intro w'
    rcases ownn.2 with ⟨e, e2⟩ | ⟨g', cap, cur, e, _⟩
    · rw [e, e2]
      exact (Sl.nil w').len Tryz.underlying28 3 w'
    · exact (Sl.of_own ownn).len Tryz.underlying28 3 w'
  simp [go_sem]
  have nq2 : ¬ O2 q := fun e => (hO2 q e).elim (nO q (Nat.le_refl _)) fun e => by omega
  have hg2 : GlOk (ShH g W0 Bk) O2 := (hg.gr env1).mono hO2
  have hv2 : ∀ j, vv.ownBlock = some j → ¬ O2 j := fun j hj e => (hO2 j e).elim (hvO j hj).1 fun e => by have := (hvO j hj).2; omega
  have hl2O : ∀ k, O2 k → k < w2.heap.size := (ShH.ok _ _ _ _).lt hS2
  have hi1 : itsOf v 1 = [] := by
    rw [itsOf_step, if_pos tp.v0]
    rfl
  refine v_loop (fun r f u => ∃ (k : Nat) (l : List Pt), r = 256 - k ∧ 1 ≤ k ∧ k ≤ 256 ∧ f 0 = .pointer (some ⟨g, 0, none⟩) ∧ f 2 = vv ∧ f 4 = .pointer (some ⟨q, 0, none⟩) ∧ f 8 = vl ∧ f 9 = vn ∧ f 10 = .int .i64 0 ∧ f 11 = .int .i64 (itsOf v k).length ∧ f 12 = .int .i64 k
      ∧ l.length ≤ 73 + 3 * k ∧ ShH g W0 Bk (s.more l) u (Gr O2 w2 u) ∧ Ch O2 w2 u) 255
    ⟨1, l0, rfl, Nat.le_refl _, by omega, by simp, by simp, by simp, by simp, by simp, by simp, by simp [hi1], by simp, by omega, (ShH.ok _ _ _ _).weak hS2 (fun k hk => .inl hk) (Gr.lt hl2O (Nat.le_refl _)), Ch.refl _ _⟩ ?_
  rintro J hJ _ f u ⟨k, l, rfl, hk1, hk, f0, f2, f4, f8, f9, f10, f11, f12, hll, hu, cu⟩
  have hsu := cu.size
  by_cases hlt : k < 256
  · have hki : (k : Int) < 256 := by omega
    have hwk : IntKind.i64.wrap ((k : Int) + 1) = ((k + 1 : Nat) : Int) := by rw [IntKind.wrap_i64]; omega
    have hwku : IntKind.u16.wrap (k : Int) = k := by simp [IntKind.wrap, IntKind.bits, IntKind.signed]; omega
    have bu := cu.obj b02 nq2
    have envu := hg2.env env2 cu ⟨_, hu⟩ fun _ _ e => e
    have hgu : GlOk (ShH g W0 Bk) (Gr O2 w2 u) := hg2.gr env2
    have hml := shM_more s l
    simp [go_sem, f0, f4, f12, hki, bu, hps, hpa, hwku]
    refine (btget_any (shSnk g W0 Bk).rd (by omega) (ShH.ok g W0 Bk) hu root ok k (by omega) envu hgu).mono ?_
    obtain ⟨l1, hl1', hget⟩ := TabP.get (s := s.more l) tp hb hk1 (show k ≤ 255 by omega)
    rw [hget]
    rintro _ w3 ⟨rfl, h3, c3⟩
    obtain ⟨b, of', c, cs, T, fr, hve, hbw, hex, hcs, okx, hvb⟩ := in_at hl2 okv (n := k) (by rw [tp.hl]; exact hlt)
    have hst := itsOf_step v k
    obtain ⟨x, hx⟩ : ∃ x, v.getD k inz = x := ⟨_, rfl⟩
    rw [hx] at hex okx hst
    have hxs := ino_size okx
    have hxa := ino_all okx
    have hzs := ino_size inz_ok
    have h3 : ShH g W0 Bk ((s.more l).more l1) w3 (Gr (Gr O2 w2 u) u w3) := h3
    rw [Shf.more_more] at h3
    simp only [hx]
    have hs3 := c3.size
    have cw3 : Ch O2 w2 w3 := ch_gr cu c3
    have c4 := (Ch.refl Nw w3).alloc (.cells (ino x) 56)
    have b4 := hp_alloc w3 (.cells (ino x) 56)
    have h4 := (ShH.ok _ _ _ _).ch h3 c4 fun _ _ e => e
    have cw4 : Ch O2 w2 (w3.alloc (.cells (ino x) 56)) := cw3.trans (c4.mono fun _ _ e => e.elim)
    simp [go_sem, hz_ino, zc_ino, hxs, hxa, hzs, blit_whole]
    obtain ⟨g4, hg4⟩ : ∃ g4, w3.heap.size = g4 := ⟨_, rfl⟩
    rw [hg4] at b4 ⊢
    have hs4 := c4.size
    generalize w3.alloc (.cells (ino x) 56) = w4 at *
    have h4' : ShH g W0 Bk (s.more (l ++ l1)) w4 (Gr O2 w2 w4) := (ShH.ok _ _ _ _).weak h4 (fun k hk => by
      rcases hk with (hk | hk) | hk
      · exact .inl hk
      · exact .inr ⟨hk.1, by omega⟩
      · exact .inr ⟨by omega, by omega⟩) (Gr.lt hl2O (by omega))
    have hb4 := cw4.obj hbw (hv2 b hvb)
    have heq : ∀ w, (Op.equalIn 10000 56 (.agg (ino x)) (.agg (ino x))).run Tryz.prog w = .ok true w := fun w => by
      rw [eq_ino w okx okx, decide_eq_true rfl]
    have heqz : ∀ w, (Op.equalIn 10000 50 (.agg (ino x)) (.agg (ino inz))).run Tryz.prog w = .ok (decide (x = inz)) w := fun w => eq_rino w okx inz_ok
    have hk256 : k < v.length := by rw [tp.hl]; exact hlt
    rw [hve] at f2
    have cd4 : Ch Nw w4 w4.drew := (Ch.refl _ _).drew
    refine v_draw' [(0, none), (1, none), (2, none), (3, none), (4, none), (5, none), (6, none), (7, none), (8, some [3]), (9, none), (10, none)] (by kernel_rfl) (by kernel_rfl) ?_
    obtain ⟨w5, hw5⟩ : ∃ w5, w4.drew = w5 := ⟨_, rfl⟩
    rw [hw5] at cd4 ⊢
    have b45 := cd4.obj b4 id
    have hb45 := cd4.obj hb4 id
    simp [go_sem, f2, f12, hk256, b45, hb45, hex, hcs, hxs, hxa]
    refine (lawof_any x w5 okx).mono ?_
    rintro _ w6 ⟨rfl, c6⟩
    have b46 := c6.obj b45 id
    have hb46 := c6.obj hb45 id
    have c46 := cd4.trans c6
    have hs6 := c46.size
    have h6 : ShH g W0 Bk (s.more (l ++ l1)) w6 (Gr O2 w2 w6) := (ShH.ok _ _ _ _).weak ((ShH.ok _ _ _ _).ch h4' c46 fun _ _ e => e) (fun k hk => hk.imp id fun e => ⟨e.1, by omega⟩) (Gr.lt hl2O (by omega))
    have cw6 : Ch O2 w2 w6 := cw4.trans (c46.mono fun _ _ e => e.elim)
    by_cases hz : x = inz
    · rw [if_pos hz, List.append_nil] at hst
      subst hz
      simp [go_sem, b46, hb46, f2, f12, hk256, hex, hcs, hxs, hxa, heq, bld_rino0, heqz, hwk]
      exact Rnd.intro (256 - (k + 1)) (by omega) (hJ _ _ _ ⟨k + 1, l ++ l1, rfl, by omega, by omega, by simp [f0], by simp [f2, hve], by simp [f4], by simp [f8], by simp [f9], by simp [f10], by simp [f11, hst], by simp, by rw [List.length_append]; omega, h6, cw6⟩)
    · rw [if_neg hz] at hst
      have hat := itsOf_at (v := v) hlt (by rw [hx]; exact hz)
      rw [hx] at hat
      simp [go_sem, b46, hb46, f2, f12, hk256, hex, hcs, hxs, hxa, heq, bld_rino0, heqz, hz]
      have okl : ItOk (k, x) := ⟨by show k < _; omega, okx⟩
      have hbl : ∀ {w : World} {K : Value → World → Prop}, VBld Tryz.prog 76 [(0, .int .u16 k), (1, .agg (ino x))] w K = K (.agg (itv (k, x))) w := fun {w K} => bld_it (k, x) okl
      have heql : ∀ w, (Op.equalIn 10000 76 (.agg (itv (k, x))) (.agg (itv (k, x)))).run Tryz.prog w = .ok true w := fun w => by
        rw [eq_it w okl okl, decide_eq_true rfl]
      obtain ⟨bl, ofl, cl, csl, Tl, frl, hvel, hbwl, hexl, hcsl⟩ := hLl.elem (by decide) (fun y hy => itv_size (hitok y hy)) hat
      have hvlb : vl.ownBlock = some bl := by rw [hvel]; rfl
      have hbl6 := cw6.obj hbwl (hvl bl hvlb).1
      have hnl : (itsOf v k).length < (itsOf v 256).length := (List.getElem?_eq_some_iff.1 hat).1
      have hnli : ¬ ((itsOf v 256).length : Int) ≤ (itsOf v k).length := by omega
      have hwn : IntKind.i64.wrap (((itsOf v k).length : Int) + 1) = (((itsOf v k).length + 1 : Nat) : Int) := by rw [IntKind.wrap_i64]; omega
      have hls := itv_size okl
      have hla := itv_all okl
      have hlon := itv_ones (x := (k, x))
      have hlenL' : ∀ w', (Builtin.len_ #[43] 3 #[.slice (some ⟨bl, ofl, none⟩) (itsOf v 256).length cl]).run Tryz.prog w' = .ok (.int .i64 (itsOf v 256).length) w' := fun w' => by rw [← hvel]; exact hlenL w'
      rw [hvel] at f8
      refine v_draw' [(0, none), (1, none), (2, none), (3, none), (4, none), (5, none), (6, none), (7, none), (8, none), (9, none), (10, none), (11, none), (12, none), (13, none), (14, none)] (by kernel_rfl) (by kernel_rfl) ?_
      have b46d : w6.drew.heap[g4]? = some (.cells (ino x) 56 (0, 0)) := b46
      have hbl6d : w6.drew.heap[bl]? = some (.cells csl Tl frl) := hbl6
      simp [go_sem, f8, f11, f12, hlenL', hnl, hnli, hbl6, hbl6d, hexl, hcsl, hls, hlon, hwku, b46, b46d, hxs, hxa, hbl, heql, hwn, hwk]
      exact Rnd.intro (256 - (k + 1)) (by omega) (hJ _ _ _ ⟨k + 1, l ++ l1, rfl, by omega, by omega, by simp [f0], by simp [f2, hve], by simp [f4], by simp [f8, hvel], by simp [f9], by simp [f10], by simp [hst], by simp, by rw [List.length_append]; omega, (ShH.ok _ _ _ _).ch h6 (Ch.refl Nw w6).drew fun _ _ e => e, cw6.drew⟩)
  · obtain rfl : k = 256 := by omega
    simp [go_sem, f8, f9, f10, f11, f12, hlenL, hlenN]
    refine hR _ _ ⟨l, rfl, (ShH.ok _ _ _ _).weak hu (fun j hj => ?_) (Gr.lt hlO (by omega)), ?_, by omega⟩
    · rcases hj with hj | hj
      · exact (hO2 j hj).imp id fun e => ⟨by omega, by omega⟩
      · exact .inr ⟨by omega, hj.2⟩
    · exact ((ca.mono fun _ _ e => e.elim).trans c2).trans' cu fun j hj e => (hO2 j e).elim id fun e => by omega
end
end Go.Proofs.YtnefdmbdkljifaaGreatDoor
