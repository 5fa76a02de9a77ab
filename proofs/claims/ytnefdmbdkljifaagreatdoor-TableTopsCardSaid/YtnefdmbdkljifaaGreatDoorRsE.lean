/- The document's hash: Filled, as a contract on the call. Conditions: sizes. -/
import Derived.Test.YtnefdmbdkljifaaGreatDoorRsB
import Derived.Test.YtnefdmbdkljifaaGreatDoorTrL
set_option linter.unusedSimpArgs false
set_option linter.unusedVariables false

/- The document's hash: constants, as a contract on the call; states as rows of words. No condition. -/
namespace Go.Proofs.YtnefdmbdkljifaaGreatDoor
open Go.RowKit Go.Kin

theorem rconsts_any (w : World) : Ret Tryz.prog 134 #[] w fun v' w' => Sl w' v' 64 (w32 Kc) ∧ Ch Nw w w' ∧ Fresh w.heap.size v' := by
  refine v_enter Tryz.func134 Tryz.ntmps134 rfl (by simp) fun R' hR => ?_
  simp [go_sem]
  exact hR _ _ ⟨Sl.of_blk (hp_alloc _ _) (Nat.le_refl _) (by decide) rfl, (Ch.refl Nw w).alloc _, fun k hk => by simp [Value.ownBlock] at hk; omega⟩
/-- a state's words -/
def stL (s : St) : List Nat := [s.a, s.b, s.c, s.d, s.e, s.f, s.g, s.h]
theorem stL_length (s : St) : (stL s).length = 8 := rfl
theorem stL_at {w : World} {v : Value} {s : St} (h : Sl w v 8 (w32 (stL s))) {i x : Nat} (hx : (stL s)[i]? = some x) :
    ∃ a, (∀ w', (Instr.indexAt 85 v (.int .i64 i)).run Tryz.prog w' = .ok (.pointer (some a)) w') ∧ w.cell? a = some (.int .u32 (x : Nat)) := by
  have hi : i < 8 := (List.getElem?_eq_some_iff.1 hx).1
  obtain ⟨a, h1, h2, _⟩ := w32_at h (stL_length s) hi
  rw [List.getD_eq_getElem?_getD, hx] at h2
  exact ⟨a, h1, h2⟩
theorem w32_oneC (l : List Nat) : ∀ u ∈ w32 l, u.oneCell' = true := by
  intro u hu
  obtain ⟨x, _, rfl⟩ := List.mem_map.1 hu
  rfl
theorem wd_lt' {s : St} (ok : StOk s) : ∀ x ∈ stL s, x < 4294967296 := by
  intro x hx
  simp only [stL, List.mem_cons, List.not_mem_nil, or_false] at hx
  rcases hx with rfl | rfl | rfl | rfl | rfl | rfl | rfl | rfl
  · exact ok.a
  · exact ok.b
  · exact ok.c
  · exact ok.d
  · exact ok.e
  · exact ok.f
  · exact ok.g
  · exact ok.h
end Go.Proofs.YtnefdmbdkljifaaGreatDoor

/- The document's hash: Take, as a contract on the call. No condition but that the values are of their types. -/
namespace Go.Proofs.YtnefdmbdkljifaaGreatDoor
set_option maxRecDepth 100000
open Go.RowKit Go.Kin

theorem sumS_at (s r : St) : ∀ k, k < 8 → (stL (sumS s r)).getD k 0 = add32 ((stL s).getD k 0) ((stL r).getD k 0) := fun k hk => by
  match k, hk with
  | 0, _ => simp [stL, sumS]
  | 1, _ => simp [stL, sumS]
  | 2, _ => simp [stL, sumS]
  | 3, _ => simp [stL, sumS]
  | 4, _ => simp [stL, sumS]
  | 5, _ => simp [stL, sumS]
  | 6, _ => simp [stL, sumS]
  | 7, _ => simp [stL, sumS]
set_option maxHeartbeats 1000000 in
theorem rtk_any (s : St) (vs v : Value) (b : List UInt8) (w : World) (ok : StOk s) (hb : b.length = 64) (hvs : Sl w vs 8 (w32 (stL s))) (hs : Sl w v 64 (bvs b)) :
    Ret Tryz.prog 132 #[vs, v] w fun v' w' => Mine 32 w v' 8 (w32 (stL (takeS s b))) w' := by
  refine v_enter Tryz.func132 Tryz.ntmps132 rfl (by simp) fun R' hR => ?_
  simp [go_sem]
  refine (rnumbers_any v b w hb hs).mono ?_
  rintro v5 w1 hm1
  simp [go_sem]
  refine (rconsts_any w1).mono ?_
  rintro v6 w2 ⟨hs6, c2, _⟩
  have hs5 := hm1.sl.ch c2 fun _ _ e => e
  have c12 := hm1.ch.trans c2
  simp [go_sem]
  refine VB_copyOf tyW (hvs.ch c12 fun _ _ e => e) (w32_length _) (w32_oneC _) (by decide) (by decide) fun v7 w3 d1 d2 d3 => ?_
  have hs5 := hs5.ch d2 fun _ _ e => e
  have hs6 := hs6.ch d2 fun _ _ e => e
  have c3 := c12.trans d2
  have hs7 := Sl.of_own d1
  generalize hW : Wl b 64 = W at *
  have hWl : W.length = 64 := by rw [← hW, Wl_length]
  have hWlt : ∀ i, i < 64 → W.getD i 0 < 4294967296 := fun i hi => by rw [← hW]; exact Wl_at_lt b hi
  simp [go_sem]
  have hs70 : Sl w3 v7 8 (w32 (stL (rnds W 0 s))) := by
    rw [rnds_zero]
    exact hs7
  refine v_loop (fun r f wr => ∃ k, k ≤ 64 ∧ r = 64 - k ∧ f 0 = vs ∧ f 5 = v5 ∧ f 6 = v6 ∧ f 8 = .int .i64 k ∧ Sl wr (f 7) 8 (w32 (stL (rnds W k s))) ∧ Ch Nw w3 wr) 64
    ⟨0, by omega, rfl, by simp, by simp, by simp, by simp, hs70, Ch.refl _ _⟩ ?_
  rintro J hJ _ f wr ⟨k, hk, rfl, f0, f5, f6, f8, hs7, cr⟩
  have okr := rnds_ok ok W k
  by_cases hk64 : k < 64
  · have hki : (k : Int) < 64 := by omega
    have hwk : IntKind.i64.wrap ((k : Int) + 1) = ((k + 1 : Nat) : Int) := by simp [IntKind.wrap_i64]; omega
    have hnext := rnds_succ W k s
    obtain ⟨r', hr'⟩ : ∃ r', rnds W (k + 1) s = r' := ⟨_, rfl⟩
    rw [hr'] at hnext
    generalize rnds W k s = r at *
    obtain ⟨ra, rb, rc, rd, re, rf, rg, rh⟩ := r
    obtain ⟨A0, p0, y0⟩ := stL_at hs7 (i := 0) (x := ra) rfl
    obtain ⟨A1, p1, y1⟩ := stL_at hs7 (i := 1) (x := rb) rfl
    obtain ⟨A2, p2, y2⟩ := stL_at hs7 (i := 2) (x := rc) rfl
    obtain ⟨A3, p3, y3⟩ := stL_at hs7 (i := 3) (x := rd) rfl
    obtain ⟨A4, p4, y4⟩ := stL_at hs7 (i := 4) (x := re) rfl
    obtain ⟨A5, p5, y5⟩ := stL_at hs7 (i := 5) (x := rf) rfl
    obtain ⟨A6, p6, y6⟩ := stL_at hs7 (i := 6) (x := rg) rfl
    obtain ⟨A7, p7, y7⟩ := stL_at hs7 (i := 7) (x := rh) rfl
    replace p0 : ∀ w', (Instr.indexAt 85 (f 7) (.int .i64 0)).run Tryz.prog w' = .ok (.pointer (some A0)) w' := p0
    replace p1 : ∀ w', (Instr.indexAt 85 (f 7) (.int .i64 1)).run Tryz.prog w' = .ok (.pointer (some A1)) w' := p1
    replace p2 : ∀ w', (Instr.indexAt 85 (f 7) (.int .i64 2)).run Tryz.prog w' = .ok (.pointer (some A2)) w' := p2
    replace p3 : ∀ w', (Instr.indexAt 85 (f 7) (.int .i64 3)).run Tryz.prog w' = .ok (.pointer (some A3)) w' := p3
    replace p4 : ∀ w', (Instr.indexAt 85 (f 7) (.int .i64 4)).run Tryz.prog w' = .ok (.pointer (some A4)) w' := p4
    replace p5 : ∀ w', (Instr.indexAt 85 (f 7) (.int .i64 5)).run Tryz.prog w' = .ok (.pointer (some A5)) w' := p5
    replace p6 : ∀ w', (Instr.indexAt 85 (f 7) (.int .i64 6)).run Tryz.prog w' = .ok (.pointer (some A6)) w' := p6
    replace p7 : ∀ w', (Instr.indexAt 85 (f 7) (.int .i64 7)).run Tryz.prog w' = .ok (.pointer (some A7)) w' := p7
    obtain ⟨AW, pW, yW, _⟩ := w32_at (hs5.ch cr fun _ _ e => e) hWl hk64
    obtain ⟨AK, pK, yK, _⟩ := w32_at (hs6.ch cr fun _ _ e => e) (by rfl) hk64
    obtain ⟨kk, hkk⟩ : ∃ x, Kc.getD k 0 = x := ⟨_, rfl⟩
    obtain ⟨wk, hwk'⟩ : ∃ x, W.getD k 0 = x := ⟨_, rfl⟩
    have lw := hWlt k hk64
    have lk := Kc_at_lt k
    rw [hkk] at yK lk hnext
    rw [hwk'] at yW lw hnext
    rw [stp_eq] at hnext
    have la : ra < 4294967296 := okr.a
    have lb : rb < 4294967296 := okr.b
    have lc : rc < 4294967296 := okr.c
    have le' : re < 4294967296 := okr.e
    have lf : rf < 4294967296 := okr.f
    have lg : rg < 4294967296 := okr.g
    have hvT := vT_eq ra rb rc rd re rf rg rh kk wk le' lf lg
    have hvU := vU_eq ra rb rc rd re rf rg rh la lb lc
    generalize tq ⟨ra, rb, rc, rd, re, rf, rg, rh⟩ kk wk = T at *
    generalize uq ⟨ra, rb, rc, rd, re, rf, rg, rh⟩ = U at *
    simp [go_sem, f8, hki]
    refine v_draw' [(0, none), (1, none), (2, none), (3, none), (4, none), (5, none), (7, none), (8, none), (9, none), (12, none), (13, none), (14, none), (18, none), (19, none), (20, none), (21, none), (22, none), (23, none), (24, none), (25, none), (26, none), (27, none), (28, none), (29, none), (30, none), (31, none), (32, none), (33, none), (35, none), (36, none), (37, none), (38, none), (40, none), (41, none), (42, none), (43, none), (6, some [0, 1, 2, 7, 8, 9, 12, 13, 14, 18, 19, 20, 21, 22, 23, 24, 25, 26, 27, 28, 29, 30, 31, 32, 33, 35, 36, 37, 38, 40, 41, 42, 43]), (10, some [0, 1, 2, 12, 13, 14, 18, 19, 20, 21, 22, 23, 24, 25, 26, 27, 28, 29, 30, 31, 32, 33, 35, 36, 37, 38, 40, 41, 42, 43]), (11, none), (15, some [0, 1, 2, 18, 19, 20, 21, 22, 23, 24, 25, 26, 27, 28, 29, 30, 31, 32, 33, 35, 36, 37, 38, 40, 41, 42, 43, 11]), (16, none), (17, none), (34, none), (39, none), (44, none), (45, none)] (by kernel_rfl) (by kernel_rfl) ?_
    simp [go_sem, f5, f6, f8, p0, y0, p1, y1, p2, y2, p3, y3, p4, y4, p5, y5, p6, y6, p7, y7, pW, yW, pK, yK]
    refine (turned_any re 6 _ le' (by decide)).mono ?_
    rintro _ _ ⟨rfl, rfl⟩
    simp [go_sem, f5, f6, f8, p0, y0, p1, y1, p2, y2, p3, y3, p4, y4, p5, y5, p6, y6, p7, y7, pW, yW, pK, yK]
    refine (turned_any re 11 _ le' (by decide)).mono ?_
    rintro _ _ ⟨rfl, rfl⟩
    simp [go_sem, f5, f6, f8, p0, y0, p1, y1, p2, y2, p3, y3, p4, y4, p5, y5, p6, y6, p7, y7, pW, yW, pK, yK]
    refine (turned_any re 25 _ le' (by decide)).mono ?_
    rintro _ _ ⟨rfl, rfl⟩
    simp [go_sem, f5, f6, f8, p0, y0, p1, y1, p2, y2, p3, y3, p4, y4, p5, y5, p6, y6, p7, y7, pW, yW, pK, yK]
    rw [hvT]
    refine v_draw' [(0, none), (1, none), (2, none), (4, none), (5, none), (6, none), (9, none), (10, none), (11, none), (14, none), (15, none), (16, none), (17, none), (18, none), (19, none), (20, none), (21, none), (22, none), (23, none), (24, none), (25, none), (26, none), (27, none), (28, none), (29, none), (30, none), (31, none), (32, none), (33, none), (34, none), (35, none), (36, none), (3, some [4, 5, 6, 9, 10, 11, 14, 15, 16, 17, 18, 19, 20, 21, 22, 23, 24, 25, 26, 27, 28, 29, 30, 31, 32, 33, 34, 35, 36]), (7, some [9, 10, 11, 14, 15, 16, 17, 18, 19, 20, 21, 22, 23, 24, 25, 26, 27, 28, 29, 30, 31, 32, 33, 34, 35, 36]), (8, none), (12, some [14, 15, 16, 17, 18, 19, 20, 21, 22, 23, 24, 25, 26, 27, 28, 29, 30, 31, 32, 33, 34, 35, 36, 8]), (13, none), (37, none), (38, none)] (by kernel_rfl) (by kernel_rfl) ?_
    simp [go_sem, f5, f6, f8, p0, y0, p1, y1, p2, y2, p3, y3, p4, y4, p5, y5, p6, y6, p7, y7]
    refine (turned_any ra 2 _ la (by decide)).mono ?_
    rintro _ _ ⟨rfl, rfl⟩
    simp [go_sem, f5, f6, f8, p0, y0, p1, y1, p2, y2, p3, y3, p4, y4, p5, y5, p6, y6, p7, y7]
    refine (turned_any ra 13 _ la (by decide)).mono ?_
    rintro _ _ ⟨rfl, rfl⟩
    simp [go_sem, f5, f6, f8, p0, y0, p1, y1, p2, y2, p3, y3, p4, y4, p5, y5, p6, y6, p7, y7]
    refine (turned_any ra 22 _ la (by decide)).mono ?_
    rintro _ _ ⟨rfl, rfl⟩
    simp [go_sem, f5, f6, f8, p0, y0, p1, y1, p2, y2, p3, y3, p4, y4, p5, y5, p6, y6, p7, y7]
    rw [hvU]
    refine v_draw' [(0, none), (1, none), (2, none), (3, none), (4, none), (5, none), (6, none), (7, none), (8, none), (9, none), (10, none), (11, none), (12, none), (13, none), (14, none), (15, none), (16, none), (17, none), (18, none), (19, none), (20, none), (21, none), (22, none), (23, none), (24, none), (25, none), (26, some []), (27, none)] (by kernel_rfl) (by kernel_rfl) ?_
    have a1 := wrap_add T U
    have a2 := wrap_add rd T
    simp [go_sem, f5, f6, f8, p0, y0, p1, y1, p2, y2, p3, y3, p4, y4, p5, y5, p6, y6, p7, y7, a1, a2, hwk]
    have hbn := hp_alloc wr (.cells #[.int .u32 (add32 T U : Nat), .int .u32 ra, .int .u32 rb, .int .u32 rc, .int .u32 (add32 rd T : Nat), .int .u32 re, .int .u32 rf, .int .u32 rg] 32)
    refine Rnd.intro (64 - (k + 1)) (by omega) (hJ _ _ _ ⟨k + 1, by omega, rfl, by simp [f0], by simp [f5], by simp [f6], by simp, ?_, (((cr.alloc _).drew).drew).drew⟩)
    rw [hr', hnext]
    have := Sl.of_blk hbn (n := 8) (c := 8) (off := 0) (xs := w32 (stL ⟨add32 T U, ra, rb, rc, add32 rd T, re, rf, rg⟩)) (Nat.le_refl _) (by decide) rfl
    simpa using this.drew.drew.drew
  · obtain rfl : k = 64 := by omega
    have htk : takeS s b = sumS s (rnds W 64 s) := by unfold takeS; rw [hW]
    have okr := rnds_ok ok W 64
    rw [htk] at hR
    generalize rnds W 64 s = r at *
    have hvs := hvs.ch (c3.trans cr) fun _ _ e => e
    have c4 := c3.trans cr
    simp [go_sem, f8]
    have hadd : ∀ k, k < 8 → (stL (sumS s r)).getD k 0 = add32 ((stL s).getD k 0) ((stL r).getD k 0) := sumS_at s r
    obtain ⟨L, hL⟩ : ∃ L, stL (sumS s r) = L := ⟨_, rfl⟩
    have hLl : L.length = 8 := by rw [← hL]; rfl
    rw [hL] at hR hadd
    obtain ⟨a, ha⟩ : ∃ a, f 7 = a := ⟨_, rfl⟩
    rw [ha] at hs7
    refine v_loop (fun q g x => ∃ k, k ≤ 8 ∧ q = 8 - k ∧ g 0 = vs ∧ g 7 = a ∧ g 12 = .int .i64 k ∧ Mine 32 wr (g 11) k (w32 (L.take k)) x) 8
      ⟨0, by omega, rfl, by simp [f0], by simp [ha], by simp, by simpa [w32] using Mine.nil _ (Ch.refl Nw wr)⟩ ?_
    clear hJ J
    rintro J hJ _ g x ⟨k, hk8, rfl, g0, g7, g12, hm⟩
    by_cases hk : k < 8
    · have hki : (k : Int) < 8 := by omega
      have hwk : IntKind.i64.wrap ((k : Int) + 1) = ((k + 1 : Nat) : Int) := by simp [IntKind.wrap_i64]; omega
      obtain ⟨A1, p1, y1, _⟩ := w32_at (hvs.ch hm.ch fun _ _ e => e) (stL_length s) hk
      obtain ⟨A2, p2, y2, _⟩ := w32_at (hs7.ch hm.ch fun _ _ e => e) (stL_length r) hk
      have hak := hadd k hk
      obtain ⟨x1, hx1⟩ : ∃ x, (stL s).getD k 0 = x := ⟨_, rfl⟩
      obtain ⟨x2, hx2⟩ : ∃ x, (stL r).getD k 0 = x := ⟨_, rfl⟩
      rw [hx1] at y1 hak
      rw [hx2] at y2 hak
      have hwa := wrap_add x1 x2
      simp [go_sem, g12, hki]
      refine v_draw' [(0, none), (1, none), (2, none), (3, none), (4, none), (5, none), (6, none), (7, none), (8, none), (9, none), (10, some [0]), (11, some []), (12, none)] (by kernel_rfl) (by kernel_rfl) ?_
      simp [go_sem, g0, g7, g12, p1, y1, p2, y2, hwa]
      have hmd := hm.drew
      have eqw : (x.alloc (.cells #[.int .u32 (add32 x1 x2 : Nat)] 32)).drew = x.drew.alloc (.cells #[.int .u32 (add32 x1 x2 : Nat)] 32) := rfl
      have eqs : x.heap.size = x.drew.heap.size := rfl
      rw [eqw, eqs]
      refine VB_app1 tyW hmd.own rfl (by unfold maxLen; omega) (by omega) fun v' w' e1 e2 e3 => ?_
      have hm' := hmd.grow e1 e2 e3
      simp [go_sem, g12, hwk]
      refine Rnd.intro (8 - (k + 1)) (by omega) (hJ _ _ _ ⟨k + 1, by omega, rfl, by simp [g0], by simp [g7], by simp, ?_⟩)
      have hLk : L[k]? = some (add32 x1 x2) := by rw [← hak, List.getD_eq_getElem?_getD, List.getElem?_eq_getElem (by omega)]; rfl
      rw [List.take_add_one, hLk, Option.toList_some, w32_snoc]
      simpa using hm'
    · obtain rfl : k = 8 := by omega
      rw [List.take_of_length_le (by omega)] at hm
      simp [go_sem, g12]
      exact hR _ _ ⟨hm.own, c4.trans hm.ch, hm.fresh.mono c4.size⟩
end Go.Proofs.YtnefdmbdkljifaaGreatDoor

namespace Go.Proofs.YtnefdmbdkljifaaGreatDoor
open Go.RowKit Go.Kin

/-- the last bytes of a number, the greatest first -/
def tl (x : Nat) : Nat → List UInt8
  | 0 => []
  | j + 1 => UInt8.ofNat (x / 256 ^ j) :: tl x j
theorem tl_length (x j : Nat) : (tl x j).length = j := by
  induction j with
  | zero => rfl
  | succ j ih => simp [tl, ih]
theorem tl_eight (x : Nat) : tl x 8 = bej x 8 := by simp [tl, bej, List.range_succ]
theorem filled_any (v : Value) (b : List UInt8) (w : World) (hs : Sl w v b.length (bvs b)) (hlen : b.length ≤ 1000000) :
    Ret Tryz.prog 131 #[v] w fun v' w' => Mine 5 w v' (b ++ padS b.length).length (bvs (b ++ padS b.length)) w' := by
  refine v_enter Tryz.func131 Tryz.ntmps131 rfl (by simp) fun R' hR => ?_
  have hln := hs.len Tryz.underlying62 3
  simp [go_sem]
  refine VB_copyOf tyB hs (bvs_length b) (bvs_one _) (by unfold maxLen; omega) (by omega) fun v3 w1 d1 d2 d3 => ?_
  have hm0 : Mine 5 w v3 b.length (bvs b) w1 := ⟨d1, d2, d3⟩
  have hone : ∀ {u : World} {v : Value} {n : Nat} {l : List UInt8} (c : UInt8) {K : Value → World → Prop} {ty : TypeId}, Mine 5 w v n (bvs l) u → n ≤ 2000000 → (∀ v' u', Mine 5 w v' (n + 1) (bvs (l ++ [c])) u' → K v' u') → VB Tryz.prog .append #[62, 62] ty #[v, .slice (some ⟨u.heap.size, 0, none⟩) 1 1] (u.alloc (.cells #[.int .u8 c.toNat] 5)) K := by
    intro u v n l c K ty h1 h3 h4
    refine VB_app1 tyB h1.own rfl (by unfold maxLen; omega) (by omega) fun v' u' d4 d5 d6 => ?_
    have h5 := h1.grow d4 d5 d6
    exact h4 _ _ (by rw [bvs_append]; exact h5)
  simp [go_sem]
  refine hone 128 hm0 (by omega) fun v4 w2 hm1 => ?_
  simp [go_sem]
  generalize hpz : (119 - b.length % 64) % 64 = pz
  have hpzl : pz < 64 := by omega
  refine v_loop (fun r f u => ∃ j, j ≤ pz ∧ r = pz - j ∧ f 0 = v ∧ Mine 5 w (f 3) (b.length + 1 + j) (bvs (b ++ [128] ++ zb j)) u) pz
    ⟨0, by omega, rfl, by simp, by simpa [zb] using hm1⟩ ?_
  rintro J hJ _ f u ⟨j, hj, rfl, f0, hm⟩
  have hlm := hm.sl.len Tryz.underlying62 3
  have hrem : ((b.length : Int) + 1 + j).tmod 64 = (((b.length + 1 + j) % 64 : Nat) : Int) := by rw [Int.tmod_eq_emod_of_nonneg (by omega)]; omega
  by_cases hjz : j < pz
  · simp [go_sem, hlm, hrem]
    rw [show (((b.length : Int) + 1 + j) % 64 != 56) = true by rw [bne, beq_false_of_ne (by omega)]; rfl]
    simp [go_sem]
    refine hone 0 hm (by omega) fun v' u' hm' => ?_
    simp [go_sem]
    refine Rnd.intro (pz - (j + 1)) (by omega) (hJ _ _ _ ⟨j + 1, by omega, rfl, by simp [f0], ?_⟩)
    have e : b ++ [128] ++ zb (j + 1) = b ++ [128] ++ zb j ++ [0] := by
      rw [show zb (j + 1) = zb j ++ [0] by unfold zb; rw [List.replicate_succ']]; simp
    rw [e]
    simpa [Nat.add_assoc] using hm'
  · obtain rfl : j = pz := by omega
    have hne2 : (((b.length : Int) + 1 + j) % 64 != 56) = false := by
      have : ((b.length : Int) + 1 + j) % 64 = 56 := by omega
      rw [this]
      decide
    have hcu : IntKind.u64.wrap (b.length : Int) = b.length := by rw [IntKind.wrap_u64]; omega
    have hcm : IntKind.u64.wrap ((b.length : Int) * 8) = ((8 * b.length : Nat) : Int) := by rw [IntKind.wrap_u64]; omega
    simp [go_sem, hlm, hrem, hne2, f0, hln, hcu]
    rw [hcm]
    obtain ⟨x, hx⟩ : ∃ x, 8 * b.length = x := ⟨_, rfl⟩
    have hxl : x ≤ 8000000 := by omega
    have hpad : b ++ padS b.length = b ++ [128] ++ zb j ++ tl x 8 := by unfold padS; rw [hpz, hx, tl_eight]; simp
    rw [hpad] at hR
    rw [hx]
    have hPl : (b ++ [128] ++ zb j).length = b.length + 1 + j := by simp [zb_length]; omega
    generalize b ++ [128] ++ zb j = P at *
    obtain ⟨a, ha⟩ : ∃ a, f 3 = a := ⟨_, rfl⟩
    rw [ha] at hm
    refine v_loop (fun r g y => ∃ i, i ≤ 8 ∧ r = 8 - i ∧ g 3 = a ∧ g 4 = .int .u64 (x / 256 ^ i : Nat) ∧ g 6 = .int .i64 i ∧ Mine 5 u (g 5) i (bvs (tl x i)) y) 8
      ⟨0, by omega, rfl, by simp [ha], by simp, by simp, by simpa [tl, bvs] using Mine.nil _ (Ch.refl Nw u)⟩ ?_
    clear hJ J
    rintro J hJ _ g y ⟨i, hi, rfl, g3, g4, g6, ht⟩
    by_cases hi8 : i < 8
    · have hii : (i : Int) < 8 := by omega
      have hwi : IntKind.i64.wrap ((i : Int) + 1) = ((i + 1 : Nat) : Int) := by simp [IntKind.wrap_i64]; omega
      have hlt : x / 256 ^ i ≤ x := Nat.div_le_self _ _
      have hnx : x / 256 ^ (i + 1) = x / 256 ^ i / 256 := by rw [Nat.pow_succ, Nat.div_div_eq_div_mul]
      have htl : tl x (i + 1) = UInt8.ofNat (x / 256 ^ i) :: tl x i := rfl
      obtain ⟨x', hx'⟩ : ∃ x', x / 256 ^ (i + 1) = x' := ⟨_, rfl⟩
      rw [hx'] at hnx
      generalize x / 256 ^ i = z at *
      have hr : ((z : Nat) : Int).tmod 256 = ((z % 256 : Nat) : Int) := by rw [Int.tmod_eq_emod_of_nonneg (by omega)]; omega
      have hu8 : IntKind.u8.wrap ((z : Int) % 256) = ((UInt8.ofNat z).toNat : Int) := by rw [IntKind.wrap_u8, UInt8.toNat_ofNat']; omega
      have hq : IntKind.u64.wrap ((z : Int) / 256) = (x' : Int) := by rw [IntKind.wrap_u64]; omega
      generalize hc : UInt8.ofNat z = c at *
      simp [go_sem, g4, g6, hii, hr]
      rw [hu8]
      have hown := Sl.lit y 5 [c] 1 rfl (by decide)
      have hty := ht.sl.ch ((Ch.refl Nw y).alloc (.cells (bvs [c]).toArray 5)) fun _ _ e => e
      refine VB_appn tyB hown hty (by rw [bvs_length, tl_length]) (bvs_one _) (by unfold maxLen; omega) (by omega) fun v' w' e1 e2 e3 => ?_
      have cy : Ch Nw y w' := ((Ch.refl Nw y).alloc (.cells (bvs [c]).toArray 5)).trans' e2 fun jj hjj e => by simp [Value.ownBlock] at e; omega
      have hfv : Fresh y.heap.size v' := by
        rcases e3 with e3 | e3
        · intro kk hkk; rw [e3] at hkk; simp [Value.ownBlock] at hkk; omega
        · exact e3.mono (by simp)
      rw [← bvs_append] at e1
      simp [go_sem, g4, g6, hwi, hq]
      refine Rnd.intro (8 - (i + 1)) (by omega) (hJ _ _ _ ⟨i + 1, by omega, rfl, by simp [g3], by simp [hx'], by simp, ?_⟩)
      rw [htl]
      exact ⟨by simpa [Nat.add_comm] using e1, ht.ch.trans cy, by simpa using hfv.mono ht.ch.size⟩
    · obtain rfl : i = 8 := by omega
      simp [go_sem, g6, g3]
      have hma := hm.step ht.ch
      refine VB_appn tyB hma.own ht.sl (by rw [bvs_length, tl_length]) (bvs_one _) (by unfold maxLen; omega) (by omega) fun v' w' e1 e2 e3 => ?_
      have hmf := hma.grow e1 e2 e3
      simp [go_sem]
      refine hR _ _ ?_
      rw [bvs_append, List.length_append, hPl, tl_length]
      exact hmf
end Go.Proofs.YtnefdmbdkljifaaGreatDoor
