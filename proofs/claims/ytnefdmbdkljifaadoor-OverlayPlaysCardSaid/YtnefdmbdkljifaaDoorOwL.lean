/- OverlayPlays. Condition: the variable ptr.wide holds what the text lays. -/
import Derived.Test.YtnefdmbdkljifaaDoorOwK
import Derived.Test.YtnefdmbdkljifaaDoorOvN
set_option linter.unusedSimpArgs false
set_option linter.unusedVariables false

namespace Go.Proofs.YtnefdmbdkljifaaDoor
open Go.RowKit Go.Kin Go.Maps

set_option maxRecDepth 100000 in
set_option maxHeartbeats 8000000 in
theorem plays_any (bad : Nat) (hbad : bad < 65536) (v1 : Value) (L : List Ac) (num : Num) (off : Off) (W : World) (hw : Lw W) (h1 : Lst W v1 acv 49 L) (ok1 : ∀ a ∈ L, a.Ok) :
    Ret Tryd.prog 3 #[.int .u16 bad, v1, .int .u16 num.val, .int .u32 off.val] W fun v' w' => v' = .bool true ∧ Ch Nw W w' := by
  refine v_enter Tryd.func3 Tryd.ntmps3 rfl (by simp) fun R' hR => ?_
  have n1 := h1.len Tryd.underlying23 3
  by_cases q1 : L.length ≤ 60
  case neg =>
    have q1' : (60 : Int) < L.length := by omega
    simp [go_sem, n1, q1']
    refine (wakes_any W).mono ?_
    rintro _ w' ⟨rfl, c⟩
    simp [go_sem]
    exact hR _ _ ⟨rfl, c⟩
  have q1' : ¬ (60 : Int) < L.length := by omega
  have b0 := hp_alloc W (.cells #[.int .u16 bad, .int .i64 0] 28)
  have ca := (Ch.refl Nw W).alloc (.cells #[.int .u16 bad, .int .i64 0] 28)
  simp [go_sem, n1, q1', mi_g]
  obtain ⟨g, hg⟩ : ∃ g, W.heap.size = g := ⟨_, rfl⟩
  rw [hg] at b0 ⊢
  generalize W.alloc (.cells #[.int .u16 bad, .int .i64 0] 28) = w1 at *
  have s0 : Sb W w1 g bad (fun _ => 0) [] (.slice none 0 0) [] (.slice none 0 0) [] := Sb.base0 ⟨0, b0⟩ ca (by omega)
  refine (new_any 26 (.pointer (some ⟨g, 0, none⟩)) w1).mono ?_
  rintro _ w2 ⟨o, zo, rfl, ho, c2⟩
  obtain ⟨col1, s1⟩ := s0.beg ho c2
  obtain ⟨col2, s2⟩ := s1.row1 (oP o)
  obtain ⟨col3, s3⟩ := s2.dds1 (.slice none 0 0)
  simp [go_sem]
  obtain ⟨w4, hw4⟩ : ∃ w4, ((w2.alloc (.cells #[oP o] 29)).alloc (.cells #[.slice none 0 0] 56)) = w4 := ⟨_, rfl⟩
  have e4 : (w2.alloc (.cells #[oP o] 29)).heap.size = w2.heap.size + 1 := by simp
  rw [hw4, e4] at s3
  rw [hw4]
  obtain ⟨ls0, rv0, dd0, hrv0, hdd0, t0⟩ : ∃ ls rv dd, rv = (.slice (some ⟨w2.heap.size, 0, none⟩) 1 1) ∧ dd = (.slice (some ⟨w2.heap.size + 1, 0, none⟩) 1 1) ∧ St W w4 g bad o col3 ls rv dd 0 :=
    ⟨[⟨o, 0, Ov.new, [], .slice none 0 0, fun k => w1.heap.size ≤ k ∧ k < w2.heap.size, fun _ => False, zo⟩], _, _, rfl, rfl, ⟨s3, fun a ha => by simp at ha; subst ha; exact ⟨rfl, fun x hx => (by cases hx), fun x hx => (by cases hx)⟩, by simp, by simp, rfl, by simp [lyP], by simp [lyN]⟩⟩
  obtain ⟨I, hI⟩ : ∃ I : (Nat → Value) → World → Prop, I = fun f u => ∃ col ls rv dd, f 9 = oP g ∧ f 10 = oP o ∧ f 12 = rv ∧ f 13 = dd ∧ St W u g bad o col ls rv dd 60 := ⟨_, rfl⟩
  refine v_meetL I ?_ ?_
  · refine v_loop (fun r f u => ∃ i col ls rv dd, r = L.length - i ∧ i ≤ L.length ∧ f 1 = v1 ∧ f 2 = .int .u16 num.val ∧ f 3 = .int .u32 off.val ∧ f 9 = oP g ∧ f 10 = oP o ∧ f 12 = rv ∧ f 13 = dd ∧ f 14 = .int .i64 (i : Nat) ∧ St W u g bad o col ls rv dd i) L.length
      ⟨0, col3, ls0, rv0, dd0, rfl, Nat.zero_le _, by simp, by simp, by simp, by simp, by simp, by simp [hrv0], by simp [hdd0], by simp, t0⟩ ?_
    clear hrv0 hdd0 e4
    clear t0 s3 hw4 s2 s1 s0 ho c2 w4 w2 b0 ca w1
    rintro J hJ _ f u ⟨i, col, ls, rv, dd, rfl, hi, f1, f2, f3, f9, f10, f12, f13, f14, hst⟩
    by_cases hlt : i < L.length
    case neg =>
      have hge : ¬ (i : Int) < L.length := by omega
      simp [go_sem, f14, f1, n1, hlt, hge]
      rw [hI]
      exact ⟨col, ls, rv, dd, by simp [f9], by simp [f10], by simp [f12], by simp [f13], ⟨hst.sb, hst.ok, hst.ne, hst.len, hst.bot, by have := hst.pot; omega, by have := hst.num; omega⟩⟩
    have hii : (i : Int) < L.length := by omega
    have hwi := S16.wi ((i : Int) + 1) (i + 1) (by omega) (by omega)
    obtain ⟨x, hx⟩ : ∃ x, L[i]? = some x := ⟨_, List.getElem?_eq_getElem hlt⟩
    have ok := ok1 x (List.mem_of_getElem? hx)
    obtain ⟨b, of', cp, C, T, fr, rfl, hb, hC, hsz, hex⟩ := lst_act h1 hx ok
    have hC' := hst.sb.ch.obj hC id
    cases ls with
    | nil => exact absurd rfl hst.ne
    | cons a r =>
    have hlen := hst.len
    simp only [List.length_cons] at hlen
    obtain ⟨hsb, hok, _, _, hbot, hpot, hnum⟩ := id hst
    obtain ⟨T, hT⟩ : ∃ T, r.length = T := ⟨_, rfl⟩
    obtain ⟨ro, hro⟩ : ∃ ro, (a :: r).reverse.map (fun a => oP a.o) = ro := ⟨_, rfl⟩
    obtain ⟨ds, hds⟩ : ∃ ds, (a :: r).reverse.map (fun a => a.v) = ds := ⟨_, rfl⟩
    have lro : ro.length = r.length + 1 := by rw [← hro]; exact top_len _ a r
    have lds : ds.length = r.length + 1 := by rw [← hds]; exact top_len _ a r
    have tro : ro[r.length]? = some (oP a.o) := by rw [← hro]; exact top_get _ a r
    have tds : ds[r.length]? = some a.v := by rw [← hds]; exact top_get _ a r
    rw [hro, hds] at hsb
    rw [hT] at lro lds tro tds hlen
    obtain ⟨g1, p1, cur1, hrv, hp1, hm1, hb1, _, hcr⟩ := ownS_blk hsb.row (by omega)
    obtain ⟨g2, p2, cur2, hdd, hp2, hm2, hb2, _, hcd⟩ := ownS_blk hsb.dds (by omega)
    rw [lro] at hrv hp1
    rw [lds] at hdd hp2
    subst hrv hdd
    have cr := hcr _ _ tro
    have hsx := acv_size ok
    have hs0 := acv_size (a := ⟨0, 0, 0, inz, 0, 0⟩) ⟨by decide, by decide, inz_ok⟩
    have hax := acv_all ok
    have hlx := acv_len ok
    have hl0 := acv_len (a := ⟨0, 0, 0, inz, 0, 0⟩) ⟨by decide, by decide, inz_ok⟩
    have wr1 := S16.wi (T : Int) T rfl (by omega)
    have hTT : (T : Int) < T + 1 := by omega
    have ba := hp_alloc u (.cells (acv x).toArray 43)
    have ca := (Ch.refl Nw u).alloc (.cells (acv x).toArray 43)
    have cr' := ca.cell cr id
    simp [go_sem, f14, f1, f12, n1, hii, hlt, hC', hsz, hex, VAl_big, hz_act, zc_act, acv_ones, hs0, hsx, hl0, hlx, hax, blit_whole, cr, cr', wr1, hTT]
    obtain ⟨q, hq⟩ : ∃ q, u.heap.size = q := ⟨_, rfl⟩
    rw [hq] at ba ⊢
    generalize u.alloc (.cells (acv x).toArray 43) = w1 at *
    have hq1 : q < w1.heap.size := lt_of_block ba
    have hdx : (dOf x).d = x.d := rfl
    have hbd : ∀ {w : World} {K : Value → World → Prop}, VBld Tryd.prog 47 [(0, .int .i64 x.d), (1, .int .u16 x.num.val), (2, .int .u32 x.off.val), (3, .agg (ino x.i)), (4, .string ⟨x.block.toArray⟩)] w K = K (.agg (dv (dOf x)).toArray) w := bld_dd (dOf x) ok.i
    have hz0 := dv_len (x := ⟨0, 0, 0, inz, []⟩) inz_ok
    have hz1 := dv_len (x := dOf x) ok.i
    have hz2 := dv_onesA (x := dOf x) ok.i
    have xd := ok.d
    have wxd := S16.wi (x.d : Int) x.d rfl (by omega)
    have hxi := acv_i ok
    have hsi := ino_size ok.i
    have act : ∀ {w : World} {S : Nat → Prop}, Ch S w1 w → ¬ S q → w.cell? ⟨q, 0, none⟩ = some (.int .u8 x.d) ∧ w.cell? ⟨q, 1, none⟩ = some (.int .u16 x.num.val) ∧ w.cell? ⟨q, 2, none⟩ = some (.int .u32 x.off.val) ∧ w.heap[q]? = some (.cells (acv x).toArray 43 (0, 0)) := fun hc hn => ⟨by rw [cell_blk (hc.obj ba hn)]; exact acv_0, by rw [cell_blk (hc.obj ba hn)]; exact acv_1, by rw [cell_blk (hc.obj ba hn)]; exact acv_2, hc.obj ba hn⟩
    obtain ⟨I1, hI1⟩ : ∃ I1 : (Nat → Value) → World → Prop, I1 = fun f u => ∃ e, Fq (.slice (some ⟨b, of', none⟩) L.length cp) num off g o (.slice (some ⟨g1, 0, none⟩) (T + 1) p1) (.slice (some ⟨g2, 0, none⟩) (T + 1) p2) i q T a.o f ∧ f 18 = .pointer (some ⟨e, 0, none⟩) ∧ u.heap[e]? = some (.cells (dv (dOf x)).toArray 47 (0, 0)) ∧ q < e ∧ Ch Nw w1 u := ⟨_, rfl⟩
    refine v_join I1 [[(0, none), (1, none), (2, none), (3, none), (4, none), (5, none), (6, none), (7, none), (8, none), (9, none), (10, some [0, 1, 2, 3, 4, 5, 6, 7, 8]), (11, none), (12, none), (13, some [0, 1, 2, 3, 4, 5, 6, 7, 8, 11, 12]), (14, some [])],
      [(0, none), (1, none), (2, none), (3, none), (4, none), (5, none), (6, none), (7, none), (8, none), (9, none), (13, some [0, 1, 2, 3, 4, 5, 6, 7, 8, 9]), (10, some [0, 1, 2, 3, 4, 5, 6, 7, 8]), (11, none), (12, none), (14, some [])]] (by kernel_rfl) (by kernel_rfl) ?_ ?_
    · intro plan hp
      simp only [List.mem_cons, List.not_mem_nil, or_false] at hp
      rcases hp with rfl | rfl
      · obtain ⟨x0, x1, x2, xb⟩ := act (Ch.refl Nw w1).drew id
        simp [go_sem, x0, x1, x2, xb, ba, hsx, hlx, hax, hxi, wxd]
        refine (block_any x ok w1.drew).mono ?_
        intro v3 w3 m3
        have c3 := Ch.of_drew m3.ch
        obtain ⟨x0, x1, x2, xb⟩ := act c3 id
        have hst := m3.sl.str (P := Tryd.prog) rfl Tryd.underlying44 Tryd.underlying5 Tryd.underlying9
        have c34 := (Ch.refl Nw w3).alloc (.cells (dv ⟨0, 0, 0, inz, []⟩).toArray 47)
        obtain ⟨y0, y1, y2, yb⟩ := act (c3.trans c34) id
        have hst' := (m3.sl.ch c34 fun _ _ e => e).str (P := Tryd.prog) rfl Tryd.underlying44 Tryd.underlying5 Tryd.underlying9
        have hq3 := c3.size
        have hq3' : q < w3.heap.size := by omega
        have bw := hp_alloc w3 (.cells (dv (dOf x)).toArray 47)
        have cw := (Ch.refl Nw w3).alloc (.cells (dv (dOf x)).toArray 47)
        simp [go_sem, x0, x1, x2, xb, y0, y1, y2, yb, hsx, hlx, hax, hxi, wxd, hst, hst', hbd, VAl_big, hz_dd, zc_dd, hz0, hz1, hz2, blit_whole]
        rw [hI1]
        exact ⟨w3.heap.size, ⟨by simp [f1], by simp [f2], by simp [f3], by simp [f9], by simp [f10], by simp [f12], by simp [f13], by simp [f14], by simp, by simp, by simp⟩, by simp, bw, by omega, c3.trans cw⟩
      · obtain ⟨x0, x1, x2, xb⟩ := act (Ch.refl Nw w1).drew id
        have c34 := (Ch.refl Nw w1).alloc (.cells (dv ⟨0, 0, 0, inz, []⟩).toArray 47)
        obtain ⟨y0, y1, y2, yb⟩ := act c34 id
        have bz := hp_alloc w1 (.cells (dv ⟨0, 0, 0, inz, []⟩).toArray 47)
        simp [go_sem, x0, x1, x2, xb, ba, hsx, hlx, hax, hxi, wxd, VAl_big, hz_dd, zc_dd, hz0, hz1, hz2, y0, y1, y2, yb]
        obtain ⟨e, he⟩ : ∃ e, w1.heap.size = e := ⟨_, rfl⟩
        rw [he] at bz hq1 ⊢
        generalize w1.alloc (.cells (dv ⟨0, 0, 0, inz, []⟩).toArray 47) = w2 at *
        refine (block_any x ok w2.drew).mono ?_
        intro v3 w3 m3
        have c3 := Ch.of_drew m3.ch
        obtain ⟨x0, x1, x2, xb⟩ := act (c34.trans c3) id
        have bz3 := c3.obj bz id
        have hst := m3.sl.str (P := Tryd.prog) rfl Tryd.underlying44 Tryd.underlying5 Tryd.underlying9
        simp [go_sem, x0, x1, x2, xb, bz3, hsx, hlx, hax, hxi, wxd, hst, hbd, hz0, hz1, hz2, blit_whole]
        rw [hI1]
        exact ⟨e, ⟨by simp [f1], by simp [f2], by simp [f3], by simp [f9], by simp [f10], by simp [f12], by simp [f13], by simp [f14], by simp, by simp, by simp⟩, by simp, by simp [bz3], by omega, (c34.trans c3).setRow (.inr (by omega)) _⟩
    rw [hI1]
    clear hI1 I1 f1 f2 f3 f9 f10 f12 f13 f14 f act hbd
    rintro f u2 ⟨e, fq, f18, be, hqe, c2⟩
    have cu2 := ca.trans c2
    have sb2 := hsb.nw cu2
    have ba2 := c2.obj ba id
    have hsu2 := cu2.size
    have bx0 : ∀ {w : World}, w.heap[q]? = some (.cells (acv x).toArray 43 (0, 0)) → w.cell? ⟨q, 0, none⟩ = some (.int .u8 x.d) ∧ w.cell? ⟨q, 1, none⟩ = some (.int .u16 x.num.val) ∧ w.cell? ⟨q, 2, none⟩ = some (.int .u32 x.off.val) := fun hb => ⟨by rw [cell_blk hb]; exact acv_0, by rw [cell_blk hb]; exact acv_1, by rw [cell_blk hb]; exact acv_2⟩
    obtain ⟨x0, x1, x2⟩ := bx0 ba2
    have hz2 := dv_ones (x := dOf x) ok.i
    -- where the acts meet
    obtain ⟨I2, hI2⟩ : ∃ I2 : (Nat → Value) → World → Prop, I2 = fun f u => ∃ col' ls' rv' dd' er, f 1 = .slice (some ⟨b, of', none⟩) L.length cp ∧ f 2 = .int .u16 num.val ∧ f 3 = .int .u32 off.val ∧ f 9 = oP g ∧ f 10 = oP o ∧ f 12 = rv' ∧ f 13 = dd' ∧ f 14 = .int .i64 i ∧ f 15 = .pointer (some ⟨q, 0, none⟩) ∧ f 16 = .int .i64 T ∧ f 18 = .pointer (some ⟨e, 0, none⟩) ∧ f 19 = .int .i64 er ∧ f 20 = .int .i64 er ∧
      u.heap[q]? = some (.cells (acv x).toArray 43 (0, 0)) ∧ u.heap[e]? = some (.cells (dv (dOf x)).toArray 47 (0, 0)) ∧
      ((x.d < 3 ∧ (∃ D' Y', ls' = { a with n := a.n + 1, D := D', Y := Y' } :: r ∧ (if (dOf x).good then er = 0 ∧ D' = ovD (a.l ++ [dOf x]) else er = 1 ∧ D' = a.D)) ∧ rv' = .slice (some ⟨g1, 0, none⟩) (T + 1) p1 ∧ dd' = .slice (some ⟨g2, 0, none⟩) (T + 1) p2 ∧ Sb W u g bad col' ls' rv' ro dd' ds) ∨ (3 ≤ x.d ∧ St W u g bad o col' ls' rv' dd' (i + 1))) := ⟨_, rfl⟩
    simp [go_sem, fq.f15, x0]
    refine v_meetB I2 ?_ ?_
    · have hda := dv_all (x := dOf x) ok.i
      have pot1 : a.n ≤ 64 * i := Nat.le_trans (lyP_mem (ls := a :: r) (by simp)) hpot
      have aX : ∀ k, a.X k → k < u.heap.size := fun k hk => hsb.lay.1.ov.lt k (.inl hk)
      obtain ⟨hD, hdo, hio⟩ := hok a (by simp)
      by_cases e0 : x.d = 0
      · have nd : (dOf x).d = 0 := e0
        simp [go_sem, e0]
        refine v_draw' [(0, none), (1, none), (2, none), (3, none), (4, none), (7, none), (5, some [0, 1, 2, 7]), (6, some [7]), (8, some []), (9, none), (10, none)] (by kernel_rfl) (by kernel_rfl) ?_
        obtain ⟨y0, y1, y2⟩ := bx0 ((Ch.refl Nw u2).drew.obj ba2 id)
        simp [go_sem, fq.f15, fq.f17, f18, x1, y1, ba2, be, hsx, hlx, hxi, hz1, hda]
        refine (of_any x.i ok.i u2.drew).mono ?_
        rintro _ w3 ⟨rfl, c3⟩
        have c3 := Ch.of_drew c3
        have sb3 := sb2.nw c3
        obtain ⟨y0, y1, y2⟩ := bx0 (c3.obj ba2 id)
        have be3 := c3.obj be id
        simp [go_sem, fq.f15, fq.f17, f18, y1, be3, hz1, hda]
        have hse := seti_any sb3.lay.1.ov x.num x.i ok.i (hw.ch sb3.ch id) (by omega)
        rw [show x.num = (dOf x).num from rfl, show x.i = (dOf x).i from rfl, ← good0 nd, step0 _ nd] at hse
        refine hse.mono ?_
        rintro _ w4 ⟨rfl, h4, c4⟩
        obtain ⟨col4, sb4, _⟩ := sb3.top c4 h4 fun k hk => .inl hk
        have be4 := c4.obj be3 fun hk => by have := aX e hk; omega
        have ba4 := c4.obj (c3.obj ba2 id) fun hk => by have := aX q hk; omega
        simp [go_sem, fq.f15, fq.f17, f18, be4, hz1, hda]
        refine (good_any (dOf x) ok.i w4).mono ?_
        rintro _ w5 ⟨rfl, c5⟩
        simp [go_sem]
        rw [hI2]
        exact ⟨col4, _, _, _, _, by simp [fq.f1], by simp [fq.f2], by simp [fq.f3], by simp [fq.f9], by simp [fq.f10], by simp [fq.f12], by simp [fq.f13], by simp [fq.f14], by simp [fq.f15], by simp [fq.f16], by simp [f18], by simp, by simp, c5.obj ba4 id, c5.obj be4 id, .inl ⟨by omega, ⟨_, _, rfl, step_says hD (by omega)⟩, rfl, rfl, sb4.nw c5⟩⟩
      have n0 : ¬ (x.d : Int) = 0 := by omega
      have n0' : ((x.d : Int) == 0) = false := beq_false_of_ne n0
      by_cases e1 : x.d = 1
      · have nd : (dOf x).d = 1 := e1
        simp [go_sem, e1, fq.f15, ba2, hsx, hlx, hax]
        refine (block_any x ok u2).mono ?_
        intro v3 w3 m3
        have c3 := m3.ch
        have sb3 := (sb2.mark c3 1000).nw (Ch.refl Nw w3).drew
        have hf3 : ∀ k, v3.ownBlock = some k → recol u2 col 1000 k = 1000 := fun k hk => recol_ge (m3.fresh k hk)
        have hl3 := own_blt m3.own
        simp [go_sem]
        refine v_draw' [(0, none), (1, none), (2, none), (3, none), (4, none), (5, none), (7, none), (6, some [7]), (8, some []), (9, none), (10, none)] (by kernel_rfl) (by kernel_rfl) ?_
        have ba3 := c3.obj ba2 id
        have be3 := c3.obj be id
        obtain ⟨y0, y1, y2⟩ := bx0 ((Ch.refl Nw w3).drew.obj ba3 id)
        simp [go_sem, fq.f15, fq.f17, f18, y1, y2, be3, hz1, hda]
        have hbl : x.block.length ≤ 600 := by rw [block_len]; omega
        have hse := setl_any sb3.lay.1.ov x.num x.off x.block v3 (m3.sl.ch (Ch.refl Nw w3).drew fun _ _ e => e) (by omega) (by omega)
        rw [show x.num = (dOf x).num from rfl, show x.off = (dOf x).off from rfl, show x.block = (dOf x).b from rfl, ← good1 nd, step1 _ nd] at hse
        refine hse.mono ?_
        rintro _ w4 ⟨rfl, h4, c4⟩
        obtain ⟨col4, sb4, hc4⟩ := sb3.top c4 h4 fun k hk => hk.imp id fun e => e.1
        have s3d : w3.drew.heap.size = w3.heap.size := rfl
        have s23 := c3.size
        have be4 := c4.obj ((Ch.refl Nw w3).drew.obj be3 id) fun hk => by have := aX e hk; omega
        have ba4 := c4.obj ((Ch.refl Nw w3).drew.obj ba3 id) fun hk => by have := aX q hk; omega
        have v3X : ∀ k, v3.ownBlock = some k → ¬ a.X k := fun k hk e => by have := aX k e; have := m3.fresh k hk; omega
        have o4 := own_ch (own_ch m3.own (Ch.refl Nw w3).drew fun _ _ e => e) c4 v3X
        simp [go_sem, fq.f15, fq.f17, f18, be4, hz1, hda]
        refine (good_any (dOf x) ok.i w4).mono ?_
        rintro _ w5 ⟨rfl, c5⟩
        have sb5 := sb4.nw c5
        have ba5 := c5.obj ba4 id
        have be5 := c5.obj be4 id
        have o5 := own_ch o4 c5 fun _ _ e => e
        have hv5 : ∀ k, v3.ownBlock = some k → col4 k = 1000 := fun k hk => by rw [hc4 k (hl3 k hk)]; exact hf3 k hk
        have hvq : ∀ k, v3.ownBlock = some k → k ≠ q ∧ k ≠ e := fun k hk => by
          have := m3.fresh k hk
          have := lt_of_block be
          omega
        obtain ⟨er, her⟩ : ∃ er : Int, (if (dOf x).good then 0 else 1 : Int) = er := ⟨_, rfl⟩
        have hsay := step_says hD (x := dOf x) (by omega)
        rw [her] at hsay ⊢
        have hlen3 := fun w => own_lenO m3.own Tryd.underlying44 3 w
        simp [go_sem]
        refine v_loop (fun t f u => ∃ k, ∃ xs : List Value, t = x.block.length - k ∧ k ≤ x.block.length ∧ Fq (.slice (some ⟨b, of', none⟩) L.length cp) num off g o (.slice (some ⟨g1, 0, none⟩) (T + 1) p1) (.slice (some ⟨g2, 0, none⟩) (T + 1) p2) i q T a.o f ∧ f 18 = .pointer (some ⟨e, 0, none⟩) ∧ f 19 = .int .i64 er ∧ f 20 = .int .i64 er ∧ f 21 = v3 ∧ f 22 = .int .i64 (k : Nat) ∧ u.ownsRow 0 5 1 v3 x.block.length xs ∧ Ch (fun k => v3.ownBlock = some k) w5 u) x.block.length
          ⟨0, bvs x.block, rfl, Nat.zero_le _, ⟨by simp [fq.f1], by simp [fq.f2], by simp [fq.f3], by simp [fq.f9], by simp [fq.f10], by simp [fq.f12], by simp [fq.f13], by simp [fq.f14], by simp [fq.f15], by simp [fq.f16], by simp [fq.f17]⟩, by simp [f18], by simp, by simp, by simp, by simp, o5, Ch.refl _ _⟩ ?_
        clear fq f18 f sb4 be4 ba4 o4
        rintro J2 hJ2 _ f u5 ⟨k, xs, rfl, hk, fq, f18, f19, f20, f21, f22, ho, cu⟩
        by_cases hkl : k < x.block.length
        · have hkl' : (k : Int) < x.block.length := by omega
          have hwk := S16.wi ((k : Int) + 1) (k + 1) (by omega) (by omega)
          obtain ⟨g3, cg, curg, hg3, hn, hm, hbg, hsz3, hrg⟩ := ownS_blk ho (by omega)
          have hcell := hrg k _ (List.getElem?_eq_getElem (l := xs) (i := k) (by have := ho.1; omega))
          have fzg := frz_blk hbg k
          subst hg3
          have cset : Ch (fun k => (Value.slice (some ⟨g3, 0, none⟩) x.block.length cg).ownBlock = some k) u5 (u5.setCell ⟨g3, k, none⟩ (.int .u8 99)) := ((Ch.refl (Kin.one g3) u5).setCell (p := ⟨g3, k, none⟩) (.inl rfl) _).mono fun k _ e => by simp only [Kin.one] at e; subst e; rfl
          have o7 := own_setH ho k (.int .u8 99)
          simp [go_sem, f21, f22, hlen3, hkl, hkl', hcell, fzg, hwk]
          exact Rnd.intro (x.block.length - (k + 1)) (by omega) (hJ2 _ _ _ ⟨k + 1, _, rfl, by omega, ⟨by simp [fq.f1], by simp [fq.f2], by simp [fq.f3], by simp [fq.f9], by simp [fq.f10], by simp [fq.f12], by simp [fq.f13], by simp [fq.f14], by simp [fq.f15], by simp [fq.f16], by simp [fq.f17]⟩, by simp [f18], by simp [f19], by simp [f20], by simp [f21], by simp, o7, cu.trans cset⟩)
        · have hkl' : ¬ (k : Int) < x.block.length := by omega
          simp [go_sem, f21, f22, hlen3, hkl, hkl']
          rw [hI2]
          exact ⟨col4, _, _, _, er, by simp [fq.f1], by simp [fq.f2], by simp [fq.f3], by simp [fq.f9], by simp [fq.f10], by simp [fq.f12], by simp [fq.f13], by simp [fq.f14], by simp [fq.f15], by simp [fq.f16], by simp [f18], by simp [f19], by simp [f20], cu.obj ba5 fun e => (hvq q e).1 rfl, cu.obj be5 fun h => (hvq e h).2 rfl, .inl ⟨by omega, ⟨_, _, rfl, hsay⟩, rfl, rfl, sb5.chg cu fun k _ e => by have := hv5 k e; simp only [List.length_cons]; omega⟩⟩
      have n1 : ¬ (x.d : Int) = 1 := by omega
      have n1' : ((x.d : Int) == 1) = false := beq_false_of_ne n1
      by_cases e2 : x.d = 2
      · have nd : (dOf x).d = 2 := e2
        simp [go_sem, e2]
        refine v_draw' [(0, none), (1, none), (2, none), (4, none), (3, some [4]), (5, some []), (6, none), (7, none)] (by kernel_rfl) (by kernel_rfl) ?_
        obtain ⟨y0, y1, y2⟩ := bx0 ((Ch.refl Nw u2).drew.obj ba2 id)
        simp [go_sem, fq.f15, fq.f17, f18, x1, y1, be, hz1, hda]
        have sb3 := sb2.nw (Ch.refl Nw u2).drew
        have hse := wipe_any sb3.lay.1.ov x.num (by omega)
        rw [show x.num = (dOf x).num from rfl, ← good2 nd, step2 _ nd] at hse
        refine hse.mono ?_
        rintro _ w4 ⟨rfl, h4, c4⟩
        obtain ⟨col4, sb4, _⟩ := sb3.top c4 h4 fun k hk => .inl hk
        have be4 := c4.obj ((Ch.refl Nw u2).drew.obj be id) fun hk => by have := aX e hk; omega
        have ba4 := c4.obj ((Ch.refl Nw u2).drew.obj ba2 id) fun hk => by have := aX q hk; omega
        simp [go_sem, fq.f15, fq.f17, f18, be4, hz1, hda]
        refine (good_any (dOf x) ok.i w4).mono ?_
        rintro _ w5 ⟨rfl, c5⟩
        simp [go_sem]
        rw [hI2]
        exact ⟨col4, _, _, _, _, by simp [fq.f1], by simp [fq.f2], by simp [fq.f3], by simp [fq.f9], by simp [fq.f10], by simp [fq.f12], by simp [fq.f13], by simp [fq.f14], by simp [fq.f15], by simp [fq.f16], by simp [f18], by simp, by simp, c5.obj ba4 id, c5.obj be4 id, .inl ⟨by omega, ⟨_, _, rfl, step_says hD (by omega)⟩, rfl, rfl, sb4.nw c5⟩⟩
      have n2 : ¬ (x.d : Int) = 2 := by omega
      have n2' : ((x.d : Int) == 2) = false := beq_false_of_ne n2
      have stI : ∀ {w : World} {col' : Nat → Nat}, Sb W w g bad col' (a :: r) (.slice (some ⟨g1, 0, none⟩) (T + 1) p1) ro (.slice (some ⟨g2, 0, none⟩) (T + 1) p2) ds → St W w g bad o col' (a :: r) (.slice (some ⟨g1, 0, none⟩) (T + 1) p1) (.slice (some ⟨g2, 0, none⟩) (T + 1) p2) (i + 1) := fun hs => ⟨by rw [hro, hds]; exact hs, hok, by simp, by simp only [List.length_cons]; omega, hbot, by omega, by omega⟩
      by_cases e3 : x.d = 3
      · by_cases hT6 : T < 6
        · have hT6' : (T : Int) < 6 := by omega
          simp [go_sem, e3, fq.f16, fq.f17, hT6, hT6']
          refine (begin_any a.o u2).mono ?_
          rintro _ w3 ⟨t, zt, rfl, ht, c3⟩
          obtain ⟨col3, sb3⟩ := sb2.beg (r := a :: r) ht c3
          have hr3 := sb3.row
          rw [lro] at hr3
          simp [go_sem, fq.f12]
          refine VB_app1 tyOv hr3 rfl (by unfold maxLen; omega) (by omega) fun rv' w4 k1 k2 k3 => ?_
          obtain ⟨col4, sb4⟩ := sb3.rapp (v' := rv') (ro' := ro ++ [oP t]) k2 (by rw [List.length_append, lro]; exact k1) k3
          have hd4 := sb4.dds
          rw [lds] at hd4
          simp [go_sem, fq.f13]
          refine VB_app1 tyDs hd4 rfl (by unfold maxLen; omega) (by omega) fun dd' w5 k4 k5 k6 => ?_
          obtain ⟨col5, sb5⟩ := sb4.dapp (v' := dd') (ds' := ds ++ [.slice none 0 0]) k5 (by rw [List.length_append, lds]; exact k4) k6
          simp [go_sem, fq.f14, hwi]
          refine Rnd.intro (L.length - (i + 1)) (by omega) (hJ _ _ _ ⟨i + 1, col5, ⟨t, 0, Ov.new, [], .slice none 0 0, fun k => u2.heap.size ≤ k ∧ k < w3.heap.size, fun _ => False, zt⟩ :: a :: r, rv', dd', rfl, by omega, by simp [fq.f1], by simp [fq.f2], by simp [fq.f3], by simp [fq.f9], by simp [fq.f10], by simp, by simp, by simp, ⟨?_, fun y hy => ?_, by simp, by simp only [List.length_cons]; omega, ?_, ?_, ?_⟩⟩)
          · rw [List.reverse_cons, List.map_append, List.map_append, hro, hds]
            exact sb5
          · rcases List.mem_cons.1 hy with rfl | hy
            · exact ⟨rfl, fun x hx => (by cases hx), fun x hx => (by cases hx)⟩
            · exact hok y hy
          · rw [List.getLast?_cons_cons]
            exact hbot
          · show 0 * _ + lyP (a :: r) ≤ _
            omega
          · show 0 + lyN (a :: r) ≤ _
            omega
        · have hT6' : ¬ (T : Int) < 6 := by omega
          simp [go_sem, e3, fq.f16, hT6, hT6', fq.f14, hwi]
          exact Rnd.intro (L.length - (i + 1)) (by omega) (hJ _ _ _ ⟨i + 1, _, _, _, _, rfl, by omega, by simp [fq.f1], by simp [fq.f2], by simp [fq.f3], by simp [fq.f9], by simp [fq.f10], by simp [fq.f12], by simp [fq.f13], by simp, stI sb2⟩)
      have n3 : ¬ (x.d : Int) = 3 := by omega
      have n3' : ((x.d : Int) == 3) = false := beq_false_of_ne n3
      have d3 : 3 ≤ x.d := by omega
      by_cases hT0 : 0 < T
      case neg =>
        have hT0' : ¬ (0 : Int) < T := by omega
        by_cases e4 : x.d = 4
        · simp [go_sem, e4, fq.f16, hT0, hT0']
          rw [hI2]
          exact ⟨_, _, _, _, 0, by simp [fq.f1], by simp [fq.f2], by simp [fq.f3], by simp [fq.f9], by simp [fq.f10], by simp [fq.f12], by simp [fq.f13], by simp [fq.f14], by simp [fq.f15], by simp [fq.f16], by simp [f18], by simp, by simp, ba2, be, .inr ⟨d3, stI sb2⟩⟩
        · have n4 : ¬ (x.d : Int) = 4 := by omega
          have n4' : ((x.d : Int) == 4) = false := beq_false_of_ne n4
          simp [go_sem, e0, n0, n0', e1, n1, n1', e2, n2, n2', e3, n3, n3', e4, n4, n4', fq.f16, hT0, hT0']
          rw [hI2]
          exact ⟨_, _, _, _, 0, by simp [fq.f1], by simp [fq.f2], by simp [fq.f3], by simp [fq.f9], by simp [fq.f10], by simp [fq.f12], by simp [fq.f13], by simp [fq.f14], by simp [fq.f15], by simp [fq.f16], by simp [f18], by simp, by simp, ba2, be, .inr ⟨d3, stI sb2⟩⟩
      have hT0' : (0 : Int) < T := by omega
      cases r with
      | nil => simp at hT; omega
      | cons c r =>
      have hT1 : r.length + 1 = T := by simpa using hT
      have wT1 := S16.wi ((T : Int) - 1) (T - 1) (by omega) (by omega)
      have cut1 := run_cut tyOv (g := g1) (n := T + 1) (m := T) (cap := p1) (by omega) hp1
      have cut2 := run_cut tyDs (g := g2) (n := T + 1) (m := T) (cap := p2) (by omega) hp2
      have ero : ro.take T = (c :: r).reverse.map (fun a => oP a.o) := by
        rw [← hro, List.reverse_cons, List.map_append, List.take_left' (by simp [hT1])]
      have eds : ds.take T = (c :: r).reverse.map (fun a => a.v) := by
        rw [← hds, List.reverse_cons, List.map_append, List.take_left' (by simp [hT1])]
      by_cases e4 : x.d = 4
      · obtain ⟨T1, hT1e⟩ : ∃ T1, T = T1 + 1 := ⟨r.length, hT1.symm⟩
        have hrT : r.length = T1 := by omega
        have wT1 := S16.wi ((T : Int) - 1) T1 (by omega) (by omega)
        have hTb : (T1 : Int) < (T : Int) + 1 := by omega
        have tro1 : ro[T1]? = some (oP c.o) := by
          have := top_get (fun a => oP a.o) c r
          rw [← ero, List.getElem?_take, if_pos (by omega), hrT] at this
          exact this
        have tds1 : ds[T1]? = some c.v := by
          have := top_get (fun a => a.v) c r
          rw [← eds, List.getElem?_take, if_pos (by omega), hrT] at this
          exact this
        obtain ⟨hcD, hcd, hci⟩ := hok c (by simp)
        have lp : lyP (a :: c :: r) = a.n * 2 ^ (r.length + 1) + (c.n * 2 ^ r.length + lyP r) := rfl
        have ln : lyN (a :: c :: r) = a.l.length + (c.l.length + lyN r) := rfl
        have pot2 : c.n ≤ 64 * i := Nat.le_trans (lyP_mem (ls := a :: c :: r) (by simp)) hpot
        have r2 := own_cellO sb2.row tro1
        have hend := end_any sb2.lay.2.1.ov sb2.lay.1.ov (fun k hk e => by have := sb2.lay.2.1.cx k (.inl hk); have := sb2.lay.1.cx k (.inl e); simp only [List.length_cons] at *; omega) (fun k hk e => by have := sb2.lay.2.1.cx k (.inl e); have := sb2.lay.1.cx k (.inr hk); simp only [List.length_cons] at *; omega) (fun k hk e => by have := sb2.lay.2.1.cx k (.inr hk); have := sb2.lay.1.cx k (.inl e); simp only [List.length_cons] at *; omega) (by omega)
        simp [go_sem, e4, fq.f12, fq.f16, fq.f17, hT0, hT0', wT1, hTb, r2]
        refine hend.mono ?_
        rintro _ w3 ⟨rfl, h3, h3t, c3⟩
        obtain ⟨col3, sb3, tX, tv, tvc⟩ := sb2.fin c3 h3
        have hse := seti_any h3t (0 : Num) inz inz_ok (hw.ch sb3.ch id) (by omega)
        rw [show (((0 : Num).val : Nat) : Int) = 0 from rfl, show (okN (0 : Num) 0 && mayI inz) = false from rfl, if_neg (by decide)] at hse
        simp [go_sem, fq.f17, bld_ino0]
        refine hse.mono ?_
        rintro _ w4 ⟨rfl, h4t, c4⟩
        have sb4 := sb3.chg c4 fun k _ hk => by have := tX k hk; simp only [List.length_cons]; omega
        have tv4 := own_ch tv c4 fun k hk e => by have := tX k e; have := tvc k hk; omega
        have r4 := own_cellO sb4.row tro1
        simp [go_sem, fq.f12, fq.f16, fq.f17, wT1, hTb, r4]
        refine (endNil_any c.o a.o h4t).mono ?_
        rintro _ w5 ⟨rfl, hw5⟩
        subst w5
        have aO := aX _ (sb2.lay.1.ov.x _ (.inl rfl))
        have cX : ∀ k, c.X k → k < u.heap.size := fun k hk => hsb.lay.2.1.ov.lt k (.inl hk)
        have ba4 := c4.obj (c3.obj ba2 fun hk => by rcases hk with hk | hk; (have := cX q hk; omega); omega) fun hk => by have := aX q hk; omega
        have be4 := c4.obj (c3.obj be fun hk => by rcases hk with hk | hk; (have := cX e hk; omega); omega) fun hk => by have := aX e hk; omega
        have sb5 := sb4.nw (Ch.refl Nw w4).drew
        have tv5 := own_ch tv4 (Ch.refl Nw w4).drew fun _ _ e => e
        have d1 := own_cellO sb5.dds tds1
        have d2 := own_cellO sb5.dds tds
        have e1 := own_cellO sb4.dds tds1
        have e2' := own_cellO sb4.dds tds
        simp [go_sem]
        refine v_draw' [(0, none), (1, none), (2, none), (3, none), (4, none), (5, none), (6, none), (7, none), (9, none), (10, none), (11, none), (12, none), (8, some [0, 1, 2, 9, 10, 11, 12]), (13, some [0, 1, 2]), (14, none), (15, some [])] (by kernel_rfl) (by kernel_rfl) ?_
        simp [go_sem, fq.f13, fq.f16, wT1, hTb, hTT, d1, d2, e1, e2']
        refine VB_appO (m := c.l.length) (news := c.l.flatMap dv) tyDd (World.ownsRow_nil _ _ _ _) sb5.lay.1.own (dds_ones hci) (by unfold maxLen; omega) (by omega) fun v5 w6 k1 k2 k3 => ?_
        have k2' : Ch Nw w4.drew w6 := k2.mono fun k _ e => by simp [Value.ownBlock] at e
        have f5 : Fresh w4.drew.heap.size v5 := by
          rcases k3 with k3 | k3
          · intro k hk
            rw [k3] at hk
            simp [Value.ownBlock] at hk
          · exact k3
        have tv6 := own_ch tv5 k2' fun _ _ e => e
        have sb6 := sb5.nw k2'
        have d1 := own_cellO sb6.dds tds1
        have d2 := own_cellO sb6.dds tds
        simp [go_sem, fq.f13, fq.f16, wT1, hTb, hTT, d1, d2]
        refine VB_appO tyDd k1 tv6 (dds_ones hio) (by unfold maxLen; omega) (by omega) fun v7 w7 k4 k5 k6 => ?_
        obtain ⟨A7, n7, c7, hv7⟩ := own_slice k4
        subst hv7
        have c57 : Ch Nw w4.drew w7 := k2'.trans' k5 fun k hk e => by have := f5 k e; omega
        have f7 : Fresh w4.drew.heap.size (.slice A7 n7 c7) := by
          rcases k6 with k6 | k6
          · intro k hk
            rw [k6] at hk
            exact f5 k hk
          · exact k6.mono k2'.size
        obtain ⟨col7, sb7⟩ := sb5.dput (l' := c.l ++ a.l) (v' := .slice A7 n7 c7) (c57.mono fun _ _ e => e.elim) (by rw [List.flatMap_append, List.length_append]; simpa using k4) (.inr f7)
        have d1 := own_cellO sb7.dds tds1
        have fz := own_frz T1 sb7.dds
        have sb8 := sb7.dset lds.symm T1 (.slice A7 n7 c7)
        have ba7 := c57.obj ((Ch.refl Nw w4).drew.obj ba4 id) id
        have be7 := c57.obj ((Ch.refl Nw w4).drew.obj be4 id) id
        have g2c : col7 g2 = 2 := sb7.dc g2 rfl
        have g2q : ¬ q = g2 := fun e => by
          subst e
          have := own_blt hsb.dds q rfl
          omega
        have g2e : ¬ e = g2 := fun h => by
          subst h
          have := own_blt hsb.dds e rfl
          omega
        have ba8 : (w7.setCell ⟨g2, T1, none⟩ (.slice A7 n7 c7)).heap[q]? = _ := ((Ch.refl (Kin.one g2) w7).setCell (p := ⟨g2, T1, none⟩) (.inl rfl) (.slice A7 n7 c7)).obj ba7 g2q
        have be8 : (w7.setCell ⟨g2, T1, none⟩ (.slice A7 n7 c7)).heap[e]? = _ := ((Ch.refl (Kin.one g2) w7).setCell (p := ⟨g2, T1, none⟩) (.inl rfl) (.slice A7 n7 c7)).obj be7 g2e
        simp [go_sem, fq.f13, fq.f16, wT1, hTb, hTT, d1, fz]
        have sb9 := (sb8.cut lro (by rw [List.length_set]; exact lds) (m := T) (by omega)).nw (Ch.refl Nw _).drew
        have eds2 : (ds.set T1 (.slice A7 n7 c7)).take T = r.reverse.map (fun a => a.v) ++ [.slice A7 n7 c7] := by
          rw [List.take_set, eds, ← hrT, set_top]
        rw [ero, eds2] at sb9
        refine v_draw' [(0, none), (1, none), (2, none), (3, none), (4, none), (5, none), (6, none), (7, none)] (by kernel_rfl) (by kernel_rfl) ?_
        simp [go_sem, fq.f12, fq.f13, fq.f16, cut1, cut2]
        rw [hI2]
        refine ⟨col7, { c with n := c.n + a.n + a.n, D := c.D.merge a.D, Y := fun k => c.Y k ∨ a.Y k, l := c.l ++ a.l, v := .slice A7 n7 c7 } :: r, .slice (some ⟨g1, 0, none⟩) T p1, .slice (some ⟨g2, 0, none⟩) T p2, 0, by simp [fq.f1], by simp [fq.f2], by simp [fq.f3], by simp [fq.f9], by simp [fq.f10], by simp, by simp, by simp [fq.f14], by simp [fq.f15], by simp [fq.f16], by simp [f18], by simp, by simp, (Ch.refl Nw _).drew.obj ba8 id, (Ch.refl Nw _).drew.obj be8 id, .inr ⟨d3, ⟨?_, ?_, ?_, ?_, ?_, ?_, ?_⟩⟩⟩
        · rw [List.reverse_cons, List.map_append, List.map_append]
          rw [List.reverse_cons, List.map_append] at sb9
          exact sb9
        · intro y hy
          rcases List.mem_cons.1 hy with rfl | hy
          · refine ⟨?_, fun x hx => (List.mem_append.1 hx).elim (hcd x) (hdo x), fun x hx => (List.mem_append.1 hx).elim (hci x) (hio x)⟩
            show c.D.merge a.D = ovD (c.l ++ a.l)
            rw [ovD_two _ _ hdo, hcD, hD]
          · exact hok y (by simp [hy])
        · simp
        · simp only [List.length_cons] at *
          omega
        · have hb2 : (c :: r).getLast?.map (fun a => a.o) = some o := by rw [← hbot, List.getLast?_cons_cons]
          refine Eq.trans ?_ hb2
          exact bot_eq rfl
        · show (c.n + a.n + a.n) * 2 ^ r.length + lyP r ≤ _
          rw [lp, Nat.pow_succ] at hpot
          exact pot_end hpot
        · show (c.l ++ a.l).length + lyN r ≤ _
          rw [List.length_append]
          omega
      · have n4 : ¬ (x.d : Int) = 4 := by omega
        have n4' : ((x.d : Int) == 4) = false := beq_false_of_ne n4
        simp [go_sem, e0, n0, n0', e1, n1, n1', e2, n2, n2', e3, n3, n3', e4, n4, n4', fq.f16, hT0, hT0']
        refine v_draw' [(0, none), (1, none), (2, none), (3, none), (4, none), (5, none), (6, none), (7, none)] (by kernel_rfl) (by kernel_rfl) ?_
        simp [go_sem, fq.f12, fq.f13, fq.f16, cut1, cut2]
        rw [hI2]
        have sb5 := (sb2.pop.cut lro lds (m := T) (by omega)).nw (Ch.refl Nw u2).drew
        rw [ero, eds] at sb5
        exact ⟨_, _, _, _, 0, by simp [fq.f1], by simp [fq.f2], by simp [fq.f3], by simp [fq.f9], by simp [fq.f10], by simp, by simp, by simp [fq.f14], by simp [fq.f15], by simp [fq.f16], by simp [f18], by simp, by simp, (Ch.refl Nw u2).drew.obj ba2 id, (Ch.refl Nw u2).drew.obj be id, .inr ⟨d3, ⟨sb5, fun y hy => hok y (by simp at hy; simp [hy]), by simp, by simp only [List.length_cons] at *; omega, by rw [← hbot, List.getLast?_cons_cons], by have : lyP (a :: c :: r) = a.n * 2 ^ (c :: r).length + lyP (c :: r) := rfl; omega, by have : lyN (a :: c :: r) = a.l.length + lyN (c :: r) := rfl; omega⟩⟩⟩
    rw [hI2]
    clear hI2 I2 fq f18 x0 x1 x2 ba2 be sb2 f
    rintro f u5 ⟨col5, ls5, rv5, dd5, er, f1, f2, f3, f9, f10, f12, f13, f14, f15, f16, f18, f19, f20, ba5, be5, hcase⟩
    obtain ⟨I3, hI3⟩ : ∃ I3 : (Nat → Value) → World → Prop, I3 = fun f u => ∃ col' ls' rv' dd', f 1 = .slice (some ⟨b, of', none⟩) L.length cp ∧ f 2 = .int .u16 num.val ∧ f 3 = .int .u32 off.val ∧ f 9 = oP g ∧ f 10 = oP o ∧ f 12 = rv' ∧ f 13 = dd' ∧ f 14 = .int .i64 i ∧ f 15 = .pointer (some ⟨q, 0, none⟩) ∧
      u.heap[q]? = some (.cells (acv x).toArray 43 (0, 0)) ∧ St W u g bad o col' ls' rv' dd' (i + 1) := ⟨_, rfl⟩
    obtain ⟨I4, hI4⟩ : ∃ I4 : (Nat → Value) → World → Prop, I4 = fun f u => (f 1 = .slice (some ⟨b, of', none⟩) L.length cp ∧ f 2 = .int .u16 num.val ∧ f 3 = .int .u32 off.val ∧ f 9 = oP g ∧ f 10 = oP o ∧ f 12 = rv5 ∧ f 13 = dd5 ∧ f 14 = .int .i64 i ∧ f 15 = .pointer (some ⟨q, 0, none⟩) ∧ f 16 = .int .i64 T ∧ f 18 = .pointer (some ⟨e, 0, none⟩) ∧ f 20 = .int .i64 er) ∧ u = u5 := ⟨_, rfl⟩
    rw [VC_seq]
    refine v_meetC I4 ?_ ?_
    · simp [go_sem, f19, f20]
      rw [hI4]
      exact ⟨⟨by simp [f1], by simp [f2], by simp [f3], by simp [f9], by simp [f10], by simp [f12], by simp [f13], by simp [f14], by simp [f15], by simp [f16], by simp [f18], by simp [f20]⟩, rfl⟩
    rw [hI4]
    clear hI4 I4 f1 f2 f3 f9 f10 f12 f13 f14 f15 f16 f18 f19 f20 f
    rintro f u6 ⟨⟨f1, f2, f3, f9, f10, f12, f13, f14, f15, f16, f18, f20⟩, hu6⟩
    subst u6
    rw [VC_seq]
    refine v_meetC I3 ?_ ?_
    · obtain ⟨x0, x1, x2⟩ := bx0 ba5
      rcases hcase with ⟨hd3, ⟨D', Y', hls, hsay⟩, hrv, hdd, sb5⟩ | ⟨hd3, hs5⟩
      · have hd3' : (x.d : Int) < 3 := by omega
        subst hls hrv hdd
        obtain ⟨hD, hdo, hio⟩ := hok a (by simp)
        have lp : lyP (a :: r) = a.n * 2 ^ r.length + lyP r := rfl
        have ln : lyN (a :: r) = a.l.length + lyN r := rfl
        have h64 : 2 ^ r.length ≤ 64 := by
          rw [hT]
          have := Nat.pow_le_pow_right (n := 2) (by decide) (show T ≤ 6 by omega)
          exact this
        have hpot' : (a.n + 1) * 2 ^ r.length + lyP r ≤ 64 * (i + 1) := by
          rw [Nat.add_mul, Nat.one_mul]
          omega
        cases hgd : (dOf x).good with
        | false =>
          rw [hgd] at hsay
          obtain ⟨her, hD'⟩ : er = 1 ∧ D' = a.D := by simpa using hsay
          subst her hD'
          simp [go_sem, f15, f20, x0, hd3, hd3']
          rw [hI3]
          refine ⟨col5, { a with n := a.n + 1, D := a.D, Y := Y' } :: r, .slice (some ⟨g1, 0, none⟩) (T + 1) p1, .slice (some ⟨g2, 0, none⟩) (T + 1) p2, by simp [f1], by simp [f2], by simp [f3], by simp [f9], by simp [f10], by simp [f12], by simp [f13], by simp [f14], by simp [f15], ba5, ⟨?_, ?_, ?_, ?_, ?_, ?_, ?_⟩⟩
          · have e1 := (em_eq (fun a => oP a.o) (a := a) (r := r) { a with n := a.n + 1, D := a.D, Y := Y' } rfl).trans hro
            have e2 := (em_eq (fun a => a.v) (a := a) (r := r) { a with n := a.n + 1, D := a.D, Y := Y' } rfl).trans hds
            rw [e1, e2]
            exact sb5
          · intro y hy
            rcases List.mem_cons.1 hy with rfl | hy
            · exact ⟨hD, hdo, hio⟩
            · exact hok y (by simp [hy])
          · simp
          · simp only [List.length_cons]
            omega
          · rw [← hbot]
            exact bot_eq rfl
          · exact hpot'
          · show a.l.length + lyN r ≤ _
            omega
        | true =>
          rw [hgd] at hsay
          obtain ⟨her, hD'⟩ : er = 0 ∧ D' = ovD (a.l ++ [dOf x]) := by simpa using hsay
          subst her hD'
          simp [go_sem, f15, f20, x0, hd3, hd3']
          have hda := dv_all (x := dOf x) ok.i
          have sd := sb5.nw (Ch.refl Nw u5).drew
          have t1 := own_cellO sb5.dds tds
          have t2 := own_cellO sd.dds tds
          refine v_draw' [(0, none), (1, none), (2, none), (3, none), (4, none), (5, none), (6, none), (7, some [0, 1, 2, 3, 4, 5]), (8, some [0, 1]), (9, none), (10, some [])] (by kernel_rfl) (by kernel_rfl) ?_
          have t3 := ((Ch.refl Nw u5).alloc (.cells (dv (dOf x)).toArray 47)).cell t1 id
          simp [↓VX_bsl1, go_sem, f13, f16, f18, hTT, t1, t2, be5, hz1, hda]
          refine VBs_run (bsl_dd ok.i _) ?_
          simp [go_sem, f13, f16, f18, hTT, t1, t2, t3, be5, hz1, hda]
          rw [show (u5.alloc (.cells (dv (dOf x)).toArray 47)).drew = u5.drew.alloc (.cells (dv (dOf x)).toArray 47) from rfl]
          refine VB_app1S (w := u5.drew) (us := dv (dOf x)) (n := a.l.length) (xs := a.l.flatMap dv) tyDd sd.lay.1.own (dv_len ok.i) hz2 (by unfold maxLen; omega) (by omega) fun v6 w6 k1 k2 k3 => ?_
          obtain ⟨A6, n6, c6, hv6⟩ := own_slice k1
          subst hv6
          obtain ⟨col6, sb6⟩ := sd.dput (l' := a.l ++ [dOf x]) (v' := .slice A6 n6 c6) k2 (by rw [List.flatMap_append, List.length_append]; simpa using k1) k3
          have fz := own_frz T sb6.dds
          have t4 := own_cellO sb6.dds tds
          have sb7 := sb6.dset lds.symm T (.slice A6 n6 c6)
          have ba6 : (w6.setCell ⟨g2, T, none⟩ (.slice A6 n6 c6)).heap[q]? = _ := ((Ch.refl (Kin.one g2) w6).setCell (p := ⟨g2, T, none⟩) (.inl rfl) (.slice A6 n6 c6)).obj (k2.obj ((Ch.refl Nw u5).drew.obj ba5 id) fun e => by have := own_blt hsb.lay.1.own q e; omega) fun e => by
            subst e
            have := own_blt hsb.dds q rfl
            omega
          simp [go_sem, f13, f16, hTT, fz, t4]
          rw [hI3]
          refine ⟨col6, { a with n := a.n + 1, D := ovD (a.l ++ [dOf x]), Y := Y', l := a.l ++ [dOf x], v := .slice A6 n6 c6 } :: r, .slice (some ⟨g1, 0, none⟩) (T + 1) p1, .slice (some ⟨g2, 0, none⟩) (T + 1) p2, by simp [f1], by simp [f2], by simp [f3], by simp [f9], by simp [f10], by simp [f12], by simp [f13], by simp [f14], by simp [f15], ba6, ⟨?_, ?_, ?_, ?_, ?_, ?_, ?_⟩⟩
          · have e1 := (em_eq (fun a => oP a.o) (a := a) (r := r) { a with n := a.n + 1, D := ovD (a.l ++ [dOf x]), Y := Y', l := a.l ++ [dOf x], v := .slice A6 n6 c6 } rfl).trans hro
            have e2 : ds.set T (.slice A6 n6 c6) = ({ a with n := a.n + 1, D := ovD (a.l ++ [dOf x]), Y := Y', l := a.l ++ [dOf x], v := .slice A6 n6 c6 } :: r).reverse.map fun a => a.v := by
              rw [← hds, ← hT, set_top, List.reverse_cons, List.map_append]
              rfl
            rw [e1, ← e2]
            exact sb7
          · intro y hy
            rcases List.mem_cons.1 hy with rfl | hy
            · refine ⟨rfl, fun y hy => ?_, fun y hy => ?_⟩
              · rcases List.mem_append.1 hy with hy | hy
                · exact hdo y hy
                · simp at hy
                  subst hy
                  exact ⟨hgd, hd3⟩
              · rcases List.mem_append.1 hy with hy | hy
                · exact hio y hy
                · simp at hy
                  subst hy
                  exact ok.i
            · exact hok y (by simp [hy])
          · simp
          · simp only [List.length_cons]
            omega
          · rw [← hbot]
            exact bot_eq rfl
          · exact hpot'
          · show (a.l ++ [dOf x]).length + lyN r ≤ _
            rw [List.length_append, List.length_singleton]
            omega
      · have hd3' : ¬ (x.d : Int) < 3 := by omega
        have hd3n : ¬ x.d < 3 := by omega
        simp [go_sem, f15, f20, x0, hd3n, hd3']
        rw [hI3]
        exact ⟨col5, ls5, rv5, dd5, by simp [f1], by simp [f2], by simp [f3], by simp [f9], by simp [f10], by simp [f12], by simp [f13], by simp [f14], by simp [f15], ba5, hs5⟩
    rw [hI3]
    clear hI3 I3 f1 f2 f3 f9 f10 f12 f13 f14 f15 f16 f18 f20 hcase ba5 be5 f
    rintro f u6 ⟨col6, ls6, rv6, dd6, f1, f2, f3, f9, f10, f12, f13, f14, f15, ba6, hs6⟩
    obtain ⟨sb6, ok6, ne6, len6, bot6, pot6, num6⟩ := id hs6
    have np6 : 0 < ls6.length := List.length_pos_iff.2 ne6
    obtain ⟨h1', q1'', cur', hrv6, hq1', _, _, _, _⟩ := ownS_blk sb6.row (by simpa using np6)
    obtain ⟨h2', q2'', cur'', hdd6, hq2', _, _, _, _⟩ := ownS_blk sb6.dds (by simpa using np6)
    rw [List.length_map, List.length_reverse] at hrv6 hdd6 hq1' hq2'
    subst hrv6 hdd6
    simp [go_sem]
    refine v_loop (fun t f u => ∃ k pre suf all, t = ls6.length - k ∧ ls6 = pre ++ suf ∧ suf.length = k ∧ (f 1 = .slice (some ⟨b, of', none⟩) L.length cp ∧ f 2 = .int .u16 num.val ∧ f 3 = .int .u32 off.val ∧ f 9 = oP g ∧ f 10 = oP o ∧ f 12 = .slice (some ⟨h1', 0, none⟩) ls6.length q1'' ∧ f 13 = .slice (some ⟨h2', 0, none⟩) ls6.length q2'' ∧ f 14 = .int .i64 i ∧ f 15 = .pointer (some ⟨q, 0, none⟩)) ∧ f 24 = all ∧ f 25 = .int .i64 (k : Nat) ∧
        u.ownsRow 0 47 48 all (lyL suf).length ((lyL suf).flatMap dv) ∧ Fresh u6.heap.size all ∧ GrAt u g bad ∧ Ch (Kin.one g) u6 u) ls6.length
      ⟨0, ls6, [], .slice none 0 0, rfl, by simp, rfl, ⟨by simp [f1], by simp [f2], by simp [f3], by simp [f9], by simp [f10], by simp [f12], by simp [f13], by simp [f14], by simp [f15]⟩, by simp, by simp, World.ownsRow_nil _ _ _ _, fun k hk => by simp [Value.ownBlock] at hk, sb6.gr, Ch.refl _ _⟩ ?_
    clear f1 f2 f3 f9 f10 f12 f13 f14 f15 f
    rintro J3 hJ3 _ f u ⟨k, pre, suf, all, rfl, hls, hsuf, ⟨f1, f2, f3, f9, f10, f12, f13, f14, f15⟩, f24, f25, hall, hfr, hgr, cu⟩
    have sbu := sb6.ask cu hgr
    rcases snoc_or pre with rfl | ⟨pre, y, rfl⟩
    · have hkn : k = ls6.length := by rw [hls]; simpa using hsuf.symm
      subst hkn
      simp [go_sem, f12, f14, f25, hwi]
      refine Rnd.intro (L.length - (i + 1)) (by omega) (hJ _ _ _ ⟨i + 1, col6, ls6, _, _, rfl, by omega, by simp [f1], by simp [f2], by simp [f3], by simp [f9], by simp [f10], by simp [f12], by simp [f13], by simp, ⟨sbu, ok6, ne6, len6, bot6, pot6, num6⟩⟩)
    · have hls' : ls6 = pre ++ y :: suf := by rw [hls]; simp
      have hkn : k < ls6.length := by rw [hls']; simp; omega
      have hkn' : (k : Int) < ls6.length := by omega
      have hwk := S16.wi ((k : Int) + 1) (k + 1) (by omega) (by omega)
      have okS : LyOk (y :: suf) := fun z hz => ok6 z (by rw [hls']; exact List.mem_append_right _ hz)
      obtain ⟨hyD, hyd, hyi⟩ := okS y (by simp)
      have gro : (ls6.reverse.map fun a => oP a.o)[k]? = some (oP y.o) := by rw [hls', ← hsuf]; exact mid_get _ pre y suf
      have gds : (ls6.reverse.map fun a => a.v)[k]? = some y.v := by rw [hls', ← hsuf]; exact mid_get _ pre y suf
      have lay : ∀ {w : World}, Lay w g col6 ls6 → Lay w g col6 (y :: suf) := fun h => Lay.drop (p := pre) (by rw [← hls']; exact h)
      have lnn : lyN pre + lyN (y :: suf) = lyN ls6 := by rw [hls', lyN_app]
      have lnc : lyN (y :: suf) = y.l.length + lyN suf := rfl
      have lns := lyL_len suf
      have d1 := own_cellO sbu.dds gds
      simp [go_sem, f12, f13, f24, f25, hkn, hkn', d1]
      refine VB_appO (n := (lyL suf).length) (m := y.l.length) (xs := (lyL suf).flatMap dv) (news := y.l.flatMap dv) tyDd hall (lay sbu.lay).1.own (dds_ones hyi) (by unfold maxLen; omega) (by omega) fun v7 w7 k1 k2 k3 => ?_
      have hgl := sb6.gl
      have cu7 : Ch (Kin.one g) u6 w7 := cu.trans' k2 fun j hj e => by have := hfr j e; omega
      have hgr7 : GrAt w7 g bad := hgr.ch k2 fun e => by have := hfr g e; omega
      have hf7 : Fresh u6.heap.size v7 := own_app hfr k3 cu.size
      have sb7 := sb6.ask cu7 hgr7
      have e7 : lyL (y :: suf) = lyL suf ++ y.l := rfl
      have k1' : w7.ownsRow 0 47 48 v7 (lyL (y :: suf)).length ((lyL (y :: suf)).flatMap dv) := by rw [e7, List.flatMap_append, List.length_append]; exact k1
      obtain ⟨dk, ik⟩ := okS.all
      have hb6 := lt_of_block ba6
      have hcq : col6 q = col6 q := rfl
      have tell : ∀ {w : World}, Ch (Kin.one g) w7 w → GrAt w g bad → ∀ (n : Num) (o : Off), Ret Tryd.prog 14 #[oP y.o, oP g, v7, .int .u16 n.val, .int .u32 o.val] w fun v' w' => v' = .bool true ∧ GrAt w' g bad ∧ Ch (Kin.one g) w w' := fun {w} hc hg n o => by
        have sbw := sb7.ask hc hg
        have ht := (lay sbw.lay).tl (bad := bad)
        rw [okS.tl (by simp)] at ht
        refine tells_any ht hg (fun e => by have := sb6.cg; omega) (lst_own (fun x hx => dv_len (ik x hx)) rfl (own_ch k1' hc fun k hk e => ?_)) (fun b hb e => ?_) ik dk (by have := lyL_len (y :: suf); omega) n o
        · simp only [Kin.one] at e
          subst e
          have := hf7 k hk
          omega
        · subst e
          have := hf7 b hb
          omega
      simp [go_sem]
      refine v_draw' [(0, none), (1, none), (2, none), (3, none), (4, none), (5, none), (6, none), (7, none), (8, none), (9, none), (10, some []), (11, none), (12, none), (13, none), (14, none), (15, none), (16, none), (17, none), (18, none), (19, none), (20, none), (21, some []), (22, none), (23, none)] (by kernel_rfl) (by kernel_rfl) ?_
      have r1 := own_cellO (sb7.nw (Ch.refl Nw w7).drew).row gro
      have r1' := own_cellO sb7.row gro
      have hgu := hsb.gl
      have hqg : ¬ q = g := by omega
      have ba7 := cu7.obj ba6 hqg
      obtain ⟨x0, x1, x2⟩ := bx0 ba7
      obtain ⟨y0, y1, y2⟩ := bx0 ((Ch.refl Nw w7).drew.obj ba7 id)
      simp [go_sem, f2, f3, f9, f12, f15, f25, hkn, hkn', r1, r1', x1, x2, y1, y2]
      have nn : ∀ {w w' : World}, Ch Nw w w' → Ch (Kin.one g) w w' := fun c => c.mono fun _ _ e => e.elim
      refine (tell (nn (Ch.refl Nw w7).drew) (hgr7.ch (Ch.refl Nw w7).drew id) x.num x.off).mono ?_
      rintro _ w8 ⟨rfl, g8, c8⟩
      have c78 := (nn (Ch.refl Nw w7).drew).trans c8
      have sb8 := sb7.ask c78 g8
      have r2 := own_cellO sb8.row gro
      obtain ⟨z0, z1, z2⟩ := bx0 (c78.obj ba7 hqg)
      simp [go_sem, f2, f3, f9, f12, f15, f25, hkn, hkn', r2, z1, z2]
      refine (tell c78 g8 num off).mono ?_
      rintro _ w9 ⟨rfl, g9, c9⟩
      have c79 := c78.trans c9
      have sb9 := sb7.ask c79 g9
      have r3 := own_cellO sb9.row gro
      obtain ⟨z0, z1, z2⟩ := bx0 (c79.obj ba7 hqg)
      simp [go_sem, f2, f3, f9, f12, f15, f25, hkn, hkn', r3, z1, z2, hwk]
      exact Rnd.intro (ls6.length - (k + 1)) (by omega) (hJ3 _ _ _ ⟨k + 1, pre, y :: suf, v7, rfl, hls', by simp [hsuf], ⟨by simp [f1], by simp [f2], by simp [f3], by simp [f9], by simp [f10], by simp [f12], by simp [f13], by simp [f14], by simp [f15]⟩, by simp, by simp, own_ch k1' c79 fun k hk e => by simp only [Kin.one] at e; subst e; have := hf7 k hk; omega, hf7, g9, cu7.trans c79⟩)
  rw [hI]
  clear hI I t0 hrv0 hdd0 e4 s3 hw4 s2 s1 s0 ho c2 b0 ca
  rintro f u ⟨col, ls, rv, dd, f9, f10, f12, f13, hs⟩
  obtain ⟨sb, okl, ne, len, bot, pot, num'⟩ := id hs
  have np : 0 < ls.length := List.length_pos_iff.2 ne
  obtain ⟨g1, p1, cur1, hrv, hp1, _, _, _, _⟩ := ownS_blk sb.row (by simpa using np)
  obtain ⟨g2, p2, cur2, hdd, hp2, _, _, _, _⟩ := ownS_blk sb.dds (by simpa using np)
  rw [List.length_map, List.length_reverse] at hrv hdd hp1 hp2
  subst hrv hdd
  simp [go_sem]
  obtain ⟨I, hI⟩ : ∃ I : (Nat → Value) → World → Prop, I = fun f u' => f 9 = oP g ∧ f 10 = oP o ∧ Ch Nw u u' := ⟨_, rfl⟩
  refine v_meetL I ?_ ?_
  · refine v_loop (fun t f u' => ∃ k pre suf, t = ls.length - k ∧ ls = pre ++ suf ∧ suf.length = k ∧ f 9 = oP g ∧ f 10 = oP o ∧ f 12 = .slice (some ⟨g1, 0, none⟩) ls.length p1 ∧ f 13 = .slice (some ⟨g2, 0, none⟩) ls.length p2 ∧ f 26 = .int .i64 (k : Nat) ∧ Ch Nw u u') ls.length
      ⟨0, ls, [], rfl, by simp, rfl, by simp [f9], by simp [f10], by simp [f12], by simp [f13], by simp, Ch.refl _ _⟩ ?_
    clear f9 f10 f12 f13 f
    rintro J hJ _ f u1 ⟨k, pre, suf, rfl, hls, hsuf, f9, f10, f12, f13, f26, cu⟩
    rcases snoc_or pre with rfl | ⟨pre, y, rfl⟩
    · have hkn : k = ls.length := by rw [hls]; simpa using hsuf.symm
      subst hkn
      simp [go_sem, f12, f26]
      rw [hI]
      exact ⟨by simp [f9], by simp [f10], cu⟩
    · have hls' : ls = pre ++ y :: suf := by rw [hls]; simp
      have hkn : k < ls.length := by rw [hls']; simp; omega
      have hkn' : (k : Int) < ls.length := by omega
      have hwk := S16.wi ((k : Int) + 1) (k + 1) (by omega) (by omega)
      have hym : y ∈ ls := by rw [hls']; simp
      obtain ⟨hyD, hyd, hyi⟩ := okl y hym
      have gro : (ls.reverse.map fun a => oP a.o)[k]? = some (oP y.o) := by rw [hls', ← hsuf]; exact mid_get _ pre y suf
      have gds : (ls.reverse.map fun a => a.v)[k]? = some y.v := by rw [hls', ← hsuf]; exact mid_get _ pre y suf
      have sb1 := sb.nw cu
      have sb2 := sb1.nw (Ch.refl Nw u1).drew
      have lay2 : Lay u1.drew g col (y :: suf) := Lay.drop (p := pre) (by rw [← hls']; exact sb2.lay)
      have r1 := own_cellO sb1.row gro
      have r2 := own_cellO sb2.row gro
      have d1 := own_cellO sb1.dds gds
      have d2 := own_cellO sb2.dds gds
      have hn := lyP_mem hym
      have hl := lyN_mem hym
      have hov := lay2.1.ov
      rw [hyD] at hov
      have hha := has_any hov (by omega) (lst_own (fun x hx => dv_len (hyi x hx)) rfl lay2.1.own) hyi hyd (by omega)
      simp [go_sem, f12, f26, hkn, hkn']
      refine v_draw' [(0, none), (1, none), (2, none), (3, none), (4, none), (5, none), (6, none), (7, none), (8, some []), (9, none)] (by kernel_rfl) (by kernel_rfl) ?_
      simp [go_sem, f12, f13, f26, hkn, hkn', r1, r2, d1, d2]
      refine hha.mono ?_
      rintro _ w3 ⟨rfl, c3⟩
      have cu3 := cu.trans (Ch.of_drew c3)
      simp [go_sem, f12, f13, f26, hkn, hkn', hwk, own_cellO (sb.nw cu3).row gro, own_cellO (sb.nw cu3).dds gds]
      exact Rnd.intro (ls.length - (k + 1)) (by omega) (hJ _ _ _ ⟨k + 1, pre, y :: suf, rfl, hls', by simp [hsuf], by simp [f9], by simp [f10], by simp [f12], by simp [f13], by simp, cu3⟩)
  rw [hI]
  clear hI I f9 f10 f12 f13 f
  rintro f u1 ⟨f9, f10, cu⟩
  have sb1 := sb.nw cu
  obtain ⟨pre, y, hls⟩ : ∃ pre y, ls = pre ++ [y] := by
    rcases snoc_or ls with e | h
    · exact absurd e ne
    · exact h
  have hyo : y.o = o := by
    rw [hls] at bot
    simpa using bot
  have lay1 : Lay u1 g col [y] := Lay.drop (p := pre) (by rw [← hls]; exact sb1.lay)
  have hov := lay1.1.ov
  rw [hyo] at hov
  simp [go_sem, f9, f10, mi_g]
  refine (clear_any hov 26 (.pointer (some ⟨g, 0, none⟩))).mono ?_
  rintro _ w2 ⟨rfl, h2, c2⟩
  have hha := has_any (l := []) (lv := .slice none 0 0) h2 (by omega) ⟨none, 0, rfl, Nat.le_refl _, Nat.zero_le _, fun h => by simp at h⟩ (fun x hx => (by cases hx)) (fun x hx => (by cases hx)) (by simp)
  have cW2 : Ch Nw W w2 := sb1.ch.trans' c2 fun k hk e => by have := lay1.1.cx k (.inl e); have := sb1.cw k hk; omega
  simp [go_sem, f10]
  refine hha.mono ?_
  rintro _ w3 ⟨rfl, c3⟩
  simp [go_sem]
  refine (wakes_any w3).mono ?_
  rintro _ w4 ⟨rfl, c4⟩
  simp [go_sem]
  exact hR _ _ ⟨rfl, (cW2.trans c3).trans c4⟩
end Go.Proofs.YtnefdmbdkljifaaDoor
