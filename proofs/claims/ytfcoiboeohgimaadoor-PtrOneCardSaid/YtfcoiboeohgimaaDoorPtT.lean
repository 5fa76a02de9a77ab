/- PtrOne, walked. Conditions: the variables sha.constants and ptr.wide hold what the text lays. -/
import Derived.Test.YtfcoiboeohgimaaDoorPtK
import Derived.Test.YtfcoiboeohgimaaDoorPtN
import Derived.Test.YtfcoiboeohgimaaDoorRsF
namespace Go.Proofs.YtfcoiboeohgimaaDoor
open Go.RowKit Go.Kin

theorem dig_tags {p q : Pt} (h : (q.k = p.k ∧ q.l = p.l ∧ q.o = p.o ∧ q.f = p.f ∧ q.b = p.b)) (b : List UInt8) : digS q b = digS p b := by
  obtain ⟨h1, h2, h3, h4, h5⟩ := h
  unfold digS
  rw [tag16, tag16, h1, h2, h3, h4, h5]
theorem pone_any (p q : Pt) (v2 v3 : Value) (b c : List UInt8) (w : World) (okp : PtOk p) (okq : PtOk q) (hs2 : Sl w v2 b.length (bvs b)) (hs3 : Sl w v3 c.length (bvs c)) (hv2 : ∀ k, v2.ownBlock = some k → k < w.heap.size) (hv3 : ∀ k, v3.ownBlock = some k → k < w.heap.size) (hw : Lw w) (hk : Lk w) :
    Ret Tryd.prog 12 #[.agg (pt p), .agg (pt q), v2, v3] w fun v' w' => v' = .bool true ∧ Ch Nw w w' := by
  refine v_enter Tryd.func12 Tryd.ntmps12 rfl (by simp) fun R' hR => ?_
  have hlb := hs2.len Tryd.underlying30 3
  have hlc := hs3.len Tryd.underlying30 3
  have hps := pt_size okp
  have hpa := pt_all okp
  have hqs := pt_size okq
  have hqa := pt_all okq
  have hzs := pt_size ptz_ok
  have c1 := ((Ch.refl Nw w).alloc (.cells (pt p) 28)).alloc (.cells (pt q) 28)
  have b4 := al2_0 w (.cells (pt p) 28) (.cells (pt q) 28)
  have b5 := al2_1 w (.cells (pt p) 28) (.cells (pt q) 28)
  have hz : ((w.alloc (.cells (pt p) 28)).alloc (.cells (pt q) 28)).heap.size = w.heap.size + 2 := by simp
  by_cases hb : b.length = 512
  case neg =>
    have hb' : ((b.length : Int) == 512) = false := beq_false_of_ne (by omega)
    simp [go_sem, hlb, hb', bne]
    revert c1
    generalize (w.alloc (.cells (pt p) 28)).alloc (.cells (pt q) 28) = w1
    intro c1
    refine (pwakes_any w1 (hw.ch c1 id) (hk.ch c1 id)).mono ?_
    rintro _ w2 ⟨rfl, c2⟩
    simp [go_sem]
    exact hR _ _ ⟨rfl, c1.trans c2⟩
  have hb' : ((b.length : Int) == 512) = true := by rw [hb]; rfl
  by_cases hc : c.length = 512
  case neg =>
    have hc' : ((c.length : Int) == 512) = false := beq_false_of_ne (by omega)
    simp [go_sem, hlb, hb', hlc, hc', bne]
    revert c1
    generalize (w.alloc (.cells (pt p) 28)).alloc (.cells (pt q) 28) = w1
    intro c1
    refine (pwakes_any w1 (hw.ch c1 id) (hk.ch c1 id)).mono ?_
    rintro _ w2 ⟨rfl, c2⟩
    simp [go_sem]
    exact hR _ _ ⟨rfl, c1.trans c2⟩
  have hc' : ((c.length : Int) == 512) = true := by rw [hc]; rfl
  simp [go_sem, hlb, hb', hlc, hc', bne, hps, hpa]
  have hs2 := hs2.ch c1 fun _ _ e => e
  have hs3 := hs3.ch c1 fun _ _ e => e
  revert c1 b4 b5 hs2 hs3 hz
  generalize (w.alloc (.cells (pt p) 28)).alloc (.cells (pt q) 28) = w1
  generalize hq0 : w.heap.size = q0 at *
  intro c1 b4 b5 hz hs2 hs3
  refine (seal_any p v2 b w1 okp hs2 (fun k h => by have := hv2 k h; omega) (by omega) (hk.ch c1 id)).mono ?_
  rintro _ w2 ⟨rfl, c2⟩
  have oks := sealP_ok okp b
  have hdss : digS (sealP p b) b = (sealP p b).h := by rw [dig_seal]; rfl
  have hsk : (sealP p b).k = p.k ∧ (sealP p b).l = p.l ∧ (sealP p b).o = p.o ∧ (sealP p b).f = p.f ∧ (sealP p b).b = p.b := ⟨rfl, rfl, rfl, rfl, rfl⟩
  generalize sealP p b = s at *
  have hss := pt_size oks
  have hsa := pt_all oks
  have hsh := pt_h oks
  simp [go_sem, hz_pt, zc_pt, hzs, hss, hsa, blit_whole]
  have c12 := c1.trans c2
  have cA := (Ch.refl Nw w2).alloc (.cells (pt s) 28)
  have b9 := hp_alloc w2 (.cells (pt s) 28)
  have b4 := cA.hp (c2.hp b4 id) id
  have b5 := cA.hp (c2.hp b5 id) id
  have hs2 := (hs2.ch c2 fun _ _ e => e).ch cA fun _ _ e => e
  have hs3 := (hs3.ch c2 fun _ _ e => e).ch cA fun _ _ e => e
  have c3 := c12.trans cA
  have hq9 : q0 + 1 < w2.heap.size := by have := c2.size; omega
  revert b9 b4 b5 hs2 hs3 c3 hq9
  clear cA
  generalize w2.alloc (.cells (pt s) 28) = w3
  generalize w2.heap.size = q9
  intro b9 b4 b5 hs2 hs3 c3 hq9
  refine v_join (fun g u => g 2 = v2 ∧ g 3 = v3 ∧ g 5 = .pointer (some ⟨q0 + 1, 0, none⟩) ∧ g 9 = .pointer (some ⟨q9, 0, none⟩) ∧ g 32 = .bool false ∧ Ch Nw w3 u) [[(0, none), (1, some []), (2, none), (3, none), (7, none), (4, some [7]), (5, some [7]), (6, some [7]), (8, none), (9, none)]] (by kernel_rfl) (by kernel_rfl) ?_ ?_
  · intro plan hp
    simp only [List.mem_cons, List.not_mem_nil, or_false] at hp
    subst hp
    have b9 : w3.drew.heap[q9]? = some (.cells (pt s) 28 (0, 0)) := b9
    have cd := (Ch.refl Nw w3).drew
    have c3 := c3.drew
    generalize w3.drew = w4 at *
    simp [go_sem, b9, hss, hsa]
    refine (may_any s w4 oks (hw.ch c3 id)).mono ?_
    rintro _ w5 ⟨rfl, c5⟩
    have b9 := c5.hp b9 id
    cases hms : mayP s with
    | false =>
      simp [go_sem, b9, hss, hsa]
      exact cd.trans c5
    | true =>
      simp [go_sem, b9, hss, hsa]
      refine (pput_any (.slice none 0 0) 0 [] s w5 oks (by decide) rfl (World.ownsRow_nil _ _ _ _)).mono ?_
      rintro s1 w6 ⟨k1, k2, k3⟩
      have c6 : Ch Nw w5 w6 := k2.mono fun k _ e => by simp [Value.ownBlock] at e
      have hs1 := Sl.of_own k1
      have hl64 : (putP s).length = 64 := putP_length oks
      rw [List.nil_append, Nat.zero_add, ← hl64] at hs1
      have b9 := c6.hp b9 id
      simp [go_sem, b9, hss, hsa]
      refine (new_any s1 (putP s) w6 (by omega) hs1).mono ?_
      rintro _ w7 ⟨g, o, rfl, hg, ho, ho7, hr, c7⟩
      have b9 := c7.hp b9 id
      have c37 := ((c3.trans c5).trans c6).trans c7
      simp [go_sem, b9, hss, hsa]
      refine (ptake_any g o (putP s) 0 w7 (by omega) (hw.ch c37 id) (by have := (hw.ch ((c3.trans c5).trans c6) id).lt; omega) hr ho7).mono ?_
      rintro _ w8 ⟨rfl, _, c8⟩
      rw [pS_put oks hms]
      have b9 := c8.hp b9 (by have := lt_of_block (show w6.heap[q9]? = _ by assumption); simp only [only]; omega)
      have heq := fun w => eq_pt w oks oks
      simp [go_sem, b9, hss, hsa, heq]
      exact ((((cd.trans c5).trans c6).trans c7)).trans' c8 fun j hj e => by
        simp only [only] at e
        have := cd.size
        have := c5.size
        have := c6.size
        omega
  rintro g u ⟨g2, g3, g5, g9, g32, cu⟩
  have b9 := cu.hp b9 id
  have b5 := cu.hp b5 id
  have hs2 := hs2.ch cu fun _ _ e => e
  have hs3 := hs3.ch cu fun _ _ e => e
  have cw := c3.trans cu
  have hz3 : q0 + 2 ≤ w3.heap.size := by have := lt_of_block (show w3.heap[q9]? = _ by assumption); omega
  have hbt := blit_pt_h (p := q) (h' := s.h) okq.h oks.h
  have okr : PtOk { q with h := s.h } := ⟨okq.k, okq.l, okq.o, okq.f, okq.b, oks.h, okq.a, okq.at'⟩
  have hbr : (u.setRow (q0 + 1) (blit (pt q) 5 (bvs s.h).toArray)).heap[q0 + 1]? = some (.cells (pt { q with h := s.h }) 28 (0, 0)) := by rw [hp_setRow, b5, hbt]; rfl
  have hbs : (u.setRow (q0 + 1) (blit (pt q) 5 (bvs s.h).toArray)).heap[q9]? = some (.cells (pt s) 28 (0, 0)) := by rw [hp_setRow_ne _ _ _ _ (by omega)]; exact b9
  have hcu := (Ch.refl (one (q0 + 1)) u).setRow (.inl rfl) (blit (pt q) 5 (bvs s.h).toArray)
  have hcw := cw.setRow (g := q0 + 1) (.inr (by omega)) (blit (pt q) 5 (bvs s.h).toArray)
  have hs2 := hs2.ch hcu fun k hk e => by have := hv2 k hk; simp only [one] at e; omega
  have hs3 := hs3.ch hcu fun k hk e => by have := hv3 k hk; simp only [one] at e; omega
  obtain ⟨r, hr⟩ : ∃ r : Pt, { q with h := s.h } = r := ⟨_, rfl⟩
  have hrh : r.h = s.h := by rw [← hr]
  have hrr : r.k = q.k ∧ r.l = q.l ∧ r.o = q.o ∧ r.f = q.f ∧ r.b = q.b := by rw [← hr]; exact ⟨rfl, rfl, rfl, rfl, rfl⟩
  rw [hr] at hbr okr
  have hBs : (bvs s.h).toArray.size = 32 := by simp [bvs_length, oks.h]
  have hBo : ones (bvs s.h).toArray = true := ones_bvs _
  clear hbt hr
  generalize hY : (bvs s.h).toArray = Y at *
  have ie : ∀ a b : Nat, ((a : Int) == (b : Int)) = decide (a = b) := fun a b => by
    by_cases h : a = b
    · simp [h]
    · rw [beq_false_of_ne (by omega), decide_eq_false h]
  rw [Then_normal, VC_cond, ev_tmp, if_pos (by decide), g32, VIf_false, VC_skip, Then_normal]
  obtain ⟨T, hT⟩ : ∃ T, decide (r.k = s.k ∧ r.l = s.l ∧ r.o = s.o ∧ r.f = s.f ∧ r.b = s.b) = T := ⟨_, rfl⟩
  refine v_meetS (fun f z => f 2 = v2 ∧ f 3 = v3 ∧ f 5 = .pointer (some ⟨q0 + 1, 0, none⟩) ∧ f 9 = .pointer (some ⟨q9, 0, none⟩) ∧ f 10 = .bool T ∧ z = u.setRow (q0 + 1) (blit (pt q) 5 Y)) ?_ ?_
  · have rk := (cell_blk hbr 0).trans pt_k
    have rl := (cell_blk hbr 1).trans pt_l
    have ro := (cell_blk hbr 2).trans pt_o
    have rf := (cell_blk hbr 3).trans pt_f
    have rb := (cell_blk hbr 4).trans pt_b
    have sk := (cell_blk hbs 0).trans pt_k
    have sl := (cell_blk hbs 1).trans pt_l
    have so := (cell_blk hbs 2).trans pt_o
    have sf := (cell_blk hbs 3).trans pt_f
    have sb := (cell_blk hbs 4).trans pt_b
    subst hT
    by_cases e1 : r.k = s.k
    case neg => simp [go_sem, g2, g3, g5, g9, b5, b9, hqs, hss, hsh, hBs, hBo, rk, rl, ro, rf, rb, sk, sl, so, sf, sb, ie, e1]
    by_cases e2 : r.l = s.l
    case neg => simp [go_sem, g2, g3, g5, g9, b5, b9, hqs, hss, hsh, hBs, hBo, rk, rl, ro, rf, rb, sk, sl, so, sf, sb, ie, e1, e2]
    by_cases e3 : r.o = s.o
    case neg => simp [go_sem, g2, g3, g5, g9, b5, b9, hqs, hss, hsh, hBs, hBo, rk, rl, ro, rf, rb, sk, sl, so, sf, sb, ie, e1, e2, e3]
    by_cases e4 : r.f = s.f
    case neg => simp [go_sem, g2, g3, g5, g9, b5, b9, hqs, hss, hsh, hBs, hBo, rk, rl, ro, rf, rb, sk, sl, so, sf, sb, ie, e1, e2, e3, e4]
    simp [go_sem, g2, g3, g5, g9, b5, b9, hqs, hss, hsh, hBs, hBo, rk, rl, ro, rf, rb, sk, sl, so, sf, sb, ie, e1, e2, e3, e4]
  rintro f z ⟨f2, f3, f5, f9, f10, rfl⟩
  generalize u.setRow (q0 + 1) (blit (pt q) 5 Y) = z at *
  clear hcu
  have hrs := pt_size okr
  have hra := pt_all okr
  have hdr : T = true → digS r b = s.h := fun h => (dig_tags (of_decide_eq_true (hT.trans h)) b).trans hdss
  clear hT hrr hsk
  have heqd : ∀ (x y : List UInt8) (w : World), x.length = 32 → y.length = 32 → (Op.equalIn 10000 25 (.agg (bvs x).toArray) (.agg (bvs y).toArray)).run Tryd.prog w = .ok (decide (x = y)) w := fun x y w hx hy => run_equalIn_bvs w 9998 _ _ 32 Tryd.underlying25 Tryd.underlying5 Tryd.sizeOf5 Tryd.isAgg5 _ _ hx hy
  have sx := fun {w : World} {v : Value} {l : List UInt8} {n : Nat} (h : Sl w v n (bvs l)) (hn : l.length = n) => h.str (P := Tryd.prog) hn Tryd.underlying30 Tryd.underlying5 Tryd.underlying9
  have lt2 : ∀ {y : World}, Ch Nw z y → ∀ k, v2.ownBlock = some k → k < y.heap.size := fun cy k h => by have := hv2 k h; have := (hcw.trans cy).size; omega
  have lt3 : ∀ {y : World}, Ch Nw z y → ∀ k, v3.ownBlock = some k → k < y.heap.size := fun cy k h => by have := hv3 k h; have := (hcw.trans cy).size; omega
  simp [go_sem]
  refine v_join (fun g y => g 2 = v2 ∧ g 3 = v3 ∧ g 5 = .pointer (some ⟨q0 + 1, 0, none⟩) ∧ g 9 = .pointer (some ⟨q9, 0, none⟩) ∧ g 10 = .bool T ∧ g 84 = .bool false ∧ Ch Nw z y) [[(0, none), (1, none), (2, some []), (3, none), (4, none), (5, none), (6, none), (7, none), (8, none), (9, none), (11, none), (12, none), (10, some [11, 12]), (13, some []), (14, none), (15, none)]] (by kernel_rfl) (by kernel_rfl) ?_ ?_
  · intro plan hp
    simp only [List.mem_cons, List.not_mem_nil, or_false] at hp
    subst hp
    have cd := (Ch.refl Nw z).drew
    have hbr := cd.hp hbr id
    have hbs := cd.hp hbs id
    have hs2 := hs2.ch cd fun _ _ e => e
    have hkd := hk.ch (hcw.trans cd) id
    generalize z.drew = z1 at *
    simp [go_sem, f2, f5, hbr, hrs, hra]
    refine (fits_any r v2 b z1 okr hs2 (lt2 cd) (by omega) hkd).mono ?_
    rintro _ z2 ⟨rfl, k2⟩
    have hbr := k2.hp hbr id
    have hbs := k2.hp hbs id
    have hs2 := hs2.ch k2 fun _ _ e => e
    by_cases hfd : digS r b = r.h
    · rw [show (decide (b.length = 512) && decide (digS r b = r.h)) = true by simp [hb, hfd]]
      cases T with
      | true =>
        simp [go_sem, f2, f3, f5, f9, f10]
        exact cd.trans k2
      | false =>
        simp [go_sem, f2, f5, f9, f10, hbr, hbs, hrs, hra, hss, hsa]
        refine (rdigest_any r v2 b z2 okr hs2 (by omega)).mono ?_
        rintro _ z3 ⟨rfl, k3⟩
        have hbs := k3.hp hbs id
        have hs2 := hs2.ch k3 fun _ _ e => e
        simp [go_sem, f2, f9, hbs, hss, hsa]
        refine (rdigest_any s v2 b z3 oks hs2 (by omega)).mono ?_
        rintro _ z4 ⟨rfl, k4⟩
        have he := fun w => heqd (digS r b) (digS s b) w (digS_length _ _) (digS_length _ _)
        rw [show decide (digS r b = digS s b) = true by rw [hfd, hdss, hrh]; simp] at he
        simp [go_sem, he, f2, f3, f5, f9, f10]
        exact ((cd.trans k2).trans k3).trans k4
    · rw [show (decide (b.length = 512) && decide (digS r b = r.h)) = false by simp [hfd]]
      simp [go_sem, f2, f3, f5, f9, f10]
      exact cd.trans k2
  clear f2 f3 f5 f9 f10 f
  rintro f y ⟨f2, f3, f5, f9, f10, f84, cy⟩
  rw [Then_normal, VC_cond, ev_tmp, if_pos (by decide), f84, VIf_false, VC_skip, Then_normal]
  have hbr := cy.hp hbr id
  have hbs := cy.hp hbs id
  have hs2 := hs2.ch cy fun _ _ e => e
  have hs3 := hs3.ch cy fun _ _ e => e
  rw [VC_seq]
  refine v_meetC (fun f x => f 2 = v2 ∧ f 3 = v3 ∧ f 9 = .pointer (some ⟨q9, 0, none⟩) ∧ Ch Nw y x) ?_ ?_
  · cases T with
    | false =>
      simp [go_sem, f2, f3, f9, f10]
      exact Ch.refl _ _
    | true =>
      simp [go_sem, f2, f5, f9, f10, hbr, hrs, hra]
      refine (fits_any r v2 b y okr hs2 (lt2 cy) (by omega) (hk.ch (hcw.trans cy) id)).mono ?_
      rintro _ y1 ⟨rfl, k1⟩
      rw [show (decide (b.length = 512) && decide (digS r b = r.h)) = true by rw [hdr rfl, hrh]; simp [hb]]
      simp [go_sem, f2, f3, f9]
      exact k1
  clear f2 f3 f5 f9 f10 f84 f
  rintro f x ⟨f2, f3, f9, cx⟩
  have cyx := cy.trans cx
  have hbs := cx.hp hbs id
  have hs2 := hs2.ch cx fun _ _ e => e
  have hs3 := hs3.ch cx fun _ _ e => e
  simp [go_sem]
  refine v_draw' [(0, none), (1, none), (2, some []), (3, none), (4, none), (5, none), (6, none), (7, none), (8, none), (9, none), (10, none), (11, none), (12, none), (13, none), (15, none), (16, none), (14, some [15, 16]), (17, some []), (18, none), (19, none), (20, none), (21, some []), (22, none), (23, none)] (by kernel_rfl) (by kernel_rfl) ?_
  have CC := cyx.drew
  have hbs := (Ch.refl Nw x).drew.hp hbs id
  have hs2 := hs2.ch (Ch.refl Nw x).drew fun _ _ e => e
  have hs3 := hs3.ch (Ch.refl Nw x).drew fun _ _ e => e
  generalize x.drew = x1 at *
  simp [go_sem, f2, f3, f9, hbs, hss, hsa]
  refine (fits_any s v3 c x1 oks hs3 (lt3 CC) (by omega) (hk.ch (hcw.trans CC) id)).mono ?_
  rintro _ u4 ⟨rfl, k4⟩
  have CC := CC.trans k4
  have hbs := k4.hp hbs id
  have hs2 := hs2.ch k4 fun _ _ e => e
  have hs3 := hs3.ch k4 fun _ _ e => e
  have t2 := sx hs2 rfl
  have t3 := sx hs3 rfl
  by_cases hf : digS s c = s.h
  case neg =>
    rw [show (decide (c.length = 512) && decide (digS s c = s.h)) = false by simp [hf]]
    simp [go_sem]
    refine (pwakes_any u4 (hw.ch (hcw.trans CC) id) (hk.ch (hcw.trans CC) id)).mono ?_
    rintro _ u5 ⟨rfl, k5⟩
    simp [go_sem]
    exact hR _ _ ⟨rfl, (hcw.trans CC).trans k5⟩
  rw [show (decide (c.length = 512) && decide (digS s c = s.h)) = true by simp [hf, hc]]
  by_cases hbc : b = c
  case pos =>
    simp [go_sem, f2, f3, t2, t3, hbc]
    refine (pwakes_any u4 (hw.ch (hcw.trans CC) id) (hk.ch (hcw.trans CC) id)).mono ?_
    rintro _ u5 ⟨rfl, k5⟩
    simp [go_sem]
    exact hR _ _ ⟨rfl, (hcw.trans CC).trans k5⟩
  have hbc' : (b == c) = false := beq_false_of_ne hbc
  simp [go_sem, f2, f3, f9, t2, t3, hbc', hbs, hss, hsa]
  refine (rdigest_any s v2 b u4 oks hs2 (by omega)).mono ?_
  rintro _ u5 ⟨rfl, k5⟩
  have hbs := k5.hp hbs id
  have hs3 := hs3.ch k5 fun _ _ e => e
  simp [go_sem, f2, f3, f9, hbs, hss, hsa]
  refine (rdigest_any s v3 c u5 oks hs3 (by omega)).mono ?_
  rintro _ u6 ⟨rfl, k6⟩
  have he := fun w => heqd (digS s b) (digS s c) w (digS_length _ _) (digS_length _ _)
  rw [show decide (digS s b = digS s c) = true by rw [hf, hdss]; simp] at he
  simp [go_sem, he]
  have C6 := ((hcw.trans CC).trans k5).trans k6
  refine (pwakes_any u6 (hw.ch C6 id) (hk.ch C6 id)).mono ?_
  rintro _ u7 ⟨rfl, k7⟩
  simp [go_sem]
  exact hR _ _ ⟨rfl, C6.trans k7⟩
end Go.Proofs.YtfcoiboeohgimaaDoor
