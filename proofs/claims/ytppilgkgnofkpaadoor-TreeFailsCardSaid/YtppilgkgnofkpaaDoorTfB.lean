/- TreeFails, walked. Conditions: the variables ptr.wide and tree.hole hold what the text lays; the arguments lie in the world. -/
import Derived.Test.YtppilgkgnofkpaaDoorTfA
import Derived.Test.YtppilgkgnofkpaaDoorTrZ
import Derived.Test.YtppilgkgnofkpaaDoorTwB
set_option linter.unusedSimpArgs false
set_option linter.unusedVariables false

namespace Go.Proofs.YtppilgkgnofkpaaDoor
open Go.RowKit Go.Kin

theorem bsl_ta (a : Ta) (w : World) : (Instr.buildSlice 56 1 #[(0, .agg (taL a).toArray)]).run Tryd.prog w = .ok (.slice (some ⟨w.heap.size, 0, none⟩) 1 1) (w.alloc (.cells (taL a).toArray 67)) :=
  run_buildSlice1 (z := .agg #[.slice none 0 0, .int .u64 0, .bool false]) Tryd.underlying56 Tryd.sizeOf67 (by kernel_rfl) rfl (by decide) (by decide) w
theorem sl_u16 {w : World} {v : Value} {l : List Nat} (h : Lst w v (fun x : Nat => [.int .u16 x]) 1 l) : Sl w v l.length (u16s l) := by
  obtain ⟨A, c, rfl, h1, h2, h3⟩ := h
  refine ⟨A, c, rfl, h1, h2, fun hp => ?_⟩
  rw [u16s_length] at hp
  obtain ⟨b, off, rfl, _, hr⟩ := h3 hp
  refine ⟨_, rfl, fun j u hj => ?_⟩
  have hjl := (List.getElem?_eq_some_iff.1 hj).1
  rw [u16s_length] at hjl
  obtain ⟨x, hx⟩ : ∃ x, l[j]? = some x := ⟨_, List.getElem?_eq_getElem hjl⟩
  have e : u = .int .u16 x := by
    unfold u16s at hj
    rw [List.getElem?_map, hx] at hj
    exact (Option.some.inj hj).symm
  have := hr j x 0 _ hx rfl
  rw [Addr.add_lit, e, ← this]
  congr 2
  omega
/-- what holds between the acts -/
structure FlI (W : World) (L : List Ta) (last : Ta) (q g i : Nat) (s : Shf) (root : Pt) (top h : List Pt) (O : Nat → Prop) (u : World) : Prop where
  sh : ShH g W (fun _ => False) s u O
  lo : ∀ k, O k → k = g ∨ g + 3 ≤ k
  tp : TreeP s.bl root top h
  bad : s.bad = []
  room : s.room = -1
  bl : s.bl.length ≤ 9 * i
  fuel : 1000000000 - 5000 * i ≤ shM s
  br : u.heap[g + 1]? = some (.cells (pt root) 28 (0, 0))
  lh : PtLst u (.slice (some ⟨g + 2, 0, none⟩) 64 64) h
  bh : ∃ cs, u.heap[g + 2]? = some (.cells cs 28 (0, 0))
  b9 : u.heap[q]? = some (.cells (taL last).toArray 67 (0, 0))
  ch : Ch Nw W u
  sz : g + 3 ≤ u.heap.size
set_option maxRecDepth 100000 in
set_option maxHeartbeats 8000000 in
theorem treeFails_any (va : Value) (L : List Ta) (vd : Value) (bad : List Nat) (room off : Nat) (last : Ta) (W : World) (ha : Lst W va taL 3 L) (hin : ∀ a ∈ L, a.In W) (hdL : Lst W vd (fun x : Nat => [.int .u16 x]) 1 bad) (hd16 : ∀ x ∈ bad, x < 65536) (hdk : ∀ k, vd.ownBlock = some k → k < W.heap.size) (hr : room < 256) (hoff : off < 4294967296) (hlast : last.In W) (env : TEnv W) :
    Ret Tryd.prog 5 #[va, vd, .int .u8 room, .int .u32 off, .agg (taL last).toArray] W fun v' w' => v' = .bool true ∧ Ch Nw W w' := by
  refine v_enter Tryd.func5 Tryd.ntmps5 rfl (by simp) fun R' hR => ?_
  have hzs := pt_size ptz_ok
  have hza := pt_all ptz_ok
  have hts : (taL last).toArray.size = 3 := rfl
  obtain ⟨Al, cl0, hlv, _⟩ := id hlast.sl
  have hd := sl_u16 hdL
  have hlnd := hd.len Tryd.underlying60 3
  have hlA := ha.len Tryd.underlying56 3
  have hul : (u16s bad).length = bad.length := u16s_length bad
  have ca := (Ch.refl Nw W).alloc (.cells (taL last).toArray 67)
  have b0 := hp_alloc W (.cells (taL last).toArray 67)
  have sa : (W.alloc (.cells (taL last).toArray 67)).heap.size = W.heap.size + 1 := by simp
  have wake : ∀ (u : World) {K : Value → World → Prop}, Ch Nw W u → (∀ u', Ch Nw W u' → K (.bool true) u') → Ret Tryd.prog 20 #[] u K := fun u K hc hK => (twakes_any u (env.ch hc fun _ _ e => e)).mono fun v w' hh => by
    rw [hh.1]
    exact hK _ (hc.trans hh.2)
  simp [go_sem]
  obtain ⟨q, hq⟩ : ∃ q, W.heap.size = q := ⟨_, rfl⟩
  rw [hq] at b0 sa ⊢
  generalize W.alloc (.cells (taL last).toArray 67) = w1 at *
  refine (trgreat_any va L w1 (ha.ch ca fun _ _ _ e => e) fun a ha => (hin a ha).ch ca).mono ?_
  rintro _ w0 ⟨gt, rfl, hgt, hw0⟩
  obtain rfl := hw0.symm
  cases gt with
  | true =>
    simp [go_sem]
    refine wake _ ca fun u hu => ?_
    simp [go_sem]
    exact hR _ _ ⟨rfl, hu⟩
  | false =>
  obtain ⟨hL60, hoffs⟩ := hgt rfl
  have k0 : w1.cell? ⟨q, 0, none⟩ = some last.v := cell_blk b0 0
  have k1 : w1.cell? ⟨q, 1, none⟩ = some (.int .u64 last.holes) := cell_blk b0 1
  have k2 : w1.cell? ⟨q, 2, none⟩ = some (.bool last.same) := cell_blk b0 2
  have c2 := ca.alloc (.cells (taL last).toArray 67)
  have b12 := hp_alloc w1 (.cells (taL last).toArray 67)
  have b02 := ((Ch.refl Nw w1).alloc (.cells (taL last).toArray 67)).obj b0 id
  have sa2 : (w1.alloc (.cells (taL last).toArray 67)).heap.size = q + 2 := by simp [sa]
  have hta : #[last.v, .int .u64 last.holes, .bool last.same] = (taL last).toArray := rfl
  rw [hlv] at k0 hta
  simp [↓VX_bsl1, go_sem, k0, k1, k2, hta]
  refine VBs_run (bsl_ta last _) ?_
  simp [go_sem]
  rw [sa] at b12 ⊢
  have in1 := hlast.ch ca
  have in2 := hlast.ch c2
  have envw2 := env.ch c2 fun _ _ e => e
  generalize w1.alloc (.cells (taL last).toArray 67) = w2 at *
  have own1 : w2.ownsRow 0 67 3 (.slice (some ⟨q + 1, 0, none⟩) 1 1) 1 (rowsL (fun a : Ta => (taL a).toArray) [last]) := by
    rw [rowsL_one]
    exact ⟨rfl, .inr ⟨q + 1, 1, (taL last).toArray, rfl, Nat.zero_le _, b12, Nat.le_refl _, by decide, rfl, rfl⟩⟩
  have lst1 : Lst w2 (.slice (some ⟨q + 1, 0, none⟩) 1 1) taL 3 [last] := Lst.of_own (en := fun a : Ta => (taL a).toArray) own1 fun x hx => rfl
  refine (trgreat_any _ [last] w2 lst1 fun a ha => by rw [List.mem_singleton.1 ha]; exact in2).mono ?_
  rintro _ w0 ⟨gt2, rfl, hgt2, hw0'⟩
  subst hw0'
  cases gt2 with
  | true =>
    simp [go_sem]
    refine wake _ c2 fun u hu => ?_
    simp [go_sem]
    exact hR _ _ ⟨rfl, hu⟩
  | false =>
  have hofl : last.offs.length ≤ 64 := (hgt2 rfl).2 last (by simp)
  by_cases h20 : 20 < bad.length
  · have h20i : (20 : Int) < bad.length := by omega
    simp [go_sem, hlnd, h20, h20i]
    refine wake _ c2 fun u hu => ?_
    simp [go_sem]
    exact hR _ _ ⟨rfl, hu⟩
  have h20i : ¬ (20 : Int) < bad.length := by omega
  obtain ⟨W3, hW3, b3, b4, b5, sa3, c3⟩ := al3 w0 (.cells #[.slice none 0 0, .slice none 0 0, .slice none 0 0, .slice none 0 0, .int .i64 (-1), .slice none 0 0] 62) (.cells (pt ptz) 28) (.cells (rowsOf pt hs0) 28)
  have hsr := setRow_alloc (w0.alloc (.cells #[.slice none 0 0, .slice none 0 0, .slice none 0 0, .slice none 0 0, .int .i64 (-1), .slice none 0 0] 62)) (pt ptz) (pt ptz) 28 (0, 0)
  rw [show (w0.alloc (.cells #[.slice none 0 0, .slice none 0 0, .slice none 0 0, .slice none 0 0, .int .i64 (-1), .slice none 0 0] 62)).heap.size = w0.heap.size + 1 by simp] at hsr
  simp [go_sem, hlnd, h20, h20i, bld_sh, hz_pt, zc_pt, bld_pt0, hzs, hza, blit_whole, mk64, hsr]
  rw [hW3]
  obtain ⟨g, hg⟩ : ∃ g, w0.heap.size = g := ⟨_, rfl⟩
  rw [hg] at b3 b4 b5 sa3 ⊢
  have hs0l : hs0.length = 64 := List.length_replicate
  have hgq : g = q + 2 := by omega
  have cW3 := c2.trans c3
  have b93 := c3.obj b02 id
  clear hW3 hsr
  have hh0 : PtLst W3 (.slice (some ⟨g + 2, 0, none⟩) 64 64) hs0 := by
    have hz : ∀ p ∈ hs0, (pt p).size = 41 := fun p hp => pt_size (hs0_ok p hp)
    have hl : (rowsL pt hs0).length = 64 * 41 := by rw [rowsL_length hs0 hz, hs0l]
    have hs : (rowsOf pt hs0).size = 64 * 41 := by rw [rows_size hz, hs0l]
    have own2 : W3.ownsRow 0 28 41 (.slice (some ⟨g + 2, 0, none⟩) 64 64) hs0.length (rowsL pt hs0) := by
      rw [hs0l]
      exact ⟨hl, .inr ⟨g + 2, 64, rowsOf pt hs0, rfl, Nat.zero_le _, b5, Nat.le_refl _, by decide, hs, List.take_of_length_le (by show (rowsL pt hs0).length ≤ _; omega)⟩⟩
    exact ptLst_own own2 hs0_ok
  refine v_loop (fun r f u => ∃ (i : Nat) (s : Shf) (root : Pt) (top h : List Pt) (O : Nat → Prop), r = L.length - i ∧ i ≤ L.length ∧ f 0 = va ∧ f 1 = vd ∧ f 2 = .int .u8 room ∧ f 3 = .int .u32 off ∧ f 9 = .pointer (some ⟨q, 0, none⟩) ∧ f 11 = .pointer (some ⟨g, 0, none⟩) ∧ f 12 = .pointer (some ⟨g + 1, 0, none⟩) ∧ f 13 = .slice (some ⟨g + 2, 0, none⟩) 64 64 ∧ f 14 = .int .i64 i
      ∧ FlI W L last q g i s root top h O u) L.length
    ⟨0, sh0, ptz, ndz, hs0, one g, rfl, by omega, by simp, by simp, by simp, by simp, by simp, by simp, by simp, by simp, by simp, ?_⟩ ?_
  · exact ⟨ShH.new W b3, fun k hk => .inl hk, TreeP.z _, rfl, rfl, by simp [sh0], by simp [shM, sh0], b4, hh0, ⟨_, b5⟩, b93, cW3, by omega⟩
  rintro J hJ _ f u ⟨i, s, root, top, h, O, rfl, hi, f0, f1, f2, f3, f9, f11, f12, f13, f14, I⟩
  have cu := I.ch
  have okh := I.tp.ok
  have h64 := I.tp.hl
  have okr := I.tp.rs.okp
  have hrs := pt_size okr
  have hra := pt_all okr
  have hbl9 := I.bl
  have hfu := I.fuel
  have hlO := (ShH.ok _ _ _ _).lt I.sh
  have hsz := I.sz
  by_cases hlt : i < L.length
  · have hii : (i : Int) < L.length := by omega
    have hwi : IntKind.i64.wrap ((i : Int) + 1) = ((i + 1 : Nat) : Int) := by rw [IntKind.wrap_i64]; omega
    obtain ⟨a, hai⟩ : ∃ a, L[i]? = some a := ⟨_, List.getElem?_eq_getElem hlt⟩
    have hain := hin a (List.mem_of_getElem? hai)
    have hoffa := hoffs a (List.mem_of_getElem? hai)
    obtain ⟨b, of', c, hva, ka0, ka1, ka2⟩ := ta_cells ha cu hai
    obtain ⟨Av, cv, hav, _⟩ := id hain.sl
    rw [hav] at ka0
    have f0' := f0
    rw [hva] at f0
    have hlA' : ∀ w', (Builtin.len_ #[56] 3 #[.slice (some ⟨b, of', none⟩) L.length c]).run Tryd.prog w' = .ok (.int .i64 L.length) w' := fun w' => by rw [← hva]; exact hlA w'
    simp [go_sem, f0, f11, f12, f13, f14, hlA', hii, hlt, ka0, ka1, ka2]
    rw [← hav]
    refine (tlvs_any a i _ h u (hain.ch cu) (by omega) I.lh okh h64 hoffa).mono ?_
    rintro vl w2 ⟨own2, cl2, fl2⟩
    obtain ⟨ls, hls⟩ : ∃ ls, a.lvs i h 64 = ls := ⟨_, rfl⟩
    have lsg := lvs_good I.tp a (n := i) (by omega)
    have lsl := a.lvs_len i h 64
    have lsm : ∀ x ∈ ls, x.1 < 64 := fun x hx => (a.lvs_mem i h 64 (by rw [hls]; exact hx)).1
    have lsr := a.lvs_rise i h 64
    rw [hls] at own2 lsg lsl lsr
    have lsok : ∀ x ∈ ls, LfOk x := fun x hx => ⟨by have := lsm x hx; omega, (lsg x hx).1.1⟩
    have hLl : Lst w2 vl lfL 42 ls := Lst.of_own own2 fun x hx => lfv_size (lsok x hx)
    have lnL := hLl.len Tryd.underlying64 3
    have vl2 : ∀ k, vl.ownBlock = some k → u.heap.size ≤ k ∧ k < w2.heap.size := fun k hk => ⟨fl2 k hk, own_in own2 k hk⟩
    have sh2 := (ShH.ok _ _ _ _).ch I.sh cl2 fun _ _ e => e
    have br2 := cl2.obj I.br id
    have b92 := cl2.obj I.b9 id
    have lh2 := I.lh.ch' cl2 fun _ _ e => e
    obtain ⟨csh, hbh⟩ := I.bh
    have bh2 := cl2.obj hbh id
    have cu2 := cu.trans cl2
    have sz2 := cl2.size
    simp [go_sem, f11, f12, br2, hrs, hra]
    obtain ⟨s', r', n', hset, tp', hb', hr', hbl'⟩ := tset_shp (s := s) I.tp I.bad I.room (show s.bl.length + 9 < 30000 by omega) (obj := 9) (by decide) lsr lsm lsg
    have hms := tset_m (shSnk g W fun _ => False) 9 s root ls
    rw [hset] at hms
    have hms : shM s ≤ shM s' + 16 * (4 * ls.length + 3) := hms
    have envu := env.ch cu2 fun _ _ e => e
    have gO : ∀ k, glT k → ¬ O k := fun k hk e => by
      have := I.lo k e
      have := env.lt k hk
      omega
    refine (tset_any (shSnk g W fun _ => False) (ShH.ok _ _ _) sh2 root okr 9 vl ls (by omega) hLl lsok (fun j hj => ⟨fun e => by have := hlO j e; have := (vl2 j hj).1; omega, (vl2 j hj).2⟩) envu gO (by decide)).mono ?_
    rw [hset]
    rintro _ w3 ⟨rfl, _, sh3, cl3⟩
    have sh3 : ShH g W (fun _ => False) s' w3 (Gr O w2 w3) := sh3
    have okr' := tp'.rs.okp
    have hrs' := pt_size okr'
    have hra' := pt_all okr'
    have sz3 := cl3.size
    have nO : ∀ k, k < g ∨ k = g + 1 ∨ k = g + 2 → ¬ O k := fun k hk e => by have := I.lo k e; omega
    have cu3 : Ch Nw W w3 := cu2.trans' cl3 fun k hk e => nO k (by omega) e
    have br3 := cl3.obj br2 (nO _ (by omega))
    have b93 := cl3.obj b92 (nO _ (by omega))
    have bh3 := cl3.obj bh2 (nO _ (by omega))
    have lh3 := lh2.ch' cl3 fun k hk e => by
      simp [Value.ownBlock] at hk
      exact nO k (by omega) e
    have hLl3 : Lst w3 vl lfL 42 ls := hLl.ch' cl3 fun k hk e => by have := hlO k e; have := (vl2 k hk).1; omega
    have c6 := (Ch.refl Nw w3).alloc (.cells (pt r') 28)
    have b6 := hp_alloc w3 (.cells (pt r') 28)
    have sa6 : (w3.alloc (.cells (pt r') 28)).heap.size = w3.heap.size + 1 := by simp
    have sh6 := (ShH.ok _ _ _ _).ch sh3 c6 fun _ _ e => e
    have br6 := c6.obj br3 id
    have b96 := c6.obj b93 id
    have bh6 := c6.obj bh3 id
    have lh6 := lh3.ch' c6 fun _ _ e => e
    have hLl6 : Lst _ vl lfL 42 ls := hLl3.ch' c6 fun _ _ e => e
    have cu6 := cu3.trans c6
    simp [go_sem, hz_pt, zc_pt, hrs', hra', hzs, blit_whole, f13]
    obtain ⟨g6, hg6⟩ : ∃ g6, w3.heap.size = g6 := ⟨_, rfl⟩
    rw [hg6] at b6 sa6 ⊢
    generalize w3.alloc (.cells (pt r') 28) = w6 at *
    have lvl : ls.length ≤ 64 := lsl
    have lnx : ∀ l, (nxtT h l).length = 64 := fun l => by rw [nxtT_len, h64]
    refine v_loop (fun r f' u' => ∃ (k : Nat) (cs : Array Value), r = ls.length - k ∧ k ≤ ls.length ∧ f' 0 = va ∧ f' 1 = vd ∧ f' 2 = .int .u8 room ∧ f' 3 = .int .u32 off ∧ f' 9 = .pointer (some ⟨q, 0, none⟩) ∧ f' 11 = .pointer (some ⟨g, 0, none⟩) ∧ f' 12 = .pointer (some ⟨g + 1, 0, none⟩) ∧ f' 13 = .slice (some ⟨g + 2, 0, none⟩) 64 64 ∧ f' 14 = .int .i64 i ∧ f' 15 = vl ∧ f' 16 = .pointer (some ⟨g6, 0, none⟩) ∧ f' 18 = .int .i64 k
        ∧ PtLst u' (.slice (some ⟨g + 2, 0, none⟩) 64 64) (nxtT h (ls.take k)) ∧ u'.heap[g + 2]? = some (.cells cs 28 (0, 0)) ∧ Ch (one (g + 2)) w6 u') ls.length
      ⟨0, csh, rfl, by omega, by simp [f0, hva], by simp [f1], by simp [f2], by simp [f3], by simp [f9], by simp [f11], by simp [f12], by simp [f13], by simp [f14], by simp, by simp, by simp, by simpa [nxtT] using lh6, bh6, Ch.refl _ _⟩ ?_
    clear f0 f0' f1 f2 f3 f9 f11 f12 f13 f14
    rintro J2 hJ2 _ f u' ⟨k, cs, rfl, hk, f0, f1, f2, f3, f9, f11, f12, f13, f14, f15, f16, f18, lx, hbx, cu'⟩
    have okx : ∀ p ∈ nxtT h (ls.take k), PtOk p := nxtT_mem _ _ (fun x hx => (lsok x (List.mem_of_mem_take hx)).p) okh
    have nvl : ∀ j, vl.ownBlock = some j → ¬ one (g + 2) j := fun j hj e => by
      have := (vl2 j hj).1
      simp only [one] at e
      omega
    have hLu : Lst u' vl lfL 42 ls := hLl6.ch' cu' nvl
    have lnL6 := hLu.len Tryd.underlying64 3
    by_cases hkl : k < ls.length
    · have hki : (k : Int) < ls.length := by omega
      have hwk : IntKind.i64.wrap ((k : Int) + 1) = ((k + 1 : Nat) : Int) := by rw [IntKind.wrap_i64]; omega
      obtain ⟨x, hx⟩ : ∃ x, ls[k]? = some x := ⟨_, List.getElem?_eq_getElem hkl⟩
      have hxm := List.mem_of_getElem? hx
      have okl := lsok x hxm
      have hx64 := lsm x hxm
      have hps := pt_size okl.p
      obtain ⟨bl, ol, cl, csl, Tl, frl, hvl, hbu, hel, hcl⟩ := hLu.elem (en := lfv) (by decide) (fun y hy => lfv_size (lsok y hy)) hx
      have hel1 : csl.extract (ol + k * 42 + 1) (ol + k * 42 + 1 + 41) = pt x.2 := by
        have := congrArg (fun y => y.extract 1 42) hel
        simp only [Array.extract_extract, lfv_pt okl] at this
        rw [← this]
        congr 1
        omega
      have hel0 : u'.cell? ⟨bl, ol + k * 42, none⟩ = some (.int .u32 x.1) := by
        rw [cell_blk hbu]
        have := congrArg (fun y => y[0]?) hel
        simp only [Array.getElem?_extract, lfv_0] at this
        rw [if_pos (by omega)] at this
        simpa using this
      have lnL' : ∀ w', (Builtin.len_ #[64] 3 #[.slice (some ⟨bl, ol, none⟩) ls.length cl]).run Tryd.prog w' = .ok (.int .i64 ls.length) w' := fun w' => by rw [← hvl]; exact lnL w'
      rw [hvl] at f15
      have lx' : PtLst u' (.slice (some ⟨g + 2, 0, none⟩) (nxtT h (ls.take k)).length 64) (nxtT h (ls.take k)) := by rw [lnx]; exact lx
      obtain ⟨hszx, lput⟩ := PtLst.put lx' okx hbx (i := x.1) (by rw [lnx]; exact hx64) okl.p
      rw [Nat.zero_add] at hszx lput
      have hnx : (nxtT h (ls.take k)).set x.1 x.2 = nxtT h (ls.take (k + 1)) := by
        rw [List.take_add_one, hx, nxtT_app]
        rfl
      rw [hnx, lnx] at lput
      have hx64i : (x.1 : Int) < 64 := by omega
      have hsz2 : ol + k * 42 + 1 + 41 ≤ csl.size := by omega
      have hbud : u'.drew.heap[bl]? = some (.cells csl Tl frl) := hbu
      have hbxd : u'.drew.heap[g + 2]? = some (.cells cs 28 (0, 0)) := hbx
      simp [go_sem, f15, f18, lnL', hki]
      refine v_draw' [(0, none), (1, none), (2, none), (3, none), (4, none), (5, none), (6, none), (7, none), (8, none), (9, none), (10, none), (11, none), (12, some [])] (by kernel_rfl) (by kernel_rfl) ?_
      simp [go_sem, f15, f13, f18, hkl, hel0, hbu, hbud, hel1, hsz2, hx64, hx64i, hbx, hbxd, hps, hszx, hwk]
      exact Rnd.intro (ls.length - (k + 1)) (by omega) (hJ2 _ _ _ ⟨k + 1, blit cs (x.1 * 41) (pt x.2), rfl, by omega, by simp [f0], by simp [f1], by simp [f2], by simp [f3], by simp [f9], by simp [f11], by simp [f12], by simp [f13], by simp [f14], by simp [f15, hvl], by simp [f16], by simp, lput.ch' (Ch.refl Nw _).drew fun _ _ e => e, by
        show (u'.setRow (g + 2) _).heap[g + 2]? = _
        rw [hp_setRow, hbx]
        rfl, (cu'.setRow (.inl rfl) _).drew⟩)
    · obtain rfl : k = ls.length := by omega
      rw [List.take_length] at lx okx
      have szu := cu'.size
      have n2 : ∀ j, j ≠ g + 2 → ¬ one (g + 2) j := fun j hj e => hj e
      have br7 := cu'.obj br6 (n2 _ (by omega))
      have b97 := cu'.obj b96 (n2 _ (by omega))
      have b67 := cu'.obj b6 (n2 _ (by omega))
      have G2 : ∀ k, Gr O w2 w3 k → k = g ∨ g + 3 ≤ k := fun k hk => by
        rcases hk with hk | hk
        · exact I.lo k hk
        · omega
      have sh7 := (ShH.ok _ _ _ _).ch sh6 cu' fun k hk e => by
        have := G2 k hk
        simp only [one] at e
        omega
      have c8 : Ch (one (g + 1)) u' (u'.setRow (g + 1) (pt r')) := (Ch.refl (one (g + 1)) u').setRow (.inl rfl) _
      have br8 : (u'.setRow (g + 1) (pt r')).heap[g + 1]? = some (.cells (pt r') 28 (0, 0)) := by rw [hp_setRow, br7]; rfl
      have sh8 := (ShH.ok _ _ _ _).ch sh7 c8 fun k hk e => by
        have := G2 k hk
        simp only [one] at e
        omega
      have n1 : ∀ j, j ≠ g + 1 → ¬ one (g + 1) j := fun j hj e => hj e
      have b98 := c8.obj b97 (n1 _ (by omega))
      have bh8 := c8.obj hbx (n1 _ (by omega))
      have lx8 := lx.ch' c8 fun k hk => n1 k (by simp [Value.ownBlock] at hk; omega)
      have cu8 : Ch Nw W (u'.setRow (g + 1) (pt r')) := (cu6.trans' cu' fun k hk e => by simp only [one] at e; omega).trans' c8 fun k hk e => by simp only [one] at e; omega
      have sz8 := c8.size
      simp [go_sem, f12, f14, f15, f16, f18, lnL6, b67, br7, hrs', hra', hrs, blit_whole, hwi]
      refine Rnd.intro (L.length - (i + 1)) (by omega) (hJ _ _ _ ⟨i + 1, s', r', n', nxtT h ls, _, rfl, by omega, by simp [f0], by simp [f1], by simp [f2], by simp [f3], by simp [f9], by simp [f11], by simp [f12], by simp [f13], by simp, sh8, G2, tp', hb', hr', ?_, by omega, br8, lx8, ⟨_, bh8⟩, b98, cu8, by omega⟩)
      omega
  · obtain rfl : i = L.length := by omega
    obtain ⟨l0, hl0, hall⟩ := I.tp.all I.bad
    have br := I.br
    have env0 := env.ch cu fun _ _ e => e
    have gO : ∀ k, glT k → ¬ O k := fun k hk e => by
      have := I.lo k e
      have := env.lt k hk
      omega
    simp [go_sem, f0, f11, f12, f14, hlA, br, hrs, hra]
    refine (tall_any (shSnk g W fun _ => False).rd (by omega) (ShH.ok _ _ _) I.sh root okr env0 gO).mono ?_
    rw [hall]
    rintro _ w2 ⟨vl, vn, O2, rfl, _, ownn, sh2, hO2, _, hvn, cl2⟩
    have ownn : w2.ownsRow 0 28 41 vn (nodesOf root top).length (rowsL pt (nodesOf root top)) := ownn
    have sh2 : ShH g W (fun _ => False) (s.more l0) w2 O2 := sh2
    have okn := nodes_ok I.tp
    have lnn2 : PtLst w2 vn (nodesOf root top) := ptLst_own ownn okn
    have hnl := nodes_len I.tp
    have sz2 := cl2.size
    have O2lo : ∀ k, O2 k → k = g ∨ g + 3 ≤ k := fun k hk => by
      rcases hO2 k hk with hk | hk
      · exact I.lo k hk
      · omega
    have nO : ∀ k, k < g ∨ k = g + 1 ∨ k = g + 2 → ¬ O k := fun k hk e => by have := I.lo k e; omega
    have cW2 : Ch Nw W w2 := cu.trans' cl2 fun k hk e => nO k (by omega) e
    have br2 := cl2.obj br (nO _ (by omega))
    have b92 := cl2.obj I.b9 (nO _ (by omega))
    have lh2 := I.lh.ch' cl2 fun k hk => nO k (by simp [Value.ownBlock] at hk; omega)
    obtain ⟨Bk, hBk⟩ : ∃ Bk : Nat → Prop, (fun k => vd.ownBlock = some k ∨ glT k) = Bk := ⟨_, rfl⟩
    have gB : ∀ k, glT k → Bk k := fun k hk => by rw [← hBk]; exact .inr hk
    have ltB : ∀ k, Bk k → k < q := fun k hk => by
      rw [← hBk] at hk
      rw [← hq]
      exact hk.elim (hdk k) (env.lt k)
    obtain ⟨shA, cA⟩ := ShH.setBad (Bk := Bk) sh2 (hd.ch cW2 fun _ _ e => e) (by omega) (fun k hk => by rw [← hBk]; exact .inl hk) fun k hk => ⟨fun e => by have := O2lo k e; have := ltB k hk; omega, by have := ltB k hk; omega⟩
    obtain ⟨shB, cB⟩ := shA.noRed
    obtain ⟨Ad, cd, hvd, _⟩ := id hd
    obtain ⟨vB, vD, vM, vG, vR, hb, _, _, _, _, hgO, _⟩ := sh2.reads
    have k1 : w2.cell? ⟨g, 1, none⟩ = some vD := cell_blk hb 1
    have k5 : w2.cell? ⟨g, 5, none⟩ = some vR := cell_blk hb 5
    have fz1 := frz_blk hb 1
    have fz5 := frz_blk hb 5
    have f1' := f1
    rw [hvd] at f1
    have brB0 := (cA.trans (Ch.but cB fun k hk => by rw [shB.kept2 hk])).obj br2 fun e => by have := O2lo _ e; omega
    rw [hvd] at brB0
    simp [go_sem, f1, f3, f11, f12, k1, k5, fz1, fz5, br2, brB0, hrs, hra]
    rw [← hvd]
    clear brB0
    generalize hwA : w2.setCell ⟨g, 1, none⟩ vd = wA at *
    generalize hwB : wA.setCell ⟨g, 5, none⟩ (.slice none 0 0) = wB at *
    have kAB : ∀ k, Bk k → wB.heap[k]? = wA.heap[k]? := fun k hk => shB.kept2 hk
    have cB : Ch O2 wA wB := Ch.but cB kAB
    have cAB : Ch O2 w2 wB := cA.trans cB
    have nO2 : ∀ k, k < g ∨ k = g + 1 ∨ k = g + 2 → ¬ O2 k := fun k hk e => by have := O2lo k e; omega
    have cWA : Ch Nw W wA := cW2.trans' cA fun k hk e => nO2 k (by omega) e
    have cWB : Ch Nw W wB := cW2.trans' cAB fun k hk e => nO2 k (by omega) e
    have envA := env.ch cWA fun _ _ e => e
    have envB := env.ch cWB fun _ _ e => e
    have brB := cAB.obj br2 (nO2 _ (by omega))
    have b9B := cAB.obj b92 (nO2 _ (by omega))
    have lhB := lh2.ch' cAB fun k hk => nO2 k (by simp [Value.ownBlock] at hk; omega)
    have lnnB := lnn2.ch' cAB fun k hk => (hvn k hk).1
    have hglo : ∀ {O'}, GlOk (ShH g wA Bk) O' := .inr fun s w O h => h.tenv envA gB
    obtain ⟨sB, hsB⟩ : ∃ sB : Shf, { ({ s.more l0 with bad := bad } : Shf) with red := [] } = sB := ⟨_, rfl⟩
    have tpB : TreeP sB.bl root top h := by rw [← hsB]; exact I.tp
    have badB : sB.bad = bad := by rw [← hsB]
    have redB : sB.red = [] := by rw [← hsB]
    have fuB : 999000000 ≤ shM sB := by
      have : shM s ≤ shM sB := by
        rw [← hsB]
        unfold shM
        simp only [Shf.more, List.length_nil]
        omega
      omega
    rw [hsB] at shB
    have szB := cAB.size
    refine (tget_gl (shSnk g wA Bk).rd (by omega) (ShH.ok _ _ _) shB root okr off hoff envB hglo).mono ?_
    rintro _ w4 ⟨rfl, sh4, cl4⟩
    have kB4 : ∀ k, Bk k → w4.heap[k]? = wB.heap[k]? := fun k hk => by rw [sh4.kept2 hk, shB.kept2 hk]
    have cl4 : Ch O2 wB w4 := Ch.but cl4 kB4
    have hgm := tget_m (shSnk g wA Bk).rd sB root off
    have okq4 := tget_ok shRd sB root off okr
    have cW4 : Ch Nw W w4 := cWB.trans' cl4 fun k hk e => nO2 k (by omega) e
    have br4 := cl4.obj brB (nO2 _ (by omega))
    have b94 := cl4.obj b9B (nO2 _ (by omega))
    have lh4 := lhB.ch' cl4 fun k hk => nO2 k (by simp [Value.ownBlock] at hk; omega)
    have lnn4 := lnnB.ch' cl4 fun k hk => (hvn k hk).1
    have sz4 := cl4.size
    by_cases h64o : off < 64
    case neg =>
      have hge : tget shRd sB root off = (sB, ptz, 1) := by
        unfold tget
        rw [decide_eq_false h64o, Bool.and_false]
        rfl
      have h64i : (64 : Int) ≤ off := by omega
      have h64n : 64 ≤ off := by omega
      rw [hge]
      have c5 := (Ch.refl Nw w4).alloc (.cells (pt ptz) 28)
      have b5 := hp_alloc w4 (.cells (pt ptz) 28)
      have heqz : ∀ w, (Op.equalIn 10000 28 (.agg (pt ptz)) (.agg (pt ptz))).run Tryd.prog w = .ok true w := fun w => by rw [eq_pt w ptz_ok ptz_ok, decide_eq_true rfl]
      simp [go_sem, hz_pt, zc_pt, hzs, hza, blit_whole, f3, h64i, h64n, b5, bld_pt0, heqz]
      refine wake _ (cW4.trans c5) fun u hu => ?_
      simp [go_sem]
      exact hR _ _ ⟨rfl, hu⟩
    obtain ⟨l, hll, hmem, hge⟩ := tpB.getB h64o
    rw [hge] at sh4 hgm okq4 ⊢
    rw [badB] at sh4 hgm okq4 ⊢
    have sh4 : ShH g wA Bk (sB.more l) w4 _ := sh4
    have hgm : shM sB ≤ shM (sB.more l) + 32 := hgm
    obtain ⟨q4, hq4⟩ : ∃ q4, (if hitB bad l = true then ptz else h.getD off ptz) = q4 := ⟨_, rfl⟩
    obtain ⟨e4, he4⟩ : ∃ e4 : Int, (if hitB bad l = true then 21 else 0) = e4 := ⟨_, rfl⟩
    have okq4 : PtOk q4 := hq4 ▸ okq4
    simp only [hq4, he4]
    have hq4s := pt_size okq4
    have hq4a := pt_all okq4
    have c5 := (Ch.refl Nw w4).alloc (.cells (pt q4) 28)
    have b5 := hp_alloc w4 (.cells (pt q4) 28)
    have sa5 : (w4.alloc (.cells (pt q4) 28)).heap.size = w4.heap.size + 1 := by simp
    have sh5 := (ShH.ok _ _ _ _).ch sh4 c5 fun _ _ e => e
    have br5 := c5.obj br4 id
    have b95 := c5.obj b94 id
    have lh5 := lh4.ch' c5 fun _ _ e => e
    have lnn5 := lnn4.ch' c5 fun _ _ e => e
    have cW5 := cW4.trans c5
    have h64i : ¬ (64 : Int) ≤ off := by omega
    have h64n : ¬ 64 ≤ off := by omega
    simp [go_sem, hz_pt, zc_pt, hq4s, hq4a, hzs, blit_whole, f3, h64i, h64n]
    obtain ⟨g5, hg5⟩ : ∃ g5, w4.heap.size = g5 := ⟨_, rfl⟩
    rw [hg5] at b5 sa5 ⊢
    obtain ⟨O5, hO5⟩ : ∃ O5, Gr (fun k => O2 k ∨ Bk k) wB w4 = O5 := ⟨_, rfl⟩
    have O5lo : ∀ k, O5 k → (O2 k ∨ Bk k) ∨ (wB.heap.size ≤ k ∧ k < g5) := fun k hk => by
      rw [← hO5] at hk
      rw [← hg5]
      exact hk
    have sh5 : ShH g wA Bk (sB.more l) (w4.alloc (.cells (pt q4) 28)) O5 := hO5 ▸ sh5
    generalize w4.alloc (.cells (pt q4) 28) = w5 at *
    obtain ⟨vB5, vD5, vM5, vG5, vR5, hb5, _, _, lR5, _, _, hgd5⟩ := sh5.reads
    have hred : (sB.more l).red = l := by rw [Shf.more_red, redB, List.nil_append]
    rw [hred] at lR5
    have okl : ∀ p ∈ l, PtOk p := fun p hp => okn p (hmem p hp)
    have lnR := lR5.len Tryd.underlying48 3
    obtain ⟨AR, cR, hvR, _⟩ := id lR5
    have k55 : w5.cell? ⟨g, 5, none⟩ = some (.slice AR l.length cR) := by rw [← hvR]; exact cell_blk hb5 5
    rw [hvR] at lnR
    refine v_loop (fun r f u => ∃ (i : Nat), r = l.length - i ∧ i ≤ l.length ∧ f 1 = vd ∧ f 2 = .int .u8 room ∧ f 3 = .int .u32 off ∧ f 9 = .pointer (some ⟨q, 0, none⟩) ∧ f 11 = .pointer (some ⟨g, 0, none⟩) ∧ f 12 = .pointer (some ⟨g + 1, 0, none⟩) ∧ f 13 = .slice (some ⟨g + 2, 0, none⟩) 64 64 ∧ f 20 = vn ∧ f 22 = .pointer (some ⟨g5, 0, none⟩) ∧ f 23 = .int .i64 e4 ∧ f 24 = .bool (hitB bad (l.take i)) ∧ f 25 = .int .i64 i ∧ Ch Nw w5 u) l.length
      ⟨0, rfl, by omega, by simp [f1'], by simp [f2], by simp [f3], by simp [f9], by simp [f11], by simp [f12], by simp [f13], by simp, by simp, by simp, by simp [hitB], by simp, Ch.refl _ _⟩ ?_
    clear f0 f1 f1' f2 f3 f9 f11 f12 f13 f14 hJ
    rintro J hJ _ f u5 ⟨i, rfl, hi, f1, f2, f3, f9, f11, f12, f13, f20, f22, f23, f24, f25, c5u⟩
    have ku5 := c5u.cell k55 id
    by_cases hil : i < l.length
    · have hii : (i : Int) < l.length := by omega
      have hwi : IntKind.i64.wrap ((i : Int) + 1) = ((i + 1 : Nat) : Int) := by rw [IntKind.wrap_i64]; omega
      obtain ⟨p, hp⟩ : ∃ p, l[i]? = some p := ⟨_, List.getElem?_eq_getElem hil⟩
      have hpm := List.mem_of_getElem? hp
      have okp := okl p hpm
      have hps := pt_size okp
      have hpa := pt_all okp
      obtain ⟨a0, ha0⟩ : ∃ a0, p.a[0]? = some a0 := ⟨_, List.getElem?_eq_getElem (by rw [okp.a]; decide)⟩
      have ha0d : p.a.getD 0 0 = a0 := by rw [List.getD_eq_getElem?_getD, ha0]; rfl
      obtain ⟨B, hB⟩ : ∃ B, hitB bad (l.take i) = B := ⟨_, rfl⟩
      have hB1 : hitB bad (l.take (i + 1)) = (B || bad.contains a0) := by
        rw [List.take_add_one, hp, hitB_app, hB]
        show (B || hitB bad [p]) = _
        rw [hitB_one, ha0d]
      rw [hB] at f24
      obtain ⟨bR, oR, cR', csR, TR, frR, hvR2, hbR, hexR, hcsR⟩ := lR5.elem (by decide) (fun q hq => pt_size (okl q hq)) hp
      rw [hvR] at hvR2
      injection hvR2 with e1 _ e3
      subst e1 e3
      simp [go_sem, f11, f25, ku5, lnR, hii]
      refine v_loop (fun r f u => ∃ (k : Nat), r = bad.length - k ∧ k ≤ bad.length ∧ f 1 = vd ∧ f 2 = .int .u8 room ∧ f 3 = .int .u32 off ∧ f 9 = .pointer (some ⟨q, 0, none⟩) ∧ f 11 = .pointer (some ⟨g, 0, none⟩) ∧ f 12 = .pointer (some ⟨g + 1, 0, none⟩) ∧ f 13 = .slice (some ⟨g + 2, 0, none⟩) 64 64 ∧ f 20 = vn ∧ f 22 = .pointer (some ⟨g5, 0, none⟩) ∧ f 23 = .int .i64 e4 ∧ f 24 = .bool (B || (bad.take k).contains a0) ∧ f 25 = .int .i64 i ∧ f 26 = .int .i64 k ∧ Ch Nw w5 u) bad.length
        ⟨0, rfl, by omega, by simp [f1], by simp [f2], by simp [f3], by simp [f9], by simp [f11], by simp [f12], by simp [f13], by simp [f20], by simp [f22], by simp [f23], by simp [f24], by simp [f25], by simp, c5u⟩ ?_
      clear f1 f2 f3 f9 f11 f12 f13 f20 f22 f23 f24 f25 ku5 c5u
      rintro J2 hJ2 _ f u ⟨k, rfl, hk, f1, f2, f3, f9, f11, f12, f13, f20, f22, f23, f24, f25, f26, c5u⟩
      have ku5 := c5u.cell k55 id
      have hbRu := c5u.obj hbR id
      have hbRd : u.drew.heap[bR]? = some (.cells csR TR frR) := hbRu
      by_cases hkb : k < bad.length
      · have hki : (k : Int) < bad.length := by omega
        have hwk : IntKind.i64.wrap ((k : Int) + 1) = ((k + 1 : Nat) : Int) := by rw [IntKind.wrap_i64]; omega
        obtain ⟨x, hx⟩ : ∃ x, bad[k]? = some x := ⟨_, List.getElem?_eq_getElem hkb⟩
        obtain ⟨A', c', hvd2, _, _, hrd⟩ := id hdL
        obtain ⟨bd, od, hA', _, hrd⟩ := hrd (by omega)
        have kx : u.cell? ⟨bd, od + k, none⟩ = some (.int .u16 x) := by
          have := (cW5.trans c5u).cell (hrd k x 0 _ hx rfl) id
          simpa using this
        rw [hvd2, hA'] at f1
        have kp : u.cell? ⟨bR, oR + i * 41 + 37, none⟩ = some (.int .u16 a0) := by
          have hh : (csR.extract (oR + i * 41) (oR + i * 41 + 41))[37]? = some (.int .u16 a0) := by rw [hexR]; exact pt_a okp ha0
          rw [Array.getElem?_extract, if_pos (by omega)] at hh
          rw [cell_blk hbRu]
          exact hh
        have kxd : u.drew.cell? ⟨bd, od + k, none⟩ = some (.int .u16 x) := kx
        have kpd : u.drew.cell? ⟨bR, oR + i * 41 + 37, none⟩ = some (.int .u16 a0) := kp
        have ku5d : u.drew.cell? ⟨g, 5, none⟩ = some (.slice (some ⟨bR, oR, none⟩) l.length cR) := ku5
        have lnd' : ∀ w', (Builtin.len_ #[60] 3 #[.slice (some ⟨bd, od, none⟩) bad.length c']).run Tryd.prog w' = .ok (.int .i64 bad.length) w' := fun w' => by rw [← hA', ← hvd2]; exact hlnd w'
        have hst : (bad.take (k + 1)).contains a0 = ((bad.take k).contains a0 || decide (x = a0)) := by
          rw [List.take_add_one, hx]
          simp [eq_comm]
        simp [go_sem, f1, f26, lnd', hki]
        refine v_draw' [(0, none), (1, none), (2, none), (3, none), (4, none), (5, none), (6, none), (7, none), (8, none), (9, none), (10, none), (11, none), (12, none), (13, none), (14, none), (15, none), (16, none), (17, none)] (by kernel_rfl) (by kernel_rfl) ?_
        obtain ⟨C, hC⟩ : ∃ C, (B || (bad.take k).contains a0) = C := ⟨_, rfl⟩
        have hC1 : (B || (bad.take (k + 1)).contains a0) = (C || decide (x = a0)) := by rw [hst, ← Bool.or_assoc, hC]
        rw [hC] at f24
        have next : ∀ f', (∀ j, j ∈ [1, 2, 3, 9, 11, 12, 13, 20, 22, 23, 25] → f' j = f j) → f' 24 = .bool (C || decide (x = a0)) → f' 26 = .int .i64 (k + 1 : Nat) → J2 (bad.length - (k + 1)) f' u.drew := fun f' h h24 h26 =>
          hJ2 _ _ _ ⟨k + 1, rfl, by omega, (h 1 (by simp)).trans (by rw [f1, hvd2, hA']), (h 2 (by simp)).trans f2, (h 3 (by simp)).trans f3, (h 9 (by simp)).trans f9, (h 11 (by simp)).trans f11, (h 12 (by simp)).trans f12, (h 13 (by simp)).trans f13, (h 20 (by simp)).trans f20, (h 22 (by simp)).trans f22, (h 23 (by simp)).trans f23, h24.trans (by rw [hC1]), (h 25 (by simp)).trans f25, h26, c5u.drew⟩
        have hxeq : ((x : Int) == (a0 : Int)) = decide (x = a0) := by
          by_cases e : x = a0
          · subst e; simp
          · rw [decide_eq_false e]
            exact beq_false_of_ne (by omega)
        cases C with
        | true =>
          simp [go_sem, f24, f26, hwk]
          exact Rnd.intro (bad.length - (k + 1)) (by omega) (next _ (fun j hj => by simp at hj; rcases hj with rfl | rfl | rfl | rfl | rfl | rfl | rfl | rfl | rfl | rfl | rfl <;> simp [f1]) (by simp) (by simp))
        | false =>
          simp [go_sem, f1, f11, f24, f25, f26, hkb, kx, kxd, ku5, ku5d, hil, kp, kpd, hwk]
          exact Rnd.intro (bad.length - (k + 1)) (by omega) (next _ (fun j hj => by simp at hj; rcases hj with rfl | rfl | rfl | rfl | rfl | rfl | rfl | rfl | rfl | rfl | rfl <;> simp [f1, f11, f25]) (by simp [hxeq]) (by simp))
      · obtain rfl : k = bad.length := by omega
        rw [List.take_length, ← hB1] at f24
        have lnn := lnn5.ch' c5u fun _ _ e => e
        simp [go_sem, f1, f26, hlnd, f11, f20, f25, ku5, hil, hbRu, hexR, hcsR, hps, hpa]
        refine (thas_any vn _ p u lnn okn okp (by omega)).mono ?_
        rintro _ u7 ⟨rfl, c7⟩
        rw [decide_eq_true (hmem p hpm)]
        simp [go_sem, f25, hwi]
        exact Rnd.intro (l.length - (i + 1)) (by omega) (hJ _ _ _ ⟨i + 1, rfl, by omega, by simp [f1], by simp [f2], by simp [f3], by simp [f9], by simp [f11], by simp [f12], by simp [f13], by simp [f20], by simp [f22], by simp [f23], by simp [f24], by simp, c5u.trans c7⟩)
    · obtain rfl : i = l.length := by omega
      rw [List.take_length] at f24
      have cWu := cW5.trans c5u
      have b5u := c5u.obj b5 id
      have bru := c5u.obj br5 id
      have b9u := c5u.obj b95 id
      have lhu := lh5.ch' c5u fun _ _ e => e
      have shu := (ShH.ok _ _ _ _).ch sh5 c5u fun _ _ e => e
      obtain ⟨x, hx⟩ : ∃ x, h[off]? = some x := ⟨_, List.getElem?_eq_getElem (by omega)⟩
      have hxd : h.getD off ptz = x := by rw [List.getD_eq_getElem?_getD, hx]; rfl
      have okx := okh x (List.mem_of_getElem? hx)
      obtain ⟨bh, oh, ch', csh, Th, frh, hvh, hbh, hexh, hcsh⟩ := lhu.elem (by decide) (fun q hq => pt_size (okh q hq)) hx
      injection hvh with e1 _ _
      injection e1 with e1
      injection e1 with e1 e2
      subst e1 e2
      rw [Nat.zero_add] at hexh hcsh
      have b5d : u5.drew.heap[g5]? = some (.cells (pt q4) 28 (0, 0)) := b5u
      have hbhd : u5.drew.heap[g + 2]? = some (.cells csh Th frh) := hbh
      have hxs := pt_size okx
      have hxa := pt_all okx
      have h64oi : (off : Int) < 64 := by omega
      have heqq : ∀ (a b : Pt), PtOk a → PtOk b → ∀ w, (Op.equalIn 10000 28 (.agg (pt a)) (.agg (pt b))).run Tryd.prog w = .ok (decide (a = b)) w := fun a b ha hb w => eq_pt w ha hb
      simp [go_sem, f11, f25, ku5, lnR]
      obtain ⟨I2, hI2⟩ : ∃ I2 : (Nat → Value) → World → Prop, I2 = fun f' u' => f' 2 = .int .u8 room ∧ f' 9 = .pointer (some ⟨q, 0, none⟩) ∧ f' 11 = .pointer (some ⟨g, 0, none⟩) ∧ f' 12 = .pointer (some ⟨g + 1, 0, none⟩) ∧ f' 13 = .slice (some ⟨g + 2, 0, none⟩) 64 64 ∧ f' 196 = .bool false ∧ u' = u5.drew := ⟨_, rfl⟩
      refine v_join I2 [[(0, none), (1, none), (2, none), (3, none), (4, none), (5, none), (6, none), (7, none), (8, none), (9, none), (10, none), (11, none), (12, none), (13, none), (14, none), (15, none), (16, none), (17, none), (18, none), (19, none), (20, none), (21, none), (22, none), (23, none), (24, none), (25, none), (26, none), (27, none)]] (by kernel_rfl) (by kernel_rfl) ?_ ?_
      · intro plan hplan
        simp only [List.mem_singleton] at hplan
        subst hplan
        cases hfl : hitB bad l with
        | true =>
          rw [hfl] at hq4 he4 f24
          simp only [if_true] at hq4 he4
          subst hq4 he4
          simp [go_sem, f2, f3, f9, f11, f12, f13, f22, f23, f24, b5u, b5d, hzs, hza, bld_pt0, heqq _ _ ptz_ok ptz_ok]
          rw [hI2]
          exact ⟨by simp [f2], by simp [f9], by simp [f11], by simp [f12], by simp [f13], by simp, rfl⟩
        | false =>
          rw [hfl] at hq4 he4 f24
          simp only [Bool.false_eq_true, if_false, hxd] at hq4 he4
          subst hq4 he4
          simp [go_sem, f2, f3, f9, f11, f12, f13, f22, f23, f24, b5u, b5d, h64o, h64oi, hbh, hbhd, hexh, hcsh, hxs, hxa, heqq _ _ okx okx]
          rw [hI2]
          exact ⟨by simp [f2], by simp [f9], by simp [f11], by simp [f12], by simp [f13], by simp, rfl⟩
      rw [hI2]
      clear f2 f3 f9 f11 f12 f13 f20 f22 f23 f24 f25 hI2 I2
      rintro f u6 ⟨f2, f9, f11, f12, f13, f196, hu6⟩
      have c6 : Ch Nw u5 u6 := hu6 ▸ (Ch.refl Nw u5).drew
      have cW6 := cWu.trans c6
      have br6 := c6.obj bru id
      have b96 := c6.obj b9u id
      have lh6 := lhu.ch' c6 fun _ _ e => e
      have sh6 := (ShH.ok _ _ _ _).ch shu c6 fun _ _ e => e
      have szu6 := (c5u.trans c6).size
      clear hu6
      obtain ⟨vB6, vD6, vM6, vG6, vR6, hb6, _, _, _, _, _, hgd6⟩ := sh6.reads
      have hwr : IntKind.i64.wrap (room : Int) = room := by rw [IntKind.wrap_i64]; omega
      obtain ⟨sh7, c7⟩ := sh6.setRoom (r := (room : Int)) (by omega) (by omega)
      have k46 : u6.cell? ⟨g, 4, none⟩ = some (.int .i64 (sB.more l).room) := cell_blk hb6 4
      have fz46 := frz_blk hb6 4
      simp [go_sem, f196, f2, f11, hwr, k46, fz46]
      generalize hw7 : u6.setCell ⟨g, 4, none⟩ (.int .i64 (room : Int)) = w7 at *
      obtain ⟨s7, hs7⟩ : ∃ s7 : Shf, { (sB.more l) with room := (room : Int) } = s7 := ⟨_, rfl⟩
      have fu7 : 990000000 ≤ shM s7 := by
        have : shM s7 = shM (sB.more l) := by rw [← hs7]; rfl
        omega
      have tp7 : TreeP s7.bl root top h := by rw [← hs7]; exact tpB
      rw [hs7] at sh7
      obtain ⟨O7, hO7⟩ : ∃ O7 : Nat → Prop, (fun k => O2 k ∨ (wB.heap.size ≤ k ∧ k < g5)) = O7 := ⟨_, rfl⟩
      have O57 : ∀ k, O5 k → O7 k ∨ Bk k := fun k hk => by
        rw [← hO7]
        rcases O5lo k hk with (hk | hk) | hk
        · exact .inl (.inl hk)
        · exact .inr hk
        · exact .inl (.inr hk)
      have O7lo : ∀ k, O7 k → k = g ∨ g + 3 ≤ k := fun k hk => by
        rw [← hO7] at hk
        rcases hk with hk | hk
        · exact O2lo k hk
        · omega
      have nO7 : ∀ k, k < g ∨ k = g + 1 ∨ k = g + 2 → ¬ O7 k := fun k hk e => by have := O7lo k e; omega
      have c7 : Ch O7 u6 w7 := Ch.but (c7.mono fun k _ => O57 k) fun k hk => by rw [sh7.kept2 hk, sh6.kept2 hk]
      have cW7 : Ch Nw W w7 := cW6.trans' c7 fun k hk e => nO7 k (by omega) e
      have br7 := c7.obj br6 (nO7 _ (by omega))
      have b97 := c7.obj b96 (nO7 _ (by omega))
      have lh7 := lh6.ch' c7 fun k hk => nO7 k (by simp [Value.ownBlock] at hk; omega)
      have kq0 : w7.cell? ⟨q, 0, none⟩ = some last.v := cell_blk b97 0
      have kq1 : w7.cell? ⟨q, 1, none⟩ = some (.int .u64 last.holes) := cell_blk b97 1
      have kq2 : w7.cell? ⟨q, 2, none⟩ = some (.bool last.same) := cell_blk b97 2
      rw [hlv] at kq0
      have lO5 := (ShH.ok _ _ _ _).lt sh7
      have okls : ∀ x ∈ last.lvs 99 h 64, LfOk x := fun x hx => ⟨by have := (last.lvs_mem 99 h 64 hx).1; omega, (lvs_good I.tp last (n := 99) (by omega) x hx).1.1⟩
      have hgls : lvGood none (last.lvs 99 h 64) = true := lvGood_of _ none (fun x hx => ⟨(last.lvs_mem 99 h 64 hx).1, (lvs_good I.tp last (n := 99) (by omega) x hx).1.2⟩) (last.lvs_rise 99 h 64) (fun y hy => by cases hy)
      have lls := last.lvs_len 99 h 64
      obtain ⟨ls, hls⟩ : ∃ ls, last.lvs 99 h 64 = ls := ⟨_, rfl⟩
      rw [hls] at okls hgls lls
      obtain ⟨ads1, ads2⟩ := tp7.ads
      obtain ⟨he8, hn6, xbl, hbl8⟩ := tset_e 9 s7 root ls hgls I.tp.may
      have hn6 := hn6 ads1 ads2
      have hm8 := tset_m (shSnk g wA Bk) 9 s7 root ls
      obtain ⟨⟨s8, q8, e8⟩, hT8⟩ : ∃ T, tset shRd shNw shOd 9 s7 root ls = T := ⟨_, rfl⟩
      rw [hT8] at he8 hn6 hbl8 hm8
      simp only at he8 hn6 hbl8 hm8
      have fin : ∀ {w8 w9 u' : World} {S : Nat → Prop}, Ch Nw w7 w8 → ShH g wA Bk s8 w9 (Gr O5 w8 w9) → Ch O5 w8 w9 → Ch S w9 u' → (∀ k, S k → w7.heap.size ≤ k ∧ ¬ Gr O5 w8 w9 k) → (∃ O8, ShH g wA Bk s8 u' O8 ∧ ∀ k, O8 k → O5 k ∨ w7.heap.size ≤ k) ∧ Ch O7 w7 u' := fun {w8 w9 u' S} c8 sh9 c9 cS hS => by
        have s8' := c8.size
        have sh8 := (ShH.ok _ _ _ _).ch sh7 c8 fun _ _ e => e
        have c9 : Ch O7 w8 w9 := Ch.but (c9.mono fun k _ => O57 k) fun k hk => by rw [sh9.kept2 hk, sh8.kept2 hk]
        refine ⟨⟨_, (ShH.ok _ _ _ _).ch sh9 cS fun k hk e => (hS k e).2 hk, fun k hk => hk.imp id fun e => by omega⟩, ?_⟩
        exact ((c8.mono fun _ _ e => e.elim).trans c9).trans' cS fun k hk e => by have := (hS k e).1; omega
      have c7d := (Ch.refl Nw w7).drew
      have tlv : ∀ (w : World), Ch Nw w7 w → Ret Tryd.prog 21 #[.agg (taL last).toArray, .int .i64 (99 : Nat), .slice (some ⟨g + 2, 0, none⟩) 64 64] w fun v' w' => MineS 69 42 w v' ls.length (rowsL lfv ls) w' := fun w hc => by
        rw [← hls]
        exact tlvs_any last 99 _ h w (hlast.ch (cW7.trans hc)) (by omega) (lh7.ch' hc fun _ _ e => e) okh h64 hofl
      have got : ∀ {w w8 : World} {vlS : Value}, Ch Nw w7 w → w8.ownsRow 0 69 42 vlS ls.length (rowsL lfv ls) → Ch Nw w w8 → Fresh w.heap.size vlS → Ch Nw w7 w8 ∧ Lst w8 vlS lfL 42 ls ∧ (∀ j, vlS.ownBlock = some j → ¬ O5 j ∧ j < w8.heap.size) ∧ ShH g wA Bk s7 w8 O5 ∧ TEnv w8 := fun {w w8 vlS} hc own8 c8 fl8 => by
        have c78 := hc.trans c8
        exact ⟨c78, Lst.of_own own8 fun x hx => lfv_size (okls x hx), fun j hj => ⟨fun e => by have := lO5 j e; have := fl8 j hj; have := hc.size; omega, own_in own8 j hj⟩, (ShH.ok _ _ _ _).ch sh7 c78 fun _ _ e => e, env.ch (cW7.trans c78) fun _ _ e => e⟩
      obtain ⟨I3, hI3⟩ : ∃ I3 : (Nat → Value) → World → Prop, I3 = fun f' u' => f' 11 = .pointer (some ⟨g, 0, none⟩) ∧ f' 12 = .pointer (some ⟨g + 1, 0, none⟩) ∧ f' 13 = .slice (some ⟨g + 2, 0, none⟩) 64 64 ∧ f' 28 = .int .i64 e8 ∧ (∃ O8, ShH g wA Bk s8 u' O8 ∧ ∀ k, O8 k → O5 k ∨ w7.heap.size ≤ k) ∧ Ch O7 w7 u' := ⟨_, rfl⟩
      refine v_join I3 [[(0, none), (1, none), (2, none), (3, none), (4, none), (5, some [0, 1, 2]), (6, some []), (7, none), (8, none), (9, none), (10, some [7, 8, 9]), (11, some [9]), (12, none)], [(0, none), (1, none), (2, none), (3, none), (4, none), (5, some [0, 1, 2]), (10, some [0, 1, 2]), (6, some []), (7, none), (8, none), (9, none), (11, some [9]), (12, none)], [(0, none), (1, none), (2, none), (3, none), (4, none), (10, some [0, 1, 2, 3, 4]), (5, some [0, 1, 2]), (6, some []), (7, none), (8, none), (9, none), (11, some [9]), (12, none)]] (by kernel_rfl) (by kernel_rfl) ?_ ?_
      · intro plan hplan
        simp only [List.mem_cons, List.not_mem_nil, or_false] at hplan
        rcases hplan with rfl | rfl | rfl
        · simp [go_sem, f9, f11, f12, f13, br7, hrs, hra, kq0, kq1, kq2, hta]
          refine (tlv _ c7d).mono ?_
          rintro vlS w8 ⟨own8, c8, fl8⟩
          obtain ⟨c78, hL8, hv8, sh8, env8⟩ := got c7d own8 c8 fl8
          have br8 := c78.obj br7 id
          simp [go_sem, f11, f12, br8, hrs, hra]
          refine (tset_gl (H := ShH g wA Bk) (shSnk g wA Bk) (ShH.ok _ _ _) sh8 root okr 9 vlS ls (by omega) hL8 okls hv8 env8 hglo (by decide)).mono ?_
          rw [hT8]
          rintro _ w9 ⟨rfl, okq8, sh9, c9⟩
          have hq8s := pt_size okq8
          simp only at hq8s
          simp [go_sem, hz_pt, zc_pt, hq8s, hzs, blit_whole]
          rw [hI3]
          obtain ⟨x1, x2⟩ := fin c78 sh9 c9 (S := Nw) ((Ch.refl Nw w9).alloc (.cells (pt q8) 28)) fun k hk => hk.elim
          exact ⟨by simp [f11], by simp [f12], by simp [f13], by simp, x1, x2⟩
        · simp [go_sem, f9, f11, f12, f13, br7, hrs, hra, kq0, kq1, kq2, hta]
          refine (tlv _ c7d).mono ?_
          rintro vlS w8 ⟨own8, c8, fl8⟩
          have c8a := c8.alloc (.cells (pt ptz) 28)
          have c78' := c7d.trans c8
          have br8 := c78'.obj br7 id
          have br8a := ((Ch.refl Nw w8).alloc (.cells (pt ptz) 28)).obj br8 id
          have b8a := hp_alloc w8 (.cells (pt ptz) 28)
          simp [go_sem, f11, f12, br8, br8a, hrs, hra, hz_pt, zc_pt]
          obtain ⟨c78, hL8, hv8, sh8, env8⟩ := got c7d (own_ch own8 ((Ch.refl Nw w8).alloc (.cells (pt ptz) 28)) fun _ _ e => e) c8a fl8
          refine (tset_gl (H := ShH g wA Bk) (shSnk g wA Bk) (ShH.ok _ _ _) sh8 root okr 9 vlS ls (by omega) hL8 okls hv8 env8 hglo (by decide)).mono ?_
          rw [hT8]
          rintro _ w9 ⟨rfl, okq8, sh9, c9⟩
          have hq8s := pt_size okq8
          simp only at hq8s
          have s78 := c78'.size
          have s8a : (w8.alloc (.cells (pt ptz) 28)).heap.size = w8.heap.size + 1 := by simp
          have b9a := c9.obj b8a fun e => by have := lO5 _ e; omega
          simp [go_sem, b9a, hq8s, hzs, blit_whole]
          rw [hI3]
          obtain ⟨x1, x2⟩ := fin c78 sh9 c9 (S := one w8.heap.size) ((Ch.refl (one w8.heap.size) w9).setRow (.inl rfl) (pt q8)) fun k hk => by
            simp only [one] at hk
            refine ⟨by omega, fun e => ?_⟩
            rcases e with e | e
            · have := lO5 k e; omega
            · omega
          exact ⟨by simp [f11], by simp [f12], by simp [f13], by simp, x1, x2⟩
        · have c7a := ((Ch.refl Nw w7).alloc (.cells (pt ptz) 28))
          have b7a := hp_alloc w7 (.cells (pt ptz) 28)
          have br7a := c7a.obj br7 id
          have kqa0 := c7a.cell kq0 id
          have kqa1 := c7a.cell kq1 id
          have kqa2 := c7a.cell kq2 id
          simp [go_sem, f9, f11, f12, f13, br7, br7a, hrs, hra, kq0, kq1, kq2, kqa0, kqa1, kqa2, hta, hz_pt, zc_pt]
          refine (tlv _ c7a.drew).mono ?_
          rintro vlS w8 ⟨own8, c8, fl8⟩
          obtain ⟨c78, hL8, hv8, sh8, env8⟩ := got c7a.drew own8 c8 fl8
          have br8 := c78.obj br7 id
          simp [go_sem, f11, f12, br8, hrs, hra]
          refine (tset_gl (H := ShH g wA Bk) (shSnk g wA Bk) (ShH.ok _ _ _) sh8 root okr 9 vlS ls (by omega) hL8 okls hv8 env8 hglo (by decide)).mono ?_
          rw [hT8]
          rintro _ w9 ⟨rfl, okq8, sh9, c9⟩
          have hq8s := pt_size okq8
          simp only at hq8s
          have s7a : (w7.alloc (.cells (pt ptz) 28)).drew.heap.size = w7.heap.size + 1 := by
            show (w7.alloc (.cells (pt ptz) 28)).heap.size = _
            simp
          have s8a := c8.size
          have b8a := c8.obj (show (w7.alloc (.cells (pt ptz) 28)).drew.heap[w7.heap.size]? = _ from b7a) id
          have b9a := c9.obj b8a fun e => by have := lO5 _ e; omega
          simp [go_sem, b9a, hq8s, hzs, blit_whole]
          rw [hI3]
          obtain ⟨x1, x2⟩ := fin c78 sh9 c9 (S := one w7.heap.size) ((Ch.refl (one w7.heap.size) w9).setRow (.inl rfl) (pt q8)) fun k hk => by
            simp only [one] at hk
            refine ⟨by omega, fun e => ?_⟩
            rcases e with e | e
            · have := lO5 k e; omega
            · omega
          exact ⟨by simp [f11], by simp [f12], by simp [f13], by simp, x1, x2⟩
      · rw [hI3]
        clear f2 f9 f11 f12 f13 f196 hI3 I3
        rintro f w9 ⟨f11, f12, f13, f28, ⟨O8, sh9, hO8⟩, c9⟩
        have cW9 : Ch Nw W w9 := cW7.trans' c9 fun k hk e => nO7 k (by omega) e
        have br9 := c9.obj br7 (nO7 _ (by omega))
        have lh9 := lh7.ch' c9 fun k hk => nO7 k (by simp [Value.ownBlock] at hk; omega)
        have sz9 := c9.size
        have szw7 := c7.size
        have O8lo : ∀ k, O8 k → k = g ∨ g + 3 ≤ k ∨ Bk k := fun k hk => by
          rcases hO8 k hk with e | e
          · rcases O57 k e with e | e
            · have := O7lo k e; omega
            · exact .inr (.inr e)
          · omega
        obtain ⟨vB9, vD9, vM9, vG9, vR9, hb9, _, _, _, _, _, hgd9⟩ := sh9.reads
        have k91 : w9.cell? ⟨g, 1, none⟩ = some vD9 := cell_blk hb9 1
        have k94 : w9.cell? ⟨g, 4, none⟩ = some (.int .i64 s8.room) := cell_blk hb9 4
        have fz91 := frz_blk hb9 1
        have fz94 := frz_blk hb9 4
        obtain ⟨shC, cC⟩ := sh9.noBad
        obtain ⟨shD, cD⟩ := shC.setRoom (r := -1) (by omega) (by omega)
        have kC : ∀ k, Bk k → (w9.setCell ⟨g, 1, none⟩ (.slice none 0 0)).heap[k]? = w9.heap[k]? := fun k hk => by rw [shC.kept2 hk, sh9.kept2 hk]
        have toP : ∀ {u u' : World}, Ch O8 u u' → (∀ k, Bk k → u'.heap[k]? = u.heap[k]?) → Ch (fun k => k = g ∨ g + 3 ≤ k) u u' := fun {u u'} c hB => Ch.but (c.mono fun k _ hk => by
          rcases O8lo k hk with e | e | e
          · exact .inl (.inl e)
          · exact .inl (.inr e)
          · exact .inr e) hB
        have cD9 := (toP cC kC).trans (toP cD fun k hk => by rw [shD.kept2 hk, shC.kept2 hk])
        have br9D := cD9.obj br9 fun e => by omega
        have lhD := lh9.ch' cD9 fun k hk e => by
          simp [Value.ownBlock] at hk
          omega
        have cWD : Ch Nw W _ := cW9.trans' cD9 fun k hk e => by omega
        have szD := cD9.size
        have envD := shD.tenv envA gB
        have e8' : e8 = 0 ∨ e8 = 21 ∨ e8 = 30 := by
          clear hlO lO5
          rcases he8 with e | e | e | e
          · exact .inl e
          · exact absurd e hn6
          · exact .inr (.inl e)
          · exact .inr (.inr e)
        have tpD : TreeP s8.bl root top h := tp7.ext ⟨xbl, hbl8⟩
        have fuD : 5000 ≤ shM { ({ s8 with bad := [] } : Shf) with room := -1 } := by
          have : shM { ({ s8 with bad := [] } : Shf) with room := -1 } = shM s8 := rfl
          omega
        simp [go_sem, f28]
        obtain ⟨I4, hI4⟩ : ∃ I4 : (Nat → Value) → World → Prop, I4 = fun f' u' => f' 11 = .pointer (some ⟨g, 0, none⟩) ∧ f' 12 = .pointer (some ⟨g + 1, 0, none⟩) ∧ f' 13 = .slice (some ⟨g + 2, 0, none⟩) 64 64 ∧ f' 221 = .bool false ∧ u' = w9 := ⟨_, rfl⟩
        refine VG_join I4 ?_ ?_
        · rw [hI4]
          clear hT8 he8 hn6
          rcases e8' with e | e | e <;> subst e <;> simp [go_sem, f28, f11, f12, f13]
        rw [hI4]
        clear f28 hI4 I4 f11 f12 f13
        rintro f u' ⟨f11, f12, f13, f221, hu'⟩
        subst hu'
        simp [go_sem, f221, f11, f12, f13, k91, k94, fz91, fz94, br9, br9D, hrs, hra]
        refine (ttells_gl shD tpD rfl fuD _ lhD (fun j hj => ⟨fun e => ?_, ?_⟩) envD hglo).mono ?_
        · simp [Value.ownBlock] at hj
          rcases O8lo j e with e | e | e
          · omega
          · omega
          · have := ltB j e; omega
        · simp [Value.ownBlock] at hj
          omega
        rintro _ u7 ⟨vn', l', O', rfl, _, shT, _, _, cT, _⟩
        have cWT : Ch Nw W u7 := cWD.trans' (toP cT fun k hk => by rw [shT.kept2 hk, shD.kept2 hk]) fun k hk e => by omega
        simp [go_sem]
        refine wake _ cWT fun u hu => ?_
        simp [go_sem]
        exact hR _ _ ⟨rfl, hu⟩
end Go.Proofs.YtppilgkgnofkpaaDoor
