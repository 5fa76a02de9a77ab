/- Tables: all inodes and all blocks' pointers, walked, of any source. Conditions: the variables ptr.wide and tree.hole hold what the text lays. -/
import Derived.Test.YtnefdmbdkljifaaGreatDoorTbB
import Derived.Test.YtnefdmbdkljifaaGreatDoorTrV
set_option linter.unusedSimpArgs false
set_option linter.unusedVariables false

/- Tables: all inodes and all blocks' pointers, of any source. Conditions: the variables ptr.wide and tree.hole hold what the text lays. -/
namespace Go.Proofs.YtnefdmbdkljifaaGreatDoor
open Go.RowKit Go.Kin

/-- a number and its inode -/
def itL (x : Nat × In) : List Value := .int .u16 x.1 :: (ino x.2).toList
def itv (x : Nat × In) : Array Value := (itL x).toArray
structure ItOk (x : Nat × In) : Prop where
  n : x.1 < 65536
  i : InOk x.2
section
variable {x : Nat × In}
theorem itL_len (ok : ItOk x) : (itL x).length = 45 := by
  have := ino_size ok.i
  simp [itL, this]
theorem itv_size (ok : ItOk x) : (itv x).size = 45 := itL_len ok
theorem itv_all (ok : ItOk x) : (itv x).extract 0 45 = itv x := by rw [← itv_size ok]; simp
theorem itv_0 : (itv x)[0]? = some (.int .u16 x.1) := by simp [itv, itL]
theorem itv_i (ok : ItOk x) : (itv x).extract 1 45 = ino x.2 := by
  have := ino_size ok.i
  apply Array.ext'
  simp [itv, itL, this]
  rw [List.take_of_length_le (by simp [this])]
theorem itv_ones : ones (itv x) = true := ones_of (by
  intro u hu
  unfold itL at hu
  rcases List.mem_cons.1 hu with rfl | hu
  · rfl
  · have h2 := ino_ones x.2
    unfold ones at h2
    rw [Array.all_eq_true'] at h2
    exact h2 u (by simpa using hu))
end
theorem itz_ok : ItOk (0, inz) := ⟨by decide, inz_ok⟩
theorem hz_it : (Tryz.prog.info? 76).map (fun i => i.zero.isSome) = some true := by kernel_rfl
theorem zc_it : zc Tryz.prog 76 = itv (0, inz) := by kernel_rfl
theorem tyIt : TyS Tryz.prog 43 76 (.agg (itv (0, inz))) 45 72 := ⟨Tryz.underlying43, by kernel_rfl, itv_size itz_ok, by decide⟩
theorem blit_it1 (n : Nat) : blit (itv (0, inz)) 0 #[.int .u16 n] = itv (n, inz) := by simp [blit, itv, itL]
theorem blit_it2 (n : Nat) (x : In) (ok : InOk x) : blit (itv (n, inz)) 1 (ino x) = itv (n, x) := by
  have h1 := ino_size ok
  have h2 := ino_size inz_ok
  apply Array.ext'
  simp [blit, itv, itL, h1, h2]
theorem bld_it (x : Nat × In) (ok : ItOk x) {w : World} {K : Value → World → Prop} : VBld Tryz.prog 76 [(0, .int .u16 x.1), (1, .agg (ino x.2))] w K = K (.agg (itv x)) w := by
  refine VBld_struct Tryz.underlying76 hz_it (places := #[(0, 1), (1, 44)]) (by simp [go_sem]) ?_
  have hz := itv_size itz_ok
  have h2 := itv_size (x := (x.1, inz)) ⟨ok.n, inz_ok⟩
  have hi := ino_size ok.i
  simp [fillB, zc_it, Value.cells, hz, blit_size, blit_it1, blit_it2, ok.i, hi, h2]
theorem bsl_it {x : Nat × In} (ok : ItOk x) (w : World) : (Instr.buildSlice 43 1 #[(0, .agg (itv x))]).run Tryz.prog w = .ok (.slice (some ⟨w.heap.size, 0, none⟩) 1 1) (w.alloc (.cells (itv x) 76)) :=
  run_buildSlice1 (size := 45) (z := .agg (itv (0, inz))) Tryz.underlying43 Tryz.sizeOf76 (by kernel_rfl) (itv_size ok) (by decide) (by decide) w
/-- a leaf's items, of the first k places -/
def itsK (off : Nat) (L : List In) (k : Nat) : List (Nat × In) := (List.range k).filterMap fun k => if L.getD k inz = inz then none else some ((off * 4 + k) % 65536, L.getD k inz)
theorem itsK_step (off : Nat) (L : List In) (k : Nat) : itsK off L (k + 1) = itsK off L k ++ if L.getD k inz = inz then [] else [((off * 4 + k) % 65536, L.getD k inz)] := by
  unfold itsK
  rw [List.range_succ, List.filterMap_append]
  congr 1
  by_cases h : L.getD k inz = inz
  · simp only [List.filterMap_cons, List.filterMap_nil, if_pos h]
  · simp only [List.filterMap_cons, List.filterMap_nil, if_neg h]
/-- leaf for leaf -/
def btgo {σ : Type} (rd : Src σ) : List (Nat × Pt) → σ → List (Nat × In) → List Pt → σ × List (Nat × In) × List Pt × Int
  | [], s, is, ps => (s, is, ps, 0)
  | x :: l, s, is, ps => if (bread rd s x.2).2.2 ≠ 0 then ((bread rd s x.2).1, [], [], (bread rd s x.2).2.2) else btgo rd l (bread rd s x.2).1 (is ++ itsK x.1 (bread rd s x.2).2.1 4) (ps ++ [x.2])
def btall {σ : Type} (rd : Src σ) (s : σ) (p : Pt) : σ × List (Nat × In) × List Pt × Int :=
  if (tall rd s p).2.2.2 ≠ 0 then ((tall rd s p).1, [], [], (tall rd s p).2.2.2) else btgo rd (tall rd s p).2.1 (tall rd s p).1 [] (tall rd s p).2.2.1
theorem tlvs_ok {n : List Pt} (ok : NdOk n) {i : Nat} (hi : i < 8) : (∀ x ∈ tlvs i n, LfOk x) ∧ (tlvs i n).length ≤ 8 := by
  refine ⟨fun x hx => ?_, Nat.le_trans (List.length_filterMap_le _ _) (by simp)⟩
  obtain ⟨k, hk, e⟩ := List.mem_filterMap.1 hx
  rw [List.mem_range] at hk
  split at e
  · cases e
  · simp only [Option.some.injEq] at e
    subst e
    refine ⟨by show 8 * i + k < _; omega, ?_⟩
    show PtOk (n.getD k ptz)
    rw [List.getD_eq_getElem?_getD]
    by_cases h : k < n.length
    · rw [List.getElem?_eq_getElem h]; exact ok.all _ (List.getElem_mem h)
    · rw [List.getElem?_eq_none (by omega)]; exact ptz_ok
section
variable {σ : Type} {H : σ → HP} {m : σ → Nat} {rd : Src σ} {bt : TypeId} {bv sv : Value} {s : σ} {w w' : World} {O : Nat → Prop}
theorem twk_ok (rd : Src σ) (top : List Pt) (ht : NdOk top) : ∀ (L : List Nat) (s : σ) (ls : List (Nat × Pt)) (ns : List Pt), (∀ i ∈ L, i < 8) → (∀ x ∈ ls, LfOk x) → (∀ p ∈ ns, PtOk p) → (∀ x ∈ (twk rd top L s ls ns).2.1, LfOk x) ∧ (∀ p ∈ (twk rd top L s ls ns).2.2.1, PtOk p) ∧ (twk rd top L s ls ns).2.1.length ≤ ls.length + 8 * L.length ∧ (twk rd top L s ls ns).2.2.1.length ≤ ns.length + L.length
  | [], s, ls, ns, _, h1, h2 => by unfold twk; exact ⟨h1, h2, by simp, by simp⟩
  | i :: L, s, ls, ns, hL, h1, h2 => by
    have hi : i < 8 := hL i (by simp)
    have hL' : ∀ j ∈ L, j < 8 := fun j hj => hL j (by simp [hj])
    have okp : PtOk (top.getD i ptz) := by
      rw [List.getD_eq_getElem?_getD]
      by_cases h : i < top.length
      · rw [List.getElem?_eq_getElem h]; exact ht.all _ (List.getElem_mem h)
      · rw [List.getElem?_eq_none (by omega)]; exact ptz_ok
    have h2' : ∀ p ∈ ns ++ [top.getD i ptz], PtOk p := fun p hp => by
      rcases List.mem_append.1 hp with hp | hp
      · exact h2 p hp
      · rw [List.mem_singleton] at hp
        subst hp
        exact okp
    obtain ⟨t1, t2⟩ := tlvs_ok (tread_ok rd s (top.getD i ptz)) hi
    unfold twk
    split
    · obtain ⟨a, b, c, d⟩ := twk_ok rd top ht L s ls ns hL' h1 h2
      exact ⟨a, b, by simp only [List.length_cons]; omega, by simp only [List.length_cons]; omega⟩
    · split
      · exact ⟨h1, h2', by simp only [List.length_cons]; omega, by simp only [List.length_append, List.length_cons, List.length_nil]; omega⟩
      · obtain ⟨a, b, c, d⟩ := twk_ok rd top ht L (tread rd s (top.getD i ptz)).1 (ls ++ tlvs i (tread rd s (top.getD i ptz)).2.1) (ns ++ [top.getD i ptz]) hL' (fun x hx => (List.mem_append.1 hx).elim (h1 x) (t1 x)) h2'
        simp only [List.length_append, List.length_cons, List.length_nil] at c d
        exact ⟨a, b, by simp only [List.length_cons]; omega, by simp only [List.length_cons]; omega⟩
theorem tall_ok (rd : Src σ) (s : σ) (p : Pt) (ok : PtOk p) : (∀ x ∈ (tall rd s p).2.1, LfOk x) ∧ (∀ p' ∈ (tall rd s p).2.2.1, PtOk p') ∧ (tall rd s p).2.1.length ≤ 64 ∧ (tall rd s p).2.2.1.length ≤ 9 := by
  have h0 : ∀ (e : Int), (∀ x ∈ ([] : List (Nat × Pt)), LfOk x) ∧ (∀ p' ∈ ([] : List Pt), PtOk p') ∧ ([] : List (Nat × Pt)).length ≤ 64 ∧ ([] : List Pt).length ≤ 9 := fun _ => ⟨by simp, by simp, by simp, by simp⟩
  have h1 : (∀ x ∈ (twalk rd s p).2.1, LfOk x) ∧ (∀ p' ∈ (twalk rd s p).2.2.1, PtOk p') ∧ (twalk rd s p).2.1.length ≤ 64 ∧ (twalk rd s p).2.2.1.length ≤ 9 := by
    unfold twalk
    split
    · exact h0 0
    · split
      · exact ⟨by simp, fun p' hp => by simp at hp; subst hp; exact ok, by simp, by simp⟩
      · obtain ⟨a, b, c, d⟩ := twk_ok rd (tread rd s p).2.1 (tread_ok rd s p) (List.range 8) (tread rd s p).1 [] [p] (fun i hi => by simpa using hi) (by simp) (fun p' hp => by simp at hp; subst hp; exact ok)
        simp only [List.length_range, List.length_nil, List.length_cons] at c d
        exact ⟨a, b, by omega, by omega⟩
  unfold tall
  split
  · split
    · exact h0 0
    · exact h1
  · exact h0 0
end
end Go.Proofs.YtnefdmbdkljifaaGreatDoor

namespace Go.Proofs.YtnefdmbdkljifaaGreatDoor
open Go.RowKit Go.Kin

theorem own_notype {w : World} {e e' s s' n n' : Nat} {v v' : Value} {xs xs' : List Value} (h : w.ownsRow 0 e s v n xs) (h' : w.ownsRow 0 e' s' v' n' xs') (he : e ≠ e') : ∀ k, v.ownBlock = some k → v'.ownBlock ≠ some k := fun k hk hk' => by
  rcases h.2 with ⟨rfl, _⟩ | ⟨g, cap, cur, rfl, _, hb, _⟩
  · simp [Value.ownBlock] at hk
  · rcases h'.2 with ⟨rfl, _⟩ | ⟨g', cap', cur', rfl, _, hb', _⟩
    · simp [Value.ownBlock] at hk'
    · simp [Value.ownBlock] at hk hk'
      subst hk
      subst hk'
      rw [hb] at hb'
      simp at hb'
      exact he hb'.2
theorem own_ne {w : World} {e e' s n q : Nat} {v : Value} {xs : List Value} {C : Array Value} {fr : Nat × Nat} (h : w.ownsRow 0 e s v n xs) (hb : w.heap[q]? = some (.cells C e' fr)) (he : e ≠ e') : v.ownBlock ≠ some q := fun hk => by
  rcases h.2 with ⟨rfl, _⟩ | ⟨g, cap, cur, rfl, _, hb', _⟩
  · simp [Value.ownBlock] at hk
  · simp [Value.ownBlock] at hk
    subst hk
    rw [hb] at hb'
    simp at hb'
    exact he hb'.2.1.symm
def BAllR {σ : Type} (H : σ → HP) (w : World) (O : Nat → Prop) (x : σ × List (Nat × In) × List Pt × Int) (v' : Value) (w' : World) : Prop :=
  ∃ vi vn O', v' = .tuple #[vi, vn, .int .i64 x.2.2.2] ∧ w'.ownsRow 0 76 45 vi x.2.1.length (rowsL itv x.2.1) ∧ w'.ownsRow 0 37 41 vn x.2.2.1.length (rowsL pt x.2.2.1) ∧ H x.1 w' O' ∧ (∀ k, O' k → Gr O w w' k) ∧
    (∀ k, vi.ownBlock = some k → ¬ O' k ∧ w.heap.size ≤ k) ∧ (∀ k, vn.ownBlock = some k → ¬ O' k ∧ w.heap.size ≤ k) ∧ Ch O w w'
section
variable {σ : Type} {H : σ → HP} {m : σ → Nat} {rd : Src σ} {bt : TypeId} {bv sv : Value} {s : σ} {w w' : World} {O : Nat → Prop}
set_option maxRecDepth 100000 in
set_option maxHeartbeats 4000000 in
theorem btall_any (hs : SrcOk H m rd (.iface bt bv)) (hm : 1200 ≤ m s) (hH : ∀ s, HOk (H s)) (h : H s w O) (p : Pt) (ok : PtOk p) (env : TEnv w) (hg : GlOk H O) :
    Ret Tryz.prog 14 #[.iface bt bv, .agg (pt p)] w (BAllR H w O (btall rd s p)) := by
  refine v_enter Tryz.func14 Tryz.ntmps14 rfl (by simp) fun R' hR => ?_
  have hps := pt_size ok
  have hpa := pt_all ok
  have hlO := (hH s).lt h
  have ca := (Ch.refl Nw w).alloc (.cells (pt p) 37)
  have b0 := hp_alloc w (.cells (pt p) 37)
  have env1 := env.ch ca fun _ _ e => e
  have h1 := (hH s).ch h ca fun _ _ e => e
  have sa : (w.alloc (.cells (pt p) 37)).heap.size = w.heap.size + 1 := by simp
  obtain ⟨w1, hw1⟩ : ∃ w1, w.alloc (.cells (pt p) 37) = w1 := ⟨_, rfl⟩
  rw [hw1] at ca b0 env1 h1 sa
  simp [go_sem, hps, hpa, hw1, b0]
  have hta := tall_gl hs (by omega) hH h1 p ok env1 hg
  obtain ⟨okl, okn, ll, ln⟩ := tall_ok rd s p ok
  have tm := tall_m hs s p
  have hb : btall rd s p = if (tall rd s p).2.2.2 ≠ 0 then ((tall rd s p).1, [], [], (tall rd s p).2.2.2) else btgo rd (tall rd s p).2.1 (tall rd s p).1 [] (tall rd s p).2.2.1 := rfl
  obtain ⟨⟨s2, L, N, e2⟩, hT⟩ : ∃ x, tall rd s p = x := ⟨_, rfl⟩
  rw [hT] at hta okl okn ll ln tm hb
  simp only at hta okl okn ll ln tm hb
  refine hta.mono ?_
  rintro _ w2 ⟨vl, vn, O2, rfl, ol, on, h2, hO2, fl, fn, c2⟩
  have hs2 := c2.size
  have nilR : ∀ {e : Int} {W : World} {O3 : Nat → Prop} {s3 : σ}, btall rd s p = (s3, [], [], e) → H s3 W O3 → (∀ k, O3 k → Gr O w1 W k) → Ch O w1 W → R' (.tuple #[.slice none 0 0, .slice none 0 0, .int .i64 e]) W := fun {e W O3 s3} hb h3 hO3 c3 => by
    rw [hb] at hR
    have := c3.size
    exact hR _ _ ⟨_, _, O3, rfl, World.ownsRow_nil _ _ _ _, World.ownsRow_nil _ _ _ _, h3, fun k hk => (hO3 k hk).imp id fun e => ⟨by omega, e.2⟩, fun k hk => by simp [Value.ownBlock] at hk, fun k hk => by simp [Value.ownBlock] at hk, (ca.mono fun _ _ e => e.elim).trans c3⟩
  by_cases he : e2 = 0
  case neg =>
    rw [if_pos he] at hb
    have he2 : (e2 == 0) = false := beq_false_of_ne he
    simp [go_sem, he, he2, bne]
    exact nilR hb h2 hO2 c2
  rw [if_neg (by omega)] at hb
  subst he
  have hlen := fun w => (Lst.of_own ol fun a ha => lfv_size (okl a ha)).len Tryz.underlying84 3 w
  simp [go_sem, hlen]
  refine v_loop (fun r f u => ∃ i s' is ps vi vn Oc, r = L.length - i ∧ i ≤ L.length ∧ f 0 = .iface bt bv ∧ f 27 = vl ∧ f 28 = .int .i64 L.length ∧ f 29 = .int .i64 (i : Nat) ∧ f 8 = vn ∧ f 10 = vi ∧
      btgo rd L s2 [] N = btgo rd (L.drop i) s' is ps ∧ is.length ≤ 4 * i ∧ ps.length ≤ 9 + i ∧ (∀ x ∈ is, ItOk x) ∧ (∀ p ∈ ps, PtOk p) ∧
      u.ownsRow 0 93 42 vl L.length (rowsL lfv L) ∧ u.ownsRow 0 76 45 vi is.length (rowsL itv is) ∧ u.ownsRow 0 37 41 vn ps.length (rowsL pt ps) ∧ H s' u Oc ∧ (∀ k, Oc k → Gr O w1 u k) ∧
      (∀ k, vl.ownBlock = some k → ¬ Oc k ∧ w1.heap.size ≤ k) ∧ (∀ k, vi.ownBlock = some k → ¬ Oc k ∧ w1.heap.size ≤ k) ∧ (∀ k, vn.ownBlock = some k → ¬ Oc k ∧ w1.heap.size ≤ k) ∧ Ch O w1 u ∧ 16 * (L.length - i) ≤ m s') L.length
    ⟨0, s2, [], N, .slice none 0 0, vn, O2, rfl, Nat.zero_le _, by simp, by simp, by simp, by simp, by simp, by simp, by simp, by simp, by simpa using ln, by simp, okn, ol, World.ownsRow_nil _ _ _ _, on, h2, hO2, fl, fun k hk => by simp [Value.ownBlock] at hk, fn, c2, by omega⟩ ?_
  rintro J hJ _ f u ⟨i, s', is, ps, vi, vn', Oc, rfl, hi, f0, f27, f28, f29, f8, f10, hgo, lis, lps, oki, okp, olu, oiu, onu, hu, hOc, fl', fi', fn', cu, mu⟩
  by_cases hlt : i < L.length
  case neg =>
    have hii : ¬ (i : Int) < L.length := by omega
    simp [go_sem, f28, f29, hlt, hii, f10, f8]
    rw [List.drop_of_length_le (by omega), btgo] at hgo
    rw [hb, hgo] at hR
    have := cu.size
    refine hR _ _ ⟨vi, vn', Oc, rfl, oiu, onu, hu, fun k hk => (hOc k hk).imp id fun e => ⟨by omega, e.2⟩, fun k hk => ⟨(fi' k hk).1, by have := (fi' k hk).2; omega⟩, fun k hk => ⟨(fn' k hk).1, by have := (fn' k hk).2; omega⟩, (ca.mono fun _ _ e => e.elim).trans cu⟩
  have hii : (i : Int) < L.length := by omega
  obtain ⟨x, hx⟩ : ∃ x, L[i]? = some x := ⟨_, List.getElem?_eq_getElem hlt⟩
  have okx := okl x (List.mem_of_getElem? hx)
  have hdr : L.drop i = x :: L.drop (i + 1) := by
    rw [List.drop_eq_getElem_cons hlt]
    congr 1
    rw [List.getElem?_eq_getElem hlt] at hx
    exact Option.some.inj hx
  rw [hdr, btgo] at hgo
  obtain ⟨bl, of', cl, csl, Tl, frl, hvl, hbl, hel, hcl⟩ := (Lst.of_own olu fun a ha => lfv_size (okl a ha)).elem (by decide) (fun a ha => lfv_size (okl a ha)) hx
  subst hvl
  have hxs := lfv_size okx
  have hxa := lfv_all okx
  have hxp := lfv_pt okx
  have hzs := lfv_size lfz_ok
  have hqs := pt_size okx.p
  have hwi : IntKind.i64.wrap ((i : Int) + 1) = ((i + 1 : Nat) : Int) := by rw [IntKind.wrap_i64]; omega
  have envu := hg.env env1 cu ⟨_, hu⟩ fun _ _ e => e
  have c3 := (Ch.refl Nw u).alloc (.cells (lfv x) 93)
  have b3 := hp_alloc u (.cells (lfv x) 93)
  have s3 : (u.alloc (.cells (lfv x) 93)).heap.size = u.heap.size + 1 := by simp
  obtain ⟨w3, hw3⟩ : ∃ w3, u.alloc (.cells (lfv x) 93) = w3 := ⟨_, rfl⟩
  rw [hw3] at c3 b3 s3
  have env3 := envu.ch c3 fun _ _ e => e
  have h3 := (hH _).ch hu c3 fun _ _ e => e
  simp [go_sem, f27, f28, f29, hlt, hii, hbl, hel, hcl, VAl_big, hz_lf, zc_lf, hzs, hxs, hxa, blit_whole, hw3, b3, hxp, f0]
  obtain ⟨q, hq⟩ : ∃ q, u.heap.size = q := ⟨_, rfl⟩
  rw [hq] at b3 ⊢
  clear hw3
  have hOq : ∀ k, Oc k → k < q := fun k hk => by rw [← hq]; exact (hH _).lt hu k hk
  have hbr := bread_any hs (by omega) hH h3 x.2 okx.p env3 ((hg.gr env1).mono hOc)
  have okb := bread_ok rd s' x.2
  have bm := bread_m hs s' x.2
  obtain ⟨⟨s4, L4, e4⟩, hB⟩ : ∃ y, bread rd s' x.2 = y := ⟨_, rfl⟩
  rw [hB] at hbr okb bm hgo
  simp only at hbr okb bm hgo
  refine hbr.mono ?_
  rintro _ w4 ⟨rfl, h4, c4⟩
  have s4' := c4.size
  have b4 := c4.obj b3 fun e => by have := hOq q e; omega
  have hb4 := ib_size okb
  have hba := ib_all okb
  have hbz := ib_size ibz_ok
  have c5 := (Ch.refl Nw w4).alloc (.cells (ib L4) 100)
  have b5 := hp_alloc w4 (.cells (ib L4) 100)
  have s5 : (w4.alloc (.cells (ib L4) 100)).heap.size = w4.heap.size + 1 := by simp
  have b45 := c5.obj b4 id
  obtain ⟨w5, hw5⟩ : ∃ w5, w4.alloc (.cells (ib L4) 100) = w5 := ⟨_, rfl⟩
  rw [hw5] at c5 b5 s5 b45
  have h5 := (hH _).ch h4 c5 fun _ _ e => e
  have hG : ∀ k, Gr Oc w3 w4 k → Gr O w1 w5 k := fun k hk => hk.elim (fun e => (hOc k e).imp id fun e => ⟨e.1, by omega⟩) fun e => .inr ⟨by have := cu.size; omega, by omega⟩
  have cO : Ch O w1 w5 := ((cu.trans (c3.mono (S' := O) fun _ _ e => e.elim)).trans' c4 fun k hk e => (hOc k e).elim id fun e => by omega).trans (c5.mono fun _ _ e => e.elim)
  by_cases he : e4 = 0
  case neg =>
    have he2 : (e4 == 0) = false := beq_false_of_ne he
    rw [if_pos he] at hgo
    simp [go_sem, hz_ib, zc_ib, hb4, hba, hbz, blit_whole, hw5, he, he2, bne]
    exact nilR (hb.trans hgo) h5 hG cO
  rw [if_neg (by omega)] at hgo
  subst he
  simp [↓VX_bsl1, go_sem, hz_ib, zc_ib, hb4, hba, hbz, blit_whole, hw5, b45, hxs, hxp, hqs, f8]
  refine VBs_run (bsl_ptr okx.p _) ?_
  simp [go_sem]
  have n4 : ∀ {v : Value}, (∀ k, v.ownBlock = some k → ¬ Oc k ∧ w1.heap.size ≤ k) → ∀ k, v.ownBlock = some k → ¬ Oc k := fun h k hk => (h k hk).1
  have onu5 := own_ch (own_ch (own_ch onu c3 fun _ _ e => e) c4 (n4 fn')) c5 fun _ _ e => e
  have oiu5 := own_ch (own_ch (own_ch oiu c3 fun _ _ e => e) c4 (n4 fi')) c5 fun _ _ e => e
  have olu5 := own_ch (own_ch (own_ch olu c3 fun _ _ e => e) c4 (n4 fl')) c5 fun _ _ e => e
  have hnu : ∀ k, vn'.ownBlock = some k → k < u.heap.size := own_in onu
  have hiu : ∀ k, vi.ownBlock = some k → k < u.heap.size := own_in oiu
  refine VB_app1S (us := (pt x.2).toList) tyPtr onu5 (by rw [Array.length_toList, hqs]) (ones_mem (pt_ones x.2)) (by unfold maxLen; omega) (by omega) fun v6 w6 on6 c6 f6 => ?_
  have e6 : rowsL pt (ps ++ [x.2]) = rowsL pt ps ++ (pt x.2).toList := by rw [rowsL_append, rowsL_one]
  have on6' : w6.ownsRow 0 37 41 v6 (ps ++ [x.2]).length (rowsL pt (ps ++ [x.2])) := by
    rw [e6, List.length_append, List.length_singleton]
    exact on6
  obtain ⟨P6, hP6⟩ : ∃ P, ps ++ [x.2] = P := ⟨_, rfl⟩
  have okP : ∀ p ∈ P6, PtOk p := fun p hp => by
    rw [← hP6] at hp
    rcases List.mem_append.1 hp with hp | hp
    · exact okp p hp
    · rw [List.mem_singleton] at hp
      subst hp
      exact okx.p
  have lP : P6.length = ps.length + 1 := by rw [← hP6, List.length_append, List.length_singleton]
  rw [hP6] at on6' hgo
  have s6 := c6.size
  have oi6 := own_ch oiu5 c6 fun k hk e => own_notype oiu5 onu5 (by decide) k hk e
  have ol6 := own_ch olu5 c6 fun k hk e => own_notype olu5 onu5 (by decide) k hk e
  have h6 := (hH _).ch h5 c6 fun k hk e => hk.elim (fn' k e).1 fun e' => by have := hnu k e; omega
  have b6 := c6.obj b45 fun e => by have := hnu q e; omega
  have bi6 := c6.obj b5 fun e => by have := hnu _ e; omega
  have cO6 : Ch O w1 w6 := cO.trans' c6 fun k hk e => by have := (fn' k e).2; omega
  have fv6 : ∀ k, v6.ownBlock = some k → ¬ Gr Oc w3 w4 k ∧ w1.heap.size ≤ k := fun k hk => by
    have := cu.size
    rcases f6 with f6 | f6
    · rw [f6] at hk
      exact ⟨fun e => e.elim (fn' k hk).1 fun e => by have := hnu k hk; omega, (fn' k hk).2⟩
    · have := f6 k hk
      exact ⟨fun e => e.elim (fun e => by have := hOq k e; omega) fun e => by omega, by omega⟩
  have fi6 : ∀ k, vi.ownBlock = some k → ¬ Gr Oc w3 w4 k ∧ w1.heap.size ≤ k := fun k hk => ⟨fun e => e.elim (fi' k hk).1 fun e => by have := hiu k hk; omega, (fi' k hk).2⟩
  have hlu : ∀ k, (Value.slice (some ⟨bl, of', none⟩) L.length cl).ownBlock = some k → k < u.heap.size := own_in olu
  have fl6 : ∀ k, (Value.slice (some ⟨bl, of', none⟩) L.length cl).ownBlock = some k → ¬ Gr Oc w3 w4 k ∧ w1.heap.size ≤ k := fun k hk => ⟨fun e => e.elim (fl' k hk).1 fun e => by have := hlu k hk; omega, (fl' k hk).2⟩
  have hG4 : ∀ k, Gr Oc w3 w4 k → Gr O w1 w6 k := fun k hk => (hG k hk).imp id fun e => ⟨e.1, by omega⟩
  simp [go_sem, bi6, hb4, hba]
  refine v_loop (fun r f u' => ∃ k vi', r = 4 - k ∧ k ≤ 4 ∧ f 0 = .iface bt bv ∧ f 27 = .slice (some ⟨bl, of', none⟩) L.length cl ∧ f 28 = .int .i64 L.length ∧ f 29 = .int .i64 (i : Nat) ∧ f 8 = v6 ∧ f 10 = vi' ∧ f 12 = .pointer (some ⟨q, 0, none⟩) ∧ f 48 = .agg (ib L4) ∧ f 49 = .int .i64 (k : Nat) ∧
      u'.ownsRow 0 93 42 (.slice (some ⟨bl, of', none⟩) L.length cl) L.length (rowsL lfv L) ∧ u'.ownsRow 0 76 45 vi' (is ++ itsK x.1 L4 k).length (rowsL itv (is ++ itsK x.1 L4 k)) ∧ u'.ownsRow 0 37 41 v6 P6.length (rowsL pt P6) ∧
      H s4 u' (Gr Oc w3 w4) ∧ (∀ k, vi'.ownBlock = some k → ¬ Gr Oc w3 w4 k ∧ w1.heap.size ≤ k) ∧ u'.heap[q]? = some (.cells (lfv x) 93 (0, 0)) ∧ (∀ z ∈ is ++ itsK x.1 L4 k, ItOk z) ∧ (is ++ itsK x.1 L4 k).length ≤ 4 * i + k ∧ Ch O w1 u' ∧ w6.heap.size ≤ u'.heap.size) 4
    ⟨0, vi, rfl, by omega, by simp [f0], by simp [f27], by simp [f28], by simp [f29], by simp, by simp [f10], by simp, by simp, by simp, ol6, by simpa [itsK] using oi6, on6', h6, fi6, b6, by simpa [itsK] using oki, by simpa [itsK] using lis, cO6, Nat.le_refl _⟩ ?_
  rintro J2 hJ2 _ f u' ⟨k, vi', rfl, hk, f0, f27, f28, f29, f8, f10, f12, f48, f49, olk, oik, onk, hk4, fik, bqk, okik, lik, cuk, suk⟩
  by_cases hk4' : k < 4
  case neg =>
    have hkk : k = 4 := by omega
    subst hkk
    simp [go_sem, f49, f29, hwi]
    refine Rnd.intro (L.length - (i + 1)) (by omega) (hJ _ _ _ ⟨i + 1, s4, is ++ itsK x.1 L4 4, P6, vi', v6, Gr Oc w3 w4, rfl, by omega, by simp [f0], by simp [f27], by simp [f28], by simp, by simp [f8], by simp [f10], hgo, by omega, by omega, okik, okP, olk, oik, onk, hk4, fun k hk => (hG4 k hk).imp id fun e => ⟨e.1, by omega⟩, fl6, fik, fv6, cuk, by omega⟩)
  have hki : (k : Int) < 4 := by omega
  obtain ⟨y, hy, oky⟩ := okb.at' (k := k) hk4'
  have hyd : L4.getD k inz = y := by rw [List.getD_eq_getElem?_getD, hy]; rfl
  have hidx := fun w => ib_index okb hk4' hy w
  have hys := ino_size oky
  have hya := ino_all oky
  have hzi := ino_size inz_ok
  have hwk : IntKind.i64.wrap ((k : Int) + 1) = ((k + 1 : Nat) : Int) := by rw [IntKind.wrap_i64]; omega
  have heq := fun w => eq_ino w oky inz_ok
  have c7 := (Ch.refl Nw u').alloc (.cells (ino y) 56)
  have b7 := hp_alloc u' (.cells (ino y) 56)
  have s7 : (u'.alloc (.cells (ino y) 56)).heap.size = u'.heap.size + 1 := by simp
  have bq7 := c7.obj bqk id
  obtain ⟨w7, hw7⟩ : ∃ w7, u'.alloc (.cells (ino y) 56) = w7 := ⟨_, rfl⟩
  rw [hw7] at c7 b7 s7 bq7
  have ol7 := own_ch olk c7 fun _ _ e => e
  have oi7 := own_ch oik c7 fun _ _ e => e
  have on7 := own_ch onk c7 fun _ _ e => e
  have h7 := (hH _).ch hk4 c7 fun _ _ e => e
  have c07 : Ch O w1 w7 := cuk.trans (c7.mono fun _ _ e => e.elim)
  have hst := itsK_step x.1 L4 k
  rw [hyd] at hst
  by_cases hyz : y = inz
  · rw [if_pos hyz, List.append_nil] at hst
    have heqz : ∀ w, (Op.equalIn 10000 56 (.agg (ino y)) (.agg (ino inz))).run Tryz.prog w = .ok true w := fun w => by rw [heq, decide_eq_true hyz]
    simp [go_sem, f48, f49, hki, hk4', hidx, hz_ino, zc_ino, hys, hya, hzi, blit_whole, hw7, b7, bld_ino0, heqz, hwk]
    refine Rnd.intro (4 - (k + 1)) (by omega) (hJ2 _ _ _ ⟨k + 1, vi', rfl, by omega, by simp [f0], by simp [f27], by simp [f28], by simp [f29], by simp [f8], by simp [f10], by simp [f12], by simp [f48], by simp [hwk], ol7, by rw [hst]; exact oi7, on7, h7, fik, bq7, by rw [hst]; exact okik, by rw [hst]; omega, c07, by omega⟩)
  · rw [if_neg hyz] at hst
    have c0 := (cell_blk bq7 0).trans (lfv_0 x)
    have e1 : IntKind.u16.wrap (IntKind.u16.wrap (IntKind.u16.wrap (x.1 : Int) * 4) + IntKind.u16.wrap (k : Int)) = (((x.1 * 4 + k) % 65536 : Nat) : Int) := by
      simp [IntKind.wrap, IntKind.bits, IntKind.signed]
      omega
    have okz : ItOk ((x.1 * 4 + k) % 65536, y) := ⟨by show _ % 65536 < _; omega, oky⟩
    have hbd : ∀ {w : World} {K : Value → World → Prop}, VBld Tryz.prog 76 [(0, .int .u16 (((x.1 * 4 + k) % 65536 : Nat) : Int)), (1, .agg (ino y))] w K = K (.agg (itv ((x.1 * 4 + k) % 65536, y))) w := fun {w K} => bld_it _ okz
    simp [↓VX_bsl1, go_sem, f48, f49, hki, hk4', hidx, hz_ino, zc_ino, hys, hya, hzi, blit_whole, hw7, b7, bld_ino0, heq, hyz, f10, f12, c0]
    rw [e1, hbd]
    simp [↓VX_bsl1, go_sem]
    refine VBs_run (bsl_it okz _) ?_
    simp [go_sem]
    refine VB_app1S (us := itL ((x.1 * 4 + k) % 65536, y)) tyIt oi7 (itL_len okz) (ones_mem (itv_ones (x := ((x.1 * 4 + k) % 65536, y)))) (by unfold maxLen; omega) (by omega) fun v8 w8 k1 k2 k3 => ?_
    have e8 : rowsL itv (is ++ itsK x.1 L4 (k + 1)) = rowsL itv (is ++ itsK x.1 L4 k) ++ itL ((x.1 * 4 + k) % 65536, y) := by
      rw [hst, ← List.append_assoc, rowsL_append, rowsL_one]
      rfl
    have l8 : (is ++ itsK x.1 L4 (k + 1)).length = (is ++ itsK x.1 L4 k).length + 1 := by
      rw [hst, ← List.append_assoc, List.length_append, List.length_singleton]
    have hik : ∀ j, vi'.ownBlock = some j → j < w7.heap.size := own_in oi7
    have h4lt : ∀ j, Gr Oc w3 w4 j → j < w4.heap.size := fun j hj => hj.elim (fun e => by have := hOq j e; omega) fun e => e.2
    have s8 := k2.size
    simp [go_sem, f49, hwk]
    refine Rnd.intro (4 - (k + 1)) (by omega) (hJ2 _ _ _ ⟨k + 1, v8, rfl, by omega, by simp [f0], by simp [f27], by simp [f28], by simp [f29], by simp [f8], by simp, by simp [f12], by simp [f48], by simp, own_ch ol7 k2 fun j hj e => own_notype ol7 oi7 (by decide) j hj e, by rw [e8, l8]; exact k1, own_ch on7 k2 fun j hj e => own_notype on7 oi7 (by decide) j hj e, (hH _).ch h7 k2 fun j hj e => (fik j e).1 hj, fun j hj => ?_, k2.obj bq7 fun e => ?_, ?_, by rw [l8]; omega, c07.trans' k2 fun j hj e => by have := (fik j e).2; omega, by omega⟩)
    · rcases k3 with k3 | k3
      · rw [k3] at hj
        exact fik j hj
      · have := k3 j hj
        exact ⟨fun e => by have := h4lt j e; omega, by have := cu.size; omega⟩
    · exact own_ne oi7 bq7 (by decide) e
    · intro z hz
      rw [hst, ← List.append_assoc] at hz
      rcases List.mem_append.1 hz with hz | hz
      · exact okik z hz
      · rw [List.mem_singleton] at hz
        subst hz
        exact okz
end
end Go.Proofs.YtnefdmbdkljifaaGreatDoor
