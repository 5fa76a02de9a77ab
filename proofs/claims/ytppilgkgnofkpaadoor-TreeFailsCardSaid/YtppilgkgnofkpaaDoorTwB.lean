/- TreeWrong, walked. Conditions: the variables ptr.wide and tree.hole hold what the text lays; the arguments lie in the world. -/
import Derived.Test.YtppilgkgnofkpaaDoorTwS
import Derived.Test.YtppilgkgnofkpaaDoorPtE
set_option linter.unusedSimpArgs false
set_option linter.unusedVariables false

namespace Go.Kin
open Go Go.RowKit
theorem VG_join {P : Program} {l : List Oper} {n : Nat} {Q : (Nat → Value) → World → Prop} {g : Option Bool} {want : Bool} {o : Oper} {rest : List Oper} {f : Nat → Value} {w : World} (I : (Nat → Value) → World → Prop) (h : VG P l n I g want o rest f w) (hI : ∀ f w, I f w → Q f w) : VG P l n Q g want o rest f w := by
  unfold VG at *
  split at h
  · rename_i hg
    rw [if_pos hg]
    exact VX.mono (fun v w' hv => by rw [VK_app] at *; exact V.mono hI _ _ _ hv) h
  · rename_i hg
    rw [if_neg hg]
    exact V.mono hI _ _ _ h
end Go.Kin
namespace Go.Proofs.YtppilgkgnofkpaaDoor
open Go.RowKit Go.Kin

theorem tget_nil (p : Pt) (off : Nat) (w : World) (ok : PtOk p) (env : TEnv w) : Ret Tryd.prog 26 #[.nilIface, .agg (pt p), .int .u32 off] w fun v' w' => v' = .tuple #[.agg (pt ptz), .int .i64 2] ∧ Ch Nw w w' := by
  refine v_enter Tryd.func26 Tryd.ntmps26 rfl (by simp) fun R' hR => ?_
  have hps := pt_size ok
  have hpa := pt_all ok
  have hzs := pt_size ptz_ok
  have hza := pt_all ptz_ok
  have ca := ((Ch.refl Nw w).alloc (.cells (pt p) 28)).alloc (.cells (pt ptz) 28)
  have b1 := al2_1 w (.cells (pt p) 28) (.cells (pt ptz) 28)
  obtain ⟨cs, T, fr, hh0, hx, hz⟩ := env.lh
  have hh1 := ca.obj hh0 id
  have hhg : ∀ hlt, ((w.alloc (.cells (pt p) 28)).alloc (.cells (pt ptz) 28)).heap[1]'hlt = .cells cs T fr := fun hlt => by
    have := hh1
    rw [Array.getElem?_eq_getElem hlt] at this
    exact Option.some.inj this
  simp [go_sem, hps, hpa, hz_pt, zc_pt, hhg, hx, hz, b1, hzs, hza, blit_whole]
  exact hR _ _ ⟨rfl, ca.setRow (.inr (by omega)) _⟩
theorem tall_nil (p : Pt) (w : World) (ok : PtOk p) : Ret Tryd.prog 25 #[.nilIface, .agg (pt p)] w fun v' w' => v' = .tuple #[.slice none 0 0, .slice none 0 0, .int .i64 2] ∧ Ch Nw w w' := by
  refine v_enter Tryd.func25 Tryd.ntmps25 rfl (by simp) fun R' hR => ?_
  have hps := pt_size ok
  have hpa := pt_all ok
  have ca := (Ch.refl Nw w).alloc (.cells (pt p) 28)
  simp [go_sem, hps, hpa]
  exact hR _ _ ⟨rfl, ca⟩
theorem tset_nil (p : Pt) (obj : Nat) (v : Value) (w : World) (ok : PtOk p) (env : TEnv w) : Ret Tryd.prog 22 #[.nilIface, .agg (pt p), .int .u16 obj, v] w fun v' w' => v' = .tuple #[.agg (pt ptz), .int .i64 2] ∧ Ch Nw w w' := by
  refine v_enter Tryd.func22 Tryd.ntmps22 rfl (by simp) fun R' hR => ?_
  have hps := pt_size ok
  have hpa := pt_all ok
  have hzs := pt_size ptz_ok
  have hza := pt_all ptz_ok
  have ca := ((Ch.refl Nw w).alloc (.cells (pt p) 28)).alloc (.cells (pt ptz) 28)
  have b1 := al2_1 w (.cells (pt p) 28) (.cells (pt ptz) 28)
  obtain ⟨cs, T, fr, hh0, hx, hz⟩ := env.lh
  have hh1 := ca.obj hh0 id
  have hhg : ∀ hlt, ((w.alloc (.cells (pt p) 28)).alloc (.cells (pt ptz) 28)).heap[1]'hlt = .cells cs T fr := fun hlt => by
    have := hh1
    rw [Array.getElem?_eq_getElem hlt] at this
    exact Option.some.inj this
  simp [go_sem, hps, hpa, hz_pt, zc_pt, hhg, hx, hz, b1, hzs, hza, blit_whole]
  exact hR _ _ ⟨rfl, ca.setRow (.inr (by omega)) _⟩
theorem Ch.fix {S : Nat → Prop} {w w' : World} (h : Ch S w w') (hf : ∀ k, k < w.heap.size → S k → w'.heap[k]? = w.heap[k]?) : Ch Nw w w' :=
  ⟨h.os, h.tape, h.output, h.size, fun k hk _ => by
    by_cases hs : S k
    · exact hf k hk hs
    · exact h.block k hk hs⟩
theorem ShH.kept {g : Nat} {W0 : World} {Bk : Nat → Prop} {s : Shf} {w : World} {O : Nat → Prop} (h : ShH g W0 Bk s w O) {k : Nat} (hk : Bk k) : w.heap[k]? = W0.heap[k]? := by
  obtain ⟨vB, vD, vM, vG, vR, lB, _, _, hS⟩ := h
  obtain ⟨OY, hY, _⟩ := hS.get (i := 5) rfl
  exact (hY.2.2.2.1 k hk).2
def rp1 : Pt := ⟨3, 2, 0, 0, 0, zb 32, [1, 0, 0, 0]⟩
theorem blit_rp1 : blit (blit (blit (pt ptz) 0 #[.int .u8 3]) 1 #[.int .u8 2]) 37 #[.int .u16 1, .int .u16 0, .int .u16 0, .int .u16 0] = pt rp1 := by
  simp [blit, pt, ptz, rp1, bvs_length, zb_length, u16s, u16v]
theorem bld_rp1 {w : World} {K : Value → World → Prop} : VBld Tryd.prog 28 [(0, .int .u8 3), (1, .int .u8 2), (6, .agg #[.int .u16 1, .int .u16 0, .int .u16 0, .int .u16 0])] w K = K (.agg (pt rp1)) w := by
  refine VBld_struct Tryd.underlying28 hz_pt (places := #[(0, 1), (1, 1), (2, 1), (3, 1), (4, 1), (5, 32), (37, 4)]) (by simp [go_sem]) ?_
  have hz : (pt ptz).size = 41 := pt_size ptz_ok
  simp [fillB, zc_pt, Value.cells, hz, blit_size]
  exact blit_rp1
theorem rp1_ok : PtOk rp1 := ⟨by show 3 < 256; decide, by show 2 < 256; decide, by show 0 < 65536; decide, by show 0 < 4294967296; decide, by show 0 < 18446744073709551616; decide, zb_length 32, rfl, by intro x hx; simp [rp1] at hx; omega⟩
theorem tget_b (s : Shf) {b : List UInt8} (hb : b.length ≠ 512) : (tget shRd { s with bl := [b] } rp1 0).2.2 = 21 := by
  have hm : mayT rp1 = true := by decide
  have hz : rp1 ≠ ptz := by decide
  have ht : (tread shRd { s with bl := [b] } rp1).2.2 = 21 := by
    unfold tread
    rw [if_neg hz]
    by_cases hc : s.bad.contains (rp1.a.getD 0 0) = true
    · have e : shRd { s with bl := [b] } rp1 = (({ s with bl := [b] } : Shf).more [rp1], [], 21) := by
        unfold shRd
        rw [if_pos hc]
      rw [e]
      simp
    · have e : shRd { s with bl := [b] } rp1 = (({ s with bl := [b] } : Shf).more [rp1], b, 0) := by
        unfold shRd
        rw [if_neg hc, if_neg (by simp [rp1])]
        rfl
      rw [e]
      simp only [ne_eq, not_true_eq_false, if_false]
      obtain ⟨⟨N8, e8⟩, h8⟩ : ∃ x, nd8 b = x := ⟨_, rfl⟩
      have hall := @nd8_e b
      rw [h8] at hall ⊢
      by_cases h0 : e8 = 0
      · exfalso
        obtain ⟨h1, _, h3⟩ := hall h0
        apply hb
        rw [← h3, bytesN_length _ h1.all, h1.len]
      · rw [if_pos h0]
  unfold tget
  rw [hm]
  simp only [Bool.true_and, show decide (0 < 64) = true from rfl, if_true]
  unfold tgo
  rw [ht]
  simp
/-- is a leaf good behind the one ahead? -/
def lfOne (L : List (Nat × Pt)) (k : Nat) (x : Nat × Pt) : Bool := decide (x.1 < 64) && (match prevO L k with | none => true | some y => decide (y < x.1)) && okP x.2
section
variable {σ : Type} {H : σ → HP} {m : σ → Nat} {rd : Src σ} {sv : Value}
theorem tgo_m (hs : SrcOk H m rd sv) (off : Nat) : ∀ (k : Nat) (s : σ) (p : Pt), m s ≤ m (tgo rd off k s p).1 + 16 * k
  | 0, s, p => by unfold tgo; simp
  | k + 1, s, p => by
    have h := tread_m hs s p
    unfold tgo
    split
    · simp only; omega
    · have h2 := tgo_m hs off k (tread rd s p).1 ((tread rd s p).2.1.getD (if k = 1 then off / 8 else off % 8) ptz)
      omega
theorem tgo_ok (rd : Src σ) (off : Nat) : ∀ (k : Nat) (s : σ) (p : Pt), PtOk p → PtOk (tgo rd off k s p).2.1
  | 0, s, p, h => by unfold tgo; exact h
  | k + 1, s, p, h => by
    have ok := tread_ok rd s p
    unfold tgo
    split
    · exact ptz_ok
    · refine tgo_ok rd off k _ _ ?_
      rw [List.getD_eq_getElem?_getD]
      generalize (if k = 1 then off / 8 else off % 8) = j
      by_cases hj : j < (tread rd s p).2.1.length
      · rw [List.getElem?_eq_getElem hj]; exact ok.all _ (List.getElem_mem hj)
      · rw [List.getElem?_eq_none (by omega)]; exact ptz_ok
theorem tget_ok (rd : Src σ) (s : σ) (p : Pt) (off : Nat) (h : PtOk p) : PtOk (tget rd s p off).2.1 := by
  unfold tget
  split
  · exact tgo_ok rd off 2 s p h
  · exact ptz_ok
theorem tget_m (hs : SrcOk H m rd sv) (s : σ) (p : Pt) (off : Nat) : m s ≤ m (tget rd s p off).1 + 32 := by
  unfold tget
  split
  · exact tgo_m hs off 2 s p
  · simp
theorem twk_m (hs : SrcOk H m rd sv) (top : List Pt) : ∀ (L : List Nat) (s : σ) (ls : List (Nat × Pt)) (ns : List Pt), m s ≤ m (twk rd top L s ls ns).1 + 16 * L.length
  | [], s, ls, ns => by unfold twk; simp
  | i :: L, s, ls, ns => by
    have h := tread_m hs s (top.getD i ptz)
    unfold twk
    split
    · have h2 := twk_m hs top L s ls ns
      simp only [List.length_cons]; omega
    · split
      · simp only [List.length_cons]; omega
      · have h2 := twk_m hs top L (tread rd s (top.getD i ptz)).1 (ls ++ tlvs i (tread rd s (top.getD i ptz)).2.1) (ns ++ [top.getD i ptz])
        simp only [List.length_cons]; omega
theorem tall_m (hs : SrcOk H m rd sv) (s : σ) (p : Pt) : m s ≤ m (tall rd s p).1 + 144 := by
  have h1 : m s ≤ m (twalk rd s p).1 + 144 := by
    have h := tread_m hs s p
    unfold twalk
    split
    · simp
    · split
      · simp only; omega
      · have h2 := twk_m hs (tread rd s p).2.1 (List.range 8) (tread rd s p).1 [] [p]
        simp only [List.length_range] at h2
        omega
  unfold tall
  split
  · split
    · exact h1
    · exact h1
  · simp
end
theorem shM_bl (s : Shf) (b : List UInt8) : shM s ≤ shM { s with bl := [b] } + 1 := by
  unfold shM
  simp only [List.length_cons, List.length_nil]
  omega
theorem tw_fuel {a b c d n : Nat} (h1 : 1000000000 ≤ a + 32) (h2 : a ≤ b + 144) (h3 : b ≤ c + 16 * (4 * n + 3)) (h4 : c ≤ d + 1) (h5 : ¬ 20 < n) : 32 ≤ d := by omega
set_option maxRecDepth 100000 in
set_option maxHeartbeats 8000000 in
theorem treeWrong_any (root : Pt) (off : Nat) (vl : Value) (L : List (Nat × Pt)) (vb : Value) (b : List UInt8) (W : World) (ok : PtOk root) (hoff : off < 4294967296) (hL : Lst W vl lfL 42 L) (hLok : ∀ x ∈ L, LfOk x) (hvl : ∀ k, vl.ownBlock = some k → k < W.heap.size) (hb : Sl W vb b.length (bvs b)) (hvb : ∀ k, vb.ownBlock = some k → k < W.heap.size) (env : TEnv W) :
    Ret Tryd.prog 6 #[.agg (pt root), .int .u32 off, vl, vb] W fun v' w' => v' = .bool true ∧ Ch Nw W w' := by
  refine v_enter Tryd.func6 Tryd.ntmps6 rfl (by simp) fun R' hR => ?_
  have hps := pt_size ok
  have hpa := pt_all ok
  have hzs := pt_size ptz_ok
  have hza := pt_all ptz_ok
  have lnl := hL.len Tryd.underlying64 3
  have lnb := hb.len Tryd.underlying29 3
  have ca := (Ch.refl Nw W).alloc (.cells (pt root) 28)
  have b0 := hp_alloc W (.cells (pt root) 28)
  have sa : (W.alloc (.cells (pt root) 28)).heap.size = W.heap.size + 1 := by simp
  have env1 := env.ch ca fun _ _ e => e
  have wake : ∀ (u : World) {K : Value → World → Prop}, Ch Nw W u → (∀ u', Ch Nw W u' → K (.bool true) u') → Ret Tryd.prog 20 #[] u K := fun u K hc hK => (twakes_any u (env.ch hc fun _ _ e => e)).mono fun v w' hh => by
    rw [hh.1]
    exact hK _ (hc.trans hh.2)
  by_cases h20 : 20 < L.length
  · have h20i : (20 : Int) < L.length := by omega
    simp [go_sem, hps, hpa, lnl, h20, h20i]
    exact wake _ ca fun u hu => by
      simp [go_sem]
      exact hR _ _ ⟨rfl, hu⟩
  have h20i : ¬ (20 : Int) < L.length := by omega
  by_cases h600 : 600 < b.length
  · have h600i : (600 : Int) < b.length := by omega
    simp [go_sem, hps, hpa, lnl, h20, h20i, lnb, h600, h600i]
    exact wake _ ca fun u hu => by
      simp [go_sem]
      exact hR _ _ ⟨rfl, hu⟩
  have h600i : ¬ (600 : Int) < b.length := by omega
  obtain ⟨g, hg⟩ : ∃ g, W.heap.size = g := ⟨_, rfl⟩
  have c2 := (Ch.refl Nw (W.alloc (.cells (pt root) 28))).alloc (.cells #[.slice none 0 0, .slice none 0 0, .slice none 0 0, .slice none 0 0, .int .i64 (-1), .slice none 0 0] 62)
  have b2 := hp_alloc (W.alloc (.cells (pt root) 28)) (.cells #[.slice none 0 0, .slice none 0 0, .slice none 0 0, .slice none 0 0, .int .i64 (-1), .slice none 0 0] 62)
  have b02 := c2.obj b0 id
  have sa2 : ((W.alloc (.cells (pt root) 28)).alloc (.cells #[.slice none 0 0, .slice none 0 0, .slice none 0 0, .slice none 0 0, .int .i64 (-1), .slice none 0 0] 62)).heap.size = W.heap.size + 2 := by simp
  rw [sa] at b2
  simp [go_sem, hps, hpa, lnl, h20, h20i, lnb, h600, h600i, bld_sh, b02]
  rw [hg] at b2 b02 sa2 ⊢
  have cw2 := ca.trans c2
  have env2 := env.ch cw2 fun _ _ e => e
  generalize (W.alloc (.cells (pt root) 28)).alloc (.cells #[.slice none 0 0, .slice none 0 0, .slice none 0 0, .slice none 0 0, .int .i64 (-1), .slice none 0 0] 62) = w2 at *
  refine (tget_nil root off w2 ok env2).mono ?_
  rintro _ w3 ⟨rfl, c3⟩
  have c4 := c3.alloc (.cells (pt ptz) 28)
  have b04 := c4.obj b02 id
  simp [go_sem, hz_pt, zc_pt, hzs, hza, blit_whole, b04, hps, hpa]
  generalize w3.alloc (.cells (pt ptz) 28) = w4 at *
  refine (tall_nil root w4 ok).mono ?_
  rintro _ w5 ⟨rfl, c5⟩
  have c25 := c4.trans c5
  have b05 := c5.obj b04 id
  simp [go_sem, b05, hps, hpa]
  refine (tset_nil root 9 vl w5 ok (env2.ch c25 fun _ _ e => e)).mono ?_
  rintro _ w6 ⟨rfl, c6⟩
  have c7 := (c25.trans c6).alloc (.cells (pt ptz) 28)
  have b07 := c7.obj b02 id
  have heqr : ∀ w, (Op.equalIn 10000 28 (.agg (pt root)) (.agg (pt ptz))).run Tryd.prog w = .ok (decide (root = ptz)) w := fun w => eq_pt w ok ptz_ok
  simp [go_sem, hz_pt, zc_pt, hzs, hza, blit_whole, b07, hps, hpa, bld_pt0, heqr]
  generalize w6.alloc (.cells (pt ptz) 28) = w7 at *
  obtain ⟨I, hI⟩ : ∃ I : (Nat → Value) → World → Prop, I = fun f u => f 1 = .int .u32 off ∧ f 2 = vl ∧ f 3 = vb ∧ f 4 = .pointer (some ⟨g, 0, none⟩) ∧ f 9 = .pointer (some ⟨g + 1, 0, none⟩) ∧ f 11 = .int .i64 2 ∧ f 14 = .int .i64 2 ∧ f 16 = .int .i64 2 ∧ f 17 = .bool (mayT root) ∧ Ch Nw w2 u := ⟨_, rfl⟩
  refine VG_join I ?_ ?_
  · by_cases hz : root = ptz
    · have hm : mayT root = true := by rw [hz]; rfl
      simp [go_sem, hz]
      rw [hI]
      exact ⟨by simp, by simp, by simp, by simp, by simp, by simp, by simp, by simp, by simp [hm], c7⟩
    · simp [go_sem, hz, b07, hps, hpa]
      refine (rmay_any root w7 ok).mono ?_
      rintro _ w8 ⟨rfl, c8⟩
      rw [mayR_eq root ok]
      have b08 := c8.obj b07 id
      have ck := (cell_blk b08 0).trans pt_k
      have cl := (cell_blk b08 1).trans pt_l
      cases hm : mayP root with
      | false =>
        have hmt : mayT root = false := by unfold mayT; rw [hm]; simp [hz]
        simp [go_sem]
        rw [hI]
        exact ⟨by simp, by simp, by simp, by simp, by simp, by simp, by simp, by simp, by simp [hmt], c7.trans c8⟩
      | true =>
        by_cases hk : root.k = 3
        · by_cases hl : root.l = 2
          · have hmt : mayT root = true := by unfold mayT; rw [hm, hk, hl]; simp
            simp [go_sem, ck, cl, hk, hl]
            rw [hI]
            exact ⟨by simp, by simp, by simp, by simp, by simp, by simp, by simp, by simp, by simp [hmt], c7.trans c8⟩
          · have hl2 : ((root.l : Int) == 2) = false := beq_false_of_ne (by omega)
            have hmt : mayT root = false := by unfold mayT; rw [hm]; simp [hz, hl]
            simp [go_sem, ck, cl, hk, hl2]
            rw [hI]
            exact ⟨by simp, by simp, by simp, by simp, by simp, by simp, by simp, by simp, by simp [hmt], c7.trans c8⟩
        · have hk2 : ((root.k : Int) == 3) = false := beq_false_of_ne (by omega)
          have hmt : mayT root = false := by unfold mayT; rw [hm]; simp [hz, hk]
          simp [go_sem, ck, cl, hk2]
          rw [hI]
          exact ⟨by simp, by simp, by simp, by simp, by simp, by simp, by simp, by simp, by simp [hmt], c7.trans c8⟩
  rw [hI]
  rintro f u ⟨f1, f2, f3, f4, f9, f11, f14, f16, f17, cu⟩
  simp [go_sem, f17]
  obtain ⟨m, hm⟩ : ∃ m, mayT root = m := ⟨_, rfl⟩
  rw [hm] at f17 ⊢
  have hL2 : Lst w2 vl lfL 42 L := hL.ch' cw2 fun _ _ e => e
  refine v_loop (fun r f u => ∃ (k : Nat) (bk : Bool), r = L.length - k ∧ k ≤ L.length ∧ f 1 = .int .u32 off ∧ f 2 = vl ∧ f 3 = vb ∧ f 4 = .pointer (some ⟨g, 0, none⟩) ∧ f 9 = .pointer (some ⟨g + 1, 0, none⟩) ∧ f 11 = .int .i64 2 ∧ f 14 = .int .i64 2 ∧ f 16 = .int .i64 2 ∧ f 17 = .bool m ∧ f 18 = .bool bk ∧ f 19 = .int .i64 k ∧ (m && lvGood none L) = (bk && lvGood (prevO L k) (L.drop k)) ∧ Ch Nw w2 u) L.length
    ⟨0, m, rfl, by omega, by simp [f1], by simp [f2], by simp [f3], by simp [f4], by simp [f9], by simp [f11], by simp [f14], by simp [f16], by simp [f17], by simp, by simp, rfl, cu⟩ ?_
  clear f1 f2 f3 f4 f9 f11 f14 f16 f17 cu hI I
  rintro J hJ _ f u ⟨k, bk, rfl, hk, f1, f2, f3, f4, f9, f11, f14, f16, f17, f18, f19, hlv, cu⟩
  by_cases hlt : k < L.length
  · have hki : (k : Int) < L.length := by omega
    have hwk : IntKind.i64.wrap ((k : Int) + 1) = ((k + 1 : Nat) : Int) := by rw [IntKind.wrap_i64]; omega
    obtain ⟨x, hx⟩ : ∃ x, L[k]? = some x := ⟨_, List.getElem?_eq_getElem hlt⟩
    have okx := hLok x (List.mem_of_getElem? hx)
    have hxs := pt_size okx.p
    have hxa := pt_all okx.p
    obtain ⟨bl, ol, cl, csl, Tl, frl, hvl2, hbl, hel, hcl⟩ := lst_lf hL2 hLok hx
    have hbu := cu.obj hbl id
    have hbud : u.drew.heap[bl]? = some (.cells csl Tl frl) := hbu
    have hel1 : csl.extract (ol + k * 42 + 1) (ol + k * 42 + 1 + 41) = pt x.2 := by
      have := congrArg (fun y => y.extract 1 42) hel
      simp only [Array.extract_extract, lfv_pt okx] at this
      rw [← this]
      congr 1
      omega
    have cell0 : ∀ j y, L[j]? = some y → u.cell? ⟨bl, ol + j * 42, none⟩ = some (.int .u32 y.1) := fun j y hy => by
      obtain ⟨bl', ol', cl', csl', Tl', frl', hv', hb', he', hc'⟩ := lst_lf hL2 hLok hy
      rw [hvl2] at hv'
      injection hv' with h1 _ _
      injection h1 with h1
      injection h1 with h1 h2
      subst h1 h2
      rw [cell_blk (cu.obj hb' id)]
      have := congrArg (fun y => y[0]?) he'
      simp only [Array.getElem?_extract, lfv_0] at this
      rw [if_pos (by omega)] at this
      simpa using this
    have hcx := cell0 k x hx
    have lnl' : ∀ w', (Builtin.len_ #[64] 3 #[.slice (some ⟨bl, ol, none⟩) L.length cl]).run Tryd.prog w' = .ok (.int .i64 L.length) w' := fun w' => by rw [← hvl2]; exact lnl w'
    have f2' := f2
    rw [hvl2] at f2
    have hdr : L.drop k = x :: L.drop (k + 1) := by
      rw [List.drop_eq_getElem_cons hlt]
      congr 1
      exact (List.getElem?_eq_some_iff.1 hx).2
    have hpv : prevO L (k + 1) = some x.1 := by simp [prevO, hx]
    have hst : (m && lvGood none L) = ((bk && lfOne L k x) && lvGood (prevO L (k + 1)) (L.drop (k + 1))) := by
      rw [hlv, hdr, lvGood_cons, hpv]
      unfold lfOne
      cases prevO L k <;> simp [Bool.and_assoc]
    simp [go_sem, f2, f19, lnl', hki]
    obtain ⟨I, hI⟩ : ∃ I : (Nat → Value) → World → Prop, I = fun f' u' => f' 1 = .int .u32 off ∧ f' 2 = vl ∧ f' 3 = vb ∧ f' 4 = .pointer (some ⟨g, 0, none⟩) ∧ f' 9 = .pointer (some ⟨g + 1, 0, none⟩) ∧ f' 11 = .int .i64 2 ∧ f' 14 = .int .i64 2 ∧ f' 16 = .int .i64 2 ∧ f' 17 = .bool m ∧ f' 18 = .bool (bk && lfOne L k x) ∧ f' 19 = .int .i64 k ∧ Ch Nw w2 u' := ⟨_, rfl⟩
    refine v_join I [[(0, none), (1, none), (2, none), (3, none), (4, none), (5, none), (6, none), (7, none), (8, none), (9, none), (10, none), (11, none), (12, none), (13, none), (14, none), (15, none), (16, none), (17, none), (18, none), (19, none), (20, none), (21, none), (22, none), (23, none), (24, none), (25, none), (26, none), (27, none), (28, none), (29, none), (30, none), (31, none), (32, none), (33, none), (34, none), (35, none), (36, none), (37, none), (38, none), (39, none), (40, none), (41, some []), (42, none), (43, none), (44, none)]] (by kernel_rfl) (by kernel_rfl) ?_ ?_
    · intro plan hplan
      simp only [List.mem_singleton] at hplan
      subst hplan
      have fin : ∀ (f' : Nat → Value) (u' : World), (∀ j, j ∈ [1, 2, 3, 4, 9, 11, 14, 16, 17, 19] → f' j = f j) → f' 18 = .bool (bk && lfOne L k x) → Ch Nw w2 u' → I f' u' := fun f' u' h h18 hc => by
        rw [hI]
        exact ⟨(h 1 (by simp)).trans f1, (h 2 (by simp)).trans f2', (h 3 (by simp)).trans f3, (h 4 (by simp)).trans f4, (h 9 (by simp)).trans f9, (h 11 (by simp)).trans f11, (h 14 (by simp)).trans f14, (h 16 (by simp)).trans f16, (h 17 (by simp)).trans f17, h18, (h 19 (by simp)).trans f19, hc⟩
      cases bk with
      | false =>
        simp [go_sem, f18]
        exact fin _ _ (fun j hj => by simp at hj; rcases hj with rfl | rfl | rfl | rfl | rfl | rfl | rfl | rfl | rfl | rfl <;> simp) (by simp) cu.drew
      | true =>
        have heqx : ∀ w, (Op.equalIn 10000 28 (.agg (pt x.2)) (.agg (pt ptz))).run Tryd.prog w = .ok (decide (x.2 = ptz)) w := fun w => eq_pt w okx.p ptz_ok
        have hsz2 : ol + k * 42 + 1 + 41 ≤ csl.size := by omega
        by_cases h64 : x.1 < 64
        · have h64i : (x.1 : Int) < 64 := by omega
          have hpr : prevO L k = none ∧ k = 0 ∨ ∃ y, 0 < k ∧ L[k - 1]? = some y ∧ prevO L k = some y.1 := by
            by_cases h0 : k = 0
            · exact .inl ⟨by unfold prevO; rw [if_pos h0], h0⟩
            · obtain ⟨y, hy⟩ : ∃ y, L[k - 1]? = some y := ⟨_, List.getElem?_eq_getElem (by omega)⟩
              exact .inr ⟨y, by omega, hy, by unfold prevO; rw [if_neg h0, hy]; rfl⟩
          have hone : ∀ pb : Bool, (match prevO L k with | none => true | some y => decide (y < x.1)) = pb → lfOne L k x = (pb && okP x.2) := fun pb h => by
            unfold lfOne
            rw [decide_eq_true h64, Bool.true_and, h]
          rcases hpr with ⟨hp0, hk0⟩ | ⟨y, hk0, hy, hpy⟩
          case' inl =>
            have hone' := hone true (by rw [hp0])
            have hk0i : ((k : Int) == 0) = true := by rw [hk0]; rfl
            have hk0b : (k == 0) = true := by rw [hk0]; rfl
            have hk0d : decide (k = 0) = true := decide_eq_true hk0
            simp [go_sem, f2, f18, f19, hlt, hcx, h64, h64i, hk0i, hk0b, hk0d, hbu, hbud, hel1, hsz2, hxs, hxa, bld_pt0, heqx]
          case' inr =>
            have hk0i : ((k : Int) == 0) = false := beq_false_of_ne (by omega)
            have hk00 : ¬ k = 0 := by omega
            have hwk1 : IntKind.i64.wrap ((k : Int) - 1) = ((k - 1 : Nat) : Int) := by rw [IntKind.wrap_i64]; omega
            have hk1l : k - 1 < L.length := by omega
            have hcy := cell0 (k - 1) y hy
            by_cases hyx : y.1 < x.1
            case' neg =>
              have hyi : ¬ (y.1 : Int) < x.1 := by omega
              have hlf : lfOne L k x = false := by rw [hone false (by rw [hpy]; exact decide_eq_false hyx)]; rfl
              simp [go_sem, f2, f18, f19, hlt, hcx, h64, h64i, hk0i, hk00, hwk1, hk1l, hcy, hyx, hyi]
              exact fin _ _ (fun j hj => by simp at hj; rcases hj with rfl | rfl | rfl | rfl | rfl | rfl | rfl | rfl | rfl | rfl <;> simp [f2, f19]) (by simp [hlf]) cu.drew
            have hyi : (y.1 : Int) < x.1 := by omega
            have hone' := hone true (by rw [hpy]; exact decide_eq_true hyx)
            simp [go_sem, f2, f18, f19, hlt, hcx, h64, h64i, hk0i, hk00, hwk1, hk1l, hcy, hyx, hyi, hbu, hbud, hel1, hsz2, hxs, hxa, bld_pt0, heqx]
          all_goals
            rw [Bool.true_and] at hone'
            by_cases hz : x.2 = ptz
            · have hlf : lfOne L k x = true := by rw [hone', hz]; rfl
              simp [go_sem, hz]
              exact fin _ _ (fun j hj => by simp at hj; rcases hj with rfl | rfl | rfl | rfl | rfl | rfl | rfl | rfl | rfl | rfl <;> simp [f2, f19]) (by simp [hlf]) cu.drew
            · simp [go_sem, hz, f2, f19, hlt, hbu, hbud, hel1, hsz2, hxs, hxa]
              refine (rmay_any x.2 u.drew okx.p).mono ?_
              rintro _ u2 ⟨rfl, c8⟩
              rw [mayR_eq x.2 okx.p]
              have hlf : lfOne L k x = mayP x.2 := by rw [hone']; unfold okP; simp [hz]
              simp [go_sem]
              exact fin _ _ (fun j hj => by simp at hj; rcases hj with rfl | rfl | rfl | rfl | rfl | rfl | rfl | rfl | rfl | rfl <;> simp [f2, f19]) (by simp [hlf]) (cu.trans (Ch.of_drew c8))
        · have h64i : ¬ (x.1 : Int) < 64 := by omega
          have hlf : lfOne L k x = false := by unfold lfOne; rw [decide_eq_false h64]; rfl
          simp [go_sem, f2, f18, f19, hlt, hcx, h64, h64i]
          exact fin _ _ (fun j hj => by simp at hj; rcases hj with rfl | rfl | rfl | rfl | rfl | rfl | rfl | rfl | rfl | rfl <;> simp [f2, f19]) (by simp [hlf]) cu.drew
    · rw [hI]
      rintro f' u' ⟨f1, f2, f3, f4, f9, f11, f14, f16, f17, f18, f19, cu'⟩
      simp [go_sem, f19, hwk]
      exact Rnd.intro (L.length - (k + 1)) (by omega) (hJ _ _ _ ⟨k + 1, bk && lfOne L k x, rfl, by omega, by simp [f1], by simp [f2], by simp [f3], by simp [f4], by simp [f9], by simp [f11], by simp [f14], by simp [f16], by simp [f17], by simp [f18], by simp, hst, cu'⟩)
  · obtain rfl : k = L.length := by omega
    have hset : (m && lvGood none L) = bk := by
      rw [hlv, List.drop_length]
      simp [lvGood]
    simp [go_sem, f2, f19, lnl]
    have b2u := cu.obj b2 id
    have b0u := cu.obj b02 id
    have envu := env2.ch cu fun _ _ e => e
    have szu := cu.size
    have hS := ShH.new W b2u
    have gl1 : ∀ k, glT k → ¬ one (g + 1) k := fun k hk e => by
      have := env.lt k hk
      simp only [one] at e
      omega
    have hm0 : shM sh0 = 1000000000 := rfl
    simp [go_sem, f1, f4, f9, b0u, hps, hpa]
    refine (tget_any (shSnk (g + 1) W fun _ => False).rd (by omega) (ShH.ok _ _ _) hS root ok off hoff envu gl1).mono ?_
    rintro _ w10 ⟨rfl, h10, c10⟩
    have hE := tget_e sh0 root off
    have hm1 := tget_m (shSnk (g + 1) W fun _ => False).rd sh0 root off
    have hr1 : m = false → (tget shRd sh0 root off).1 = sh0 := fun h => by
      unfold tget
      rw [hm, h]
      rfl
    obtain ⟨⟨s1, q1, e1⟩, hT1⟩ : ∃ T, tget shRd sh0 root off = T := ⟨_, rfl⟩
    have okq1 := tget_ok shRd sh0 root off ok
    rw [hT1] at h10 hE hm1 hr1 okq1 ⊢
    simp only at h10 hE hm1 hr1 okq1 ⊢
    have hq1s := pt_size okq1
    have hq1a := pt_all okq1
    have sz10 := c10.size
    have ng : ¬ one (g + 1) g := fun e => by simp only [one] at e; omega
    have b010 := c10.obj b0u ng
    have c11 := (Ch.refl Nw w10).alloc (.cells (pt q1) 28)
    have b011 := c11.obj b010 id
    have h11 := (ShH.ok _ _ _ _).ch h10 c11 fun _ _ e => e
    have env11 := (envu.ch c10 gl1).ch c11 fun _ _ e => e
    obtain ⟨G1, hG1⟩ : ∃ G1, Gr (one (g + 1)) u w10 = G1 := ⟨_, rfl⟩
    rw [hG1] at h11
    have nG1 : ∀ k, k ≤ g → ¬ G1 k := fun k hk e => by
      rw [← hG1] at e
      rcases e with e | e
      · simp only [one] at e; omega
      · omega
    have glG1 : ∀ k, glT k → ¬ G1 k := fun k hk => nG1 k (by have := env.lt k hk; omega)
    simp [go_sem, hz_pt, zc_pt, hq1s, hq1a, hzs, blit_whole, b011, hps, hpa, f9, f4]
    have cw11 : Ch (one (g + 1)) u (w10.alloc (.cells (pt q1) 28)) := c10.trans (c11.mono fun _ _ e => e.elim)
    generalize w10.alloc (.cells (pt q1) 28) = w11 at *
    refine (tall_any (shSnk (g + 1) W fun _ => False).rd (by omega) (ShH.ok _ _ _) h11 root ok env11 glG1).mono ?_
    rintro _ w12 ⟨vl2, vn2, O2, rfl, own2l, own2n, h12, hO2, hvl2, hvn2, c12⟩
    have hF := tall_e s1 root
    have hm2 := tall_m (shSnk (g + 1) W fun _ => False).rd s1 root
    have hr2 : m = false → (tall shRd s1 root).1 = s1 := fun h => by
      unfold tall
      rw [hm, h]
      rfl
    obtain ⟨⟨s2, ls2, ns2, e2⟩, hT2⟩ : ∃ T, tall shRd s1 root = T := ⟨_, rfl⟩
    rw [hT2] at h12 hF hm2 hr2 ⊢
    simp only at h12 hF hm2 hr2 ⊢
    have sz11 := cw11.size
    have sz12 := c12.size
    have nO2 : ∀ k, k ≤ g → ¬ O2 k := fun k hk e => (hO2 k e).elim (nG1 k hk) fun e => by omega
    have glO2 : ∀ k, glT k → ¬ O2 k := fun k hk => nO2 k (by have := env.lt k hk; omega)
    have b012 := c12.obj b011 (nG1 g (Nat.le_refl _))
    have env12 := env11.ch c12 glG1
    have cw12 : Ch (one (g + 1)) u w12 := cw11.trans' c12 fun k hk e => by
      rw [← hG1] at e
      exact e.elim id fun e => by omega
    have hL12 : Lst w12 vl lfL 42 L := by
      have l1 := hL2.ch' cu fun _ _ e => e
      refine l1.ch' cw12 fun k hk e => ?_
      have := hvl k hk
      simp only [one] at e
      omega
    obtain ⟨Al2, cl2, hvl2e, _⟩ := Sl.of_own own2l
    obtain ⟨An2, cn2, hvn2e, _⟩ := Sl.of_own own2n
    simp [go_sem, b012, hps, hpa, f9, f4, f2]
    have hms3 := tset_m (shSnk (g + 1) W fun _ => False) 9 s2 root L
    refine (tset_any (shSnk (g + 1) W fun _ => False) (ShH.ok _ _ _) h12 root ok 9 vl L (by omega) hL12 hLok (fun j hj => ⟨nO2 j (by have := hvl j hj; omega), by have := hvl j hj; omega⟩) env12 glO2 (by decide)).mono ?_
    rintro _ w13 ⟨rfl, okq3, h13, c13⟩
    have hG0 : bk = true → (tset shRd shNw shOd 9 s2 root L).2.2 ≠ 1 := fun h => by
      rw [← hset] at h
      simp only [Bool.and_eq_true] at h
      have := (tset_e 9 s2 root L h.2 (hm.trans h.1)).1
      omega
    have hG1' : bk = false → tset shRd shNw shOd 9 s2 root L = (s2, ptz, 1) := fun h => tset_no 9 s2 root L (by rw [hm, Bool.and_comm, hset, h])
    obtain ⟨⟨s3, q3, e3⟩, hT3⟩ : ∃ T, tset shRd shNw shOd 9 s2 root L = T := ⟨_, rfl⟩
    rw [hT3] at h13 hG0 hG1' hms3 okq3 ⊢
    simp only at h13 hG0 hms3 okq3 ⊢
    have hq3s := pt_size okq3
    have hq3a := pt_all okq3
    have sz13 := c13.size
    have c14 := (Ch.refl Nw w13).alloc (.cells (pt q3) 28)
    have h14 := (ShH.ok _ _ _ _).ch h13 c14 fun _ _ e => e
    obtain ⟨O3, hO3⟩ : ∃ O3, Gr O2 w12 w13 = O3 := ⟨_, rfl⟩
    rw [hO3] at h14
    have nO3 : ∀ k, k ≤ g → ¬ O3 k := fun k hk e => by
      rw [← hO3] at e
      rcases e with e | e
      · exact nO2 k hk e
      · omega
    have cW14 : Ch Nw W (w13.alloc (.cells (pt q3) 28)) := by
      have a1 : Ch Nw W w12 := (cw2.trans cu).trans' cw12 fun k hk e => by simp only [one] at e; omega
      have a2 : Ch Nw W w13 := a1.trans' c13 fun k hk e => nO2 k (by omega) e
      exact a2.trans c14
    have hE' : ((e1 : Int) == 1) = !(m && decide (off < 64)) := by
      rw [hm] at hE
      cases m <;> by_cases ho : off < 64 <;> simp [ho] at hE ⊢ <;> exact hE
    have hF' : ((e2 : Int) == 1) = !m := by
      rw [hm] at hF
      cases m <;> simp at hF ⊢ <;> exact hF
    have hG' : ((e3 : Int) == 1) = !bk := by
      cases bk with
      | true => simpa using hG0 rfl
      | false =>
        have := hG1' rfl
        injection this with _ h2
        injection h2 with _ h3
        rw [h3]
        rfl
    have hred : m = false → s3.red = [] := fun h => by
      have hb0 : bk = false := by rw [← hset, h]; rfl
      have := hG1' hb0
      injection this with h1
      rw [h1, hr2 h, hr1 h]
      rfl
    simp [go_sem, hz_pt, zc_pt, hq3s, hq3a, hzs, blit_whole, f9, f1, f3, f11, f14, f16, f17, f18]
    generalize w13.alloc (.cells (pt q3) 28) = w14 at *
    obtain ⟨I, hI⟩ : ∃ I : (Nat → Value) → World → Prop, I = fun f' u' => f' 3 = vb ∧ f' 9 = .pointer (some ⟨g + 1, 0, none⟩) ∧ f' 17 = .bool m ∧ f' 182 = .bool false ∧ u' = w14 := ⟨_, rfl⟩
    refine VG_join I ?_ ?_
    · rw [hI]
      by_cases ho : off < 64
      · have hoi : ¬ (64 : Int) ≤ off := by omega
        have hon : ¬ 64 ≤ off := by omega
        cases m <;> cases bk <;> simp [go_sem, hE', hF', hG', ho, hoi, hon, f9, f1, f3, f11, f14, f16, f17, f18]
      · have hoi : (64 : Int) ≤ off := by omega
        have hon : 64 ≤ off := by omega
        cases m <;> cases bk <;> simp [go_sem, hE', hF', hG', ho, hoi, hon, f9, f1, f3, f11, f14, f16, f17, f18]
    rw [hI]
    rintro f' u' ⟨f3, f9, f17, f182, rfl⟩
    simp [go_sem, f182, f17]
    obtain ⟨vB, vD, vM, vG, vR, hbR, _, _, hRR, hMG, hgO, hgd⟩ := h14.reads
    obtain ⟨AR, cR, hvR, _⟩ := id hRR
    have kR : u'.cell? ⟨g + 1, 5, none⟩ = some (.slice AR s3.red.length cR) := by rw [← hvR]; exact cell_blk hbR 5
    have lnR := hRR.len Tryd.underlying48 3
    rw [hvR] at lnR
    have kB : u'.cell? ⟨g + 1, 0, none⟩ = some vB := cell_blk hbR 0
    have fB := frz_blk hbR 0
    obtain ⟨Ab, cb, hvbe, _⟩ := id hb
    have hbw : Sl u' vb b.length (bvs b) := hb.ch cW14 fun _ _ e => e
    have szW := cW14.size
    obtain ⟨q, hq⟩ : ∃ q, u'.heap.size = q := ⟨_, rfl⟩
    have cA := (Ch.refl Nw u').alloc (.cells #[vb] 29)
    have bA := hp_alloc u' (.cells #[vb] 29)
    have szA : (u'.alloc (.cells #[vb] 29)).heap.size = q + 1 := by simp [hq]
    have kBA := cA.cell kB id
    have fBA := frz_blk (cA.obj hbR id) 0
    have h15 := (ShH.ok _ _ _ _).ch h14 cA fun _ _ e => e
    rw [hq] at bA
    have ownA : (u'.alloc (.cells #[vb] 29)).ownsRow 0 29 1 (.slice (some ⟨q, 0, none⟩) 1 1) 1 [vb] := ⟨rfl, .inr ⟨q, 1, _, rfl, Nat.zero_le _, bA, Nat.le_refl _, by decide, rfl, rfl⟩⟩
    have lO3 : ∀ k, O3 k → k < q := fun k hk => by rw [← hq]; exact (ShH.ok _ _ _ _).lt h14 k hk
    have envA : TEnv (u'.alloc (.cells #[vb] 29)) := env.ch (cW14.trans cA) fun _ _ e => e
    obtain ⟨Bk, hBk⟩ : ∃ Bk : Nat → Prop, (fun k => vb.ownBlock = some k ∨ glT k) = Bk := ⟨_, rfl⟩
    have ltB : ∀ k, Bk k → k < W.heap.size := fun k hk => by
      rw [← hBk] at hk
      exact hk.elim (hvb k) (env.lt k)
    have nb : ∀ k, Bk k → ¬ O3 k ∧ k < (u'.alloc (.cells #[vb] 29)).heap.size := fun k hk => ⟨nO3 k (by have := ltB k hk; omega), by have := ltB k hk; omega⟩
    obtain ⟨h16, hgO3⟩ := ShH.setBl (Bk := Bk) h15 (hbw.ch cA fun _ _ e => e) (by omega) (fun k hk => by rw [← hBk]; exact .inl hk) nb ownA fun k hk => by
      simp [Value.ownBlock] at hk
      subst hk
      exact ⟨fun e => Nat.lt_irrefl _ (lO3 _ e), fun e => by have := ltB _ e; omega⟩
    obtain ⟨I, hI⟩ : ∃ I : (Nat → Value) → World → Prop, I = fun f'' u'' => f'' 3 = vb ∧ f'' 9 = .pointer (some ⟨g + 1, 0, none⟩) ∧ f'' 192 = .bool false ∧ u'' = u' := ⟨_, rfl⟩
    refine VG_join I ?_ ?_
    · rw [hI]
      cases m with
      | false =>
        rw [hred rfl] at kR lnR
        simp [go_sem, f3, f9, f17, kR, lnR]
      | true => simp [go_sem, f3, f9, f17]
    rw [hI]
    rintro f'' u'' ⟨f3, f9, f192, hu⟩
    subst hu
    subst hvbe
    simp [go_sem, f192, f3, f9, bA, kBA, fBA, hq, bld_rp1]
    obtain ⟨w16, hw16⟩ : ∃ w16, (u''.alloc (.cells #[.slice Ab b.length cb] 29)).setCell ⟨g + 1, 0, none⟩ (.slice (some ⟨q, 0, none⟩) 1 1) = w16 := ⟨_, rfl⟩
    have c16 : Ch (one (g + 1)) (u''.alloc (.cells #[.slice Ab b.length cb] 29)) w16 := hw16 ▸ (Ch.refl (one (g + 1)) _).setCell (p := ⟨g + 1, 0, none⟩) (.inl rfl) _
    rw [hw16] at h16 ⊢
    have hq1 : W.heap.size ≤ q := by rw [← hq]; exact szW
    have env16 : TEnv w16 := h16.tenv envA fun k hk => by rw [← hBk]; exact .inr hk
    obtain ⟨s4, hs4⟩ : ∃ s4 : Shf, { s3 with bl := [b] } = s4 := ⟨_, rfl⟩
    have hm4 : 32 ≤ shM s4 := by
      have := shM_bl s3 b
      rw [hs4] at this
      rw [hm0] at hm1
      exact tw_fuel hm1 hm2 hms3 this h20
    have ht4 : ¬ b.length = 512 → (tget shRd s4 rp1 0).2.2 = 21 := fun h => by rw [← hs4]; exact tget_b s3 h
    rw [hs4] at h16
    refine (tget_gl (H := ShH (g + 1) (u''.alloc (.cells #[.slice Ab b.length cb] 29)) Bk) (shSnk (g + 1) _ Bk).rd hm4 (ShH.ok _ _ _) h16 rp1 rp1_ok 0 (by omega) env16 (.inr fun s w O h => h.tenv envA fun k hk => by rw [← hBk]; exact .inr hk)).mono ?_
    rintro _ w17 ⟨rfl, h17, c17⟩
    have okq4 := tget_ok shRd s4 rp1 0 rp1_ok
    obtain ⟨⟨s5, q5, e5⟩, hT5⟩ : ∃ T, tget shRd s4 rp1 0 = T := ⟨_, rfl⟩
    rw [hT5] at h17 ht4 okq4 ⊢
    simp only at h17 ht4 okq4 ⊢
    have hq5s := pt_size okq4
    have hq5a := pt_all okq4
    have cF : Ch Bk W w17 := by
      have a1 : Ch Bk W (u''.alloc (.cells #[.slice Ab b.length cb] 29)) := (cW14.trans cA).mono fun _ _ e => e.elim
      have a2 : Ch Bk W w16 := a1.trans' c16 fun k hk e => by simp only [one] at e; omega
      refine a2.trans' c17 fun k hk e => ?_
      rcases e with e | e | e
      · exact absurd e (nO3 k (by omega))
      · simp [Value.ownBlock] at e
        omega
      · exact e
    have cFx : Ch Nw W w17 := Ch.fix cF fun k hk hb => by
      rw [h17.kept hb]
      exact (cW14.trans cA).block k hk id
    have c18 := cFx.alloc (.cells (pt q5) 28)
    simp [go_sem, hz_pt, zc_pt, hq5s, hq5a, hzs, blit_whole]
    generalize w17.alloc (.cells (pt q5) 28) = w18 at *
    have done : ∀ (u : World) {K : Value → World → Prop}, Ch Nw W u → (∀ u', Ch Nw W u' → K (.bool true) u') → Ret Tryd.prog 20 #[] u K := wake
    by_cases h512 : b.length = 512
    · have h512i : ((b.length : Int) == 512) = true := by rw [h512]; rfl
      simp [go_sem, f3, lnb, h512, h512i]
      refine done _ c18 fun u hu => ?_
      simp [go_sem]
      exact hR _ _ ⟨rfl, hu⟩
    · have h512i : ((b.length : Int) == 512) = false := beq_false_of_ne (by omega)
      have e21 := ht4 h512
      subst e21
      simp [go_sem, f3, lnb, h512, h512i]
      refine done _ c18 fun u hu => ?_
      simp [go_sem]
      exact hR _ _ ⟨rfl, hu⟩
end Go.Proofs.YtppilgkgnofkpaaDoor
