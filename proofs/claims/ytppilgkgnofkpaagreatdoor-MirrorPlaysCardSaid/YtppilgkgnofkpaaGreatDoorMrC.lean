/- The mirror's copies, looked at. No condition but on sizes. -/
import Derived.Test.YtppilgkgnofkpaaGreatDoorMrB
set_option linter.unusedSimpArgs false
set_option linter.unusedVariables false

namespace Go.Proofs.YtppilgkgnofkpaaGreatDoor
open Go.RowKit Go.Kin

/-- a block's variable -/
def BlkR (B : Nat) (o : Option Byts) (v : Value) (W : World) : Prop := match o with
  | none => v = .slice none 0 0
  | some b => b.length = 512 ∧ ∃ ad c, v = .slice (some ad) 512 c ∧ Sl W v 512 (bvs b) ∧ B ≤ ad.block ∧ ad.block < W.heap.size
theorem BlkR.ch {S : Nat → Prop} {B : Nat} {o : Option Byts} {v : Value} {W W' : World} (h : BlkR B o v W) (hc : Ch S W W') (hS : ∀ k, B ≤ k → ¬ S k) : BlkR B o v W' := by
  cases o with
  | none => exact h
  | some b =>
    obtain ⟨hb, ad, c, rfl, h1, h2, h3⟩ := h
    exact ⟨hb, ad, c, rfl, h1.ch hc fun k hk => by simp [Value.ownBlock] at hk; subst hk; exact hS _ h2, h2, Nat.lt_of_lt_of_le h3 hc.size⟩
def cocs (q : Pt) (l : List Nat) : List Value := l.flatMap (cenc q.a)
theorem cocs_len (q : Pt) (l : List Nat) : (cocs q l).length = l.length * 2 := by
  induction l with
  | nil => rfl
  | cons a l ih =>
    simp only [cocs, List.flatMap_cons, List.length_append, List.length_cons] at *
    rw [ih]
    simp [cenc]
    omega
theorem tyMc : TyS Tryz.prog 158 162 (.agg #[.int .i64 0, .int .u16 0]) 2 16 := ⟨Tryz.underlying158, by kernel_rfl, rfl, by decide⟩
section
variable {w w' : World} {m p n i : Nat} {z : Mz} {s : Mr} {mv : Value} {A : Nat → Nat → Prop} {O S : Nat → Prop}
theorem snoc_ind {P : List Nat → Prop} (h0 : P []) (h1 : ∀ l k, P l → P (l ++ [k])) (l : List Nat) : P l := by
  rw [← l.reverse_reverse]
  induction l.reverse with
  | nil => exact h0
  | cons a r ih => rw [List.reverse_cons]; exact h1 _ _ ih
theorem run_le (n : Nat) (s : Mr) (q : Pt) (l : List Nat) (i : Nat) : (s.run n q l).F i ≤ s.found i + l.length := by
  revert l
  refine snoc_ind (Nat.le_refl _) fun l k ih => ?_
  · rw [Mr.run_snoc, List.length_append]
    unfold Mr.step
    cases s.good n q k with
    | some x =>
      simp only
      split <;> simp <;> omega
    | none =>
      simp only
      split
      · simp; omega
      · simp only [upd1]
        split
        · rename_i e; subst e; simp; omega
        · simp; omega
theorem run_bad_le (n : Nat) (s : Mr) (q : Pt) (l : List Nat) : (s.run n q l).bad.length ≤ l.length := by
  revert l
  refine snoc_ind (Nat.le_refl _) fun l k ih => ?_
  · rw [Mr.run_snoc, List.length_append]
    unfold Mr.step
    cases s.good n q k with
    | some x =>
      simp only
      split <;> simp <;> omega
    | none =>
      simp only
      split <;> simp <;> omega
theorem mcs_found (s : Mr) (z : Mz) (mv : Value) {i : Nat} (hi : i < 2) (x : Nat) : (mcs s z mv).setIfInBounds (3 + i * 2) (.int .i64 x) = mcs { s with found := upd1 s.found i x } z mv := by
  rcases lt2 hi with rfl | rfl <;> simp [mcs, upd1]
theorem mcs_at_found (s : Mr) (z : Mz) (mv : Value) {i : Nat} (hi : i < 2) : (mcs s z mv)[3 + i * 2]? = some (.int .i64 (s.found i)) := by
  rcases lt2 hi with rfl | rfl <;> rfl
/-- while copies are looked at: the boxes -/
structure LoI (w W : World) (m p n : Nat) (z : Mz) (s : Mr) (mv : Value) (A : Nat → Nat → Prop) (q : Pt) (fe : Value) (G g1 g2 g3 g4 g5 g6 : Nat) (t : Lo) (rb rc : Value) (bv cv : Value) : Prop where
  at' : MrP W m p n z { s with found := t.F } mv A
  b0 : W.heap[G]? = some (.cells #[.pointer (some ⟨m, 0, none⟩)] 31 (0, 0))
  b1 : W.heap[g1]? = some (.cells (pt q) 58 (0, 0))
  b2 : W.heap[g2]? = some (.cells #[fe] 24 (0, 0))
  b3 : W.heap[g3]? = some (.cells #[rb] 59 (0, 0))
  b4 : W.heap[g4]? = some (.cells #[rc] 158 (0, 0))
  b5 : W.heap[g5]? = some (.cells #[bv] 59 (0, 0))
  b6 : W.heap[g6]? = some (.cells #[cv] 158 (0, 0))
  vb : BlkR (G + 8) t.blk bv W
  vc : W.ownsRow 0 162 2 cv t.bad.length (cocs q t.bad)
  cf : Fresh (G + 8) cv
  sz : G + 8 ≤ W.heap.size
  dj : ∀ k, bv.ownBlock = some k → cv.ownBlock ≠ some k
  ch : Ch (one m) w W
theorem LoI.rcd {W : World} {q : Pt} {fe : Value} {G g1 g2 g3 g4 g5 g6 B : Nat} {t : Lo} {rb rc bv cv : Value} (h : LoI w W m p n z s mv A q fe G g1 g2 g3 g4 g5 g6 t rb rc bv cv) (hr : Rec B W w') (hO : ∀ k, MrO z m p mv A k → k < B) (hB : w.heap.size ≤ B) : LoI w w' m p n z s mv A q fe G g1 g2 g3 g4 g5 g6 t rb rc bv cv := by
  obtain ⟨row, hg, hrr⟩ := id hr
  have hc := Ch.of_grown hg
  have nc : ∀ k cs T fr, W.heap[k]? = some (.cells cs T fr) → row ≠ some k := fun k cs T fr hk e => by
    obtain ⟨_, o, ho, hn⟩ := hrr k e
    rw [hk] at ho
    cases ho
    cases hn
  refine ⟨h.at'.ch hc fun k hk e => ?_, hr.blk h.b0, hr.blk h.b1, hr.blk h.b2, hr.blk h.b3, hr.blk h.b4, hr.blk h.b5, hr.blk h.b6, ?_, own_ch h.vc hc fun k hk e => ?_, h.cf, Nat.le_trans h.sz hc.size, h.dj, hr.since h.ch hB⟩
  · have := (hrr k e).1
    have := hO k hk
    omega
  · have hb := h.vb
    cases hblk : t.blk with
    | none => rw [hblk] at hb; exact hb
    | some b =>
      rw [hblk] at hb
      obtain ⟨hb, ad, c, rfl, h1, h2, h3⟩ := hb
      exact ⟨hb, ad, c, rfl, h1.keep fun p u hp => cell_kept hp hg fun r e => (hrr r e).2, h2, Nat.lt_of_lt_of_le h3 hc.size⟩
  · rcases h.vc.2 with ⟨hv, _⟩ | ⟨g, cap, cur, hv, _, hgb, _⟩
    · rw [hv] at hk; simp [Value.ownBlock] at hk
    · rw [hv] at hk
      simp [Value.ownBlock] at hk
      subst hk
      exact nc _ _ _ _ hgb e
theorem copies_iter4 (p : Pt) (g : Nat) (T : TypeId) (fr : Nat × Nat) (S : Nat → Prop) (w : World) (ok : PtOk p) (hb : w.heap[g]? = some (.cells (pt p) T fr)) :
    Iter Tryz.prog 84 [.pointer (some ⟨g, 0, none⟩)] 2 (fun x => cenc p.a (x % 4)) (cseq p.a 4) S w := by
  refine ⟨fun x => rfl, fun args w => by simp [go_sem], ?_⟩
  intro l J Jx W hW hJ hJx hY h0
  obtain ⟨a0, a1, a2, a3, ha, _⟩ := a4 ok
  have hbW := hW.obj hb id
  have c0 := (cell_blk hbW 37).trans (pt_a ok (i := 0) (x := a0) (by rw [ha]; rfl))
  have c1 := (cell_blk hbW 38).trans (pt_a ok (i := 1) (x := a1) (by rw [ha]; rfl))
  have c2 := (cell_blk hbW 39).trans (pt_a ok (i := 2) (x := a2) (by rw [ha]; rfl))
  have c3 := (cell_blk hbW 40).trans (pt_a ok (i := 3) (x := a3) (by rw [ha]; rfl))
  refine v_enter Tryz.func84 Tryz.ntmps84 rfl (by simp) fun R' hR => ?_
  simp [go_sem, c0, c1, c2, c3]
  refine v_loop (fun r f wr => ∃ k, k ≤ 4 ∧ r = 4 - k ∧ f 0 = .func (.yield l) #[] #[] ∧ f 6 = .agg #[.int .u16 a0, .int .u16 a1, .int .u16 a2, .int .u16 a3] ∧ f 7 = .int .i64 k ∧ J (cseq p.a k) wr) 4
    ⟨0, by omega, rfl, by simp, by simp, by simp, h0⟩ ?_
  rintro I hI _ f wr ⟨k, hk, rfl, e0, e6, e7, hj⟩
  by_cases hk4 : k < 4
  · have hki : (k : Int) < 4 := by omega
    have hcell : ∃ x, p.a.getD k 0 = x ∧ #[Value.int .u16 a0, Value.int .u16 a1, Value.int .u16 a2, Value.int .u16 a3][k]? = some (.int .u16 x) := by
      refine ⟨_, rfl, ?_⟩
      rw [ha]
      match k, hk4 with
      | 0, _ => rfl
      | 1, _ => rfl
      | 2, _ => rfl
      | 3, _ => rfl
    obtain ⟨x, hx, hcx⟩ := hcell
    have hidx := fun w => run_index_agg (P := Tryz.prog) (kd := .i64) Tryz.underlying56 Tryz.sizeOf52 Tryz.isAgg52 hk4 hcx w
    have hwk : IntKind.i64.wrap ((k : Int) + 1) = ((k + 1 : Nat) : Int) := by simp [IntKind.wrap_i64]; omega
    have hwq : IntKind.i64.wrap ((k : Int) / 2) = (k : Int) / 2 := by simp [IntKind.wrap_i64]; omega
    by_cases hx0 : x = 0
    · subst hx0
      simp [go_sem, e0, e6, e7, hki, hidx, hwk]
      refine Rnd.intro (4 - (k + 1)) (by omega) (hI _ _ _ ⟨k + 1, by omega, rfl, by simp [e0], by simp [e6], by simp, ?_⟩)
      rw [cseq_succ, hx, if_pos rfl]
      exact hj
    · have hx1 : ((x : Int) == 0) = false := by simp; omega
      simp [go_sem, e0, e6, e7, hki, hidx, hwk, hwq, bne, hx1]
      have hlen : (cseq p.a k).length < (cseq p.a 4).length := by
        obtain ⟨m, hm, he⟩ := cseq_pre p.a (k := k + 1) (by omega)
        have h1 := congrArg List.length he
        rw [cseq_succ, hx, if_neg hx0, List.length_append, List.length_take] at h1
        simp at h1
        omega
      have hy := hY (cseq p.a k) k wr hj hlen
      simp only [Nat.mod_eq_of_lt hk4, cenc, hx] at hy
      refine VCall_yield _ _ _ hy ?_
      rintro _ w' (⟨rfl, hj', _⟩ | ⟨rfl, hjx⟩)
      · simp [go_sem, e7, hwk]
        refine Rnd.intro (4 - (k + 1)) (by omega) (hI _ _ _ ⟨k + 1, by omega, rfl, by simp [e0], by simp [e6], by simp, ?_⟩)
        rw [cseq_succ, hx, if_neg hx0]
        exact hj'
      · simp [go_sem]
        refine hR _ _ (.inr ?_)
        obtain ⟨m, hm, he⟩ := cseq_pre p.a (k := k + 1) (by omega)
        refine ⟨m, hm, ?_⟩
        rw [← he, cseq_succ, hx, if_neg hx0]
        exact hjx
  · obtain rfl : k = 4 := by omega
    simp [go_sem, e7]
    exact hR _ _ (.inl hj)

theorem nil_eq (w : World) : (binOp .eql 59 (.slice none 0 0) (.slice none 0 0)).run Tryz.prog w = .ok (.bool true) w := by kernel_rfl
theorem nil_ne (ad : Addr) (n c : Nat) (w : World) : (binOp .eql 59 (.slice (some ad) n c) (.slice none 0 0)).run Tryz.prog w = .ok (.bool false) w := by kernel_rfl
theorem sl_some {w : World} {u : Value} {n : Nat} {xs : List Value} (h : Sl w u n xs) (hx : 0 < xs.length) : ∃ ad c, u = .slice (some ad) n c := by
  obtain ⟨A, c, e, _, _, h3⟩ := h
  obtain ⟨ad, rfl, _⟩ := h3 hx
  exact ⟨ad, c, e⟩
theorem own_app {w1 : World} {v v' : Value} {B : Nat} (hf : Fresh B v) (h : v'.ownBlock = v.ownBlock ∨ Fresh w1.heap.size v') (hs : B ≤ w1.heap.size) : Fresh B v' := by
  rcases h with h | h
  · intro k hk; exact hf k (by rw [← h]; exact hk)
  · exact h.mono hs
def fid (all : Bool) : FuncId := if all then 48 else 43
theorem boxes7 {w : World} {G : Nat} (hG : w.heap.size = G) (c0 c1 c2 c3 c4 c5 c6 : Array Value) (t0 t1 t2 t3 t4 t5 t6 : TypeId) : ∃ w7, ((((((w.alloc (.cells c0 t0)).alloc (.cells c1 t1)).alloc (.cells c2 t2)).alloc (.cells c3 t3)).alloc (.cells c4 t4)).alloc (.cells c5 t5)).alloc (.cells c6 t6) = w7 ∧ w7.heap[G]? = some (.cells c0 t0 (0, 0)) ∧ w7.heap[G + 1]? = some (.cells c1 t1 (0, 0)) ∧ w7.heap[G + 2]? = some (.cells c2 t2 (0, 0)) ∧ w7.heap[G + 3]? = some (.cells c3 t3 (0, 0)) ∧ w7.heap[G + 4]? = some (.cells c4 t4 (0, 0)) ∧ w7.heap[G + 5]? = some (.cells c5 t5 (0, 0)) ∧ w7.heap[G + 6]? = some (.cells c6 t6 (0, 0)) ∧ w7.heap.size = G + 7 ∧ Ch Nw w w7 := by
  subst hG
  refine ⟨_, rfl, ?_, ?_, ?_, ?_, ?_, ?_, ?_, by simp, ((((((((Ch.refl Nw w).alloc _).alloc _).alloc _).alloc _).alloc _).alloc _).alloc _)⟩
  · rw [hp_alloc_lt _ _ _ (by simp <;> omega), hp_alloc_lt _ _ _ (by simp <;> omega), hp_alloc_lt _ _ _ (by simp <;> omega), hp_alloc_lt _ _ _ (by simp <;> omega), hp_alloc_lt _ _ _ (by simp <;> omega), hp_alloc_lt _ _ _ (by simp <;> omega), hp_alloc]
  · rw [hp_alloc_lt _ _ _ (by simp <;> omega), hp_alloc_lt _ _ _ (by simp <;> omega), hp_alloc_lt _ _ _ (by simp <;> omega), hp_alloc_lt _ _ _ (by simp <;> omega), hp_alloc_lt _ _ _ (by simp <;> omega), hp_alloc_eq _ _ _ (by simp <;> omega)]
  · rw [hp_alloc_lt _ _ _ (by simp <;> omega), hp_alloc_lt _ _ _ (by simp <;> omega), hp_alloc_lt _ _ _ (by simp <;> omega), hp_alloc_lt _ _ _ (by simp <;> omega), hp_alloc_eq _ _ _ (by simp <;> omega)]
  · rw [hp_alloc_lt _ _ _ (by simp <;> omega), hp_alloc_lt _ _ _ (by simp <;> omega), hp_alloc_lt _ _ _ (by simp <;> omega), hp_alloc_eq _ _ _ (by simp <;> omega)]
  · rw [hp_alloc_lt _ _ _ (by simp <;> omega), hp_alloc_lt _ _ _ (by simp <;> omega), hp_alloc_eq _ _ _ (by simp <;> omega)]
  · rw [hp_alloc_lt _ _ _ (by simp <;> omega), hp_alloc_eq _ _ _ (by simp <;> omega)]
  · rw [hp_alloc_eq _ _ _ (by simp <;> omega)]
set_option maxRecDepth 100000 in
set_option maxHeartbeats 4000000 in
theorem mlook_any (h : MrP w m p n z s mv A) (q : Pt) (ok : PtOk q) (hk : Lk w) (all : Bool) (hkm : m ≠ 1) (hF : ∀ i, s.found i ≤ 1000000) :
    Ret Tryz.prog 80 #[.pointer (some ⟨m, 0, none⟩), .agg (pt q), .func (.func (fid all)) #[] #[]] w fun v' w' => ∃ bv cv, v' = .tuple #[bv, cv] ∧ BlkR w.heap.size (s.run n q (s.lks n q all)).blk bv w' ∧ w'.ownsRow 0 162 2 cv (s.run n q (s.lks n q all)).bad.length (cocs q (s.run n q (s.lks n q all)).bad) ∧ Fresh w.heap.size cv ∧ MrP w' m p n z { s with found := (s.run n q (s.lks n q all)).F } mv A ∧ Ch (one m) w w' := by
  refine v_enter Tryz.func80 Tryz.ntmps80 rfl (by simp) fun R' hR => ?_
  have hps := pt_size ok
  have hpa := pt_all ok
  obtain ⟨fi, hfi⟩ : ∃ v, fid all = v := ⟨_, rfl⟩
  rw [hfi]
  simp [go_sem, hps, hpa]
  obtain ⟨G, hG⟩ : ∃ G, w.heap.size = G := ⟨_, rfl⟩
  obtain ⟨w7, e7, x0, x1, x2, x3, x4, x5, x6, s7, k7⟩ := boxes7 hG #[.pointer (some ⟨m, 0, none⟩)] (pt q) #[.func (.func fi) #[] #[]] #[.slice none 0 0] #[.slice none 0 0] #[.slice none 0 0] #[.slice none 0 0] 31 58 24 59 158 59 158
  rw [e7, hG]
  refine (copies_any q w7).mono ?_
  rintro _ w8 ⟨rfl, e8⟩
  have x7 := hp_alloc w7 (.cells (pt q) 58)
  have k78 := (Ch.refl Nw w7).alloc (.cells (pt q) 58)
  have s8 : w8.heap.size = G + 8 := by rw [e8]; simp [s7]
  rw [← e8] at k78 x7
  rw [s7] at x7 ⊢
  clear e8
  have k8 := k7.trans k78
  have h8 := h.ch k8 fun _ _ e => e
  simp [go_sem]
  obtain ⟨g6, e6⟩ : ∃ g, G + 1 + 1 + 1 + 1 + 1 + 1 = g := ⟨_, rfl⟩
  obtain ⟨g5, e5⟩ : ∃ g, G + 1 + 1 + 1 + 1 + 1 = g := ⟨_, rfl⟩
  obtain ⟨g4, e4⟩ : ∃ g, G + 1 + 1 + 1 + 1 = g := ⟨_, rfl⟩
  obtain ⟨g3, e3⟩ : ∃ g, G + 1 + 1 + 1 = g := ⟨_, rfl⟩
  obtain ⟨g2, e2⟩ : ∃ g, G + 1 + 1 = g := ⟨_, rfl⟩
  obtain ⟨g1, e1⟩ : ∃ g, G + 1 = g := ⟨_, rfl⟩
  rw [e6, e5, e4, e3, e2, e1]
  have y0 := k78.obj x0 id
  have y1 := k78.obj x1 id
  have y2 := k78.obj x2 id
  have y3 := k78.obj x3 id
  have y4 := k78.obj x4 id
  have y5 := k78.obj x5 id
  have y6 := k78.obj x6 id
  rw [show G + 1 = g1 from e1] at y1
  rw [show G + 2 = g2 from e2] at y2
  rw [show G + 3 = g3 from e3] at y3
  rw [show G + 4 = g4 from e4] at y4
  rw [show G + 5 = g5 from e5] at y5
  rw [show G + 6 = g6 from e6] at y6
  have hO := h.olt
  clear x0 x1 x2 x3 x4 x5 x6 e7 k7 k78
  have hmod : ∀ k, k ∈ cseq q.a 4 → k % 4 = k := fun k hk => Nat.mod_eq_of_lt (cseq_lt hk).1
  have fin2 : ∀ {D : Nat} {W : World} {bv cv : Value}, w8.heap.size ≤ D → LoI w W m p n z s mv A q (.func (.func fi) #[] #[]) G g1 g2 g3 g4 g5 g6 (s.run n q (s.lks n q all)) bv cv bv cv → W.heap[D]? = some (.deferred (some [])) → R' (.tuple #[bv, cv]) (W.putObj D (.deferred none)) := fun {D W bv cv} hD hL hd => by
    have cp : Ch (one D) W (W.putObj D (.deferred none)) := (Ch.refl (one D) W).putObj (.inl rfl) _
    refine hR _ _ ⟨_, _, rfl, ?_, own_ch hL.vc cp fun j hj e => ?_, hL.cf.mono (by omega), hL.at'.ch cp fun j hj e => ?_, hL.ch.trans' cp fun j hj e => ?_⟩
    · have hbb := hL.vb
      cases hbk : (s.run n q (s.lks n q all)).blk with
      | none => rw [hbk] at hbb; exact hbb
      | some b =>
        rw [hbk] at hbb
        obtain ⟨y1, ad, y2, rfl, y3, y4, y5⟩ := hbb
        refine ⟨y1, ad, y2, rfl, y3.ch cp fun j hj e => ?_, by omega, Nat.lt_of_lt_of_le y5 cp.size⟩
        simp [Value.ownBlock] at hj
        simp only [one] at e
        subst hj
        obtain ⟨A1, c1, hq, _, _, hq3⟩ := y3
        obtain ⟨a1, hq4, hq5⟩ := hq3 (by rw [bvs_length, y1]; omega)
        cases hq
        cases hq4
        obtain ⟨u0, hu0⟩ : ∃ u, (bvs b)[0]? = some u := ⟨_, List.getElem?_eq_getElem (by rw [bvs_length, y1]; omega)⟩
        have := hq5 0 u0 hu0
        obtain ⟨o, ho, hoc⟩ := cells_of_cell this
        rw [block_of_add, e, hd] at ho
        cases ho
        cases hoc
    · simp only [one] at e
      rcases hL.vc.2 with ⟨hv, _⟩ | ⟨g, cap, cur, hv, _, hgb, _⟩
      · rw [hv] at hj; simp [Value.ownBlock] at hj
      · rw [hv] at hj
        simp [Value.ownBlock] at hj
        rw [hj, e, hd] at hgb
        cases hgb
    · simp only [one] at e; have := hO j hj; omega
    · simp only [one] at e; omega
  obtain ⟨I, hI⟩ : ∃ I : List Nat → World → Prop, I = fun pre W => ∃ bv cv, LoI w W m p n z s mv A q (.func (.func fi) #[] #[]) G g1 g2 g3 g4 g5 g6 (s.run n q (pre.map (· % 4))) (.slice none 0 0) (.slice none 0 0) bv cv ∧ (all = false → ∀ k ∈ pre.map (· % 4), s.good n q k = none) := ⟨_, rfl⟩
  obtain ⟨Ix, hIx⟩ : ∃ Ix : Code → List Nat → World → Prop, Ix = fun c pre W => c = .ret ∧ all = false ∧ ∃ bv cv pre0 x, pre = pre0 ++ [x] ∧ (∀ k ∈ pre0.map (· % 4), s.good n q k = none) ∧ (s.good n q (x % 4)).isSome = true ∧ LoI w W m p n z s mv A q (.func (.func fi) #[] #[]) G g1 g2 g3 g4 g5 g6 (s.run n q (pre.map (· % 4))) bv cv bv cv := ⟨_, rfl⟩
  refine v_range2 (copies_iter4 q (G + 7) _ _ (fun k => k = m ∨ k = g5 ∨ k = g6) w8 ok x7) (Ch.refl _ _) rfl rfl (by kernel_rfl) I Ix
    (fun x f' _ => f' 10 = .int .i64 (x % 4 / 2 : Nat) ∧ f' 11 = .int .u16 (adr q (x % 4)) ∧ f' 3 = .pointer (some ⟨G, 0, none⟩) ∧ f' 4 = .pointer (some ⟨g1, 0, none⟩) ∧ f' 5 = .pointer (some ⟨g2, 0, none⟩) ∧ f' 6 = .pointer (some ⟨g3, 0, none⟩) ∧ f' 7 = .pointer (some ⟨g4, 0, none⟩) ∧ f' 8 = .pointer (some ⟨g5, 0, none⟩) ∧ f' 9 = .pointer (some ⟨g6, 0, none⟩)) ?_ ?_ ?_ ?_ ?_ ?_ ?_ ?_
  · rintro pre W W' hh hr
    rw [hI] at hh ⊢
    obtain ⟨bv, cv, hL, hno⟩ := hh
    exact ⟨bv, cv, hL.rcd hr (fun k hk => by have := hO k hk; omega) (by omega), hno⟩
  · rintro c pre W W' hh hr
    rw [hIx] at hh ⊢
    obtain ⟨h0, ha, bv, cv, pre0, x, h1, h2, h3, hL⟩ := hh
    exact ⟨h0, ha, bv, cv, pre0, x, h1, h2, h3, hL.rcd hr (fun k hk => by have := hO k hk; omega) (by omega)⟩
  · exact fun _ _ _ _ h _ => h
  · rw [hI]
    exact ⟨_, _, ⟨h8, y0, y1, y2, y3, y4, y5, y6, rfl, World.ownsRow_nil _ _ _ _, fun k hk => by simp [Value.ownBlock] at hk, by omega, fun k hk => by simp [Value.ownBlock] at hk, k8.mono fun _ _ e => e.elim⟩, fun _ k hk => by simp at hk⟩
  · rintro pre x W hh
    simp [go_sem]
    refine ⟨Ch.refl _ _, hh, ?_, ?_⟩
    · simp [cenc]
    · simp [cenc, adr]
  · rintro pre x f' W hlen hh ⟨f10, f11, f3, f4, f5, f6, f7, f8, f9⟩
    have hpl : pre.length < 4 := by
      have : (cseq q.a 4).length ≤ 4 := by unfold cseq; exact Nat.le_trans (List.length_filter_le _ _) (by simp)
      omega
    rw [hI] at hh
    obtain ⟨bv, cv, hL, hno⟩ := hh
    obtain ⟨Ac, cc, hcv⟩ : ∃ A c, cv = .slice A (s.run n q (pre.map (· % 4))).bad.length c := by
      rcases hL.vc.2 with ⟨hv, h0⟩ | ⟨g, cap, cur, hv, _⟩
      · exact ⟨none, 0, by rw [hv, h0]⟩
      · exact ⟨_, _, hv⟩
    subst hcv
    obtain ⟨k, hkx⟩ : ∃ k, x % 4 = k := ⟨_, rfl⟩
    have hk4 : k < 4 := by omega
    rw [hkx] at f10 f11
    obtain ⟨i, hki⟩ : ∃ i, k / 2 = i := ⟨_, rfl⟩
    rw [hki] at f10
    have hi : i < 2 := by omega
    obtain ⟨L, hLm⟩ : ∃ L, pre.map (· % 4) = L := ⟨_, rfl⟩
    have hLl : L.length < 4 := by rw [← hLm, List.length_map]; exact hpl
    rw [hLm] at hL hno
    obtain ⟨N, hN⟩ : ∃ N, (s.run n q L).bad.length = N := ⟨_, rfl⟩
    rw [hN] at hL
    obtain ⟨cv, hcvn⟩ : ∃ v, Value.slice Ac N cc = v := ⟨_, rfl⟩
    rw [hcvn] at hL
    have hpx : (pre ++ [x]).map (· % 4) = L ++ [k] := by rw [List.map_append, hLm, List.map_cons, hkx]; rfl
    have d0 : W.cell? ⟨G, 0, none⟩ = some (.pointer (some ⟨m, 0, none⟩)) := cell_blk hL.b0 0
    have cx := (Ch.refl Nw W).alloc (.cells #[.int .i64 i, .int .u16 (adr q k)] 162)
    have bx := hp_alloc W (.cells #[.int .i64 i, .int .u16 (adr q k)] 162)
    have cx0 := fun j => cell_blk bx j
    have u1 := cx.obj hL.b1 id
    have u0 := cx.cell d0 id
    have hmr := mread_any (hL.at'.ch cx fun _ _ e => e) q ok ((hk.ch hL.ch fun e => hkm e.symm).ch cx id) k hk4
    rw [hki] at hmr
    simp [go_sem, f10, f11, f3, f4, u0, u1, hps, hpa, cx0]
    refine hmr.mono ?_
    rintro v2 W2 ⟨hr, c2⟩
    have cw2 : Ch Nw W W2 := cx.trans c2
    have hL2 : LoI w W2 m p n z s mv A q (.func (.func fi) #[] #[]) G g1 g2 g3 g4 g5 g6 (s.run n q L) (.slice none 0 0) (.slice none 0 0) bv cv :=
      ⟨hL.at'.ch cw2 fun _ _ e => e, cw2.obj hL.b0 id, cw2.obj hL.b1 id, cw2.obj hL.b2 id, cw2.obj hL.b3 id, cw2.obj hL.b4 id, cw2.obj hL.b5 id, cw2.obj hL.b6 id, hL.vb.ch cw2 fun _ _ e => e, own_ch hL.vc cw2 fun _ _ e => e, hL.cf, Nat.le_trans hL.sz cw2.size, hL.dj, hL.ch.trans (cw2.mono fun _ _ e => e.elim)⟩
    have bx2 := c2.obj bx id
    have cx2 := fun j => cell_blk bx2 j
    have kn2 := KeepN.nw cw2
    have hgood : ({ s with found := (s.run n q L).F } : Mr).good n q k = s.good n q k := rfl
    rw [hgood] at hr
    have hq5 : W2.cell? ⟨g5, 0, none⟩ = some bv := cell_blk hL2.b5 0
    have hstep := Mr.run_snoc n s q L k
    have fin : ∀ {W' : World} {bv' cv' : Value}, KeepN W W' → Ch (fun k => k = m ∨ k = g5 ∨ k = g6 ∨ G + 8 ≤ k) W W' → LoI w W' m p n z s mv A q (.func (.func fi) #[] #[]) G g1 g2 g3 g4 g5 g6 (s.run n q (L ++ [k])) (.slice none 0 0) (.slice none 0 0) bv' cv' → (all = false → s.good n q k = none) → (KeepsFrom w8.heap.size W W' ∧ Ch (fun k => (k = m ∨ k = g5 ∨ k = g6) ∨ w8.heap.size ≤ k) W W') ∧ I (pre ++ [x]) W' := fun {W' bv' cv'} a1 a2 a3 a4 => by
      refine ⟨⟨a1.from a2.size _, a2.mono fun j _ e => ?_⟩, ?_⟩
      · rcases e with e | e | e | e
        · exact .inl (.inl e)
        · exact .inl (.inr (.inl e))
        · exact .inl (.inr (.inr e))
        · exact .inr (by omega)
      · rw [hI]
        refine ⟨bv', cv', by rw [hpx]; exact a3, fun ha j hj => ?_⟩
        rw [hpx] at hj
        rcases List.mem_append.1 hj with hj | hj
        · exact hno ha j hj
        · rw [List.mem_singleton] at hj
          subst hj
          exact a4 ha
    cases hgd : s.good n q k with
    | some b =>
      rw [hgd] at hr
      obtain ⟨u, rfl, hb, hu, huf, hul⟩ := hr
      cases hblk : (s.run n q L).blk with
      | none =>
        have hbv : bv = .slice none 0 0 := by
          have := hL2.vb
          rw [hblk] at this
          exact this
        subst hbv
        obtain ⟨ad, c, rfl⟩ := sl_some hu (by rw [bvs_length, hb]; omega)
        have f85 := frz_blk hL2.b5 0
        have hd2 : W2.cell? ⟨g2, 0, none⟩ = some (.func (.func fi) #[] #[]) := cell_blk hL2.b2 0
        have ne52 : g2 ≠ g5 := by omega
        have c3 : Ch (one g5) W2 (W2.setCell ⟨g5, 0, none⟩ (.slice (some ad) 512 c)) := (Ch.refl (one g5) W2).setCell (p := ⟨g5, 0, none⟩) (.inl rfl) _
        have k3 : KeepN W2 (W2.setCell ⟨g5, 0, none⟩ (.slice (some ad) 512 c)) := KeepN.of c3 fun k hk _ => by simp only [one] at hk; subst hk; exact ⟨_, _, _, hL2.b5⟩
        have b53 : (W2.setCell ⟨g5, 0, none⟩ (.slice (some ad) 512 c)).heap[g5]? = some (.cells #[.slice (some ad) 512 c] 59 (0, 0)) := by rw [hp_setCell, hL2.b5, setOf_cells]; rfl
        have hst : s.run n q (L ++ [k]) = { s.run n q L with blk := some b } := by rw [hstep]; unfold Mr.step; rw [hgd]; simp [hblk]
        have d3 := c3.cell hd2 (fun e => ne52 e)
        have hL3 : LoI w (W2.setCell ⟨g5, 0, none⟩ (.slice (some ad) 512 c)) m p n z s mv A q (.func (.func fi) #[] #[]) G g1 g2 g3 g4 g5 g6 (s.run n q (L ++ [k])) (.slice none 0 0) (.slice none 0 0) (.slice (some ad) 512 c) cv := by
          have ng : ∀ j, j ≠ g5 → ¬ one g5 j := fun j h e => h e
          have hua := huf ad.block rfl
          have hsz := hL.ch.size
          have hul' := hul ad.block rfl
          have hg6 := hL.sz
          have hsx := cx.size
          rw [hst]
          refine ⟨hL2.at'.ch c3 fun j hj e => ?_, c3.obj hL2.b0 (ng _ (by omega)), c3.obj hL2.b1 (ng _ (by omega)), c3.obj hL2.b2 (ng _ (by omega)), c3.obj hL2.b3 (ng _ (by omega)), c3.obj hL2.b4 (ng _ (by omega)), b53, c3.obj hL2.b6 (ng _ (by omega)), ⟨hb, ad, c, rfl, hu.ch c3 fun j hj e => ?_, ?_, Nat.lt_of_lt_of_le hul' c3.size⟩, own_ch hL2.vc c3 fun j hj e => ?_, hL2.cf, Nat.le_trans hL2.sz c3.size, fun j hj e => ?_, hL2.ch.trans' c3 fun j hj e => ?_⟩
          · simp only [one] at e; have := hO j hj; omega
          · simp only [one] at e; simp [Value.ownBlock] at hj; omega
          · omega
          · simp only [one] at e; have := hL2.cf j hj; omega
          · simp [Value.ownBlock] at hj; have := own_blt hL.vc j e; omega
          · simp only [one] at e; omega
        simp [go_sem, f8, hq5, nil_eq, f85, f5, d3]
        revert c3 k3 b53 hL3
        generalize W2.setCell ⟨g5, 0, none⟩ (.slice (some ad) 512 c) = W3
        intro c3 k3 b53 hL3
        have f53 := frz_blk hL3.b3 0
        have f54 := frz_blk hL3.b4 0
        have q35 : W3.cell? ⟨g5, 0, none⟩ = some (.slice (some ad) 512 c) := cell_blk b53 0
        have q36 : W3.cell? ⟨g6, 0, none⟩ = some cv := cell_blk hL3.b6 0
        have kn3 := (kn2.trans k3)
        have cw3 : Ch (one g5) W W3 := (cw2.mono fun _ _ e => e.elim).trans c3
        cases all with
        | false =>
          have hfi : 43 = fi := hfi
          subst hfi
          simp [go_sem]
          refine (v_enter Tryz.func43 Tryz.ntmps43 rfl (by simp) fun R3 hR3 => ?_ : Ret Tryz.prog 43 #[] W3 fun v' w' => v' = .bool true ∧ w' = W3).mono ?_
          · simp [go_sem]
            exact hR3 _ _ ⟨rfl, rfl⟩
          rintro _ W9 ⟨rfl, hW9⟩
          subst W9
          simp [go_sem]
          refine v_draw' [(0, none), (1, none), (2, some [1]), (3, some [])] (by kernel_rfl) (by kernel_rfl) ?_
          have p33 : W3.cell? ⟨g3, 0, none⟩ = some (.slice none 0 0) := cell_blk hL3.b3 0
          have p4 := fun v => ((Ch.refl (one g3) W3).setCell (p := ⟨g3, 0, none⟩) (.inl rfl) v).obj hL3.b4 (fun e => by simp only [one] at e; omega)
          have p34 := fun v => cell_blk (p4 v) 0
          have f34 := fun v => frz_blk (p4 v) 0
          subst hcvn
          simp [go_sem, f6, f7, f8, f9, q35, q36, f53, f54, p33, p34, f34]
          have c5 : Ch (fun j => j = g3 ∨ j = g4) W3 (((W3.setCell ⟨g3, 0, none⟩ (.slice (some ad) 512 c)).setCell ⟨g4, 0, none⟩ (.slice Ac N cc)).drew) := (((Ch.refl (fun j => j = g3 ∨ j = g4) W3).setCell (p := ⟨g3, 0, none⟩) (.inl (.inl rfl)) _).setCell (p := ⟨g4, 0, none⟩) (.inl (.inr rfl)) _).drew
          have kn5 := ((kn3.setCell (i := 0) hL3.b3 (.slice (some ad) 512 c)).setCell (i := 0) (p4 (.slice (some ad) 512 c)) (.slice Ac N cc)).drew
          have n3 : ∀ j, j ≠ g3 → j ≠ g4 → ¬ (j = g3 ∨ j = g4) := fun j h1 h2 e => e.elim h1 h2
          have z3 : (((W3.setCell ⟨g3, 0, none⟩ (.slice (some ad) 512 c)).setCell ⟨g4, 0, none⟩ (.slice Ac N cc)).drew).heap[g3]? = some (.cells #[.slice (some ad) 512 c] 59 (0, 0)) := by rw [hp_drew, hp_setCell_ne _ _ _ _ (by simp only; omega), hp_setCell, hL3.b3, setOf_cells]; rfl
          have z4 : (((W3.setCell ⟨g3, 0, none⟩ (.slice (some ad) 512 c)).setCell ⟨g4, 0, none⟩ (.slice Ac N cc)).drew).heap[g4]? = some (.cells #[.slice Ac N cc] 158 (0, 0)) := by rw [hp_drew, hp_setCell, hp_setCell_ne _ _ _ _ (by simp only; omega), hL3.b4, setOf_cells]; rfl
          revert c5 kn5 z3 z4
          generalize ((W3.setCell ⟨g3, 0, none⟩ (.slice (some ad) 512 c)).setCell ⟨g4, 0, none⟩ (.slice Ac N cc)).drew = W5
          intro c5 kn5 z3 z4
          have hsz := hL.sz
          refine ⟨kn5.from (Nat.le_trans cw3.size c5.size) _, ?_⟩
          rw [hIx]
          refine ⟨rfl, rfl, .slice (some ad) 512 c, .slice Ac N cc, pre, x, rfl, by rw [hLm]; exact hno rfl, by rw [hkx, hgd]; rfl, ?_⟩
          rw [hpx]
          refine ⟨hL3.at'.ch c5 fun j hj e => ?_, c5.obj hL3.b0 (n3 _ (by omega) (by omega)), c5.obj hL3.b1 (n3 _ (by omega) (by omega)), c5.obj hL3.b2 (n3 _ (by omega) (by omega)), z3, z4, c5.obj hL3.b5 (n3 _ (by omega) (by omega)), c5.obj hL3.b6 (n3 _ (by omega) (by omega)), hL3.vb.ch c5 fun j hj => n3 j (by omega) (by omega), own_ch hL3.vc c5 fun j hj => ?_, hL3.cf, Nat.le_trans hL3.sz c5.size, hL3.dj, hL3.ch.trans' c5 fun j hj e => ?_⟩
          · have := hO j hj; rcases e with e | e <;> omega
          · have := hL3.cf j hj
            exact n3 j (by omega) (by omega)
          · rcases e with e | e <;> omega
        | true =>
          have hfi : 48 = fi := hfi
          subst hfi
          simp [go_sem]
          refine (v_enter Tryz.func48 Tryz.ntmps48 rfl (by simp) fun R3 hR3 => ?_ : Ret Tryz.prog 48 #[] W3 fun v' w' => v' = .bool false ∧ w' = W3).mono ?_
          · simp [go_sem]
            exact hR3 _ _ ⟨rfl, rfl⟩
          rintro _ W9 ⟨rfl, hW9⟩
          subst W9
          simp [go_sem]
          exact fin kn3 (cw3.mono fun j _ e => .inr (.inl e)) hL3 (fun e => by cases e)
      | some b0 =>
        have hbv := hL2.vb
        rw [hblk] at hbv
        obtain ⟨hb0, ad0, c0, rfl, hbv⟩ := hbv
        have hst : s.run n q (L ++ [k]) = s.run n q L := by rw [hstep]; unfold Mr.step; rw [hgd]; simp [hblk]
        simp [go_sem, f8, hq5, nil_ne]
        refine fin kn2 (cw2.mono fun _ _ e => e.elim) (by rw [hst]; exact hL2) (fun ha => ?_)
        exfalso
        have hnb : ∀ l, (∀ k ∈ l, s.good n q k = none) → (s.run n q l).blk = none := by
          refine snoc_ind (fun _ => rfl) fun l k ih hl => ?_
          rw [Mr.run_snoc]
          unfold Mr.step
          rw [hl k (by simp)]
          simp only
          split
          · exact ih fun j hj => hl j (by simp [hj])
          · exact ih fun j hj => hl j (by simp [hj])
        rw [hnb L (hno ha)] at hblk
        cases hblk
    | none =>
      rw [hgd] at hr
      obtain ⟨u, rfl⟩ := hr
      have e0 : W2.cell? ⟨G, 0, none⟩ = some (.pointer (some ⟨m, 0, none⟩)) := cell_blk hL2.b0 0
      have cd : W2.cell? ⟨m, i, none⟩ = some (.pointer (some ⟨z.d i, 0, none⟩)) := by
        rw [cell_blk hL2.at'.blk]
        rcases lt2 hi with rfl | rfl <;> rfl
      have hi2 : (i : Int) < 2 := by omega
      simp [go_sem, f3, f10, e0, cd, hi, hi2]
      refine ((hL2.at'.sd i hi).dead).mono ?_
      rintro _ W9 ⟨rfl, hW9⟩
      subst W9
      cases hdd : (s.dk i).dead with
      | true =>
        have hst : s.run n q (L ++ [k]) = s.run n q L := by rw [hstep]; unfold Mr.step; rw [hgd, hki, hdd]; rfl
        simp [go_sem]
        exact fin kn2 (cw2.mono fun _ _ e => e.elim) (by rw [hst]; exact hL2) (fun _ => hgd)
      | false =>
        have hst : s.run n q (L ++ [k]) = { s.run n q L with F := upd1 (s.run n q L).F i ((s.run n q L).F i + 1), bad := (s.run n q L).bad ++ [k] } := by rw [hstep]; unfold Mr.step; rw [hgd, hki, hdd]; rfl
        simp [go_sem]
        refine v_draw' [(0, none), (1, none), (2, none), (3, none), (4, none), (5, none), (6, none), (7, none), (8, none), (9, none), (10, none), (11, none), (12, some [])] (by kernel_rfl) (by kernel_rfl) ?_
        have hFi := run_le n s q L i
        have hFs := hF i
        have cF : W2.cell? ⟨m, 3 + i * 2, none⟩ = some (.int .i64 ((s.run n q L).F i)) := by rw [cell_blk hL2.at'.blk]; exact mcs_at_found _ z mv hi
        have fm := frz_blk hL2.at'.blk (3 + i * 2)
        have hwF : IntKind.i64.wrap (((s.run n q L).F i : Int) + 1) = (((s.run n q L).F i + 1 : Nat) : Int) := by rw [IntKind.wrap_i64]; omega
        obtain ⟨F1, hF1⟩ : ∃ F1, (s.run n q L).F i + 1 = F1 := ⟨_, rfl⟩
        rw [hF1] at hwF hst
        simp [go_sem, f3, f10, e0, hi, hi2, cF, fm, hwF]
        have m3 : Ch (one m) W2 (W2.setCell ⟨m, 3 + i * 2, none⟩ (.int .i64 F1)).drew := ((Ch.refl (one m) W2).setCell (p := ⟨m, 3 + i * 2, none⟩) (.inl rfl) _).drew
        have at3 : MrP (W2.setCell ⟨m, 3 + i * 2, none⟩ (.int .i64 F1)).drew m p n z { s with found := upd1 (s.run n q L).F i F1 } mv A := by
          refine hL2.at'.own m3 ?_ rfl rfl rfl rfl rfl
          rw [hp_drew, hp_setCell, hL2.at'.blk, setOf_cells, mcs_found _ z mv hi]
        obtain ⟨gx, hgx⟩ : ∃ gx, W.heap.size = gx := ⟨_, rfl⟩
        rw [hgx] at bx2 ⊢
        have nm : ∀ j, w.heap.size ≤ j → ¬ one m j := fun j hj e => by simp only [one] at e; have := hO m (.inl (.inl rfl)); omega
        have kn3 := kn2.trans (KeepN.of m3 fun j hj _ => by simp only [one] at hj; subst hj; exact ⟨_, _, _, hL2.at'.blk⟩)
        have hsz := hL.sz
        have b53 := m3.obj hL2.b5 (nm _ (by omega))
        have b63 := m3.obj hL2.b6 (nm _ (by omega))
        have bx3 := m3.obj bx2 (nm _ (by omega))
        have o0 := m3.obj hL2.b0 (nm _ (by omega))
        have o1 := m3.obj hL2.b1 (nm _ (by omega))
        have o2 := m3.obj hL2.b2 (nm _ (by omega))
        have o3 := m3.obj hL2.b3 (nm _ (by omega))
        have o4 := m3.obj hL2.b4 (nm _ (by omega))
        have vb3 : BlkR (G + 8) (s.run n q L).blk bv (W2.setCell ⟨m, 3 + i * 2, none⟩ (.int .i64 F1)).drew := hL2.vb.ch m3 fun j hj => nm j (by omega)
        have vc3 := own_ch hL2.vc m3 fun j hj => nm j (by have := hL2.cf j hj; omega)
        revert m3 at3 kn3 b53 b63 bx3 o0 o1 o2 o3 o4 vb3 vc3
        generalize (W2.setCell ⟨m, 3 + i * 2, none⟩ (.int .i64 F1)).drew = W3
        intro m3 at3 kn3 b53 b63 bx3 o0 o1 o2 o3 o4 vb3 vc3
        have cx3 := fun j => cell_blk bx3 j
        have c63 := cell_blk b63 0
        simp [go_sem, f9, cx3, c63]
        have hcn : cenc q.a k = [.int .i64 i, .int .u16 (adr q k)] := by unfold cenc adr; rw [show (k : Int) / 2 = i by omega]
        have hNl : N ≤ 1000 := by have := run_bad_le n s q L; omega
        rw [hN] at vc3
        refine VB_app1S tyMc (us := [.int .i64 i, .int .u16 (adr q k)]) vc3 rfl (by simp [Value.oneCell']) (by unfold maxLen; omega) (by omega) fun cv' W4 own4 cl4 ff4 => ?_
        have hcv4 : Fresh (G + 8) cv' := own_app hL2.cf ff4 (by have := m3.size; have := hL2.sz; omega)
        obtain ⟨gq, capq, curq, rfl, _, _, hgq, _⟩ := ownS_blk own4 (by omega)
        have nv : ∀ j, j < G + 8 → ¬ cv.ownBlock = some j := fun j hj e => by have := hL2.cf j e; omega
        have b64 := cl4.obj b63 (nv _ (by omega))
        have c64 := cell_blk b64 0
        have f64 := frz_blk b64 0
        have kn4 := kn3.trans (KeepN.of cl4 fun j hj _ => by
          rcases vc3.2 with ⟨hv, _⟩ | ⟨g, cap, cur, hv, _, hgb, _⟩
          · rw [hv] at hj; simp [Value.ownBlock] at hj
          · rw [hv] at hj
            simp [Value.ownBlock] at hj
            subst hj
            exact ⟨_, _, _, hgb⟩)
        simp [go_sem, f9, c64, f64]
        have c5 : Ch (one g6) W4 (W4.setCell ⟨g6, 0, none⟩ (.slice (some ⟨gq, 0, none⟩) (N + 1) capq)) := (Ch.refl (one g6) W4).setCell (p := ⟨g6, 0, none⟩) (.inl rfl) _
        have z6 : (W4.setCell ⟨g6, 0, none⟩ (.slice (some ⟨gq, 0, none⟩) (N + 1) capq)).heap[g6]? = some (.cells #[.slice (some ⟨gq, 0, none⟩) (N + 1) capq] 158 (0, 0)) := by rw [hp_setCell, b64, setOf_cells]; rfl
        have kn5 := kn4.trans (KeepN.of c5 fun j hj _ => by simp only [one] at hj; subst hj; exact ⟨_, _, _, b64⟩)
        revert c5 z6 kn5
        generalize W4.setCell ⟨g6, 0, none⟩ (.slice (some ⟨gq, 0, none⟩) (N + 1) capq) = W5
        intro c5 z6 kn5
        have n6 : ∀ j, j ≠ g6 → ¬ one g6 j := fun j h e => h e
        have hgq8 := hcv4 gq rfl
        have ca : Ch (fun j => j = m ∨ j = g5 ∨ j = g6 ∨ G + 8 ≤ j) W W5 := (((cw2.mono fun _ _ e => e.elim).trans (m3.mono fun j _ e => .inl e)).trans (cl4.mono fun j _ e => .inr (.inr (.inr (hL2.cf j e))))).trans (c5.mono fun j _ e => .inr (.inr (.inl e)))
        refine fin (bv' := bv) (cv' := .slice (some ⟨gq, 0, none⟩) (N + 1) capq) kn5 ca ?_ (fun _ => hgd)
        rw [hst]
        have mo : ∀ j, MrO z m p mv A j → j < G := fun j hj => by have := hO j hj; omega
        refine ⟨(at3.ch cl4 fun j hj => nv j (by have := mo j hj; omega)).ch c5 fun j hj => n6 j (by have := mo j hj; omega), c5.obj (cl4.obj o0 (nv _ (by omega))) (n6 _ (by omega)), c5.obj (cl4.obj o1 (nv _ (by omega))) (n6 _ (by omega)), c5.obj (cl4.obj o2 (nv _ (by omega))) (n6 _ (by omega)), c5.obj (cl4.obj o3 (nv _ (by omega))) (n6 _ (by omega)), c5.obj (cl4.obj o4 (nv _ (by omega))) (n6 _ (by omega)), c5.obj (cl4.obj b53 (nv _ (by omega))) (n6 _ (by omega)), z6, ?_, ?_, hcv4, ?_, fun j hj e => ?_, ?_⟩
        · have hbb := vb3
          cases hbk : (s.run n q L).blk with
          | none => rw [hbk] at hbb; exact hbb
          | some b =>
            rw [hbk] at hbb
            obtain ⟨y1, ad, y2, rfl, y3, y4, y5⟩ := hbb
            exact ⟨y1, ad, y2, rfl, (y3.ch cl4 fun j hj => hL2.dj j hj).ch c5 fun j hj => n6 j (by simp [Value.ownBlock] at hj; omega), y4, Nat.lt_of_lt_of_le y5 (Nat.le_trans cl4.size c5.size)⟩
        · have e : cocs q ((s.run n q L).bad ++ [k]) = cocs q (s.run n q L).bad ++ [.int .i64 i, .int .u16 (adr q k)] := by unfold cocs; rw [List.flatMap_append, List.flatMap_cons, List.flatMap_nil, hcn]; rfl
          rw [e, List.length_append, hN]
          exact own_ch own4 c5 fun j hj => n6 j (by have := hcv4 j hj; omega)
        · have := m3.size; have := cl4.size; have := c5.size; have := hL2.sz; omega
        · rcases ff4 with ff4 | ff4
          · rw [ff4] at e; exact hL2.dj j hj e
          · have h1 := ff4 j e
            cases hbk : (s.run n q L).blk with
            | none =>
              rw [hbk] at vb3
              rw [show bv = .slice none 0 0 from vb3] at hj
              simp [Value.ownBlock] at hj
            | some b =>
              rw [hbk] at vb3
              obtain ⟨_, ad, _, rfl, _, _, y5⟩ := vb3
              simp [Value.ownBlock] at hj
              omega
        · exact ((hL2.ch.trans m3).trans' cl4 fun j hj e => by have := hL2.cf j e; omega).trans' c5 fun j hj e => by simp only [one] at e; omega
  · rintro D W hD hh hd
    rw [hI] at hh
    obtain ⟨bv, cv, hL, hno⟩ := hh
    have hseq : (cseq q.a 4).map (· % 4) = cseq q.a 4 := by
      conv => rhs; rw [← List.map_id (cseq q.a 4)]
      exact List.map_congr_left fun k hk => by simpa using hmod k hk
    rw [hseq] at hL hno
    have hlk : s.lks n q all = cseq q.a 4 := by
      unfold Mr.lks
      cases all with
      | true => rfl
      | false => exact s.cut_none n q (hno rfl)
    obtain ⟨Ac, cc, hcv⟩ : ∃ A c, cv = .slice A (s.run n q (cseq q.a 4)).bad.length c := by
      rcases hL.vc.2 with ⟨hv, h0⟩ | ⟨g, cap, cur, hv, _⟩
      · exact ⟨none, 0, by rw [hv, h0]⟩
      · exact ⟨_, _, hv⟩
    obtain ⟨Ab, bn, cb, hbv⟩ : ∃ A l c, bv = .slice A l c := by
      have := hL.vb
      cases hbk : (s.run n q (cseq q.a 4)).blk with
      | none => rw [hbk] at this; exact ⟨_, _, _, this⟩
      | some b => rw [hbk] at this; obtain ⟨_, ad, c, e, _⟩ := this; exact ⟨_, _, _, e⟩
    have hne : ∀ j, j < G + 8 → D ≠ j := fun j hj => by omega
    have d3 := fun v => ((Ch.refl (one g3) W).setCell (p := ⟨g3, 0, none⟩) (.inl rfl) v).obj hL.b4 (fun e => by simp only [one] at e; omega)
    have c3 := cell_blk hL.b3 0
    have c4 := cell_blk hL.b4 0
    have c5 := cell_blk hL.b5 0
    have c6 := cell_blk hL.b6 0
    have fz3 := frz_blk hL.b3 0
    have fz4 := frz_blk hL.b4 0
    have d34 := fun v => cell_blk (d3 v) 0
    have f34 := fun v => frz_blk (d3 v) 0
    simp [go_sem]
    subst hcv hbv
    refine v_draw' [(0, none), (1, none), (2, some [1]), (3, some [])] (by kernel_rfl) (by kernel_rfl) ?_
    obtain ⟨N, hN⟩ : ∃ N, (s.run n q (cseq q.a 4)).bad.length = N := ⟨_, rfl⟩
    rw [hN] at hL c6
    simp [go_sem, c3, c4, c5, c6, fz3, fz4, d34, f34]
    have k5 : Ch (fun j => j = g3 ∨ j = g4) W (((W.setCell ⟨g3, 0, none⟩ (.slice Ab bn cb)).setCell ⟨g4, 0, none⟩ (.slice Ac N cc)).drew) := (((Ch.refl (fun j => j = g3 ∨ j = g4) W).setCell (p := ⟨g3, 0, none⟩) (.inl (.inl rfl)) _).setCell (p := ⟨g4, 0, none⟩) (.inl (.inr rfl)) _).drew
    have n3 : ∀ j, j ≠ g3 → j ≠ g4 → ¬ (j = g3 ∨ j = g4) := fun j h1 h2 e => e.elim h1 h2
    have z3 : (((W.setCell ⟨g3, 0, none⟩ (.slice Ab bn cb)).setCell ⟨g4, 0, none⟩ (.slice Ac N cc)).drew).heap[g3]? = some (.cells #[.slice Ab bn cb] 59 (0, 0)) := by rw [hp_drew, hp_setCell_ne _ _ _ _ (by simp only; omega), hp_setCell, hL.b3, setOf_cells]; rfl
    have z4 : (((W.setCell ⟨g3, 0, none⟩ (.slice Ab bn cb)).setCell ⟨g4, 0, none⟩ (.slice Ac N cc)).drew).heap[g4]? = some (.cells #[.slice Ac N cc] 158 (0, 0)) := by rw [hp_drew, hp_setCell, hp_setCell_ne _ _ _ _ (by simp only; omega), hL.b4, setOf_cells]; rfl
    have hd5 := k5.obj hd (n3 D (by omega) (by omega))
    revert k5 z3 z4 hd5
    generalize ((W.setCell ⟨g3, 0, none⟩ (.slice Ab bn cb)).setCell ⟨g4, 0, none⟩ (.slice Ac N cc)).drew = W5
    intro k5 z3 z4 hd5
    have hL5 : LoI w W5 m p n z s mv A q (.func (.func fi) #[] #[]) G g1 g2 g3 g4 g5 g6 (s.run n q (cseq q.a 4)) (.slice Ab bn cb) (.slice Ac N cc) (.slice Ab bn cb) (.slice Ac N cc) := by
      refine ⟨hL.at'.ch k5 fun j hj e => ?_, k5.obj hL.b0 (n3 _ (by omega) (by omega)), k5.obj hL.b1 (n3 _ (by omega) (by omega)), k5.obj hL.b2 (n3 _ (by omega) (by omega)), z3, z4, k5.obj hL.b5 (n3 _ (by omega) (by omega)), k5.obj hL.b6 (n3 _ (by omega) (by omega)), hL.vb.ch k5 fun j hj => n3 j (by omega) (by omega), own_ch hL.vc k5 fun j hj => ?_, hL.cf, Nat.le_trans hL.sz k5.size, hL.dj, hL.ch.trans' k5 fun j hj e => ?_⟩
      · have := hO j hj; rcases e with e | e <;> omega
      · have := hL.cf j hj
        exact n3 j (by omega) (by omega)
      · rcases e with e | e <;> omega
    have hne3 : D ≠ g3 := by omega
    have hne4 : D ≠ g4 := by omega
    have p3 : (W5.putObj D (.deferred none)).cell? ⟨g3, 0, none⟩ = some (.slice Ab bn cb) := by
      rw [cell_blk (show (W5.putObj D (.deferred none)).heap[g3]? = _ from (hp_putObj hne3.symm).trans z3)]; rfl
    have p4 : (W5.putObj D (.deferred none)).cell? ⟨g4, 0, none⟩ = some (.slice Ac N cc) := by
      rw [cell_blk (show (W5.putObj D (.deferred none)).heap[g4]? = _ from (hp_putObj hne4.symm).trans z4)]; rfl
    simp [go_sem, VEnd_ret', hd5, p3, p4]
    exact fin2 hD (by rw [hlk]; exact hL5) hd5
  · rintro D c k W hD hk hh hd
    rw [hIx] at hh
    obtain ⟨rfl, rfl, bv, cv, pre0, x, h1, h2, h3, hL⟩ := hh
    have b3 := cell_blk hL.b3 0
    have b4 := cell_blk hL.b4 0
    have hne3 : D ≠ g3 := by omega
    have hne4 : D ≠ g4 := by omega
    have p3 : (W.putObj D (.deferred none)).cell? ⟨g3, 0, none⟩ = some bv := by
      rw [cell_blk (show (W.putObj D (.deferred none)).heap[g3]? = _ from (hp_putObj hne3.symm).trans hL.b3)]; rfl
    have p4 : (W.putObj D (.deferred none)).cell? ⟨g4, 0, none⟩ = some cv := by
      rw [cell_blk (show (W.putObj D (.deferred none)).heap[g4]? = _ from (hp_putObj hne4.symm).trans hL.b4)]; rfl
    simp [go_sem, VEnd_ret', hd, b3, b4, p3, p4]
    have hmap : (cseq q.a 4).take k = ((cseq q.a 4).take k).map (· % 4) := by
      conv => lhs; rw [← List.map_id ((cseq q.a 4).take k)]
      exact List.map_congr_left fun j hj => by simpa using (hmod j (List.mem_of_mem_take hj)).symm
    have hx4 : x % 4 = x := hmod x (List.mem_of_mem_take (i := k) (by rw [h1]; simp))
    have h2' : ∀ j ∈ pre0, s.good n q j = none := fun j hj => by
      have := h2 (j % 4) (List.mem_map.2 ⟨j, hj, rfl⟩)
      rwa [hmod j (List.mem_of_mem_take (i := k) (by rw [h1]; simp [hj]))] at this
    rw [hx4] at h3
    have hlk : s.lks n q false = (cseq q.a 4).take k := by
      unfold Mr.lks
      simp only [Bool.false_eq_true, if_false]
      have e : cseq q.a 4 = pre0 ++ x :: (cseq q.a 4).drop k := by
        conv => lhs; rw [← List.take_append_drop k (cseq q.a 4), h1]
        simp
      rw [h1, e]
      exact s.cut_take n q h2' h3
    rw [← hmap] at hL
    exact fin2 hD (by rw [hlk]; exact hL) hd
end
end Go.Proofs.YtppilgkgnofkpaaGreatDoor
