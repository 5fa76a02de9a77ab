/- What a disk's address tells: Look, Read. No condition. -/
import Derived.Test.YtppilgkgnofkpaaGreatDoorDkC
import Derived.Test.YtppilgkgnofkpaaGreatDoorPtA
set_option linter.unusedSimpArgs false
set_option linter.unusedVariables false

namespace Go.Kin
open Go Go.RowKit
theorem Rec.cell {B : Nat} {W W' : World} (h : Rec B W W') {p : Addr} {v : Value} (hc : W.cell? p = some v) : W'.cell? p = some v := by
  have hlt := World.block_lt_of_cell? W p hc
  have hb : W.heap[p.block]? = some (W.heap[p.block]'hlt) := Array.getElem?_eq_getElem hlt
  cases ho : W.heap[p.block]'hlt with
  | cells cs T fr =>
    rw [ho] at hb
    exact (World.cell?_of_block ((h.blk hb).trans hb.symm)).trans hc
  | _ =>
    rw [ho] at hb
    simp [World.cell?, hb] at hc
theorem putObj_cell {W : World} {D : Nat} {x : Option (List Deferred)} {o : Obj} (hd : W.heap[D]? = some (.deferred x)) {p : Addr} {v : Value} (hc : W.cell? p = some v) : (W.putObj D o).cell? p = some v := by
  by_cases hp : p.block = D
  · simp [World.cell?, hp, hd] at hc
  · exact (World.cell?_of_block (hp_putObj hp)).trans hc
theorem Rec.sl {B : Nat} {W W' : World} (h : Rec B W W') {v : Value} {n : Nat} {xs : List Value} (hs : Sl W v n xs) : Sl W' v n xs := hs.keep fun _ _ hc => h.cell hc
end Go.Kin
namespace Go.Proofs.YtppilgkgnofkpaaGreatDoor
open Go.RowKit Go.Kin

theorem own_cells {w : World} {v : Value} {m : Nat} {vs : List (Nat × Value)} (h : w.ownsRow 0 140 2 v m (rowsL wc vs)) {i a : Nat} {u : Value} (hx : vs[i]? = some (a, u)) :
    ∃ g cap, v = .slice (some ⟨g, 0, none⟩) m cap ∧ m ≤ cap ∧ cap ≤ maxLen ∧ g < w.heap.size ∧ i < m ∧ w.cell? ⟨g, i * 2, none⟩ = some (.int .u16 a) ∧ w.cell? ⟨g, i * 2 + 1, none⟩ = some u := by
  have hl := h.1
  rw [rowsL_length vs (wc_size vs)] at hl
  have hi := (List.getElem?_eq_some_iff.1 hx).1
  obtain ⟨g, cap, cur, rfl, h1, h2, h3, h4, h5⟩ := ownS_blk h (by omega)
  have r0 := rows_at (i := 0) (u := .int .u16 a) (wc_size vs) hx rfl
  have r1 := rows_at (i := 1) (u := u) (wc_size vs) hx rfl
  simp only [rowsOf, List.getElem?_toArray, Nat.add_zero] at r0 r1
  exact ⟨g, cap, rfl, h1, h2, lt_of_block h3, by omega, h5 _ _ r0, h5 _ _ r1⟩
/-- the numbers from behind -/
def bseq (m : Nat) : List Nat := (List.range m).reverse
theorem bseq_length (m : Nat) : (bseq m).length = m := by simp [bseq]
theorem bseq_get {m j : Nat} (h : j < m) : (bseq m)[j]? = some (m - 1 - j) := by
  unfold bseq
  rw [List.getElem?_reverse (by simpa using h), List.length_range, List.getElem?_range (by omega)]
theorem bseq_step {m k : Nat} (h : k < m) : (bseq m).take (m - (k + 1)) ++ [k] = (bseq m).take (m - k) := by
  rw [show m - k = (m - (k + 1)) + 1 by omega, List.take_add_one, bseq_get (by omega)]
  simp
  omega
def dwat (vs : List (Nat × Value)) (i : Nat) : Nat × Value := vs.getD i (65536, .slice none 0 0)
def wenc (vs : List (Nat × Value)) (i : Nat) : List Value := [.int .i64 i, .agg (wc (dwat vs i))]
theorem back_iter (q m : Nat) (v : Value) (vs : List (Nat × Value)) (w : World) (S : Nat → Prop) (hv : w.ownsRow 0 140 2 v m (rowsL wc vs)) (hl : vs.length = m) (hq : w.heap[q]? = some (.cells #[v] 134 (0, 0))) (hSq : ¬ S q) (hSv : ∀ k, v.ownBlock = some k → ¬ S k) :
    Iter Tryz.prog 97 [.pointer (some ⟨q, 0, none⟩)] 2 (wenc vs) (bseq m) S w := by
  refine ⟨fun x => rfl, fun args w => by simp [go_sem], ?_⟩
  intro l J Jx W hW hJ hJx hY h0
  refine v_enter Tryz.func97 Tryz.ntmps97 rfl (by simp) fun R' hR => ?_
  have hql := lt_of_block hq
  have hlen := own_len hv Tryz.underlying134 3
  have hqW := hW.obj hq id
  have cq := cell_blk hqW 0
  have hlit : ∃ A c, v = .slice A m c ∧ m ≤ maxLen := by
    rcases hv.2 with ⟨rfl, rfl⟩ | ⟨g, cap, cur, rfl, _, _, h1, h2, _⟩
    · exact ⟨none, 0, rfl, Nat.zero_le _⟩
    · exact ⟨_, _, rfl, by omega⟩
  obtain ⟨A, c, rfl, hm⟩ := hlit
  have hmx : (m : Int) ≤ 9223372036854775807 := by unfold maxLen at hm; omega
  have hw0 : IntKind.i64.wrap ((m : Int) - 1) = (m : Int) - 1 := by rw [IntKind.wrap_i64]; omega
  simp [go_sem, cq, hw0]
  refine v_loop (fun r f wr => ∃ k, r = k ∧ k ≤ m ∧ f 0 = .func (.yield l) #[] #[] ∧ f 1 = .pointer (some ⟨q, 0, none⟩) ∧ f 3 = .int .i64 ((k : Int) - 1) ∧ J ((bseq m).take (m - k)) wr ∧ Ch (fun k => S k ∨ w.heap.size ≤ k) w wr) m
    ⟨m, rfl, Nat.le_refl _, by simp, by simp, by simp, by simpa using h0, hW.mono fun _ _ e => e.elim⟩ ?_
  rintro I hI k f wr ⟨_, rfl, hk, e0, e1, e3, hj, hc⟩
  cases k with
  | zero =>
    simp [go_sem, e3]
    refine hR _ _ (.inl ?_)
    rwa [Nat.sub_zero, List.take_of_length_le (by rw [bseq_length]; exact Nat.le_refl _)] at hj
  | succ k =>
    have hk1 : ((k + 1 : Nat) : Int) - 1 = k := by omega
    rw [hk1] at e3
    obtain ⟨x, hx⟩ : ∃ x, vs[k]? = some x := ⟨_, List.getElem?_eq_getElem (by omega)⟩
    obtain ⟨a, u⟩ := x
    obtain ⟨g, cap, hvv, h1, h2, h3, h4, r0, r1⟩ := own_cells hv hx
    cases hvv
    have hqr := hc.obj hq (fun e => e.elim hSq (by omega))
    have cqr := cell_blk hqr 0
    have hgn : ¬ (S g ∨ w.heap.size ≤ g) := fun e => e.elim (hSv g rfl) (by omega)
    have c0 := hc.cell r0 hgn
    have c1 := hc.cell r1 hgn
    have hkm : (k : Int) < m := by omega
    have hkm' : k < m := by omega
    have hwk : IntKind.i64.wrap ((k : Int) - 1) = (k : Int) - 1 := by rw [IntKind.wrap_i64]; omega
    have hy := hY _ k wr hj (by rw [List.length_take, bseq_length]; omega)
    have hwat : dwat vs k = (a, u) := by simp [dwat, List.getD, hx]
    simp only [wenc, hwat, wc] at hy
    simp [go_sem, e0, e1, e3, cqr, hkm, hkm', c0, c1]
    refine VCall_yield _ _ _ hy ?_
    rintro _ w' (⟨rfl, hj', hk'⟩ | ⟨rfl, hjx⟩)
    · simp [go_sem, e3, hwk]
      refine Rnd.intro k (by omega) (hI _ _ _ ⟨k, rfl, by omega, by simp [e0], by simp [e1], by simp, ?_, hc.trans' hk' fun j _ e => e⟩)
      rw [bseq_step hkm'] at hj'
      exact hj'
    · simp [go_sem]
      refine hR _ _ (.inr ⟨m - k, by rw [bseq_length]; omega, ?_⟩)
      rw [bseq_step hkm'] at hjx
      exact hjx
theorem bwd_any (v : Value) (w : World) (hv : ∃ A n c, v = .slice A n c) : Ret Tryz.prog 70 #[v] w fun v' w' => v' = .func (.func 97) #[] #[.pointer (some ⟨w.heap.size, 0, none⟩)] ∧ w' = w.alloc (.cells #[v] 134) := by
  refine v_enter Tryz.func70 Tryz.ntmps70 rfl (by simp) fun R' hR => ?_
  obtain ⟨A, n, c, rfl⟩ := hv
  simp [go_sem]
  exact hR _ _ ⟨rfl, rfl⟩
section
variable {w : World} {d p n : Nat} {D : Dk} {O Y : Nat → Prop} {z : Dn} {vs : List (Nat × Value)}
/-- what Look answers -/
def LookR (w : World) (r : Option Byts) (v' : Value) (w' : World) : Prop := match r with
  | none => v' = .tuple #[.slice none 0 0, .bool false]
  | some b => ∃ u, v' = .tuple #[u, .bool true] ∧ b.length = 512 ∧ Sl w' u 512 (bvs b) ∧ Fresh w.heap.size u ∧ ∀ k, u.ownBlock = some k → k < w'.heap.size
theorem own_blt {w : World} {e s n : Nat} {v : Value} {xs : List Value} (h : w.ownsRow 0 e s v n xs) : ∀ k, v.ownBlock = some k → k < w.heap.size := fun k hk => by
  rcases h.2 with ⟨hv, _⟩ | ⟨g, cap, cur, hv, _, hg, _⟩
  · rw [hv] at hk; simp [Value.ownBlock] at hk
  · rw [hv] at hk
    simp [Value.ownBlock] at hk
    rw [← hk]; exact lt_of_block hg
theorem wat_is {w : World} {v : Value} {c : List (Nat × Byts)} {Y : Nat → Prop} {vs : List (Nat × Value)} (h : CacheAt w v c Y vs) (x : Nat) : ∃ a A m k, dwat vs x = (a, .slice A m k) ∧ ((c[x]? = none ∧ a = 65536) ∨ ∃ b, c[x]? = some (a, b) ∧ Yb w Y (.slice A m k) b) := by
  cases hx : c[x]? with
  | none =>
    have : vs[x]? = none := by
      rw [List.getElem?_eq_none_iff] at hx ⊢
      rw [h.len]; exact hx
    exact ⟨65536, none, 0, 0, by simp [dwat, List.getD, this], .inl ⟨rfl, rfl⟩⟩
  | some e =>
    obtain ⟨a, b⟩ := e
    obtain ⟨u, e1, e2⟩ := h.each x a b hx
    obtain ⟨A, k, rfl, _⟩ := e2.1
    exact ⟨a, A, _, k, by simp [dwat, List.getD, e1], .inr ⟨b, rfl, e2⟩⟩
structure LkI (w : World) (D : Dk) (q a : Nat) (pre : List Nat) (W : World) : Prop where
  no : ∀ i ∈ pre, ∀ e, D.cache[i]? = some e → e.1 ≠ a
  b3 : W.heap[q]? = some (.cells #[.int .u16 a] 52 (0, 0))
  b4 : W.heap[q + 1]? = some (.cells #[.slice none 0 0] 59 (0, 0))
  b5 : W.heap[q + 1 + 1]? = some (.cells #[.bool false] 4 (0, 0))
  ch : Ch Nw w W
structure LkX (w : World) (D : Dk) (q a : Nat) (c : Code) (pre : List Nat) (W : World) : Prop where
  ret : c = .ret
  hit : ∃ pre' x b u, pre = pre' ++ [x] ∧ (∀ i ∈ pre', ∀ e, D.cache[i]? = some e → e.1 ≠ a) ∧ D.cache[x]? = some (a, b) ∧ b.length = 512 ∧ W.heap[q + 1]? = some (.cells #[u] 59 (0, 0)) ∧ W.heap[q + 1 + 1]? = some (.cells #[.bool true] 4 (0, 0)) ∧ Sl W u 512 (bvs b) ∧ Fresh q u ∧ (∀ k, u.ownBlock = some k → k < W.heap.size)
  ch : Ch Nw w W
structure LkA (vs : List (Nat × Value)) (q : Nat) (x : Nat) (f' : Nat → Value) (W : World) : Prop where
  f3 : f' 3 = .pointer (some ⟨q, 0, none⟩)
  f4 : f' 4 = .pointer (some ⟨q + 1, 0, none⟩)
  f5 : f' 5 = .pointer (some ⟨q + 1 + 1, 0, none⟩)
  f7 : ∃ G, f' 7 = .pointer (some ⟨G, 0, none⟩) ∧ W.heap[G]? = some (.cells (wc (dwat vs x)) 140 (0, 0))
theorem look_any (a : Nat) (ha : a < 65536) (h : DkP w d p n D O z vs Y) : Ret Tryz.prog 28 #[.pointer (some ⟨d, 0, none⟩), .int .u16 a] w fun v' w' => LookR w (D.look n a) v' w' ∧ Ch Nw w w' := by
  refine v_enter Tryz.func28 Tryz.ntmps28 rfl (by simp) fun R' hR => ?_
  simp [go_sem]
  have hc := ((((Ch.refl Nw w).alloc (.cells #[.int .u16 a] 52)).alloc (.cells #[.slice none 0 0] 59)).alloc (.cells #[.bool false] 4))
  have b3 := al3_0 w (.cells #[.int .u16 a] 52) (.cells #[.slice none 0 0] 59) (.cells #[.bool false] 4)
  have b4 := al3_1 w (.cells #[.int .u16 a] 52) (.cells #[.slice none 0 0] 59) (.cells #[.bool false] 4)
  have b5 := al3_2 w (.cells #[.int .u16 a] 52) (.cells #[.slice none 0 0] 59) (.cells #[.bool false] 4)
  have h1 := h.ch hc.drew fun _ _ e => e
  have hsz : (((w.alloc (.cells #[.int .u16 a] 52)).alloc (.cells #[.slice none 0 0] 59)).alloc (.cells #[.bool false] 4)).heap.size = w.heap.size + 3 := by simp
  revert hc b3 b4 b5 h1 hsz
  generalize ((w.alloc (.cells #[.int .u16 a] 52)).alloc (.cells #[.slice none 0 0] 59)).alloc (.cells #[.bool false] 4) = w1
  generalize hq : w.heap.size = q
  intro hc b3 b4 b5 h1 hsz
  have e3 := fun i => cell_blk b3 i
  have e4 := fun i => cell_blk b4 i
  have e5 := fun i => cell_blk b5 i
  have z4 := fun i => frz_blk b4 i
  have z5 := fun i => frz_blk b5 i
  have cd5 : w1.cell? ⟨d, 5, none⟩ = some (.map (some z.bs)) := cell_blk h1.blk 5
  have cd3 : w1.cell? ⟨d, 3, none⟩ = some z.cv := cell_blk h1.blk 3
  have hcvl : ∃ A c, z.cv = .slice A D.cache.length c := by
    rcases h.cache.own.2 with ⟨hv, h0⟩ | ⟨g, cap, cur, hv, _⟩
    · exact ⟨none, 0, by rw [hv, h0]⟩
    · exact ⟨_, _, hv⟩
  have c45 : ∀ (x y : Value), Ch Nw w (((w1.setCell ⟨q + 1, 0, none⟩ x).setCell ⟨q + 1 + 1, 0, none⟩ y).drew) := fun x y => ((hc.setCell (p := ⟨q + 1, 0, none⟩) (.inr (by simp only; omega)) x).setCell (p := ⟨q + 1 + 1, 0, none⟩) (.inr (by simp only; omega)) y).drew
  obtain ⟨Fs, hms, hFs⟩ := h1.stuck
  have hlk := hms.look Tryz.underlying135 Tryz.underlying52 (zB w1.drew) a
  rw [hFs a] at hlk
  refine v_draw' [(0, none), (1, some []), (2, none), (3, none), (4, none), (5, some []), (6, none), (7, none), (8, none), (9, none), (10, none), (11, none), (12, none), (13, none), (14, none), (15, none)] (by kernel_rfl) (by kernel_rfl) ?_
  simp [go_sem]
  refine (dead_any h1).mono ?_
  rintro _ w2 ⟨rfl, hw⟩
  subst w2
  cases hd : D.dead with
  | true =>
    simp [go_sem, e4, e5, z4, z5]
    exact hR _ _ ⟨by simp [Dk.look, hd, LookR], c45 _ _⟩
  | false =>
    simp [go_sem, e3]
    refine (has_any a ha h1).mono ?_
    rintro _ w2 ⟨rfl, hw⟩
    subst w2
    by_cases han : a < n
    · simp [go_sem, han, cd5, e3, hlk]
      cases hs : D.stuck a with
      | true =>
        simp [go_sem, e4, e5, z4, z5]
        exact hR _ _ ⟨by simp [Dk.look, hs, LookR], c45 _ _⟩
      | false =>
        obtain ⟨A, cc, hcv⟩ := hcvl
        have cd3' := cd3
        rw [hcv] at cd3'
        simp [go_sem, cd3']
        refine (bwd_any _ _ ⟨A, _, cc, rfl⟩).mono ?_
        rintro _ w2 ⟨rfl, hw2⟩
        subst hw2
        simp [go_sem]
        have c12 := ((Ch.refl Nw w1).alloc (.cells #[.slice A D.cache.length cc] 134)).drew
        have hqb : (w1.alloc (.cells #[.slice A D.cache.length cc] 134)).drew.heap[w1.heap.size]? = _ := hp_alloc w1 (.cells #[.slice A D.cache.length cc] 134)
        have hsz2 : (w1.alloc (.cells #[.slice A D.cache.length cc] 134)).drew.heap.size = q + 4 := by simp [hsz]
        rw [hsz] at hqb
        rw [show w1.heap.size = q + 3 from hsz]
        have b3 := c12.hp b3 id
        have b4 := c12.hp b4 id
        have b5 := c12.hp b5 id
        have c02 := hc.trans c12
        have h2 := h.ch c02 fun _ _ e => e
        revert b3 b4 b5 c02 h2 hqb hsz2
        generalize (w1.alloc (.cells #[.slice A D.cache.length cc] 134)).drew = w2
        intro hqb hsz2 b3 b4 b5 c02 h2
        clear c12 e3 e4 e5 z4 z5 cd5 cd3 cd3' hlk hms c45 h1
        have own2 := h2.cache.own
        rw [hcv] at own2
        have hcv4 : ∀ k, z.cv.ownBlock = some k → k < q := fun k hk => by have := own_blt h.cache.own k hk; omega
        rw [hcv] at hcv4
        obtain ⟨lk, hlk⟩ : ∃ r, r = D.look n a := ⟨_, rfl⟩
        rw [← hlk] at hR
        have hlk' : lk = D.tells a := by
          rw [hlk]
          unfold Dk.look
          rw [if_neg (by simp [hd, hs, show ¬ n ≤ a by omega])]
        clear hlk
        refine v_range (back_iter (q + 3) D.cache.length _ vs w2 (fun k => k = q + 1 ∨ k = q + 1 + 1) own2 h2.cache.len hqb (by omega) (fun k hk e => by have := hcv4 k hk; omega)) (Ch.refl _ _) rfl rfl (by kernel_rfl) (fun k hk => by omega)
          (LkI w D q a) (LkX w D q a) (LkA vs q) ?_ ?_ ?_ ?_ ?_ ?_ ?_ ?_
        · exact fun pre W W' g hr => ⟨g.no, hr.blk g.b3, hr.blk g.b4, hr.blk g.b5, hr.since g.ch c02.size⟩
        · rintro c pre W W' ⟨g1, ⟨pre', x, b, u, g2, g3, g4, gl, g5, g6, g7, g8, g9⟩, g10⟩ hr
          exact ⟨g1, ⟨pre', x, b, u, g2, g3, g4, gl, hr.blk g5, hr.blk g6, hr.sl g7, g8, fun k hk => Nat.lt_of_lt_of_le (g9 k hk) hr.ch.size⟩, hr.since g10 c02.size⟩
        · rintro x f' W W' ⟨g1, g2, g3, G, g4, g5⟩ hr
          exact ⟨g1, g2, g3, G, g4, hr.blk g5⟩
        · exact ⟨by simp, b3, b4, b5, c02⟩
        · intro pre x W g
          have ca := (Ch.refl Nw W).alloc (.cells (wc (dwat vs x)) 140)
          obtain ⟨a', A', m', k', hw, _⟩ := wat_is h.cache x
          rw [hw] at ca
          simp [go_sem, wenc, wc, hw]
          exact ⟨ca, ⟨g.no, ca.hp g.b3 id, ca.hp g.b4 id, ca.hp g.b5 id, g.ch.trans ca⟩, by simp, by simp, by simp, _, by simp; rfl, by rw [hw]; exact hp_alloc _ _⟩
        · rintro pre x f' W g ⟨j3, j4, j5, G, j7, jG⟩
          have k2 := fun i => cell_blk g.b3 i
          have kG := fun i => cell_blk jG i
          obtain ⟨a', A', m', k', hw, hcase⟩ := wat_is h.cache x
          rw [hw] at kG
          by_cases hae : a' = a
          · subst hae
            rcases hcase with ⟨_, h0⟩ | ⟨b, hxb, hyb⟩
            · omega
            have hb512 : b.length = 512 := (h.ok.cache _ (List.mem_of_getElem? hxb)).1
            have hyW := hyb.ch g.ch fun _ _ e => e
            simp [go_sem, j3, j7, k2, kG, wc]
            refine (clone_any _ 512 b W (by omega) hb512 (by rw [← hb512]; exact hyW.1)).mono ?_
            rintro v3 w3 ⟨o3, c3, f3⟩
            have r4 := fun i => cell_blk (c3.hp g.b4 id) i
            have r5 := fun i => cell_blk (c3.hp g.b5 id) i
            have y4 := fun i => frz_blk (c3.hp g.b4 id) i
            have y5 := fun i => frz_blk (c3.hp g.b5 id) i
            obtain ⟨A3, cc3, hv3⟩ : ∃ A c, v3 = .slice A 512 c := by
              obtain ⟨A, c, e, _⟩ := Sl.of_own o3
              exact ⟨A, c, e⟩
            subst hv3
            simp [go_sem, j4, j5, r4, r5, y4, y5]
            have c34 : Ch (fun k => k = q + 1 ∨ k = q + 1 + 1) w3 ((w3.setCell ⟨q + 1, 0, none⟩ (.slice A3 512 cc3)).setCell ⟨q + 1 + 1, 0, none⟩ (.bool true)) := ((Ch.refl _ w3).setCell (p := ⟨q + 1, 0, none⟩) (.inl (.inl rfl)) _).setCell (p := ⟨q + 1 + 1, 0, none⟩) (.inl (.inr rfl)) _
            have hWq := (lt_of_block g.b5 : q + 1 + 1 < W.heap.size)
            refine ⟨(c3.mono fun _ _ e => e.elim).trans c34, rfl, ⟨pre, x, b, .slice A3 512 cc3, rfl, g.no, hxb, hb512, ?_, ?_, ?_, ?_, ?_⟩, ?_⟩
            · rw [hp_setCell_ne _ _ _ _ (by simp), hp_setCell, c3.hp g.b4 id]; rfl
            · rw [hp_setCell, hp_setCell_ne _ _ _ _ (by simp), c3.hp g.b5 id]; rfl
            · exact (Sl.of_own o3).ch c34 fun k hk e => by have := f3 k hk; omega
            · exact f3.mono (by omega)
            · exact fun k hk => Nat.lt_of_lt_of_le (own_blt o3 k hk) c34.size
            · exact (g.ch.trans c3).trans' c34 fun j hj e => by omega
          · have hne : ((a' : Int) == (a : Int)) = false := beq_false_of_ne (by omega)
            simp [go_sem, j3, j7, k2, kG, wc, hne]
            refine ⟨Ch.refl _ _, ?_, g.b3, g.b4, g.b5, g.ch⟩
            intro i hi e he
            rw [List.mem_append, List.mem_singleton] at hi
            rcases hi with hi | hi
            · exact g.no i hi e he
            · subst hi
              rcases hcase with ⟨h0, _⟩ | ⟨b, hxb, _⟩
              · rw [h0] at he; cases he
              · rw [hxb] at he
                cases he
                exact hae
        · intro D1 W hD g hd1
          have hno : lastC D.cache a = none := lastC_none fun e he => by
            obtain ⟨i, hi⟩ := List.mem_iff_getElem?.1 he
            refine g.no i ?_ e hi
            have := (List.getElem?_eq_some_iff.1 hi).1
            simp [bseq, this]
          have hW := h.ch g.ch fun _ _ e => e
          have cd4 : W.cell? ⟨d, 4, none⟩ = some (.map (some z.bb)) := cell_blk hW.blk 4
          have r3 := fun i => cell_blk g.b3 i
          have r4 := fun i => cell_blk g.b4 i
          have r5 := fun i => cell_blk g.b5 i
          have y4 := fun i => frz_blk g.b4 i
          have y5 := fun i => frz_blk g.b5 i
          obtain ⟨Fb, hmb, hFb⟩ := (hW.ch (Ch.refl Nw W).drew fun _ _ e => e).bad
          have hlb := hmb.look Tryz.underlying135 Tryz.underlying52 (zB W.drew) a
          rw [hFb a] at hlb
          simp [go_sem]
          refine v_draw' [(0, none), (1, none), (2, none), (3, none), (4, none), (5, none)] (by kernel_rfl) (by kernel_rfl) ?_
          simp [go_sem, cd4, r3, hlb]
          have hne : D1 ≠ q + 1 ∧ D1 ≠ q + 1 + 1 := ⟨(fun e => by rw [e, g.b4] at hd1; cases hd1), (fun e => by rw [e, g.b5] at hd1; cases hd1)⟩
          cases hbd : D.bad a with
          | true =>
            have hres : lk = none := by rw [hlk', Dk.tells, hno]; simp [hbd]
            rw [hres] at hR
            have k4 : ((((W.setCell ⟨q + 1, 0, none⟩ (.slice none 0 0)).setCell ⟨q + 1 + 1, 0, none⟩ (.bool false)).drew).putObj D1 (.deferred none)).heap[q + 1]? = some (.cells #[.slice none 0 0] 59 (0, 0)) := by
              rw [hp_putObj hne.1.symm]
              show ((W.setCell ⟨q + 1, 0, none⟩ (.slice none 0 0)).setCell ⟨q + 1 + 1, 0, none⟩ (.bool false)).heap[q + 1]? = _
              rw [hp_setCell_ne _ _ _ _ (by simp), hp_setCell, g.b4]; rfl
            have k5 : ((((W.setCell ⟨q + 1, 0, none⟩ (.slice none 0 0)).setCell ⟨q + 1 + 1, 0, none⟩ (.bool false)).drew).putObj D1 (.deferred none)).heap[q + 1 + 1]? = some (.cells #[.bool false] 4 (0, 0)) := by
              rw [hp_putObj hne.2.symm]
              show ((W.setCell ⟨q + 1, 0, none⟩ (.slice none 0 0)).setCell ⟨q + 1 + 1, 0, none⟩ (.bool false)).heap[q + 1 + 1]? = _
              rw [hp_setCell, hp_setCell_ne _ _ _ _ (by simp), g.b5]; rfl
            have m4 := fun i => cell_blk k4 i
            have m5 := fun i => cell_blk k5 i
            simp [go_sem, r4, r5, y4, y5, VEnd_ret', hne, hd1, m4, m5]
            exact hR _ _ ⟨rfl, ((((g.ch.setCell (p := ⟨q + 1, 0, none⟩) (.inr (by show w.heap.size ≤ q + 1; omega)) _).setCell (p := ⟨q + 1 + 1, 0, none⟩) (.inr (by show w.heap.size ≤ q + 1 + 1; omega)) _).drew).putObj (.inr (by have := c02.size; omega)) _)⟩
          | false =>
            have hres : lk = some (blockM D.m a) := by rw [hlk', Dk.tells, hno]; simp [hbd]
            rw [hres] at hR
            simp [go_sem, r3]
            refine (block_any a (hW.ch (Ch.refl Nw W).drew fun _ _ e => e)).mono ?_
            rintro v3 w3 ⟨s3, l3, c3⟩
            simp [go_sem]
            refine (clone_any v3 512 (blockM D.m a) w3 (by omega) l3 s3).mono ?_
            rintro v4 w4 ⟨o4, c4, f4⟩
            have c34 : Ch Nw W w4 := (Ch.of_drew c3).trans c4
            have hWq := (lt_of_block g.b5 : q + 1 + 1 < W.heap.size)
            have g4 := c34.hp g.b4 id
            have g5 := c34.hp g.b5 id
            have hd4 := c34.obj hd1 id
            have p4 := fun i => cell_blk g4 i
            have p5 := fun i => cell_blk g5 i
            have u4 := fun i => frz_blk g4 i
            have u5 := fun i => frz_blk g5 i
            obtain ⟨A4, cc4, hv4⟩ : ∃ A c, v4 = .slice A 512 c := by
              obtain ⟨A, c, e, _⟩ := Sl.of_own o4
              exact ⟨A, c, e⟩
            subst hv4
            have k4 : (((w4.setCell ⟨q + 1, 0, none⟩ (.slice A4 512 cc4)).setCell ⟨q + 1 + 1, 0, none⟩ (.bool true)).putObj D1 (.deferred none)).heap[q + 1]? = some (.cells #[.slice A4 512 cc4] 59 (0, 0)) := by
              rw [hp_putObj hne.1.symm, hp_setCell_ne _ _ _ _ (by simp), hp_setCell, g4]; rfl
            have k5 : (((w4.setCell ⟨q + 1, 0, none⟩ (.slice A4 512 cc4)).setCell ⟨q + 1 + 1, 0, none⟩ (.bool true)).putObj D1 (.deferred none)).heap[q + 1 + 1]? = some (.cells #[.bool true] 4 (0, 0)) := by
              rw [hp_putObj hne.2.symm, hp_setCell, hp_setCell_ne _ _ _ _ (by simp), g5]; rfl
            have m4 := fun i => cell_blk k4 i
            have m5 := fun i => cell_blk k5 i
            have cE : Ch (fun k => k = q + 1 ∨ k = q + 1 + 1) w4 ((w4.setCell ⟨q + 1, 0, none⟩ (.slice A4 512 cc4)).setCell ⟨q + 1 + 1, 0, none⟩ (.bool true)) := ((Ch.refl _ w4).setCell (p := ⟨q + 1, 0, none⟩) (.inl (.inl rfl)) _).setCell (p := ⟨q + 1 + 1, 0, none⟩) (.inl (.inr rfl)) _
            have hd5 : ((w4.setCell ⟨q + 1, 0, none⟩ (.slice A4 512 cc4)).setCell ⟨q + 1 + 1, 0, none⟩ (.bool true)).heap[D1]? = some (.deferred (some [])) := cE.obj hd4 fun e => e.elim hne.1 hne.2
            have c4w : w3.heap.size ≤ w4.heap.size := c4.size
            have c3w : W.heap.size ≤ w3.heap.size := (Ch.of_drew c3).size
            simp [go_sem, p4, p5, u4, u5, VEnd_ret', hne, hd4, m4, m5]
            refine hR _ _ ⟨⟨_, rfl, l3, ((Sl.of_own o4).ch cE fun k hk e => by have := f4 k hk; omega).keep fun _ _ hc => putObj_cell hd5 hc, f4.mono (by omega), fun k hk => Nat.lt_of_lt_of_le (own_blt o4 k hk) (Nat.le_trans cE.size ((Ch.refl (one D1) _).putObj (.inl rfl) _).size)⟩, ((g.ch.trans c34).trans' cE fun j hj e => by omega).putObj (.inr (by have := c02.size; omega)) _⟩
        · rintro D1 c k W hD hk ⟨rfl, ⟨pre', x, b, u, g2, g3, g4, gl, g5, g6, g7, g8, g9⟩, g10⟩ hd1
          have r4 := fun i => cell_blk g5 i
          have r5 := fun i => cell_blk g6 i
          have hne : D1 ≠ q + 1 ∧ D1 ≠ q + 1 + 1 := ⟨(fun e => by rw [e, g5] at hd1; cases hd1), (fun e => by rw [e, g6] at hd1; cases hd1)⟩
          have g5' : (W.putObj D1 (.deferred none)).heap[q + 1]? = _ := (hp_putObj hne.1.symm).trans g5
          have g6' : (W.putObj D1 (.deferred none)).heap[q + 1 + 1]? = _ := (hp_putObj hne.2.symm).trans g6
          have s4 := fun i => cell_blk g5' i
          have s5 := fun i => cell_blk g6' i
          obtain ⟨A3, cc3, hv3, _⟩ := id g7
          subst hv3
          simp [go_sem, VEnd_ret', hd1, s4, s5]
          rw [bseq_length] at hk
          have hl := congrArg List.length g2
          simp only [List.length_take, bseq_length, List.length_append, List.length_cons, List.length_nil] at hl
          have hkl : k = pre'.length + 1 := by omega
          have hx : x = D.cache.length - 1 - pre'.length := by
            have := congrArg (fun l : List Nat => l[pre'.length]?) g2
            simp only [List.getElem?_take, if_pos (show pre'.length < k by omega)] at this
            rw [bseq_get (by omega)] at this
            simpa using this.symm
          have hback : lastC D.cache a = some b := lastC_back g4 fun j e hj he => by
            have hjl := (List.getElem?_eq_some_iff.1 he).1
            refine g3 j ?_ e he
            have := congrArg (fun l : List Nat => l[D.cache.length - 1 - j]?) g2
            simp only [List.getElem?_take, if_pos (show D.cache.length - 1 - j < k by omega)] at this
            rw [bseq_get (by omega), List.getElem?_append_left (by omega)] at this
            rw [show D.cache.length - 1 - (D.cache.length - 1 - j) = j by omega] at this
            exact List.mem_of_getElem? this.symm
          have hres : lk = some b := by rw [hlk', Dk.tells, hback]
          rw [hres] at hR
          exact hR _ _ ⟨⟨_, rfl, gl, g7.keep fun _ _ hc => putObj_cell hd1 hc, by rw [hq]; exact g8, fun k hk => Nat.lt_of_lt_of_le (g9 k hk) ((Ch.refl (one D1) W).putObj (.inl rfl) _).size⟩, g10.putObj (.inr (by have := c02.size; omega)) _⟩
    · simp [go_sem, han, e4, e5, z4, z5]
      exact hR _ _ ⟨by simp [Dk.look, show n ≤ a by omega, LookR], c45 _ _⟩
/-- what Read answers -/
def readE (n : Nat) (D : Dk) (P : Pwr) (a : Nat) : Int := if !D.able P then 3 else if n ≤ a then 1 else match D.look n a with | none => 6 | some _ => 0
def ReadR (w : World) (n : Nat) (D : Dk) (P : Pwr) (a : Nat) (v' : Value) (w' : World) : Prop :=
  (readE n D P a = 0 ∧ ∃ b u, D.look n a = some b ∧ v' = .tuple #[u, .int .i64 0] ∧ b.length = 512 ∧ Sl w' u 512 (bvs b) ∧ Fresh w.heap.size u ∧ ∀ k, u.ownBlock = some k → k < w'.heap.size) ∨ (readE n D P a ≠ 0 ∧ v' = .tuple #[.slice none 0 0, .int .i64 (readE n D P a)])
theorem read_any (a : Nat) (ha : a < 65536) (P : Pwr) (h : DkP w d p n D O z vs Y) (hp : PwAt w p P) : Ret Tryz.prog 119 #[.pointer (some ⟨d, 0, none⟩), .int .u16 a] w fun v' w' => ReadR w n D P a v' w' ∧ Ch Nw w w' := by
  refine v_enter Tryz.func119 Tryz.ntmps119 rfl (by simp) fun R' hR => ?_
  simp [go_sem]
  refine (able_any P h hp).mono ?_
  rintro _ w1 ⟨rfl, hw⟩
  subst w1
  cases hab : D.able P with
  | false =>
    rw [show ableE D P = 3 by simp [ableE, hab]]
    simp [go_sem]
    exact hR _ _ ⟨.inr ⟨by simp [readE, hab], by simp [readE, hab]⟩, Ch.refl _ _⟩
  | true =>
    rw [show ableE D P = 0 by simp [ableE, hab]]
    simp [go_sem]
    refine (has_any a ha h).mono ?_
    rintro _ w1 ⟨rfl, hw⟩
    subst w1
    by_cases han : a < n
    · simp [go_sem, han]
      refine (look_any a ha h).mono ?_
      rintro v1 w1 ⟨hl, c1⟩
      cases hlk : D.look n a with
      | none =>
        rw [hlk] at hl
        simp only [LookR] at hl
        subst hl
        simp [go_sem]
        exact hR _ _ ⟨.inr ⟨by simp [readE, hab, hlk]; omega, by simp [readE, hab, hlk, show ¬ n ≤ a by omega]⟩, c1⟩
      | some b =>
        rw [hlk] at hl
        obtain ⟨u, rfl, l1, l2, l3, l4⟩ := hl
        simp [go_sem]
        exact hR _ _ ⟨.inl ⟨by simp [readE, hab, hlk]; omega, b, u, hlk, rfl, l1, l2, l3, l4⟩, c1⟩
    · simp [go_sem, han]
      exact hR _ _ ⟨.inr ⟨by simp [readE, hab, show n ≤ a by omega], by simp [readE, hab, show n ≤ a by omega]⟩, Ch.refl _ _⟩
theorem read_nil (a : Nat) (w : World) : Ret Tryz.prog 119 #[.pointer none, .int .u16 a] w fun v' w' => v' = .tuple #[.slice none 0 0, .int .i64 2] ∧ w' = w := by
  refine v_enter Tryz.func119 Tryz.ntmps119 rfl (by simp) fun R' hR => ?_
  simp [go_sem]
  refine (able_nil w).mono ?_
  rintro _ w1 ⟨rfl, hw⟩
  subst w1
  simp [go_sem]
  exact hR _ _ ⟨rfl, rfl⟩
end
end Go.Proofs.YtppilgkgnofkpaaGreatDoor
