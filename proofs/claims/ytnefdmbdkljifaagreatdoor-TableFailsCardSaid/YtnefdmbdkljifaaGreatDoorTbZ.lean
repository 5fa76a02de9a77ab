/- A shelf that is kept beside other blocks, also where some of its blocks are another's. Conditions: the variables ptr.wide and tree.hole hold what the text lays. -/
import Derived.Test.YtnefdmbdkljifaaGreatDoorTbX
import Derived.Test.YtnefdmbdkljifaaGreatDoorTbR
set_option linter.unusedSimpArgs false
set_option linter.unusedVariables false

namespace Go.Proofs.YtnefdmbdkljifaaGreatDoor
open Go.RowKit Go.Kin

/-- the shelf g, made since W but for the blocks Bk, which stay as they were in WA; the blocks K, made since W, stay as they were in w0 -/
structure KB (g : Nat) (W WA : World) (Bk : Nat → Prop) (w0 w : World) (K : Nat → Prop) (s : Shf) : Prop where
  ex : ∃ O, ShH g WA Bk s w O ∧ (∀ k, O k → W.heap.size ≤ k ∨ Bk k) ∧ ∀ k, K k → ¬ O k
  gl : (∀ k, glT k → ¬ Bk k) ∨ (TEnv WA ∧ ∀ k, glT k → Bk k)
  bk : ∀ k, Bk k → k < W.heap.size
  env : TEnv W
  lt : ∀ k, K k → k < w0.heap.size
  kW : ∀ k, K k → W.heap.size ≤ k
  ck : Ch (fun k => ¬ K k) w0 w
  ch : Ch Nw W w
section
variable {g : Nat} {W WA : World} {Bk : Nat → Prop} {w0 w w' : World} {K : Nat → Prop} {s s' : Shf}
theorem KB.glOk {O : Nat → Prop} (h : KB g W WA Bk w0 w K s) (hO : ∀ k, O k → W.heap.size ≤ k ∨ Bk k) : GlOk (ShH g WA Bk) O := by
  rcases h.gl with hg | ⟨hA, hB⟩
  · refine .inl fun k hk e => ?_
    rcases hO k e with h1 | h1
    · have := h.env.lt k hk; omega
    · exact hg k hk h1
  · exact .inr fun s w O hS => hS.tenv hA hB
theorem KB.env' (h : KB g W WA Bk w0 w K s) : TEnv w := h.env.ch h.ch fun _ _ e => e
theorem KB.lt' (h : KB g W WA Bk w0 w K s) {k : Nat} (hk : K k) : k < w.heap.size := Nat.lt_of_lt_of_le (h.lt k hk) h.ck.size
theorem KB.step {f : FuncId} {args : Array Value} {R : Value → World → Prop} (h : KB g W WA Bk w0 w K s) (hf : ∀ O, ShH g WA Bk s w O → (∀ k, K k → ¬ O k) → GlOk (ShH g WA Bk) O → Ret Tryz.prog f args w fun v w' => R v w' ∧ ShH g WA Bk s' w' (Gr O w w') ∧ Ch O w w') :
    Ret Tryz.prog f args w fun v w' => R v w' ∧ KB g W WA Bk w0 w' K s' := by
  obtain ⟨O, a, b, c⟩ := h.ex
  refine (hf O a c (h.glOk b)).mono ?_
  rintro v w' ⟨x, y, z⟩
  have hs := h.ch.size
  have hs0 := h.ck.size
  have hz := z.size
  refine ⟨x, ⟨_, y, fun k hk => hk.elim (b k) fun e => .inl (by omega), fun k hk e => e.elim (c k hk) fun e => by have := h.lt k hk; omega⟩, h.gl, h.bk, h.env, h.lt, h.kW, h.ck.trans' z fun k hk e hK => c k hK e, ?_⟩
  refine ⟨z.os.trans h.ch.os, z.tape.trans h.ch.tape, z.output.trans h.ch.output, by omega, fun k hk _ => ?_⟩
  by_cases hO : O k
  · rcases b k hO with h1 | h1
    · omega
    · rw [y.kept2 h1, ← a.kept2 h1]
      exact h.ch.block k hk id
  · exact (z.block k (by omega) hO).trans (h.ch.block k hk id)
theorem KB.stay (h : KB g W WA Bk w0 w K s) (hc : Ch Nw w w') : KB g W WA Bk w0 w' K s := by
  obtain ⟨O, a, b, c⟩ := h.ex
  exact ⟨⟨O, (ShH.ok _ _ _ _).ch a hc fun _ _ e => e, b, c⟩, h.gl, h.bk, h.env, h.lt, h.kW, h.ck.trans' hc fun _ _ e => e.elim, h.ch.trans hc⟩
theorem KB.base (h : KB g W WA Bk w0 w K s) : KB g W WA Bk w w K s := ⟨h.ex, h.gl, h.bk, h.env, fun _ hk => h.lt' hk, h.kW, Ch.refl _ _, h.ch⟩
theorem KB.more (h : KB g W WA Bk w w K s) (hc : Ch Nw w w') : KB g W WA Bk w' w' (fun k => K k ∨ (w.heap.size ≤ k ∧ k < w'.heap.size)) s := by
  obtain ⟨O, a, b, c⟩ := h.ex
  have hs := hc.size
  have hs0 := h.ch.size
  refine ⟨⟨O, (ShH.ok _ _ _ _).ch a hc fun _ _ e => e, b, fun k hk e => hk.elim (fun hk => c k hk e) fun hk => by have := (ShH.ok _ _ _ _).lt a k e; omega⟩, h.gl, h.bk, h.env, fun k hk => hk.elim (fun hk => by have := h.lt k hk; omega) fun hk => hk.2, fun k hk => hk.elim (h.kW k) fun hk => by omega, Ch.refl _ _, h.ch.trans hc⟩
theorem KB.mine {S : Nat → Prop} (h : KB g W WA Bk w0 w K s) (hc : Ch S w w') (hS : ∀ k, S k → K k) : KB g W WA Bk w' w' K s := by
  obtain ⟨O, a, b, c⟩ := h.ex
  exact ⟨⟨O, (ShH.ok _ _ _ _).ch a hc fun k hk e => c k (hS k e) hk, b, c⟩, h.gl, h.bk, h.env, fun k hk => Nat.lt_of_lt_of_le (h.lt' hk) hc.size, h.kW, Ch.refl _ _, h.ch.trans' hc fun k hk e => by have := h.kW k (hS k e); omega⟩
theorem KB.less {K' : Nat → Prop} (h : KB g W WA Bk w0 w K s) (hK : ∀ k, K' k → K k) : KB g W WA Bk w0 w K' s := by
  obtain ⟨O, a, b, c⟩ := h.ex
  exact ⟨⟨O, a, b, fun k hk => c k (hK k hk)⟩, h.gl, h.bk, h.env, fun k hk => h.lt k (hK k hk), fun k hk => h.kW k (hK k hk), h.ck.mono fun k _ e e2 => e (hK k e2), h.ch⟩
theorem KB.blk (h : KB g W WA Bk w0 w K s) {k : Nat} (hk : K k) {o : Obj} (hb : w0.heap[k]? = some o) : w.heap[k]? = some o := h.ck.obj hb fun e => e hk
theorem KB.set (h : KB g W WA Bk w0 w K s) (hm : 9000 ≤ shM s) (p : Pt) (ok : PtOk p) (lv : Value) (l : List (Nat × In)) (hl : Lst w lv itL 45 l) (hin : ∀ x ∈ l, ItOk x) (hlK : ∀ j, lv.ownBlock = some j → K j) (hll : l.length ≤ 1000) :
    Ret Tryz.prog 8 #[shV g, .agg (pt p), lv] w fun v' w' => (v' = .tuple #[.agg (pt (btset shRd shNw shOd s p l).2.1), .int .i64 (btset shRd shNw shOd s p l).2.2] ∧ PtOk (btset shRd shNw shOd s p l).2.1) ∧ KB g W WA Bk w0 w' K (btset shRd shNw shOd s p l).1 :=
  h.step (R := fun v' _ => v' = .tuple #[.agg (pt (btset shRd shNw shOd s p l).2.1), .int .i64 (btset shRd shNw shOd s p l).2.2] ∧ PtOk (btset shRd shNw shOd s p l).2.1) fun O hS hK hg => (btset_any (shSnk g WA Bk) hm (ShH.ok _ _ _) hS p ok lv l hl hin (fun j hj => ⟨hK j (hlK j hj), h.lt' (hlK j hj)⟩) hll h.env' hg).mono fun v' w' ⟨h1, h2, h3, h4⟩ => ⟨⟨h1, h2⟩, h3, h4⟩
theorem KB.get (h : KB g W WA Bk w0 w K s) (hm : 48 ≤ shM s) (p : Pt) (ok : PtOk p) (n : Nat) (hn : n < 65536) :
    Ret Tryz.prog 13 #[shV g, .agg (pt p), .int .u16 n] w fun v' w' => v' = .tuple #[.agg (ino (btget shRd s p n).2.1), .int .i64 (btget shRd s p n).2.2] ∧ KB g W WA Bk w0 w' K (btget shRd s p n).1 :=
  h.step fun O hS hK hg => btget_any (shSnk g WA Bk).rd hm (ShH.ok _ _ _) hS p ok n hn h.env' hg
theorem KB.tells (h : KB g W WA Bk w0 w K s) {r : Pt} {top c : List Pt} {v : List In} (tp : TabP s.bl r top c v) (hb : s.bad = []) (hm : 10000 ≤ shM s) (vv : Value) (hl : InLst w vv v) (hv : ∀ k, vv.ownBlock = some k → K k) :
    Ret Tryz.prog 11 #[.pointer (some ⟨g, 0, none⟩), .agg (pt r), vv] w fun v' w' => ∃ l, v' = .tuple #[.int .i64 (blkN v : Nat), .bool true] ∧ l.length ≤ 900 ∧ KB g W WA Bk w0 w' K (s.more l) := by
  obtain ⟨O, a, b, c⟩ := h.ex
  refine (ktells_gl a tp hb hm vv hl (fun j hj => ⟨c j (hv j hj), h.lt' (hv j hj)⟩) h.env' (h.glOk b)).mono ?_
  rintro v' w' ⟨l, h1, y, z, h4⟩
  have hs := h.ch.size
  have hs0 := h.ck.size
  have hz := z.size
  refine ⟨l, h1, h4, ⟨_, y, fun k hk => hk.elim (b k) fun e => .inl (by omega), fun k hk e => e.elim (c k hk) fun e => by have := h.lt k hk; omega⟩, h.gl, h.bk, h.env, h.lt, h.kW, h.ck.trans' z fun k hk e hK => c k hK e, ?_⟩
  refine ⟨z.os.trans h.ch.os, z.tape.trans h.ch.tape, z.output.trans h.ch.output, by omega, fun k hk _ => ?_⟩
  by_cases hO : O k
  · rcases b k hO with h1 | h1
    · omega
    · rw [y.kept2 h1, ← a.kept2 h1]
      exact h.ch.block k hk id
  · exact (z.block k (by omega) hO).trans (h.ch.block k hk id)
/-- bad addresses, another's -/
theorem KB.setBad (h : KB g W W (fun _ => False) w0 w K s) {v : Value} {bad : List Nat} (hv : Sl W v bad.length (u16s bad)) (hbl : bad.length ≤ 1000) (hvW : ∀ k, v.ownBlock = some k → k < W.heap.size) :
    ∃ O, KB g W (w.setCell ⟨g, 1, none⟩ v) (fun k => v.ownBlock = some k ∨ glT k) w0 (w.setCell ⟨g, 1, none⟩ v) K { s with bad := bad } ∧ Ch O w (w.setCell ⟨g, 1, none⟩ v) ∧ (∀ k, O k → W.heap.size ≤ k ∧ ¬ K k) ∧ O g := by
  obtain ⟨O, a, b, c⟩ := h.ex
  have hs := h.ch.size
  have hB : ∀ k, (v.ownBlock = some k ∨ glT k) → k < W.heap.size := fun k hk => hk.elim (hvW k) (h.env.lt k)
  have hO : ∀ k, O k → W.heap.size ≤ k := fun k hk => (b k hk).resolve_right id
  obtain ⟨y, z⟩ := a.setBad (Bk := fun k => v.ownBlock = some k ∨ glT k) (hv.ch h.ch fun _ _ e => e) hbl (fun k hk => .inl hk) fun k hk => ⟨fun e => by have := hO k e; have := hB k hk; omega, by have := hB k hk; omega⟩
  obtain ⟨_, _, _, _, _, _, _, _, _, _, hgO, _⟩ := a.reads
  have cW : Ch Nw W (w.setCell ⟨g, 1, none⟩ v) := h.ch.trans' z fun k hk e => by have := hO k e; omega
  exact ⟨O, ⟨⟨_, y, fun k hk => hk.elim (fun e => .inl (hO k e)) .inr, fun k hk e => e.elim (c k hk) fun e => by have := h.kW k hk; have := hB k e; omega⟩, .inr ⟨h.env.ch cW fun _ _ e => e, fun k hk => .inr hk⟩, hB, h.env, h.lt, h.kW, h.ck.trans' z fun k _ e hK => c k hK e, cW⟩, z, fun k hk => ⟨hO k hk, fun e => c k e hk⟩, hgO⟩
/-- no bad ones -/
theorem KB.noBad (h : KB g W WA Bk w0 w K s) : KB g W WA Bk w0 (w.setCell ⟨g, 1, none⟩ (.slice none 0 0)) K { s with bad := [] } := by
  obtain ⟨O, a, b, c⟩ := h.ex
  obtain ⟨y, z⟩ := a.noBad
  refine ⟨⟨O, y, b, c⟩, h.gl, h.bk, h.env, h.lt, h.kW, h.ck.trans' z fun k hk e hK => c k hK e, ?_⟩
  have hz := z.size
  have hs := h.ch.size
  refine ⟨z.os.trans h.ch.os, z.tape.trans h.ch.tape, z.output.trans h.ch.output, by omega, fun k hk _ => ?_⟩
  by_cases hO : O k
  · rcases b k hO with h1 | h1
    · omega
    · rw [y.kept2 h1, ← a.kept2 h1]
      exact h.ch.block k hk id
  · exact (z.block k (by omega) hO).trans (h.ch.block k hk id)
theorem KB.reads (h : KB g W WA Bk w0 w K s) : ∃ vB vD vM vG vR, w.heap[g]? = some (.cells #[vB, vD, vM, vG, .int .i64 s.room, vR] 30 (0, 0)) := by
  obtain ⟨O, a, b, c⟩ := h.ex
  obtain ⟨vB, vD, vM, vG, vR, h1, _⟩ := a.reads
  exact ⟨vB, vD, vM, vG, vR, h1⟩
/-- the row of the blocks -/
theorem KB.rowB (h : KB g W WA Bk w0 w K s) : ∃ vB, w.cell? ⟨g, 0, none⟩ = some vB ∧ (∀ w', (Builtin.len_ #[26] 3 #[vB]).run Tryz.prog w' = .ok (.int .i64 s.bl.length) w') ∧ (s.bl.length = 0 → ∃ A c, vB = .slice A 0 c) ∧ (0 < s.bl.length → ∃ bB cap cur, vB = .slice (some ⟨bB, 0, none⟩) s.bl.length cap ∧ w.heap[bB]? = some (.cells cur 62 (0, 0)) ∧ s.bl.length ≤ cur.size ∧ W.heap.size ≤ bB ∧ bB ≠ g ∧ ¬ K bB ∧ s.bl.length ≤ 30000 ∧
    (∀ i, i < s.bl.length → ∃ u, w.cell? ⟨bB, i, none⟩ = some u ∧ ∃ A n c, u = .slice A n c) ∧
    ∀ (i : Nat) (v : Value) (b : List UInt8), i < s.bl.length → Sl w v b.length (bvs b) → b.length ≤ 600 → (∀ j, v.ownBlock = some j → K j) →
      KB g W WA Bk w0 (w.setCell ⟨bB, i, none⟩ v) (fun k => K k ∧ v.ownBlock ≠ some k) { s with bl := s.bl.set i b }) := by
  obtain ⟨O, a, b, c⟩ := h.ex
  have a' := a
  obtain ⟨vB, vD, vM, vG, vR, lB, hgd, hlB, hS⟩ := a
  obtain ⟨O0, R1, hg, ⟨O1, R2, hB, hR2, d2, u2, l2⟩, d1, u1, l1⟩ := hS
  have hO1 : ∀ k, O1 k → O k := fun k hk => u1 k (.inr (u2 k (.inl hk)))
  have k0 : w.cell? ⟨g, 0, none⟩ = some vB := cell_blk hg.1 0
  refine ⟨vB, k0, (Sl.of_own hB.1).len Tryz.underlying26 3, fun h0 => ?_, fun hp => ?_⟩
  · rcases hB.1.2 with ⟨e, _⟩ | ⟨g', cap, cur, e, _⟩
    · exact ⟨_, _, e⟩
    · rw [h0] at e
      exact ⟨_, _, e⟩
  · obtain ⟨bB, cap, cur, hv, hb, hnc, hcm, hcs, hex⟩ := own_blk hB.1 hp
    have hbO1 : O1 bB := hB.2.1 bB (by rw [hv]; rfl)
    have hgO0 : O0 g := hg.2.1
    have hne : bB ≠ g := fun e => d1 g hgO0 (u2 g (.inl (e ▸ hbO1)))
    obtain ⟨OY, hY, iY⟩ := hR2.get (i := 3) rfl
    have hnB : ¬ Bk bB := fun e => d2 bB hbO1 (iY bB (hY.2.2.2.1 bB e).1)
    have hW : W.heap.size ≤ bB := (b bB (hO1 bB hbO1)).resolve_right hnB
    refine ⟨bB, cap, cur, hv, hb, hcs, hW, hne, fun e => c bB e (hO1 bB hbO1), hgd.bln, fun i hi => ?_, fun i v bb hi hs hl hj => ?_⟩
    · obtain ⟨u, hu⟩ : ∃ u, lB[i]? = some u := ⟨_, List.getElem?_eq_getElem (by omega)⟩
      refine ⟨u, ?_, ?_⟩
      · rw [cell_blk hb]
        have := congrArg (fun x => x[i]?) hex
        simp only [Array.getElem?_extract, List.getElem?_toArray, hu] at this
        rw [if_pos (by omega)] at this
        simpa using this
      · obtain ⟨A, c', e, _⟩ := (hY.1 i u _ hu (List.getElem?_eq_getElem (by omega))).1
        exact ⟨_, _, _, e⟩
    · have hw' : Ch (Kin.one bB) w (w.setCell ⟨bB, i, none⟩ v) := (Ch.refl (Kin.one bB) w).setCell (p := ⟨bB, i, none⟩) (.inl rfl) v
      have sz : (w.setCell ⟨bB, i, none⟩ v).heap.size = w.heap.size := by simp
      have hvO : ∀ j, v.ownBlock = some j → ¬ O j := fun j hj' => c j (hj j hj')
      have hsb : (lB.set i v).length = (s.bl.set i bb).length := by rw [List.length_set, List.length_set, hlB]
      have hb' : (w.setCell ⟨bB, i, none⟩ v).heap[bB]? = some (.cells (cur.setIfInBounds i v) 62 (0, 0)) := by rw [hp_setCell, hb]; rfl
      have hlb := hB.1.1
      have row : (w.setCell ⟨bB, i, none⟩ v).ownsRow 0 62 1 vB (s.bl.set i bb).length (lB.set i v) := by
        rw [List.length_set]
        refine ⟨by rw [List.length_set]; exact hlb, .inr ?_⟩
        rcases hB.1.2 with ⟨e, _⟩ | ⟨g', cap', cur', e, h1, h2, h3, h4, h5, h6⟩
        · rw [hv] at e; cases e
        · rw [hv] at e
          injection e with e1 e2 e3
          injection e1 with e1
          injection e1 with e1
          subst e1 e3
          rw [hb] at h2
          injection h2 with h2
          injection h2 with h2
          subst h2
          refine ⟨bB, cap, cur.setIfInBounds i v, hv, h1, hb', h3, h4, by rw [Array.size_setIfInBounds]; exact h5, ?_⟩
          rw [Array.toList_setIfInBounds, List.take_set, h6]
      have hR2' : SepL [PtR vM s.made, PtR vG s.gone, PtR vR s.red, ShY (lB.set i v) (s.bl.set i bb) vD s.bad WA Bk] (w.setCell ⟨bB, i, none⟩ v) (fun k => R2 k ∨ v.ownBlock = some k) := by
        obtain ⟨OM, R3, hM, ⟨OG, R4, hG, ⟨OR, R5, hR, ⟨OY, OE, hY, hE, d6, u6, l6⟩, d5, u5, l5⟩, d4, u4, l4⟩, d3, u3, l3⟩ := hR2
        have i5 : ∀ k, OY k → R5 k := fun k hk => u6 k (.inl hk)
        have i4 : ∀ k, R5 k → R4 k := fun k hk => u5 k (.inr hk)
        have i3 : ∀ k, R4 k → R3 k := fun k hk => u4 k (.inr hk)
        have i2 : ∀ k, R3 k → R2 k := fun k hk => u3 k (.inr hk)
        have nb : ∀ k, R2 k → ¬ Kin.one bB k := fun k hk e => by
          simp only [Kin.one] at e
          subst e
          exact d2 k hbO1 hk
        have nv : ∀ k, R2 k → v.ownBlock ≠ some k := fun k hk e => hvO k e (u1 k (.inr (u2 k (.inr hk))))
        have lv : ∀ k, v.ownBlock = some k → k < (w.setCell ⟨bB, i, none⟩ v).heap.size := fun k hk => by rw [sz]; exact h.lt' (hj k hk)
        have e1 : (RowH.ok _ _ _ _ _).ch hM hw' (fun k hk => nb k (u3 k (.inl hk))) = (RowH.ok _ _ _ _ _).ch hM hw' (fun k hk => nb k (u3 k (.inl hk))) := rfl
        clear e1
        have nvb : ∀ k, v.ownBlock = some k → ¬ Kin.one bB k := fun k hk e => by
          simp only [Kin.one] at e
          subst e
          exact hvO k hk (hO1 k hbO1)
        have hsv := hs.ch hw' nvb
        have hY' : ShY (lB.set i v) (s.bl.set i bb) vD s.bad WA Bk (w.setCell ⟨bB, i, none⟩ v) (fun k => OY k ∨ v.ownBlock = some k) := by
          have hY0 := (ShY.ok _ _ _ _ _ _).ch hY hw' fun k hk => nb k (i2 k (i3 k (i4 k (i5 k hk))))
          refine ⟨fun i' u b' hu hb' => ?_, hY0.2.1, fun k hk => .inl (hY0.2.2.1 k hk), fun k hk => ⟨.inl (hY0.2.2.2.1 k hk).1, (hY0.2.2.2.1 k hk).2⟩, fun k hk => hk.elim (hY0.2.2.2.2 k) (lv k)⟩
          by_cases hii : i = i'
          · subst hii
            rw [List.getElem?_set_self (by omega)] at hu hb'
            cases hu
            cases hb'
            exact ⟨hsv, fun k hk => .inr hk⟩
          · rw [List.getElem?_set_ne hii] at hu hb'
            exact ⟨(hY0.1 i' u b' hu hb').1, fun k hk => .inl ((hY0.1 i' u b' hu hb').2 k hk)⟩
        have lR : ∀ {X : Nat → Prop}, (∀ k, X k → k < w.heap.size) → ∀ k, (X k ∨ v.ownBlock = some k) → k < (w.setCell ⟨bB, i, none⟩ v).heap.size := fun hX k hk => hk.elim (fun hk => by rw [sz]; exact hX k hk) (lv k)
        refine ⟨OM, fun k => R3 k ∨ v.ownBlock = some k, (RowH.ok _ _ _ _ _).ch hM hw' (fun k hk => nb k (u3 k (.inl hk))), ⟨OG, fun k => R4 k ∨ v.ownBlock = some k, (RowH.ok _ _ _ _ _).ch hG hw' (fun k hk => nb k (i2 k (u4 k (.inl hk)))), ⟨OR, fun k => R5 k ∨ v.ownBlock = some k, (RowH.ok _ _ _ _ _).ch hR hw' (fun k hk => nb k (i2 k (i3 k (u5 k (.inl hk))))), ⟨_, fun _ => False, hY', fun k hk => hk.elim, fun _ _ e => e, fun k hk => ?_, lR l6⟩, ?_, ?_, lR l5⟩, ?_, ?_, lR l4⟩, ?_, ?_, lR l3⟩
        · rcases hk with (hk | hk) | hk
          · exact .inl (i5 k hk)
          · exact .inr hk
          · exact hk.elim
        · exact fun k hk e => e.elim (d5 k hk) fun e => nv k (i2 k (i3 k (u5 k (.inl hk)))) e
        · exact fun k hk => hk.elim (fun hk => .inl (u5 k (.inl hk))) fun hk => hk.imp (fun hk => u5 k (.inr hk)) id
        · exact fun k hk e => e.elim (d4 k hk) fun e => nv k (i2 k (u4 k (.inl hk))) e
        · exact fun k hk => hk.elim (fun hk => .inl (u4 k (.inl hk))) fun hk => hk.imp (fun hk => u4 k (.inr hk)) id
        · exact fun k hk e => e.elim (d3 k hk) fun e => nv k (u3 k (.inl hk)) e
        · exact fun k hk => hk.elim (fun hk => .inl (u3 k (.inl hk))) fun hk => hk.imp (fun hk => u3 k (.inr hk)) id
      have hvlt : ∀ k, v.ownBlock = some k → k < (w.setCell ⟨bB, i, none⟩ v).heap.size := fun k hk => by rw [sz]; exact h.lt' (hj k hk)
      have hB' : RowH 62 1 vB (s.bl.set i bb).length (lB.set i v) (w.setCell ⟨bB, i, none⟩ v) O1 := ⟨row, hB.2.1, fun k hk => by rw [sz]; exact hB.2.2 k hk⟩
      have hg' : Blk g #[vB, vD, vM, vG, .int .i64 s.room, vR] 30 (w.setCell ⟨bB, i, none⟩ v) O0 := (Blk.ok _ _ _).ch hg hw' fun k hk e => by
        simp only [Kin.one] at e
        subst e
        exact d1 k hk (u2 k (.inl hbO1))
      refine ⟨⟨fun k => O k ∨ v.ownBlock = some k, ⟨vB, vD, vM, vG, vR, lB.set i v, ⟨hgd.made, hgd.gone, hgd.red, fun x hx => ?_, by rw [List.length_set]; exact hgd.bln, hgd.r0, hgd.r1, hgd.badl⟩, hsb, ⟨O0, fun k => R1 k ∨ v.ownBlock = some k, hg', ⟨O1, fun k => R2 k ∨ v.ownBlock = some k, hB', hR2', ?_, ?_, ?_⟩, ?_, ?_, ?_⟩⟩, fun k hk => ?_, fun k hk e => ?_⟩, h.gl, h.bk, h.env, fun k hk => h.lt k hk.1, fun k hk => h.kW k hk.1, ?_, ?_⟩
      · rcases List.mem_or_eq_of_mem_set hx with h1 | rfl
        · exact hgd.bl x h1
        · exact hl
      · exact fun k hk e => e.elim (d2 k hk) fun e => hvO k e (hO1 k hk)
      · exact fun k hk => hk.elim (fun hk => .inl (u2 k (.inl hk))) fun hk => hk.imp (fun hk => u2 k (.inr hk)) id
      · exact fun k hk => hk.elim (fun hk => by rw [sz]; exact l2 k hk) (hvlt k)
      · exact fun k hk e => e.elim (d1 k hk) fun e => hvO k e (u1 k (.inl hk))
      · exact fun k hk => hk.elim (fun hk => .inl (u1 k (.inl hk))) fun hk => hk.imp (fun hk => u1 k (.inr hk)) id
      · exact fun k hk => hk.elim (fun hk => by rw [sz]; exact l1 k hk) (hvlt k)
      · exact hk.elim (b k) fun hk => .inl (h.kW k (hj k hk))
      · exact e.elim (c k hk.1) fun e => hk.2 e
      · exact (h.ck.mono (S' := fun k => ¬ (K k ∧ v.ownBlock ≠ some k)) fun k _ e e2 => e e2.1).trans' hw' fun k hk e hK => by
          simp only [Kin.one] at e
          subst e
          exact c k hK.1 (hO1 k hbO1)
      · exact h.ch.trans' hw' fun k hk e => by simp only [Kin.one] at e; omega
end
end Go.Proofs.YtnefdmbdkljifaaGreatDoor
