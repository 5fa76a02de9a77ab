/- The keys of a map, gathered and sorted. No condition but on their number. -/
import Derived.Test.YtnefdmbdkljifaaDoorSoG
import Derived.Test.YtnefdmbdkljifaaDoorRgQ
set_option linter.unusedSimpArgs false
set_option linter.unusedVariables false

namespace Go.Proofs.YtnefdmbdkljifaaDoor.S16
open Go.RowKit Go.Kin Go.Maps Go.Sort

theorem RngV_walk {P : Program} {k : TypeId} {κ : Type} {kv : κ → Value} {w : World} {b r n cnt : Nat} {F : κ → Option Value} {left : κ → Bool} (h : RngV w P k kv b r n F left cnt) : ∃ o : Obj, w.heap[r]? = some o ∧ o.isWalk = true := by
  obtain ⟨D, lf, h, h2⟩ := h
  obtain ⟨es, clock, since, seen, c0, g1, g2, g3, g4, g5, g6⟩ := h
  exact ⟨_, g5, rfl⟩
theorem RngV_mwalk {P : Program} {k : TypeId} {κ : Type} {kv : κ → Value} {w : World} {b r n cnt : Nat} {F : κ → Option Value} {left : κ → Bool} (h : RngV w P k kv b r n F left cnt) : ∃ o : Obj, w.heap[b]? = some o ∧ o.isWalk = true := by
  obtain ⟨D, lf, h, h2⟩ := h
  obtain ⟨es, clock, since, seen, c0, g1, g2, g3, g4, g5, g6⟩ := h
  exact ⟨_, g1, rfl⟩
/-- the keys, each once -/
def Keys (F : Num → Option Value) (xs : List Num) : Prop := xs.Nodup ∧ ∀ a, a ∈ xs ↔ (F a).isSome = true
section
variable {w u : World} {blk b q n : Nat} {F : Num → Option Value} {S : Nat → Prop}
set_option maxHeartbeats 1000000 in
theorem keys_iter (h : MapV w Tryd.prog 22 kU b n F) (hq : w.cell? ⟨q, 0, none⟩ = some (.map (some b))) (hSb : ¬ S b) (hS : ∀ k, S k → k < w.heap.size) :
    IterQ Tryd.prog 56 [.pointer (some ⟨q, 0, none⟩)] 1 (fun a => [Value.int .u16 (a : Num).val]) (Keys F) (fun _ => True) n S w := by
  refine ⟨fun x => rfl, fun args w => by simp [go_sem], ?_⟩
  intro l J Jx W hW hJ hJx hY h0
  have hlt := h.lt
  have hqW : W.cell? ⟨q, 0, none⟩ = some (.map (some b)) := hW.cell hq id
  obtain ⟨w1, cnt, hr, hg, hcnt, c1, s1⟩ := (h.ch hW id).range kysU Tryd.underlying68
  obtain ⟨r, hrr⟩ : ∃ r, W.heap.size = r := ⟨_, rfl⟩
  rw [hrr] at hr hg
  have hWs := hW.size
  have grown : ∀ {A B : World}, Ch Nw A B → A.grownBy B none := fun {A B} hc => ⟨hc.os, hc.tape, hc.output, hc.size, fun k hk _ => hc.block k hk id⟩
  have grownR : ∀ {A B : World}, Ch (Kin.one r) A B → A.grownBy B (some r) := fun {A B} hc => ⟨hc.os, hc.tape, hc.output, hc.size, fun k hk hn => hc.block k hk fun e => hn (by simp only [Kin.one] at e; rw [e])⟩
  refine v_enter Tryd.func56 Tryd.ntmps56 rfl (by simp) fun R' hR => ?_
  simp [go_sem, hqW, hr]
  refine v_loop (fun t f u => ∃ left pre, f 0 = .func (.yield l) #[] #[] ∧ f 5 = .pointer (some ⟨r, 0, none⟩) ∧ RngV u Tryd.prog 22 kU b r n F left t ∧ J pre u ∧ pre.Nodup ∧ (∀ a, left a = true ↔ ((F a).isSome = true ∧ a ∉ pre)) ∧ (∀ a ∈ pre, (F a).isSome = true) ∧ pre.length + t ≤ n) cnt
    ⟨_, [], by simp, by simp, hg, hJ _ _ _ none h0 (grown c1) (fun r e => by cases e), List.nodup_nil, fun a => by simp, fun a ha => by simp at ha, by simp; omega⟩ ?_
  rintro I hI t f u ⟨left, pre, f0, f5, hru, hj, hnd, hleft, hpre, hlen⟩
  rcases hru.next kysU 0 with ⟨hl, hnx⟩ | ⟨a, v, u2, t2, hl, hGa, hnx, hru2, ht2, c2, _, hen⟩
  · simp [go_sem, f5, hnx]
    refine hR _ _ (.inl ⟨pre, ⟨hnd, fun a => ⟨hpre a, fun ha => ?_⟩⟩, hj⟩)
    by_cases hap : a ∈ pre
    · exact hap
    · have := (hleft a).2 ⟨ha, hap⟩
      rw [hl a] at this
      cases this
  · obtain ⟨ha1, ha2⟩ := (hleft a).1 hl
    have hj2 := hJ pre u u2 (some r) hj (grownR c2) fun r' e => by
      cases e
      exact ⟨by omega, RngV_walk hru⟩
    have hy := hY pre a u2 hj2 (by omega)
    simp [go_sem, f5, hnx, hen, f0, kU]
    refine VCall_yield _ _ _ hy ?_
    rintro _ w' (⟨rfl, hj', hk⟩ | ⟨rfl, hjx⟩)
    · simp [go_sem]
      have hru3 : RngV w' Tryd.prog 22 kU b r n F (fun c => left c && decide (c ≠ a)) t2 := hru2.ch hk (fun e => by
        rcases e with e | ⟨e, e2⟩
        · exact hSb e
        · omega) (fun e => by
        rcases e with e | ⟨e, e2⟩
        · have := hS r e; omega
        · obtain ⟨o, ho, hwk⟩ := RngV_walk hru2
          rw [e2 o ho] at hwk
          cases hwk)
      refine Rnd.intro t2 ht2 (hI _ _ _ ⟨_, pre ++ [a], by simp [f0], by simp [f5], hru3, hj', ?_, fun c => ?_, fun c hc => ?_, by simp; omega⟩)
      · rw [List.nodup_append]
        refine ⟨hnd, by simp, ?_⟩
        rintro x hx y hy rfl
        simp at hy
        subst hy
        exact ha2 hx
      · rw [Bool.and_eq_true, hleft c, decide_eq_true_eq]
        simp only [List.mem_append, List.mem_singleton, not_or, and_assoc]
      · rcases List.mem_append.1 hc with hc | hc
        · exact hpre c hc
        · simp at hc
          subst hc
          exact ha1
    · simp [go_sem]
      exact hR _ _ (.inr ⟨_, trivial, hjx⟩)
theorem keysf_any (b : Nat) (w : World) : Ret Tryd.prog 47 #[.map (some b)] w fun v' w' => v' = .func (.func 56) #[] #[.pointer (some ⟨w.heap.size, 0, none⟩)] ∧ w' = w.alloc (.cells #[.map (some b)] 68) := by
  refine v_enter Tryd.func47 Tryd.ntmps47 rfl (by simp) fun R' hR => ?_
  simp [go_sem]
  exact hR _ _ ⟨rfl, rfl⟩
theorem ty : Ty1 Tryd.prog 89 22 (.int .u16 0) 2 := ⟨Tryd.underlying89, by kernel_rfl, rfl⟩
theorem own_rec {B : Nat} {W W' : World} {e s n : Nat} {v : Value} {xs : List Value} (h : W.ownsRow 0 e s v n xs) (hr : Rec B W W') : W'.ownsRow 0 e s v n xs := by
  refine ⟨h.1, h.2.imp id ?_⟩
  rintro ⟨g, cap, cur, h1, h2, h3, h4⟩
  exact ⟨g, cap, cur, h1, h2, hr.blk h3, h4⟩
theorem own_cells {W : World} {e s n : Nat} {v : Value} {xs : List Value} (h : W.ownsRow 0 e s v n xs) : ∀ k, v.ownBlock = some k → ∀ o, W.heap[k]? = some o → o.isCells = true := by
  rcases h.2 with ⟨rfl, _⟩ | ⟨g, cap, cur, rfl, _, hb, _⟩
  · intro k hk
    simp [Value.ownBlock] at hk
  · intro k hk o ho
    simp [Value.ownBlock] at hk
    subst hk
    rw [hb] at ho
    cases ho
    rfl
def ks (xs : List Num) : List Value := xs.map kU
set_option maxRecDepth 100000 in
theorem appseq_any {gf : FuncId} {lb : List Value} {Fn Pt : List Num → Prop} {n : Nat} (w : World) (hn : n ≤ 100000)
    (hit : ∀ g w1, Ch Nw w w1 → w.heap.size ≤ g → g < w1.heap.size → IterQ Tryd.prog gf lb 1 (fun a => [Value.int .u16 (a : Num).val]) Fn Pt n (Kin.one g) w1) :
    Ret Tryd.prog 61 #[.slice none 0 0, .func (.func gf) #[] lb.toArray] w fun v' w' => ∃ xs, Fn xs ∧ w'.ownsRow 0 22 1 v' xs.length (ks xs) ∧ Ch Nw w w' ∧ Fresh w.heap.size v' := by
  refine v_enter Tryd.func61 Tryd.ntmps61 rfl (by simp) fun R' hR => ?_
  have ba := hp_alloc w (.cells #[.slice none 0 0] 89)
  have ca := (Ch.refl Nw w).alloc (.cells #[.slice none 0 0] 89)
  simp [go_sem]
  obtain ⟨g, hg⟩ : ∃ g, w.heap.size = g := ⟨_, rfl⟩
  rw [hg] at ba ⊢
  generalize w.alloc (.cells #[.slice none 0 0] 89) = w1 at *
  have hgl := lt_of_block ba
  refine v_rangeQ (hit g w1 ca (by omega) hgl) (Ch.refl _ _) rfl rfl (by kernel_rfl) (fun k hk => by cases hk; exact hgl)
    (fun pre W => ∃ v, W.heap[g]? = some (.cells #[v] 89 (0, 0)) ∧ W.ownsRow 0 22 1 v pre.length (ks pre) ∧ Fresh w1.heap.size v ∧ Ch Nw w W ∧ w1.heap.size ≤ W.heap.size) (fun c pre W => False) (fun x f' _ => f' 2 = .pointer (some ⟨g, 0, none⟩) ∧ f' 5 = .int .u16 x.val) ?_ ?_ ?_ ?_ ?_ ?_ ?_ ?_
  · rintro pre W W' ⟨v, h1, h2, h3, h4, h5⟩ hr
    exact ⟨v, hr.blk h1, own_rec h2 hr, h3, hr.since h4 ca.size, Nat.le_trans h5 hr.ch.size⟩
  · exact fun _ _ _ _ h _ => h
  · exact fun _ _ _ _ h _ => h
  · exact ⟨_, ba, ⟨by simp [ks], .inl ⟨rfl, rfl⟩⟩, fun k hk => by simp [Value.ownBlock] at hk, ca, Nat.le_refl _⟩
  · rintro pre x W hI
    simp [go_sem]
    exact ⟨Ch.refl _ _, hI⟩
  · rintro pre x f' W ⟨v, h1, h2, h3, h4, h5⟩ ⟨hf2, hf5⟩ hlen
    have hcl := fun i => cell_blk h1 i
    have hfz := fun i => frz_blk h1 i
    have hone : ∀ u ∈ ks [x], u.oneCell' = true := by simp [ks, kU, Value.oneCell']
    have hsc := own_cells h2
    have hgv : v.ownBlock ≠ some g := fun e => by have := h3 g e; omega
    obtain ⟨A, m, c, hv⟩ : ∃ A m c, v = .slice A m c := by
      rcases h2.2 with ⟨e, _⟩ | ⟨g', cap, cur, e, _⟩
      · exact ⟨_, _, _, e⟩
      · exact ⟨_, _, _, e⟩
    rw [hv] at h1 h2 h3 hcl hsc hgv
    simp [go_sem, hf2, hf5, hcl]
    refine VB_app1 ty h2 rfl (by unfold maxLen; omega) (by omega) fun v' w' k1 k2 k3 => ?_
    have b1 := k2.obj h1 (fun e => hgv e)
    have hcl' := fun i => cell_blk b1 i
    have hfz' := fun i => frz_blk b1 i
    obtain ⟨A', m', c', hv'⟩ : ∃ A m c, v' = .slice A m c := by
      rcases k1.2 with ⟨e, _⟩ | ⟨g', cap, cur, e, _⟩
      · exact ⟨_, _, _, e⟩
      · exact ⟨_, _, _, e⟩
    have hfr : Fresh w1.heap.size v' := by
      rcases k3 with e | e
      · intro k hk
        rw [e] at hk
        exact h3 k hk
      · exact e.mono h5
    rw [hv'] at k1 k3 hfr ⊢
    simp [go_sem, hf2, hcl', hfz']
    have cs : Ch (Kin.one g) w' (w'.setCell ⟨g, 0, none⟩ (.slice A' m' c')) := (Ch.refl (Kin.one g) w').setCell (p := ⟨g, 0, none⟩) (.inl rfl) _
    have hne : ∀ k, (Value.slice A' m' c').ownBlock = some k → ¬ Kin.one g k := fun k hk e => by
      simp only [Kin.one] at e
      have := hfr k hk
      omega
    refine ⟨(k2.mono fun j hj e => .inr ⟨h3 j e, hsc j e⟩).trans' cs fun j hj e => .inl e, _, by rw [b1, setOf_cells]; rfl, ?_, hfr, (h4.trans' k2 fun j hj e => by have := h3 j e; omega).trans' cs fun j hj e => by simp only [Kin.one] at e; omega, ?_⟩
    · have := own_ch k1 cs hne
      simpa [ks, kU] using this
    · have := k2.size
      have := cs.size
      omega
  · rintro D xs W hD hxs ⟨v, h1, h2, h3, h4, h5⟩ hd
    have hcl := fun i => cell_blk h1 i
    obtain ⟨A, m, c, hv⟩ : ∃ A m c, v = .slice A m c := by
      rcases h2.2 with ⟨e, _⟩ | ⟨g', cap, cur, e, _⟩
      · exact ⟨_, _, _, e⟩
      · exact ⟨_, _, _, e⟩
    have hdg : D ≠ g := by omega
    rw [hv] at h1 h2 h3 hcl
    simp [go_sem, hcl, VEnd_ret', hd]
    refine hR _ _ ⟨xs, hxs, ?_, h4.putObj (.inr (by omega)) _, h3.mono (by omega)⟩
    have hc : Ch (Kin.one D) W (W.putObj D (.deferred none)) := (Ch.refl (Kin.one D) W).putObj (.inl rfl) _
    refine own_ch h2 hc fun k hk e => ?_
    simp only [Kin.one] at e
    subst e
    have := own_cells h2 k hk _ hd
    cases this
  · exact fun _ _ _ _ _ _ h => h.elim
theorem collect_any {gf : FuncId} {lb : List Value} {Fn Pt : List Num → Prop} {n : Nat} (w : World) (hn : n ≤ 100000)
    (hit : ∀ g w1, Ch Nw w w1 → w.heap.size ≤ g → g < w1.heap.size → IterQ Tryd.prog gf lb 1 (fun a => [Value.int .u16 (a : Num).val]) Fn Pt n (Kin.one g) w1) :
    Ret Tryd.prog 54 #[.func (.func gf) #[] lb.toArray] w fun v' w' => ∃ xs, Fn xs ∧ w'.ownsRow 0 22 1 v' xs.length (ks xs) ∧ Ch Nw w w' ∧ Fresh w.heap.size v' := by
  refine v_enter Tryd.func54 Tryd.ntmps54 rfl (by simp) fun R' hR => ?_
  simp [go_sem]
  refine (appseq_any w hn hit).mono ?_
  rintro v w1 ⟨xs, h1, h2, h3, h4⟩
  simp [go_sem]
  exact hR _ _ ⟨xs, h1, h2, h3, h4⟩
/-- the keys of a map, in order -/
theorem sorted_any (w : World) (h : MapV w Tryd.prog 22 kU b n F) (hn : n ≤ 100000) (h255 : ∀ xs, Keys F xs → xs.length ≤ 255) (w1 : World) (hw1 : Ch Nw w w1) (hq : w1.cell? ⟨q, 0, none⟩ = some (.map (some b))) :
    Ret Tryd.prog 46 #[.func (.func 56) #[] #[.pointer (some ⟨q, 0, none⟩)]] w1 fun v' w' => ∃ xs, Keys F xs ∧ xs.Pairwise (fun a b => a < b) ∧ Sl w' v' xs.length (ks xs) ∧ Ch Nw w1 w' ∧ Fresh w1.heap.size v' := by
  refine v_enter Tryd.func46 Tryd.ntmps46 rfl (by simp) fun R' hR => ?_
  have hb := (h.ch hw1 id).lt
  simp [go_sem]
  have hcol := collect_any (gf := 56) (lb := [.pointer (some ⟨q, 0, none⟩)]) (Fn := Keys F) (Pt := fun _ => True) w1 hn fun g w2 hc hg hgl =>
    keys_iter ((h.ch hw1 id).ch hc id) (hc.cell hq id) (fun e => by simp only [Kin.one] at e; omega) (fun k hk => by simp only [Kin.one] at hk; omega)
  refine hcol.mono ?_
  rintro v w2 ⟨xs, hK, hown, c2, hfr⟩
  have hlen := h255 xs hK
  simp [go_sem]
  by_cases h0 : 0 < xs.length
  · obtain ⟨g, cap, cur, hv, hb2, _⟩ := own_blk hown h0
    subst hv
    have hrw : Rw kU w2 g xs.toArray := Rw.of_own (cap := cap) (n := xs.length) hown (by simp [ks]) (by simp)
    have hs := sort_any hrw cap (by simpa using hlen)
    simp only [List.size_toArray] at hs
    refine hs.mono ?_
    rintro _ w3 ⟨d', h3, hP, hS, c3⟩
    simp [go_sem]
    have hsz : d'.size = xs.length := by rw [hP.1]; simp
    have hperm : d'.toList.Perm xs := by
      have := hP.2.2
      have e1 : (d'.extract 0 xs.length).toList = d'.toList := by rw [← hsz]; simp
      have e2 : (xs.toArray.extract 0 xs.length).toList = xs := by simp
      rw [e1, e2] at this
      exact this
    have hnd : d'.toList.Nodup := hperm.nodup_iff.2 hK.1
    have hgf : w1.heap.size ≤ g := hfr g rfl
    refine hR _ _ ⟨d'.toList, ⟨hnd, fun a => by rw [hperm.mem_iff]; exact hK.2 a⟩, ?_, ?_, c2.trans' c3 fun j hj e => by simp only [Kin.one] at e; omega, hfr⟩
    · rw [List.pairwise_iff_getElem]
      intro i j hi hj hij
      have hi' : i < d'.size := by simpa using hi
      have hj' : j < d'.size := by simpa using hj
      have h1 := hS i j (Nat.zero_le _) hij (by omega)
      have e1 : d'[i]! = d'.toList[i] := by simp [hi']
      have e2 : d'[j]! = d'.toList[j] := by simp [hj']
      rw [e1, e2] at h1
      have hne : d'.toList[i] ≠ d'.toList[j] := List.pairwise_iff_getElem.1 hnd i j hi hj hij
      simp only [lt, decide_eq_false_iff_not] at h1
      rcases Nat.lt_trichotomy (d'.toList[i]).val (d'.toList[j]).val with h2 | h2 | h2
      · exact h2
      · exact absurd (Fin.ext h2) hne
      · exact absurd h2 h1
    · obtain ⟨cur', T, hb3, hc3⟩ := h3
      have hcap : xs.length ≤ cap ∧ cap ≤ maxLen := by
        rcases hown.2 with ⟨e, _⟩ | ⟨g', cap', cur2, e, _, _, h1, h2, _⟩
        · cases e
        · cases e
          exact ⟨h1, h2⟩
      have hlt : d'.toList.length = xs.length := by simpa using hsz
      rw [hlt]
      refine ⟨_, cap, rfl, hcap.1, hcap.2, fun _ => ⟨_, rfl, fun j u hu => ?_⟩⟩
      unfold ks at hu
      rw [List.getElem?_map] at hu
      cases hd : d'.toList[j]? with
      | none => rw [hd] at hu; cases hu
      | some a =>
        rw [hd] at hu
        cases hu
        have hj : j < d'.size := by
          have := (List.getElem?_eq_some_iff.1 hd).1
          simpa using this
        have := hc3 j hj
        rw [Addr.add_lit, Nat.zero_add, cell_blk hb3, this]
        rw [Array.getElem?_toList] at hd
        simp [hj] at hd ⊢
        rw [hd]
  · obtain rfl : xs = [] := List.eq_nil_of_length_eq_zero (by omega)
    rcases hown.2 with ⟨hv, _⟩ | ⟨g, cap, cur, hv, _, hb2, _⟩
    · subst hv
      refine (sort_nil w2 none 0).mono ?_
      intro _ w3 c3
      simp [go_sem]
      exact hR _ _ ⟨[], hK, List.Pairwise.nil, Sl.nil _, c2.trans c3, fun k hk => by simp [Value.ownBlock] at hk⟩
    · subst hv
      refine (sort_nil w2 (some ⟨g, 0, none⟩) cap).mono ?_
      intro _ w3 c3
      simp [go_sem]
      exact hR _ _ ⟨[], hK, List.Pairwise.nil, (Sl.of_own hown).ch c3 fun _ _ e => e, c2.trans c3, hfr⟩
end
end Go.Proofs.YtnefdmbdkljifaaDoor.S16
