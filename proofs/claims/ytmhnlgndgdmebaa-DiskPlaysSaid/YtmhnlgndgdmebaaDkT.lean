/- DiskTears: what may stand in each block, as the walk holds it. No condition. -/
import Derived.Test.YtmhnlgndgdmebaaDkS
namespace Go.Proofs.Ytmhnlgndgdmebaa
open Go.RowKit Go.Kin

def strs (l : List Byts) : List Value := l.map str
theorem tySt : Ty1 Try.prog 69 9 (.string ⟨#[]⟩) 16 := ⟨Try.underlying69, by kernel_rfl, rfl⟩
theorem tySs : Ty1 Try.prog 66 69 (.slice none 0 0) 24 := ⟨Try.underlying66, by kernel_rfl, rfl⟩
theorem own_setG {w : World} {g cap n : Nat} {e : TypeId} {xs : List Value} (h : w.ownsRow 0 e 1 (.slice (some ⟨g, 0, none⟩) n cap) n xs) (i : Nat) (x : Value) :
    (w.setCell ⟨g, i, none⟩ x).ownsRow 0 e 1 (.slice (some ⟨g, 0, none⟩) n cap) n (xs.set i x) := by
  obtain ⟨hlen, h⟩ := h
  rcases h with ⟨h0, _⟩ | ⟨g', cap', cur, hv, hg0, hb, hc, hm, hsz, ht⟩
  · cases h0
  · cases hv
    refine ⟨by simpa using hlen, .inr ⟨g, cap, cur.set! i x, rfl, hg0, ?_, hc, hm, by simpa using hsz, ?_⟩⟩
    · simp [World.setCell, Array.getElem?_modify, hb]
    · rw [← ht]
      simp [List.take_set]
theorem one_lit (w : World) (x : Value) (e : TypeId) : (w.alloc (.cells #[x] e)).ownsRow 0 e 1 (.slice (some ⟨w.heap.size, 0, none⟩) 1 1) 1 [x] := by
  have := World.ownsRow_lit (size := 1) (e := e) w #[x] 1 (base := 0) (Nat.zero_le _) (by decide) (by simp)
  simpa using this
/-- what may stand in each block -/
structure My (u : World) (mv : Value) (vs : List Value) (L : List (List Byts)) (M : Nat → Prop) : Prop where
  own : u.ownsRow 0 69 1 mv L.length vs
  len : vs.length = L.length
  each : ∀ (i : Nat) v l, vs[i]? = some v → L[i]? = some l → u.ownsRow 0 9 1 v l.length (strs l)
  mM : ∀ k, mv.ownBlock = some k → M k
  vM : ∀ (i : Nat) v k, vs[i]? = some v → v.ownBlock = some k → M k ∧ mv.ownBlock ≠ some k
  dis : ∀ (i j : Nat) v v' k, vs[i]? = some v → vs[j]? = some v' → v.ownBlock = some k → v'.ownBlock = some k → i = j
  full : ∀ l ∈ L, l ≠ []
  lt : ∀ k, M k → k < u.heap.size
section
variable {u u' : World} {mv : Value} {vs : List Value} {L : List (List Byts)} {M S : Nat → Prop}
theorem My.nil (u : World) : My u (.slice none 0 0) [] [] (fun _ => False) := ⟨World.ownsRow_nil _ _ _ _, rfl, by simp, by simp [Value.ownBlock], by simp, by simp, by simp, by simp⟩
theorem My.ch (h : My u mv vs L M) (hc : Ch S u u') (hn : ∀ k, M k → ¬ S k) : My u' mv vs L M :=
  ⟨own_ch h.own hc fun k hk => hn k (h.mM k hk), h.len, fun i v l hv hl => own_ch (h.each i v l hv hl) hc fun k hk => hn k (h.vM i v k hv hk).1, h.mM, h.vM, h.dis, h.full, fun k hk => Nat.lt_of_lt_of_le (h.lt k hk) hc.size⟩
theorem My.lit (h : My u mv vs L M) (hL : 0 < L.length) : ∃ gm cm, mv = .slice (some ⟨gm, 0, none⟩) L.length cm ∧ L.length ≤ cm ∧ cm ≤ maxLen ∧ (∃ cur, u.heap[gm]? = some (.cells cur 69 (0, 0))) ∧
    ∀ i l, L[i]? = some l → ∃ g c, vs[i]? = some (.slice (some ⟨g, 0, none⟩) l.length c) ∧ u.cell? ⟨gm, i, none⟩ = some (.slice (some ⟨g, 0, none⟩) l.length c) ∧ (∀ (j : Nat) b, l[j]? = some b → u.cell? ⟨g, j, none⟩ = some (.string ⟨b.toArray⟩)) ∧ l.length ≤ maxLen := by
  obtain ⟨gm, cm, cur, hmv, h1, h2, hb, _, hr⟩ := ownS_blk h.own hL
  refine ⟨gm, cm, hmv, h1, h2, ⟨cur, hb⟩, fun i l hl => ?_⟩
  have hi : i < L.length := (List.getElem?_eq_some_iff.1 hl).1
  have hv := List.getElem?_eq_getElem (l := vs) (i := i) (by rw [h.len]; exact hi)
  have hlp : 0 < l.length := List.length_pos_iff.2 (h.full l (List.mem_of_getElem? hl))
  obtain ⟨g, c, cur2, he, hc1, hc2, _, _, hr2⟩ := ownS_blk (h.each i _ l hv hl) hlp
  refine ⟨g, c, by rw [hv, he], by rw [hr i _ hv, he], fun j b hj => hr2 j _ ?_, Nat.le_trans hc1 hc2⟩
  unfold strs
  rw [List.getElem?_map, hj]
  rfl
theorem My.push (h : My u mv vs L M) (b : Byts) {mv' : Value} (ho : u'.ownsRow 0 69 1 mv' (L.length + 1) (vs ++ [.slice (some ⟨u.heap.size, 0, none⟩) 1 1])) (hc : Ch (fun k => mv.ownBlock = some k) (u.alloc (.cells #[.string ⟨b.toArray⟩] 9)) u')
    (hf : mv'.ownBlock = mv.ownBlock ∨ Fresh (u.alloc (.cells #[.string ⟨b.toArray⟩] 9)).heap.size mv') : My u' mv' (vs ++ [.slice (some ⟨u.heap.size, 0, none⟩) 1 1]) (L ++ [[b]]) (Gr M u u') := by
  have hsz : (u.alloc (.cells #[.string ⟨b.toArray⟩] 9)).heap.size = u.heap.size + 1 := by simp
  have hs := hc.size
  rw [hsz] at hs hf
  have c0 : Ch (fun k => mv.ownBlock = some k) u u' := ((Ch.refl (fun k => mv.ownBlock = some k) u).alloc _).trans hc
  have hmb : ∀ k, mv.ownBlock = some k → k < u.heap.size := own_blt h.own
  have hold : ∀ (i : Nat) (v : Value), vs[i]? = some v → ∀ k, v.ownBlock = some k → k < u.heap.size := fun i v hv k hk => h.lt k (h.vM i v k hv hk).1
  have hmb' : ∀ k, mv'.ownBlock = some k → k ≠ u.heap.size := fun k hk => by
    rcases hf with hf | hf
    · have := hmb k (hf ▸ hk); omega
    · have := hf k hk; omega
  have split : ∀ (i : Nat) v, (vs ++ [(.slice (some ⟨u.heap.size, 0, none⟩) 1 1 : Value)])[i]? = some v → (i < vs.length ∧ vs[i]? = some v) ∨ (i = vs.length ∧ v = .slice (some ⟨u.heap.size, 0, none⟩) 1 1) := fun i v hv => by
    rw [List.getElem?_append] at hv
    split at hv
    · exact .inl ⟨by assumption, hv⟩
    · rename_i hi
      have : i - vs.length = 0 := by have := (List.getElem?_eq_some_iff.1 hv).1; simp at this; omega
      rw [this] at hv
      simp at hv
      exact .inr ⟨by omega, hv.symm⟩
  refine ⟨by simpa using ho, by simp [h.len], fun i v l hv hl => ?_, fun k hk => ?_, fun i v k hv hk => ?_, fun i j v v' k hv hv' hk hk' => ?_, fun l hl => ?_, Gr.lt h.lt (by omega)⟩
  · rcases split i v hv with ⟨hi, hv⟩ | ⟨hi, rfl⟩
    · rw [List.getElem?_append_left (by rw [← h.len]; exact hi)] at hl
      exact own_ch (h.each i v l hv hl) c0 fun k hk e => (h.vM i v k hv hk).2 e
    · rw [hi, h.len] at hl
      simp at hl
      subst hl
      refine own_ch (one_lit u _ _) hc fun k hk e => ?_
      simp [Value.ownBlock] at hk
      have := hmb k e
      omega
  · rcases hf with hf | hf
    · exact .inl (h.mM k (hf ▸ hk))
    · exact .inr ⟨by have := hf k hk; omega, own_blt ho k hk⟩
  · rcases split i v hv with ⟨hi, hv⟩ | ⟨hi, rfl⟩
    · refine ⟨.inl (h.vM i v k hv hk).1, fun e => ?_⟩
      rcases hf with hf | hf
      · exact (h.vM i v k hv hk).2 (hf ▸ e)
      · have := hf k e; have := hold i v hv k hk; omega
    · simp [Value.ownBlock] at hk
      exact ⟨.inr ⟨by omega, by omega⟩, fun e => hmb' k e hk.symm⟩
  · rcases split i v hv with ⟨hi, hv⟩ | ⟨hi, rfl⟩ <;> rcases split j v' hv' with ⟨hj, hv'⟩ | ⟨hj, rfl⟩
    · exact h.dis i j v v' k hv hv' hk hk'
    · simp [Value.ownBlock] at hk'
      have := hold i v hv k hk; omega
    · simp [Value.ownBlock] at hk
      have := hold j v' hv' k hk'; omega
    · omega
  · simp at hl
    rcases hl with hl | rfl
    · exact h.full l hl
    · simp
/-- one of them set -/
theorem My.set (h : My u mv vs L M) {gm cm n : Nat} (hmv : mv = .slice (some ⟨gm, 0, none⟩) n cm) {i : Nat} {v v' : Value} {l l' : List Byts} (hi : vs[i]? = some v) (hl : L[i]? = some l) (hl' : l' ≠ []) (hc : Ch S u u') (hS : ∀ k, S k → v.ownBlock = some k) (ho : u'.ownsRow 0 9 1 v' l'.length (strs l'))
    (hf : v'.ownBlock = v.ownBlock ∨ Fresh u.heap.size v') : My (u'.setCell ⟨gm, i, none⟩ v') mv (vs.set i v') (L.set i l') (Gr M u (u'.setCell ⟨gm, i, none⟩ v')) ∧ Ch M u (u'.setCell ⟨gm, i, none⟩ v') := by
  subst hmv
  have hs := hc.size
  have hsz : (u'.setCell ⟨gm, i, none⟩ v').heap.size = u'.heap.size := by simp [World.setCell]
  have hg : M gm := h.mM gm rfl
  have hgl := h.lt gm hg
  have hold : ∀ (i : Nat) (v : Value), vs[i]? = some v → ∀ k, v.ownBlock = some k → k < u.heap.size := fun i v hv k hk => h.lt k (h.vM i v k hv hk).1
  have hv'g : ∀ k, v'.ownBlock = some k → k ≠ gm ∧ Gr M u u' k ∧ (k < u.heap.size → v.ownBlock = some k) := fun k hk => by
    rcases hf with hf | hf
    · rw [hf] at hk
      obtain ⟨a, b⟩ := h.vM i v k hi hk
      exact ⟨fun e => b (by rw [e]; rfl), .inl a, fun _ => hk⟩
    · have := hf k hk
      exact ⟨by omega, .inr ⟨this, own_blt ho k hk⟩, fun _ => by omega⟩
  have hnl : n = L.length := by
    have := h.own.2
    rcases this with ⟨e, _⟩ | ⟨_, _, _, e, _⟩
    · cases e
    · cases e; rfl
  subst hnl
  have cset : Ch (one gm) u' (u'.setCell ⟨gm, i, none⟩ v') := (Ch.refl (one gm) u').setCell (p := ⟨gm, i, none⟩) (.inl rfl) _
  have cM : Ch M u (u'.setCell ⟨gm, i, none⟩ v') := (hc.mono fun k _ e => (h.vM i v k hi (hS k e)).1).trans' cset fun k _ e => by simp only [one] at e; subst e; exact hg
  have sp : ∀ (j : Nat) x, (vs.set i v')[j]? = some x → (j = i ∧ x = v') ∨ (j ≠ i ∧ vs[j]? = some x) := fun j x hx => by
    rw [List.getElem?_set] at hx
    by_cases hij : i = j
    · rw [if_pos hij, if_pos (by have := (List.getElem?_eq_some_iff.1 hi).1; omega)] at hx
      exact .inl ⟨hij.symm, (Option.some.inj hx).symm⟩
    · rw [if_neg hij] at hx
      exact .inr ⟨fun e => hij e.symm, hx⟩
  refine ⟨⟨?_, by simp [h.len], fun j x y hx hy => ?_, fun k hk => .inl (h.mM k hk), fun j x k hx hk => ?_, fun a b x y k hx hy hk hk' => ?_, fun y hy => ?_, Gr.lt h.lt (by rw [hsz]; exact hs)⟩, cM⟩
  · rw [List.length_set]
    exact own_setG (own_ch h.own hc fun k hk e => (h.vM i v k hi (hS k e)).2 hk) i v'
  · rcases sp j x hx with ⟨rfl, rfl⟩ | ⟨hj, hx⟩
    · rw [List.getElem?_set_self (List.getElem?_eq_some_iff.1 hl).1] at hy
      cases hy
      exact own_ch ho cset fun k hk e => (hv'g k hk).1 e
    · rw [List.getElem?_set_ne (fun e => hj e.symm)] at hy
      refine own_ch (own_ch (h.each j x y hx hy) hc fun k hk e => hj (h.dis j i x v k hx hi hk (hS k e))) cset fun k hk e => (h.vM j x k hx hk).2 ?_
      simp only [one] at e
      rw [e]; rfl
  · rcases sp j x hx with ⟨rfl, rfl⟩ | ⟨hj, hx⟩
    · obtain ⟨a, b, _⟩ := hv'g k hk
      refine ⟨b.elim .inl fun e => .inr ⟨e.1, by rw [hsz]; exact e.2⟩, fun e => a ?_⟩
      simp [Value.ownBlock] at e
      exact e.symm
    · exact ⟨.inl (h.vM j x k hx hk).1, (h.vM j x k hx hk).2⟩
  · rcases sp a x hx with ⟨rfl, rfl⟩ | ⟨ha, hx⟩ <;> rcases sp b y hy with ⟨rfl, rfl⟩ | ⟨hb, hy⟩
    · rfl
    · exact absurd (h.dis b a y v k hy hi hk' ((hv'g k hk).2.2 (hold b y hy k hk'))) hb
    · exact absurd (h.dis a b x v k ‹vs[a]? = some x› hi hk ((hv'g k hk').2.2 (hold a x ‹vs[a]? = some x› k hk))) ha
    · exact h.dis a b x y k hx hy hk hk'
  · rcases List.mem_or_eq_of_mem_set hy with hy | rfl
    · exact h.full y hy
    · exact hl'
end
/-- a disk without faults, its power on; and what may stand in each block -/
structure Tm (W u : World) (d p n : Nat) (D : Dk) (c : Nat) (O M : Nat → Prop) (mv : Value) (vs : List Value) (L : List (List Byts)) : Prop where
  sd : Sd u d p n D Pwr.on O
  oge : ∀ k, O k → W.heap.size ≤ k
  pge : W.heap.size ≤ p
  dis : ∀ k, M k → ¬ O k ∧ k ≠ p ∧ W.heap.size ≤ k
  ch : Ch Nw W u
  my : My u mv vs L M
  ql : Ql D c
section
variable {W u u' : World} {d p n c : Nat} {D : Dk} {O M : Nat → Prop} {mv : Value} {vs : List Value} {L : List (List Byts)}
theorem Tm.stay (h : Tm W u d p n D c O M mv vs L) (hc : Ch Nw u u') : Tm W u' d p n D c O M mv vs L := ⟨h.sd.ch hc (fun _ _ e => e) id, h.oge, h.pge, h.dis, h.ch.trans hc, h.my.ch hc fun _ _ e => e, h.ql⟩
theorem Tm.disk (h : Tm W u d p n D c O M mv vs L) {D' : Dk} {c' : Nat} (h1 : Sd u' d p n D' Pwr.on (Gr O u u')) (hc : Ch (fun k => O k ∨ k = p) u u') (hq : Ql D' c') : Tm W u' d p n D' c' (Gr O u u') M mv vs L := by
  have hs := h.ch.size
  refine ⟨h1, fun k hk => hk.elim (h.oge k) fun e => Nat.le_trans hs e.1, h.pge, fun k hk => ?_, h.ch.trans' hc fun k hk e => ?_, h.my.ch hc fun k hk e => ?_, hq⟩
  · obtain ⟨a, b, c⟩ := h.dis k hk
    have := h.my.lt k hk
    exact ⟨fun e => e.elim a fun e => by omega, b, c⟩
  · rcases e with e | e
    · have := h.oge k e; omega
    · have := h.pge; omega
  · obtain ⟨a, b, _⟩ := h.dis k hk
    exact e.elim a b
theorem Tm.mays (h : Tm W u d p n D c O M mv vs L) {mv' : Value} {vs' : List Value} {L' : List (List Byts)} (hm : My u' mv' vs' L' (Gr M u u')) (hc : Ch M u u') : Tm W u' d p n D c O (Gr M u u') mv' vs' L' := by
  have hs := h.ch.size
  refine ⟨h.sd.ch hc (fun k hk e => (h.dis k e).1 hk) fun e => (h.dis p e).2.1 rfl, h.oge, h.pge, fun k hk => ?_, h.ch.trans' hc fun k hk e => ?_, hm, h.ql⟩
  · rcases hk with hk | hk
    · exact h.dis k hk
    · have h1 := h.sd.plt
      exact ⟨fun e => by have := h.sd.olt k e; omega, by omega, by omega⟩
  · have := (h.dis k e).2.2
    omega
end
end Go.Proofs.Ytmhnlgndgdmebaa
