/- The document's Reader of wire, by value (Raw, Num, Noughts, End), as contracts on calls. No condition but on sizes. -/
import Derived.Test.YtfcoiboeohgimaaDoorWireE
namespace Go.Proofs.YtfcoiboeohgimaaDoor
open Go.RowKit Go.Kin

/-- value v is a reader of the document's: l is left, e its error; its bytes lie where b's lie, or nowhere -/
def RefR (w : World) (v : Value) (l : List UInt8) (e : Int) (own : Option Nat) : Prop :=
  ∃ s, v = .agg #[s, .int .i64 e] ∧ Sl w s l.length (bvs l) ∧ (s.ownBlock = own ∨ s.ownBlock = none)

theorem refRaw (v : Value) (l : List UInt8) (e n : Int) (own : Option Nat) (w : World) (hl : l.length ≤ 1000000000) (hn : n ≤ 9223372036854775807) (h : RefR w v l e own) :
    Ret Tryd.prog 53 #[v, .int .i64 n] w fun v' w' => ∃ s r, v' = .tuple #[s, r] ∧ Sl w' s (rawS l e n.toNat).1.length (bvs (rawS l e n.toNat).1) ∧
      (s.ownBlock = own ∨ s.ownBlock = none) ∧ RefR w' r (rawS l e n.toNat).2.1 (rawS l e n.toNat).2.2 own ∧ Ch Nw w w' := by
  obtain ⟨s, rfl, hs, ho⟩ := h
  obtain ⟨A, c, rfl, _⟩ := id hs
  have hlen := hs.len Tryd.underlying30 3
  have nn : ∀ k, (Value.slice A l.length c).ownBlock = some k → ¬ Nw k := fun _ _ e => e
  refine v_enter Tryd.func53 Tryd.ntmps53 rfl (by simp) fun R' hR => ?_
  by_cases he : e = 0
  · subst he
    have fin : ∀ (m : Nat) (v1 v2 : Value) (w' : World), m ≤ l.length → n.toNat = m → Sl w v1 m ((bvs l).take m) → v1.ownBlock = (Value.slice A l.length c).ownBlock → Sl w v2 (l.length - m) ((bvs l).drop m) → v2.ownBlock = (Value.slice A l.length c).ownBlock → Ch Nw w w' →
        R' (.tuple #[v1, .agg #[v2, .int .i64 0]]) w' := by
      intro m v1 v2 w' hm hnm s1 o1 s2 o2 hc
      have e1 : rawS l 0 m = (l.take m, l.drop m, 0) := by simp [rawS, Nat.not_lt.2 hm]
      rw [hnm, e1] at hR
      refine hR _ _ ⟨v1, _, rfl, ?_, by rw [o1]; exact ho, ⟨v2, rfl, ?_, by rw [o2]; exact ho⟩, hc⟩
      · simpa [bvs, List.map_take, Nat.min_eq_left hm] using s1.ch hc (fun _ _ e => e)
      · simpa [bvs, List.map_drop] using s2.ch hc (fun _ _ e => e)
    rcases Int.lt_or_le n 0 with hneg | hpos
    · have hl0 : ¬ (l.length : Int) < 0 := by omega
      obtain ⟨v1, hs1, ho1, _, hr1, _⟩ := hs.cut tyB (bvs_length l) 0 0 (by omega) (by omega)
      have hr1 := hr1 rfl
      obtain ⟨v2, hs2, ho2, _, _, hr2⟩ := hs.cut tyB (bvs_length l) 0 l.length (by omega) (Nat.le_refl _)
      have hr2 := hr2 rfl
      simp at hr1 hr2
      obtain ⟨A2, c2, rfl, _⟩ := id hs2
      obtain ⟨A1, c1, rfl, _⟩ := id hs1
      simp [go_sem, hneg, hlen, hl0]
      refine v_draw' [(0, none), (1, none), (2, none), (3, none), (4, none), (5, none), (6, none), (7, none), (8, none), (9, none), (10, some [])] (by kernel_rfl) (by kernel_rfl) ?_
      simp [go_sem, hr1, hr2]
      exact fin 0 _ _ _ (by omega) (by omega) (by simpa using hs1) ho1 (by simpa [← bvs_length l] using hs2) ho2 ((((Ch.refl Nw w).alloc _).alloc _).drew)
    · have hneg : ¬ n < 0 := by omega
      simp [go_sem, hneg, hlen]
      refine VIf_dec (fun hlt => ?_) (fun hge => ?_)
      · simp [go_sem, hlt]
        have e1 : rawS l 0 n.toNat = ([], [], 4) := by simp [rawS]; omega
        rw [e1] at hR
        exact hR _ _ ⟨_, _, rfl, Sl.nil _, .inr rfl, ⟨_, rfl, Sl.nil _, .inr rfl⟩, ((Ch.refl Nw w).alloc _).alloc _⟩
      · obtain ⟨m, rfl⟩ := Int.eq_ofNat_of_zero_le hpos
        obtain ⟨v1, hs1, ho1, _, hr1, _⟩ := hs.cut tyB (bvs_length l) 0 m (by omega) (by omega)
        have hr1 := hr1 rfl
        obtain ⟨A1, c1, rfl, _⟩ := id hs1
        obtain ⟨v2, hs2, ho2, _, _, hr2⟩ := hs.cut tyB (bvs_length l) m l.length (by omega) (Nat.le_refl _)
        have hr2 := hr2 rfl
        obtain ⟨A2, c2, rfl, _⟩ := id hs2
        simp [go_sem, hge]
        refine v_draw' [(0, none), (1, none), (2, none), (3, none), (4, none), (5, none), (6, none), (7, none), (8, none), (9, none), (10, some [])] (by kernel_rfl) (by kernel_rfl) ?_
        simp [go_sem, hr1, hr2]
        exact fin m _ _ _ (by omega) (by omega) (by simpa using hs1) ho1 (by simpa [← bvs_length l] using hs2) ho2 ((((Ch.refl Nw w).alloc _).alloc _).drew)
  · have he' : (e != 0) = true := by simpa using he
    simp [go_sem, he']
    refine v_draw' [(0, none), (1, none), (2, some [])] (by kernel_rfl) (by kernel_rfl) ?_
    simp [go_sem]
    have e1 : rawS l e n.toNat = ([], l, e) := by simp [rawS, he]
    rw [e1] at hR
    have hc := (((Ch.refl Nw w).alloc (.cells #[.slice A l.length c, .int .i64 e] 43)).alloc (.cells #[.slice A l.length c, .int .i64 e] 43)).drew
    exact hR _ _ ⟨_, _, rfl, Sl.nil _, .inr rfl, ⟨_, rfl, hs.ch hc fun _ _ e => e, ho⟩, hc⟩

abbrev rdrT : Nat := 43
theorem chBlk {S : Nat → Prop} {w w1 : World} {o : Obj} (hc : Ch S (w.alloc o) w1) (hn : ¬ S w.heap.size) : w1.heap[w.heap.size]? = some o := hc.obj (heap_alloc_new w o) hn

theorem chTwo (w : World) (g : Nat) (u v : Value) : Ch (only g) w ((w.setCell ⟨g, 0, none⟩ u).setCell ⟨g, 1, none⟩ v) :=
  ((Ch.refl (only g) w).setCell (p := ⟨g, 0, none⟩) (.inl rfl) u).setCell (p := ⟨g, 1, none⟩) (.inl rfl) v
theorem lt_own {own o : Option Nat} {B : Nat} (hown : ∀ k, own = some k → k < B) (h : o = own ∨ o = none) (g : Nat) (hg : B ≤ g) : ∀ k, o = some k → ¬ only g k := by
  rintro k hk rfl
  rcases h with h | h
  · have := hown k (by rw [← h, hk]); omega
  · rw [h] at hk; cases hk

theorem refNumM (v : Value) (l : List UInt8) (e : Int) (wide : Nat) (own : Option Nat) (w : World) (hl : l.length ≤ 1000000000) (hw : wide ≤ 8) (h : RefR w v l e own) (hown : ∀ k, own = some k → k < w.heap.size) :
    Ret Tryd.prog 54 #[v, .int .i64 wide] w fun v' w' => ∃ r, v' = .tuple #[.int .u64 (fromLe (rawS l e wide).1), r] ∧
      RefR w' r (rawS l e wide).2.1 (rawS l e wide).2.2 own ∧ Ch Nw w w' := by
  obtain ⟨s, rfl, hs, ho⟩ := h
  obtain ⟨A, c, rfl, _⟩ := id hs
  have hF := refRaw _ l e wide own _ hl (by omega) ⟨_, rfl, hs.ch (((Ch.refl Nw w).alloc (.cells #[.slice A l.length c, .int .i64 e] rdrT)).alloc (.cells #[.slice none 0 0, .int .i64 0] rdrT)) (fun _ _ e => e), ho⟩
  have hrw := rawS_le l e wide
  simp only [Int.toNat_natCast] at hF
  obtain ⟨r, l2, e2, hq⟩ : ∃ r l2 e2, rawS l e wide = (r, l2, e2) := ⟨_, _, _, rfl⟩
  rw [hq] at hF hrw ⊢
  simp only at hF hrw ⊢
  refine v_enter Tryd.func54 Tryd.ntmps54 rfl (by simp) fun R' hR => ?_
  simp [go_sem]
  refine hF.mono ?_
  rintro v1 w1 ⟨s1, r1, rfl, hs1, ho1, ⟨s2, rfl, hs2, ho2⟩, hc1⟩
  have hz := hc1.size
  have hcN := (((Ch.refl Nw w).alloc (.cells #[.slice A l.length c, .int .i64 e] rdrT)).alloc (.cells #[.slice none 0 0, .int .i64 0] rdrT)).trans hc1
  have hob : w1.heap[w.heap.size + 1]? = some (.cells #[.slice none 0 0, .int .i64 0] rdrT (0, 0)) := by simpa using chBlk hc1 (fun e => e)
  obtain ⟨A2, c2, rfl, _⟩ := id hs2
  have hs1' := hs1.alloc (.cells #[.slice A2 l2.length c2, .int .i64 e2] rdrT)
  have hs2' := hs2.alloc (.cells #[.slice A2 l2.length c2, .int .i64 e2] rdrT)
  have hc2 := (Ch.refl Nw w1).alloc (.cells #[.slice A2 l2.length c2, .int .i64 e2] rdrT)
  have hob' := hc2.obj hob (fun e => e)
  have hnb := heap_alloc_new w1 (.cells #[.slice A2 l2.length c2, .int .i64 e2] rdrT)
  have hlen := hs1'.len Tryd.underlying30 3
  simp [go_sem, hlen]
  generalize hw2 : w1.alloc (.cells #[.slice A2 l2.length c2, .int .i64 e2] rdrT) = w2
  rw [hw2] at hs1' hs2' hc2 hob' hnb
  obtain ⟨p0, p1, p2, p3⟩ := blk_cells hob'
  obtain ⟨q0, q1, q2, q3⟩ := blk_cells hnb
  refine v_loop (fun q f wr => ∃ k : Nat, k ≤ r.length ∧ q = k + 1 ∧ f 5 = .pointer (some ⟨w.heap.size + 1, 0, none⟩) ∧ f 7 = .pointer (some ⟨w1.heap.size, 0, none⟩) ∧ f 6 = s1 ∧ f 9 = .int .i64 ((k : Int) - 1) ∧ f 8 = .int .u64 (fromLe (r.drop k)) ∧ wr = w2) (r.length + 1)
    ⟨r.length, Nat.le_refl _, rfl, by simp, by simp, by simp, by simp [IntKind.wrap_i64]; omega, by simp [fromLe], rfl⟩ ?_
  rintro J hJ _ f _ ⟨k, hk, rfl, h5, h7, h6, h9, h8, rfl⟩
  simp [go_sem, h9]
  refine VIf_dec (fun hge => ?_) (fun hlt => ?_)
  · obtain ⟨k, rfl⟩ : ∃ k', k = k' + 1 := ⟨k - 1, by omega⟩
    have hkl : k < r.length := by omega
    obtain ⟨a, ha, hc, _⟩ := hs1'.at tyB (bvs_length r) (i := k) (u := bv (r[k]'hkl)) (by simp [bvs, hkl])
    unfold bv at hc
    have hdr : r.drop k = r[k]'hkl :: r.drop (k + 1) := List.drop_eq_getElem_cons hkl
    have hlt := fromLe_lt (r.drop k)
    have hlen2 : (r.drop k).length ≤ 8 := by simp; omega
    have hp : 256 ^ (r.drop k).length ≤ 256 ^ 8 := Nat.pow_le_pow_right (by omega) hlen2
    rw [hdr] at hlt hp
    rw [show (256:Nat) ^ 8 = 18446744073709551616 by decide] at hp
    have hnw := Nat.lt_of_lt_of_le hlt hp
    simp only [fromLe] at hnw
    have hc8 := (r[k]'hkl).toNat_lt
    have hi : (((k + 1 : Nat) : Int) - 1) = (k : Int) := by omega
    simp [go_sem, h6, h8, h9, ha, hc]
    refine Rnd.intro (k + 1) (by omega) (hJ _ _ _ ⟨k, by omega, rfl, by simpa using h5, by simpa using h7, by simpa using h6, by simp [IntKind.wrap_i64]; omega, ?_, rfl⟩)
    rw [hdr, fromLe]
    simp [IntKind.wrap_u64]
    omega
  · obtain rfl : k = 0 := by omega
    simp [go_sem]
    refine v_draw' [(0, none), (1, none), (2, none), (3, some [])] (by kernel_rfl) (by kernel_rfl) ?_
    simp [go_sem, h5, h7, h8, p0, p1, p2, p3, q0, q1]
    refine hR _ _ ⟨_, rfl, ⟨_, rfl, hs2'.ch (chTwo _ (w.heap.size + 1) _ _).drew (lt_own hown ho2 _ (by omega)), ho2⟩, ((((hcN.trans hc2).setCell (.inr (by simp)) _).setCell (.inr (by simp)) _).drew)⟩

/-- what the document's Noughts answers -/
def noughtR (l : List UInt8) (e : Int) (n : Nat) : List UInt8 × Int :=
  if (rawS l e n).1.all (· == 0) then (rawS l e n).2 else ([], 5)

theorem refEnd (v : Value) (l : List UInt8) (e : Int) (own : Option Nat) (w : World) (h : RefR w v l e own) :
    Ret Tryd.prog 21 #[v] w fun v' w' => RefR w' v' (if e = 0 ∧ 0 < l.length then [] else l) (if e = 0 ∧ 0 < l.length then 5 else e) own ∧ Ch Nw w w' := by
  obtain ⟨s, rfl, hs, ho⟩ := h
  obtain ⟨A, c, rfl, _⟩ := id hs
  have hlen := hs.len Tryd.underlying30 3
  refine v_enter Tryd.func21 Tryd.ntmps21 rfl (by simp) fun R' hR => ?_
  by_cases he : e = 0
  · subst he
    simp [go_sem, hlen]
    refine VIf_dec (fun hlt => ?_) (fun hge => ?_)
    · simp [go_sem]
      simp only [hlt, and_self, if_true] at hR
      exact hR _ _ ⟨⟨_, rfl, Sl.nil _, .inr rfl⟩, ((Ch.refl Nw w).alloc _).alloc _⟩
    · simp [go_sem]
      simp only [hge, and_false, if_false] at hR
      have hc := (((Ch.refl Nw w).alloc (.cells #[.slice A l.length c, .int .i64 0] rdrT)).alloc (.cells #[.slice A l.length c, .int .i64 0] rdrT))
      exact hR _ _ ⟨⟨_, rfl, hs.ch hc fun _ _ e => e, ho⟩, hc⟩
  · have he' : (e == 0) = false := by simpa using he
    simp [go_sem, he']
    simp only [he, false_and, if_false] at hR
    have hc := (((Ch.refl Nw w).alloc (.cells #[.slice A l.length c, .int .i64 e] rdrT)).alloc (.cells #[.slice A l.length c, .int .i64 e] rdrT))
    exact hR _ _ ⟨⟨_, rfl, hs.ch hc fun _ _ e => e, ho⟩, hc⟩
end Go.Proofs.YtfcoiboeohgimaaDoor
