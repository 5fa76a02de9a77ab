/- A hash: Write, as a contract on the call. Conditions: the variable sha.constants holds what the text lays; sizes. -/
import Derived.Test.YtppilgkgnofkpaaDoorShaD
set_option linter.unusedSimpArgs false
set_option linter.unusedVariables false

namespace Go.Proofs.YtppilgkgnofkpaaDoor
open Go.RowKit Go.Kin

theorem write_any (g : Nat) (m : List UInt8) (v : Value) (b : List UInt8) (w : World) (hH : Hsh w g m) (hs : Sl w v b.length (bvs b)) (hv : v.ownBlock ≠ some g) (hlen : m.length + b.length ≤ 1000000) (hk : Lk w) (hgk : g ≠ 2) :
    Ret Tryd.prog 87 #[.pointer (some ⟨g, 0, none⟩), v] w fun v' w' => v' = .tuple #[] ∧ Hsh w' g (m ++ b) ∧ Ch (only g) w w' := by
  obtain ⟨s, v0, on, hb, hs0, hv0, hst, oks⟩ := hH
  refine v_enter Tryd.func87 Tryd.ntmps87 rfl (by simp) fun R' hR => ?_
  have hgl := lt_of_block hb
  have e := fun i => cell_blk hb i
  have z := fun i => frz_blk hb i
  have hlb := hs.len Tryd.underlying29 3
  have u1 : IntKind.u64.wrap (b.length : Int) = b.length := by rw [IntKind.wrap_u64]; omega
  have u2 : IntKind.u64.wrap ((m.length : Int) + b.length) = ((m.length + b.length : Nat) : Int) := by rw [IntKind.wrap_u64]; omega
  simp [go_sem, e, z, hcs, hlb, u1]
  rw [u2]
  generalize hN : m.length + b.length = N at *
  have hb1 : (w.setCell ⟨g, 9, none⟩ (.int .u64 N)).heap[g]? = some (.cells (hcs s v0 N on) 196 (0, 0)) := by
    rw [hp_setCell, hb, setOf_cells]
    simp [hcs]
  have c1 := (Ch.refl (only g) w).setCell (p := ⟨g, 9, none⟩) (.inl rfl) (.int .u64 N)
  have nog : ∀ {v : Value}, v.ownBlock ≠ some g → ∀ k, v.ownBlock = some k → ¬ only g k := fun h k hk e => h (by rw [hk, e])
  have hs1 := hs.ch c1 (nog hv)
  have hs01 := hs0.ch c1 (nog hv0)
  revert hb1 c1 hs1 hs01
  generalize w.setCell ⟨g, 9, none⟩ (.int .u64 N) = w1
  intro hb1 c1 hs1 hs01
  have e1 := fun i => cell_blk hb1 i
  have hrl := absorb_rest_lt m.length first m (Nat.le_refl _)
  generalize hrest : (absorb first m).2 = rest at *
  have hl0 := hs01.len Tryd.underlying29 3
  obtain ⟨A, hsA, hoA, hrA⟩ := hs01.cutFull tyB
  refine v_draw' [(0, none), (1, none), (2, none), (3, none), (4, none), (5, none), (6, none), (7, none), (8, none), (9, none), (10, none), (11, none), (12, none), (13, none), (14, none), (15, none), (16, some []), (17, none)] (by kernel_rfl) (by kernel_rfl) ?_
  simp [go_sem, e1, hcs, hl0, hrA]
  refine VB_full tyB (hsA.drew) (bvs_length _) (hs1.drew) (bvs_length _) (bvs_one _) (by unfold maxLen; omega) (by omega) fun v4 w2 k1 k2 k3 => ?_
  have k2 := (Ch.refl Nw w1).drew.trans k2
  have hb2 := k2.hp hb1 id
  have hv4 : v4.ownBlock ≠ some g := by
    rcases k3 with k3 | k3
    · rw [k3, hoA]; exact hv0
    · intro h
      have := k3 g h
      have := c1.size
      simp at *
      omega
  have hle : (rest ++ b).length ≤ 1000000 + 64 := by rw [List.length_append]; omega
  have hsL : Sl w2 v4 (rest ++ b).length (bvs (rest ++ b)) := by rw [bvs_append, List.length_append]; exact k1
  have hab : absorb first (m ++ b) = absorb (if on = true then s else first) (rest ++ b) := by
    rw [absorb_app m.length first m b (Nat.le_refl _), hst, hrest]
  simp [go_sem]
  refine v_loop (fun r f wr => ∃ (l : List UInt8) (s' : St) (on' : Bool), r = l.length ∧ l.length ≤ 1000064 ∧ f 0 = .pointer (some ⟨g, 0, none⟩) ∧ Sl wr (f 4) l.length (bvs l) ∧ (f 4).ownBlock ≠ some g ∧ wr.heap[g]? = some (.cells (hcs s' v0 N on') 196 (0, 0)) ∧ StOk s' ∧
    absorb first (m ++ b) = absorb (if on' = true then s' else first) l ∧ Ch (only g) w wr) (rest ++ b).length
    ⟨rest ++ b, s, on, rfl, hle, by simp, by simpa using hsL, by simpa using hv4, hb2, oks, hab, c1.trans (k2.mono fun _ _ e => e.elim)⟩ ?_
  rintro J hJ _ f wr ⟨l, s', on', rfl, hll, f0, hs4, ho4, hbg, ok', hab', hc⟩
  have hlen4 := hs4.len Tryd.underlying29 3
  by_cases h64 : 64 ≤ l.length
  · have h64' : (64 : Int) ≤ l.length := by omega
    obtain ⟨v5, hs5, ho5, _, hr5, _⟩ := hs4.cut tyB (bvs_length l) 0 64 (by omega) h64
    replace hr5 : ∀ w', (Instr.sliceAt 29 (f 4) none (some (.int .i64 64)) none).run Tryd.prog w' = .ok v5 w' := hr5 rfl
    obtain ⟨v6, hs6, ho6, _, _, hr6⟩ := hs4.cut tyB (bvs_length l) 64 l.length h64 (Nat.le_refl _)
    replace hr6 : ∀ w', (Instr.sliceAt 29 (f 4) (some (.int .i64 64)) none none).run Tryd.prog w' = .ok v6 w' := hr6 rfl
    have hs5 : Sl wr v5 64 (bvs (l.take 64)) := by
      rw [bvs, List.map_take]
      simpa [bvs] using hs5
    have hs6 : Sl wr v6 (l.drop 64).length (bvs (l.drop 64)) := by
      rw [List.length_drop, bvs, List.map_drop]
      have h := hs6
      rw [show l.length = (bvs l).length from (bvs_length l).symm, List.take_length] at h
      simpa [bvs] using h
    have hl64 : (l.take 64).length = 64 := by rw [List.length_take]; omega
    simp [go_sem, hlen4, h64']
    refine v_draw' [(0, none), (1, none), (2, none), (4, none), (5, none), (3, some [0, 1, 4, 5]), (6, some [0, 1]), (7, none), (8, none), (9, some [1]), (10, none), (11, none), (12, some [])] (by kernel_rfl) (by kernel_rfl) ?_
    simp [go_sem, f0, hr5]
    refine (now_any g s' v0 N on' wr.drew hbg).mono ?_
    rintro _ w3 ⟨rfl, c3⟩
    have c3 := (Ch.refl Nw wr).drew.trans c3
    have okn : StOk (if on' = true then s' else first) := by cases on' <;> simp [first_ok, ok']
    generalize hS : (if on' = true then s' else first) = S at *
    simp [go_sem, f0, hr5]
    refine (shatake_any S v5 (l.take 64) w3 okn hl64 (hs5.ch c3 fun _ _ e => e) (hk.ch (hc.trans (c3.mono fun _ _ e => e.elim)) (by simp only [only]; exact fun e => hgk e.symm))).mono ?_
    rintro _ w4 ⟨rfl, c4⟩
    have c34 := c3.trans c4
    have hb4 := c34.hp hbg id
    have okt := takeS_ok S (l.take 64)
    have habt : absorb first (m ++ b) = absorb (takeS S (l.take 64)) (l.drop 64) := by rw [hab', absorb_step h64]
    generalize ht : takeS S (l.take 64) = t at *
    have hb5 := st8_hcs (s' := t) hb4
    have cS := st8_ch (s := t) (g := g) (Ch.refl (only g) w4) (.inl rfl)
    have hb6 : ((st8 w4 g t).setCell ⟨g, 10, none⟩ (.bool true)).heap[g]? = some (.cells (hcs t v0 N true) 196 (0, 0)) := by
      rw [hp_setCell, hb5, setOf_cells]
      simp [hcs]
    have cS := cS.setCell (p := ⟨g, 10, none⟩) (.inl rfl) (.bool true)
    have e4 := fun i => cell_blk hb4 i
    have z4 := fun i => frz_blk hb4 i
    simp [go_sem, f0, stv, e4, z4, hcs, hr6]
    have hv6 : v6.ownBlock ≠ some g := by rw [ho6]; exact ho4
    refine Rnd.intro (l.drop 64).length (by rw [List.length_drop]; omega) (hJ _ _ ((st8 w4 g t).setCell ⟨g, 10, none⟩ (.bool true)) ⟨l.drop 64, t, true, rfl, by rw [List.length_drop]; omega, by simp [f0], ?_, by simpa using hv6, hb6, okt, habt, (hc.trans (c34.mono fun _ _ e => e.elim)).trans cS⟩)
    have := (hs6.ch c34 fun _ _ e => e).ch cS (nog hv6)
    simpa using this
  · have h64' : ¬ (64 : Int) ≤ l.length := by omega
    simp [go_sem, hlen4, h64', f0]
    refine VB_appn tyB (World.ownsRow_nil wr 0 5 1) hs4 (bvs_length _) (bvs_one _) (by unfold maxLen; omega) (by omega) fun v7 w7 d4 d5 d6 => ?_
    have c7 : Ch Nw wr w7 := d5.mono fun k _ e => by simp [Value.ownBlock] at e
    have hb7 := c7.hp hbg id
    have hv7 : v7.ownBlock ≠ some g := by
      rcases d6 with d6 | d6
      · rw [d6]; simp [Value.ownBlock]
      · intro h
        have h1 := d6 g h
        have h2 := hc.size
        omega
    have hs7 := Sl.of_own d4
    obtain ⟨A7, n7, C7, rfl⟩ : ∃ A m c, v7 = .slice A m c := by
      obtain ⟨A, c, h, _⟩ := id hs7
      exact ⟨A, _, c, h⟩
    have e7 := fun i => cell_blk hb7 i
    have z7 := fun i => frz_blk hb7 i
    have habl : absorb first (m ++ b) = ((if on' = true then s' else first), l) := by rw [hab', absorb_end (by omega)]
    have cS := (Ch.refl (only g) w7).setCell (p := ⟨g, 8, none⟩) (.inl rfl) (.slice A7 n7 C7)
    have hs8 := hs7.ch cS (nog hv7)
    simp [go_sem, f0, e7, z7, hcs]
    refine hR _ _ ⟨rfl, ⟨s', .slice A7 n7 C7, on', ?_, ?_, hv7, by rw [habl], ok'⟩, (hc.trans (c7.mono fun _ _ e => e.elim)).trans cS⟩
    · rw [hp_setCell, hb7, setOf_cells, List.length_append, hN]
      simp [hcs]
    · rw [habl]
      simpa using hs8
end Go.Proofs.YtppilgkgnofkpaaDoor
