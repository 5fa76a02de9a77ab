/- The document's disk: Crash, Write, Fault. No condition but on sizes. -/
import Derived.Test.YtmhnlgndgdmebaaRkE
namespace Go.Proofs.Ytmhnlgndgdmebaa
open Go.RowKit Go.Kin

section
variable {w w' : World} {r q n : Nat} {D : Dk} {P : Pwr} {O S : Nat → Prop}
theorem Rd.crash (h : Rd w r q n D P O) (ps : List Int) (v : Value) (hcl : D.cache.length ≤ 1000000) (hps : ps.length ≤ 1000000) (hpr : ∀ x ∈ ps, -9223372036854775808 ≤ x ∧ x ≤ 9223372036854775807) (hv : Sl w v ps.length (ps.map (Value.int .i64))) (hvO : 0 < ps.length → ∀ k, v.ownBlock = some k → ¬ O k ∧ k < w.heap.size) :
    Ret Try.prog 69 #[.pointer (some ⟨r, 0, none⟩), v] w fun v' w' => v' = .tuple #[] ∧ Rd w' r q n (D.crash ps) P (Gr O w w') ∧ Ch O w w' := by
  obtain ⟨z, lm, lb, ls, h0⟩ := h.dk
  refine v_enter Try.func69 Try.ntmps69 rfl (by simp) fun R' hR => ?_
  have c6 : w.cell? ⟨r, 6, none⟩ = some (.bool D.dead) := cell_blk h0.blk 6
  cases hd : D.dead with
  | true =>
    rw [hd] at c6
    simp [go_sem, c6]
    exact hR _ _ ⟨rfl, by simpa [Dk.crash, hd] using (⟨h.dk.grow, h.pw, h.gr⟩ : Rd w r q n D P (Gr O w w)), Ch.refl _ _⟩
  | false =>
    rw [hd] at c6
    have hlv := hv.len Try.underlying54 3
    simp [go_sem, c6]
    obtain ⟨m, hm⟩ : ∃ m, min ps.length D.cache.length = m := ⟨_, rfl⟩
    refine v_loop (fun t f u => ∃ i, t = m - i ∧ i ≤ m ∧ f 0 = .pointer (some ⟨r, 0, none⟩) ∧ f 1 = v ∧ f 4 = .int .i64 i ∧ RkAt u r q n (pk D ps i) (Gr O w u) ∧ Ch O w u) m
      ⟨0, rfl, by omega, by simp, by simp, by simp, h.dk.grow, Ch.refl _ _⟩ ?_
    rintro J hJ _ f u ⟨i, rfl, hi, f0, f1, f4, hrk, cu⟩
    obtain ⟨z2, lm2, lb2, ls2, h2⟩ := hrk
    have c3 : u.cell? ⟨r, 3, none⟩ = some z2.cv := cell_blk h2.blk 3
    have hcrow := h2.cache
    rw [pk_cache] at hcrow
    have hlen := own_len hcrow Try.underlying85 3
    obtain ⟨Ac', cc, hcv⟩ := hcrow.lit
    rw [hcv] at c3 hcrow hlen
    by_cases hlt : i < m
    · have hic : i < D.cache.length := by omega
      have hip : i < ps.length := by omega
      have hici : (i : Int) < D.cache.length := by omega
      have hipi : (i : Int) < ps.length := by omega
      have hwi : IntKind.i64.wrap ((i : Int) + 1) = ((i + 1 : Nat) : Int) := by rw [IntKind.wrap_i64]; omega
      obtain ⟨e, he⟩ : ∃ e, D.cache[i]? = some e := ⟨_, List.getElem?_eq_getElem hic⟩
      obtain ⟨g, cap, hg, hc0, hc1⟩ := hcrow.at he
      cases hg
      obtain ⟨a, b⟩ := e
      obtain ⟨hb, ha⟩ := h0.ok.cache (a, b) (List.mem_of_getElem? he)
      obtain ⟨k, hk⟩ : ∃ k, ps[i]? = some k := ⟨_, List.getElem?_eq_getElem hip⟩
      obtain ⟨hk1, hk2⟩ := hpr k (List.mem_of_getElem? hk)
      have htk : pk D ps (i + 1) = pick1 (pk D ps i) (a, b) k := pk_succ he hk
      have hvu := hv.ch cu fun j hj => (hvO (by omega) j hj).1
      obtain ⟨ad, hat, hcl', hadb⟩ := hvu.at tyI (by simp) (show (ps.map (Value.int .i64))[i]? = some (.int .i64 k) by rw [List.getElem?_map, hk]; rfl)
      have hadO : ∀ {u' : World}, Ch O w u' → u'.cell? ad = some (.int .i64 k) := fun {u'} c => by
        obtain ⟨ad2, hat2, hcl2, _⟩ := (hv.ch c fun j hj => (hvO (by omega) j hj).1).at tyI (by simp) (show (ps.map (Value.int .i64))[i]? = some (.int .i64 k) by rw [List.getElem?_map, hk]; rfl)
        have e := (hat w).symm.trans (hat2 w)
        cases e
        exact hcl2
      simp [go_sem, f0, f1, f4, c3, hlv, hici, hipi, hat, hcl']
      by_cases hk1 : k = 1
      · subst hk1
        simp [go_sem, f0, f1, f4, c3, hic, hc0, hc1]
        refine (comes_rk h2 a ha b hb 512 (by omega)).mono ?_
        rintro _ u3 ⟨rfl, k3, c3'⟩
        obtain ⟨k4, c4⟩ := RkAt.comp cu c3' k3
        have hcl3 := hadO c4
        rw [show (pk D ps i).comes (a, b) 512 = pk D ps (i + 1) by rw [htk]; rfl] at k4
        simp [go_sem, f1, f4, hat, hcl3, hwi]
        exact Rnd.intro (m - (i + 1)) (by omega) (hJ _ _ _ ⟨i + 1, rfl, by omega, by simp [f0], by simp [f1], by simp, k4, c4⟩)
      · have hkb : (k == 1) = false := beq_false_of_ne hk1
        by_cases hk2' : 1 < k
        · obtain ⟨t, ht⟩ : ∃ t : Nat, (k - 2) % 512 = t := ⟨((k - 2) % 512).toNat, by omega⟩
          have htm : (k - 2).tmod 512 = (t : Int) := by rw [Int.tmod_eq_emod_of_nonneg (by omega), ht]
          have ht5 : t ≤ 512 := by omega
          have hwk : IntKind.i64.wrap (k - 2) = k - 2 := by rw [IntKind.wrap_i64]; omega
          simp [go_sem, hk1, hkb, f1, f4, hat, hcl', hk2']
          refine v_draw' [(0, none), (1, none), (2, none), (3, none), (4, none), (5, none), (6, none), (7, none), (8, none), (9, none), (10, none), (11, none), (12, none), (13, none), (14, some [])] (by kernel_rfl) (by kernel_rfl) ?_
          simp [go_sem, f0, f1, f4, c3, hic, hc0, hc1, hat, hcl', hwk, htm]
          refine (comes_rk (h2.ch (Ch.refl Nw u).drew fun _ _ e => e) a ha b hb t ht5).mono ?_
          rintro _ u3 ⟨rfl, k3, c3'⟩
          obtain ⟨k4, c4⟩ := RkAt.comp cu (Ch.of_drew c3') k3
          rw [show (pk D ps i).comes (a, b) t = pk D ps (i + 1) by rw [htk]; unfold pick1; rw [if_neg hk1, if_pos hk2', ht]; rfl] at k4
          simp [go_sem, f4, hwi]
          exact Rnd.intro (m - (i + 1)) (by omega) (hJ _ _ _ ⟨i + 1, rfl, by omega, by simp [f0], by simp [f1], by simp, k4, c4⟩)
        · simp [go_sem, hk1, hkb, f1, f4, hat, hcl', hk2', hwi]
          rw [show pk D ps i = pk D ps (i + 1) by rw [htk]; unfold pick1; rw [if_neg hk1, if_neg hk2']] at h2
          exact Rnd.intro (m - (i + 1)) (by omega) (hJ _ _ _ ⟨i + 1, rfl, by omega, by simp [f0], by simp [f1], by simp, h2.at, cu⟩)
    · obtain rfl : i = m := by omega
      obtain ⟨k3, c3'⟩ := h2.setCnil
      obtain ⟨k4, c4⟩ := RkAt.comp cu c3' k3
      obtain ⟨z3, lm3, lb3, ls3, h3⟩ := id k4
      obtain ⟨k5, c5⟩ := h3.setF (i := 7) (b := false) (D' := { dkC (pk D ps i) [] with lose := false }) rfl rfl rfl rfl rfl rfl
      obtain ⟨k6, c6'⟩ := RkAt.comp c4 c5 k5
      obtain ⟨z4, lm4, lb4, ls4, h4⟩ := id k6
      obtain ⟨k7, c7⟩ := h4.setA (a := none) (Ch.refl Nw _) (RowA.nil _) (fun k hk => by simp [Value.ownBlock] at hk)
      obtain ⟨k8, c8⟩ := RkAt.comp c6' c7 k7
      have e : dkA { dkC (pk D ps i) [] with lose := false } none = D.crash ps := by
        unfold Dk.crash
        rw [hd, if_neg (by decide), ← pk_all, hm]
        rfl
      rw [e] at k8
      have fin := hR (.tuple #[]) _ ⟨rfl, ⟨k8, h.pw.ch c8 h.qO, h.gr⟩, c8⟩
      have c3u := fun i => cell_blk h2.blk i
      have f3u := fun i => frz_blk h2.blk i
      have c7u := fun i => cell_blk h3.blk i
      have f7u := fun i => frz_blk h3.blk i
      have c8u := fun i => cell_blk h4.blk i
      have f8u := fun i => frz_blk h4.blk i
      by_cases h1 : (i : Int) < D.cache.length
      · have h2' : ¬ (i : Int) < ps.length := by omega
        simp [go_sem, f0, f1, f4, c3, hlv, h1, h2', c3u, f3u, c7u, f7u, c8u, f8u, rcs]
        exact fin
      · simp [go_sem, f0, f1, f4, c3, hlv, h1, c3u, f3u, c7u, f7u, c8u, f8u, rcs]
        exact fin
end
end Go.Proofs.Ytmhnlgndgdmebaa
