/- WireBack, walked. No condition but on sizes. -/
import Derived.Test.YtbodlpncejhliaaWireD
import Derived.Test.YtbodlpncejhliaaBackL
import Derived.Test.YtbodlpncejhliaaReadsB
namespace Go.Proofs.Ytbodlpncejhliaa
open Go.RowKit Go.Kin

/-- parts: the slice v has n pairs -/
def Parts (w : World) (v : Value) (n : Nat) (D N : Nat → Nat) : Prop :=
  ∃ A c, v = .slice A n c ∧ n ≤ c ∧ c ≤ maxLen ∧ (0 < n → ∃ ad, A = some ad ∧ ∀ j, j < n → w.cell? (ad.add (j * 2)) = some (.int .u8 (D j)) ∧ w.cell? (ad.add (j * 2 + 1)) = some (.int .u64 (N j)) ∧ D j < 256 ∧ N j < 18446744073709551616)
theorem parts_len {w : World} {v : Value} {n : Nat} {D N : Nat → Nat} (h : Parts w v n D N) (w' : World) : (Builtin.len_ #[33] 3 #[v]).run Try.prog w' = .ok (.int .i64 n) w' := by
  obtain ⟨A, c, rfl, h1, h2, h3⟩ := h
  simp [go_sem]
theorem le_mod (n k : Nat) : le (n % 256 ^ k) k = le n k := by
  induction k generalizing n with
  | zero => rfl
  | succ k ih =>
    simp only [le]
    congr 1
    · apply UInt8.toNat_inj.1
      simp only [UInt8.toNat_ofNat']
      rw [Nat.pow_succ, Nat.mul_comm]
      exact Nat.mod_mul_right_mod n 256 (256 ^ k)
    · rw [← ih (n / 256), Nat.pow_succ, Nat.mul_comm, Nat.mod_mul_right_div_self]
theorem add_pos (a : Addr) (n : Nat) (h : n ≠ 0) : a.add n = ⟨a.block, a.off + n, none⟩ := by unfold Addr.add; rw [if_neg h]
theorem tyR : Ty1 Try.prog 38 36 (.pointer none) 8 := ⟨Try.underlying38, by kernel_rfl, rfl⟩
theorem Rdr.apart {w w' : World} {g g' : Nat} {l l' : List UInt8} {e e' : Int} (h : Rdr w g' l' e') (h2 : Rdr w g l e) (hne : g' ≠ g) (hc : Ch (only g) w w') : Rdr w' g' l' e' := by
  obtain ⟨v, h1, ⟨A, c, rfl, _⟩, _⟩ := h2
  exact h.away h1 hne hc
theorem lit3 {w : World} {B T : Nat} {a b c : Value} (h : w.heap[B]? = some (.cells #[a, b, c] T (0, 0))) : Sl w (.slice (some ⟨B, 0, none⟩) 3 3) 3 [a, b, c] := by
  refine ⟨_, 3, rfl, Nat.le_refl _, by unfold maxLen; omega, fun _ => ⟨_, rfl, fun j u hu => ?_⟩⟩
  match j, hu with
  | 0, hu => simpa [World.cell?, Addr.add, h] using hu
  | 1, hu => simpa [World.cell?, Addr.add, h] using hu
  | 2, hu => simpa [World.cell?, Addr.add, h] using hu
  | j + 3, hu => simp at hu
/-- a reader whose blocks lie ahead of B -/
def RdrU (B : Nat) (w : World) (g : Nat) (l : List UInt8) (e : Int) : Prop :=
  g < B ∧ ∃ v, w.heap[g]? = some (.cells #[v, .int .i64 e] 65 (0, 0)) ∧ Sl w v l.length (bvs l) ∧ v.ownBlock ≠ some g ∧ ∀ k, v.ownBlock = some k → k < B
theorem RdrU.rdr {B : Nat} {w : World} {g : Nat} {l : List UInt8} {e : Int} (h : RdrU B w g l e) : Rdr w g l e := by
  obtain ⟨_, v, h1, h2, h3, _⟩ := h
  exact ⟨v, h1, h2, h3⟩
theorem RdrU.ch {B : Nat} {S : Nat → Prop} {w w' : World} {g : Nat} {l : List UInt8} {e : Int} (h : RdrU B w g l e) (hc : Ch S w w') (hS : ∀ k, k < B → ¬ S k) : RdrU B w' g l e := by
  obtain ⟨h0, v, h1, h2, h3, h4⟩ := h
  exact ⟨h0, v, hc.obj h1 (hS g h0), h2.ch hc (fun k hk => hS k (h4 k hk)), h3, h4⟩
theorem RdrU.of {w : World} {g : Nat} {l : List UInt8} {e : Int} (h : Rdr w g l e) (hl : 0 < l.length) : RdrU w.heap.size w g l e := by
  have hlt := h.lt
  obtain ⟨v, h1, h2, h3⟩ := h
  refine ⟨hlt, v, h1, h2, h3, fun k hk => ?_⟩
  obtain ⟨A, c, rfl, _, _, h4⟩ := h2
  obtain ⟨ad, rfl, h5⟩ := h4 (by rw [bvs_length]; exact hl)
  simp only [Value.ownBlock, Option.some.injEq] at hk
  subst hk
  have := h5 0 (bv (l[0]'hl)) (by simp [bvs, hl])
  rw [← block_of_add ad 0]
  cases hg : w.heap[(ad.add 0).block]? with
  | none => simp [World.cell?, hg] at this
  | some o => exact lt_of_block hg
theorem Onto.app {w w1 w2 : World} {v v1 v2 : Value} {n m m2 : Nat} {xs ys zs : List UInt8} (h : Onto w v n xs m ys v1 w1) (h2 : Onto w1 v1 (n + m) (xs ++ ys) m2 zs v2 w2) : Onto w v n xs (m + m2) (ys ++ zs) v2 w2 := by
  obtain ⟨k1, k2, k3⟩ := h
  obtain ⟨j1, j2, j3⟩ := h2
  refine ⟨by rw [← List.append_assoc, ← Nat.add_assoc]; exact j1, k2.trans' j2 (fun j hj e => ?_), ?_⟩
  · rcases k3 with k3 | k3
    · rw [← k3]; exact e
    · have := k3 j e; omega
  · rcases j3 with j3 | j3
    · rcases k3 with k3 | k3
      · exact .inl (j3.trans k3)
      · exact .inr fun j hj => k3 j (by rw [← j3]; exact hj)
    · exact .inr (j3.mono k2.size)
theorem back_any (u : Value) (n : Nat) (D N : Nat → Nat) (w : World) (hn0 : 0 < n) (hn : n ≤ 100) (ha : Parts w u n D N) :
    Ret Try.prog 4 #[u] w fun v' w' => v' = .bool true ∧ Ch Nw w w' := by
  have hlen2 := parts_len ha
  obtain ⟨A, c, rfl, hq1, hq2, hq3⟩ := ha
  obtain ⟨ad, rfl, hq4⟩ := hq3 hn0
  have hn1 : ((n : Int) == 0) = false := by simp; omega
  have hn' : ¬ (100 : Int) < (n : Int) := by omega
  refine v_enter Try.func4 Try.ntmps4 rfl (by simp) fun R' hR => ?_
  simp [go_sem, hlen2, hn1, hn']
  refine v_loop (fun q f wr => ∃ k : Nat, k ≤ n ∧ q = n - k ∧ f 0 = .slice (some ad) n c ∧ f 4 = .int .i64 k ∧ Onto w (.slice none 0 0) 0 [] (enc D N 0 k).length (enc D N 0 k) (f 3) wr) n
    ⟨0, Nat.zero_le _, rfl, by simp, by simp, by simpa [enc] using Onto.refl (World.ownsRow_nil _ _ _ _)⟩ ?_
  rintro J hJ _ f wr ⟨k, hk, rfl, h0, h4, ho⟩
  simp [go_sem, h0, h4, hlen2]
  refine VIf_dec (fun hlt => ?_) (fun hge => ?_)
  · obtain ⟨hd0, hd1, hd2, hd3⟩ := hq4 k hlt
    have hcw : Ch Nw w wr := ho.2.1.mono fun j _ e => by simp [Value.ownBlock] at e
    have hd0 := hcw.cell hd0 (fun e => e)
    have hd1 := hcw.cell hd1 (fun e => e)
    rw [← add_of_add, add_pos _ 1 (by decide)] at hd1
    have hm3 : (D k : Int).tmod 3 = ((D k % 3 : Nat) : Int) := by rw [Int.tmod_eq_emod_of_nonneg (by omega)]; omega
    have hml : D k % 3 < 3 := Nat.mod_lt _ (by omega)
    have hl8 := (enc_len D N 0 k).2
    have step : ∀ (x wide : Nat) (v' : Value) (w' : World), wd (D k) = wide → le x wide = le (N k) wide → Onto wr (f 3) (enc D N 0 k).length (enc D N 0 k) wide (le x wide) v' w' → Onto w (.slice none 0 0) 0 [] (enc D N 0 (k + 1)).length (enc D N 0 (k + 1)) v' w' := by
      intro x wide v' w' e1 e2 h
      have := ho.app (by simpa using h)
      rw [enc_snoc]
      simp only [Nat.zero_add, e1, List.length_append, le_length]
      rw [← e2]
      exact this
    have hrow : wr.ownsRow 0 5 1 (f 3) (enc D N 0 k).length (bvs (enc D N 0 k)) := by simpa using ho.1
    have c16 : IntKind.u16.wrap (N k : Int) = ((N k % 65536 : Nat) : Int) := by rw [IntKind.wrap_u16]; omega
    have c32 : IntKind.u32.wrap (N k : Int) = ((N k % 4294967296 : Nat) : Int) := by rw [IntKind.wrap_u32]; omega
    have r0 : ((D k : Int) % 3 == 0) = decide (D k % 3 = 0) := by rw [Bool.eq_iff_iff]; simp; omega
    have r1 : ((D k : Int) % 3 == 1) = decide (D k % 3 = 1) := by rw [Bool.eq_iff_iff]; simp; omega
    by_cases g0 : D k % 3 = 0
    · simp [go_sem, h0, h4, hd0, hd1, hlt, hm3, g0, c16]
      refine (wu16 (f 3) _ (enc D N 0 k) (N k % 65536) wr (by omega) (by omega) hrow).mono ?_
      intro v' w' h'
      simp [go_sem, h4]
      refine Rnd.intro (n - (k + 1)) (by omega) (hJ _ _ _ ⟨k + 1, by omega, rfl, by simp [h0], by simp [IntKind.wrap_i64]; omega, ?_⟩)
      simpa using step _ 2 _ _ (by simp [wd, g0]) (le_mod (N k) 2) h'
    · by_cases g1 : D k % 3 = 1
      · simp [go_sem, h0, h4, hd0, hd1, hlt, hm3, g1, c32]
        refine (wu32 (f 3) _ (enc D N 0 k) (N k % 4294967296) wr (by omega) (by omega) hrow).mono ?_
        intro v' w' h'
        simp [go_sem, h4]
        refine Rnd.intro (n - (k + 1)) (by omega) (hJ _ _ _ ⟨k + 1, by omega, rfl, by simp [h0], by simp [IntKind.wrap_i64]; omega, ?_⟩)
        simpa using step _ 4 _ _ (by simp [wd, g1]) (le_mod (N k) 4) h'
      · simp [go_sem, h0, h4, hd0, hd1, hlt, hm3, r0, r1, g0, g1]
        refine (wu64 (f 3) _ (enc D N 0 k) (N k) wr (by omega) (by omega) hrow).mono ?_
        intro v' w' h'
        simp [go_sem, h4]
        refine Rnd.intro (n - (k + 1)) (by omega) (hJ _ _ _ ⟨k + 1, by omega, rfl, by simp [h0], by simp [IntKind.wrap_i64]; omega, ?_⟩)
        simpa using step _ 8 _ _ (by simp [wd, g0, g1]) rfl h'
  · obtain rfl : k = n := by omega
    have hrow : wr.ownsRow 0 5 1 (f 3) (enc D N 0 k).length (bvs (enc D N 0 k)) := by simpa using ho.1
    have hf3 : Fresh w.heap.size (f 3) := by
      rcases ho.2.2 with h | h
      · intro j hj; rw [h] at hj; simp [Value.ownBlock] at hj
      · exact h
    have hcw : Ch Nw w wr := ho.2.1.mono fun j _ e => by simp [Value.ownBlock] at e
    obtain ⟨A3, c3, h3, _⟩ := id (Sl.of_own hrow)
    rw [h3] at hrow hf3
    have hlb := (Sl.of_own hrow).len Try.underlying22 3
    have hl2 := (enc_len D N 0 k)
    have hl2' : ¬ ((enc D N 0 k).length : Int) < 2 := by omega
    simp [go_sem, h3, hlb, hl2']
    obtain ⟨v1, hcut, _, _, hcutr, _⟩ := (Sl.of_own hrow).cut tyB (bvs_length _) 0 ((enc D N 0 k).length - 1) (by omega) (by omega)
    have hcutr := hcutr rfl
    rw [show (((enc D N 0 k).length - 1 : Nat) : Int) = ((enc D N 0 k).length : Int) - 1 by omega] at hcutr
    obtain ⟨e, he⟩ : ∃ e, e = enc D N 0 k := ⟨_, rfl⟩
    rw [← he] at hrow hcut hcutr hlb hl2 hl2' h3 ⊢
    have hcut : Sl wr v1 e.dropLast.length (bvs e.dropLast) := by simpa [bvs, List.map_dropLast, List.dropLast_eq_take] using hcut
    have hwl : IntKind.i64.wrap ((e.length : Int) - 1) = (e.length : Int) - 1 := by rw [IntKind.wrap_i64]; omega
    obtain ⟨I, hI⟩ : ∃ I : (Nat → Value) → World → Prop, I = fun f' w' => ∃ gx gy gz : Nat, f' 0 = .slice (some ad) k c ∧ f' 5 = .pointer (some ⟨gx, 0, none⟩) ∧ f' 6 = .pointer (some ⟨gy, 0, none⟩) ∧ f' 7 = .pointer (some ⟨gz, 0, none⟩) ∧ w.heap.size ≤ gx ∧ gx < gy ∧ gy < gz ∧ Rdr w' gx e 0 ∧ Rdr w' gy e.dropLast 0 ∧ Rdr w' gz (e ++ [0]) 0 ∧ Ch Nw w w' := ⟨_, rfl⟩
    refine v_join I
      [[(0, none), (2, none), (3, none), (4, none), (5, none), (6, none), (8, none), (1, some [2, 3, 4, 5, 6, 8]), (7, some [8]), (9, some []), (10, some []), (11, some []), (12, some []), (13, none), (14, none), (15, none)],
       [(0, none), (2, none), (3, none), (4, none), (5, none), (6, none), (8, none), (1, some [2, 3, 4, 5, 6, 8]), (7, some [8]), (10, some [8]), (9, some []), (11, some []), (12, some []), (13, none), (14, none), (15, none)],
       [(0, none), (2, none), (3, none), (4, none), (5, none), (6, none), (8, none), (1, some [2, 3, 4, 5, 6, 8]), (10, some [2, 3, 4, 5, 6, 8]), (7, some [8]), (9, some []), (11, some []), (12, some []), (13, none), (14, none), (15, none)],
       [(0, none), (2, none), (3, none), (4, none), (5, none), (6, none), (8, none), (10, some [0, 2, 3, 4, 5, 6, 8]), (1, some [2, 3, 4, 5, 6, 8]), (7, some [8]), (9, some []), (11, some []), (12, some []), (13, none), (14, none), (15, none)]] (by kernel_rfl) (by kernel_rfl) ?_ ?_
    · intro plan hplan
      simp only [List.mem_cons, List.not_mem_nil, or_false] at hplan
      rcases hplan with rfl | rfl | rfl | rfl
      --ORDERS
      · have hb := (Sl.of_own hrow)
        have hb1 := hcut
        have hc := hcw
        have hcz := hcw.size
        simp [go_sem, hlb, hcutr, h3, hwl]
        refine (new_fresh _ e _ (by first | omega | (simp; omega)) hb.drew).mono ?_
        rintro _ wn0 ⟨gx, rfl, hg0, hF, hcn⟩
        have hcn := hcn.of_drew
        have hg0 : wr.heap.size ≤ gx := hg0
        have hb := hb.ch hcn (fun _ _ e => e)
        have hb1 := hb1.ch hcn (fun _ _ e => e)
        have hz0 := hcn.size
        have hc := hc.trans hcn
        have hx := RdrU.of hF.rdr (by first | omega | (simp; omega; done) | simp)
        have hl0 := hx.1
        simp [go_sem, hlb, hcutr, h3, hwl]
        refine (new_fresh _ e.dropLast _ (by first | omega | (simp; omega)) hb1).mono ?_
        rintro _ wn1 ⟨gy, rfl, hg1, hF, hcn⟩
        have hb := hb.ch hcn (fun _ _ e => e)
        have hb1 := hb1.ch hcn (fun _ _ e => e)
        have hx := hx.ch hcn (fun _ _ e => e)
        have hz1 := hcn.size
        have hc := hc.trans hcn
        have hy := RdrU.of hF.rdr (by first | omega | (simp; omega; done) | simp)
        have hl1 := hy.1
        simp [go_sem, h3]
        refine VB_copyOf tyB hb (bvs_length e) (bvs_one _) (by unfold maxLen; omega) (by omega) fun v4 w4 hcopy hcn hfr => ?_
        have hb := hb.ch hcn (fun _ _ e => e)
        have hb1 := hb1.ch hcn (fun _ _ e => e)
        have hx := hx.ch hcn (fun _ _ e => e)
        have hy := hy.ch hcn (fun _ _ e => e)
        have hz2 := hcn.size
        have hc := hc.trans hcn
        simp [go_sem]
        have hlit := Sl.lit w4 5 [0] 1 rfl (by unfold maxLen; omega)
        rw [show (bvs [0]).toArray = #[Value.int .u8 0] by simp [bvs, bv]] at hlit
        have hcn := (Ch.refl Nw w4).alloc (.cells #[Value.int .u8 0] 5)
        generalize hwa : World.alloc w4 (.cells #[Value.int .u8 0] 5) = wa at hlit hcn ⊢
        clear hwa
        have hb := hb.ch hcn (fun _ _ e => e)
        have hb1 := hb1.ch hcn (fun _ _ e => e)
        have hcopy := own_ch hcopy hcn (fun _ _ e => e)
        have hx := hx.ch hcn (fun _ _ e => e)
        have hy := hy.ch hcn (fun _ _ e => e)
        have hz3 := hcn.size
        have hc := hc.trans hcn
        refine VB_appn tyB hcopy (Sl.of_own hlit) (bvs_length _) (bvs_one _) (by unfold maxLen; omega) (by omega) fun v5 w5 h5 hcn _ => ?_
        have hb5 : Sl w5 v5 (e ++ [0]).length (bvs (e ++ [0])) := by rw [bvs_append]; simpa using Sl.of_own h5
        have hx := hx.ch hcn (fun k hk e => by have := hfr k e; omega)
        have hy := hy.ch hcn (fun k hk e => by have := hfr k e; omega)
        have hc := hc.trans' hcn (fun j hj e => by have := hfr j e; have := hcw.size; omega)
        have hz4 := hcn.size
        simp [go_sem]
        refine (new_fresh v5 (e ++ [0]) _ (by first | omega | (simp; omega)) hb5).mono ?_
        rintro _ wn5 ⟨gz, rfl, hg5, hF, hcn⟩
        have hb5 := hb5.ch hcn (fun _ _ e => e)
        have hx := hx.ch hcn (fun _ _ e => e)
        have hy := hy.ch hcn (fun _ _ e => e)
        have hz5 := hcn.size
        have hc := hc.trans hcn
        have hzz := RdrU.of hF.rdr (by first | omega | (simp; omega; done) | simp)
        have hl5 := hzz.1
        simp [go_sem]
        rw [hI]
        exact ⟨gx, gy, gz, by simp [h0], by simp, by simp, by simp, by omega, by omega, by omega, hx.rdr, hy.rdr, hzz.rdr, hc⟩
      · have hb := (Sl.of_own hrow)
        have hb1 := hcut
        have hc := hcw
        have hcz := hcw.size
        simp [go_sem, hlb, hcutr, h3, hwl]
        refine (new_fresh _ e _ (by first | omega | (simp; omega)) hb.drew).mono ?_
        rintro _ wn0 ⟨gx, rfl, hg0, hF, hcn⟩
        have hcn := hcn.of_drew
        have hg0 : wr.heap.size ≤ gx := hg0
        have hb := hb.ch hcn (fun _ _ e => e)
        have hb1 := hb1.ch hcn (fun _ _ e => e)
        have hz0 := hcn.size
        have hc := hc.trans hcn
        have hx := RdrU.of hF.rdr (by first | omega | (simp; omega; done) | simp)
        have hl0 := hx.1
        simp [go_sem, hlb, hcutr, h3, hwl]
        refine (new_fresh _ e.dropLast _ (by first | omega | (simp; omega)) hb1).mono ?_
        rintro _ wn1 ⟨gy, rfl, hg1, hF, hcn⟩
        have hb := hb.ch hcn (fun _ _ e => e)
        have hb1 := hb1.ch hcn (fun _ _ e => e)
        have hx := hx.ch hcn (fun _ _ e => e)
        have hz1 := hcn.size
        have hc := hc.trans hcn
        have hy := RdrU.of hF.rdr (by first | omega | (simp; omega; done) | simp)
        have hl1 := hy.1
        simp [go_sem, h3]
        have hlit := Sl.lit wn1 5 [0] 1 rfl (by unfold maxLen; omega)
        rw [show (bvs [0]).toArray = #[Value.int .u8 0] by simp [bvs, bv]] at hlit
        have hcn := (Ch.refl Nw wn1).alloc (.cells #[Value.int .u8 0] 5)
        generalize hwa : World.alloc wn1 (.cells #[Value.int .u8 0] 5) = wa at hlit hcn ⊢
        clear hwa
        have hb := hb.ch hcn (fun _ _ e => e)
        have hb1 := hb1.ch hcn (fun _ _ e => e)
        have hx := hx.ch hcn (fun _ _ e => e)
        have hy := hy.ch hcn (fun _ _ e => e)
        have hz2 := hcn.size
        have hc := hc.trans hcn
        refine VB_copyOf tyB hb (bvs_length e) (bvs_one _) (by unfold maxLen; omega) (by omega) fun v4 w4 hcopy hcn hfr => ?_
        have hb := hb.ch hcn (fun _ _ e => e)
        have hb1 := hb1.ch hcn (fun _ _ e => e)
        have hlit := own_ch hlit hcn (fun _ _ e => e)
        have hx := hx.ch hcn (fun _ _ e => e)
        have hy := hy.ch hcn (fun _ _ e => e)
        have hz3 := hcn.size
        have hc := hc.trans hcn
        simp [go_sem]
        refine VB_appn tyB hcopy (Sl.of_own hlit) (bvs_length _) (bvs_one _) (by unfold maxLen; omega) (by omega) fun v5 w5 h5 hcn _ => ?_
        have hb5 : Sl w5 v5 (e ++ [0]).length (bvs (e ++ [0])) := by rw [bvs_append]; simpa using Sl.of_own h5
        have hx := hx.ch hcn (fun k hk e => by have := hfr k e; omega)
        have hy := hy.ch hcn (fun k hk e => by have := hfr k e; omega)
        have hc := hc.trans' hcn (fun j hj e => by have := hfr j e; have := hcw.size; omega)
        have hz4 := hcn.size
        simp [go_sem]
        refine (new_fresh v5 (e ++ [0]) _ (by first | omega | (simp; omega)) hb5).mono ?_
        rintro _ wn5 ⟨gz, rfl, hg5, hF, hcn⟩
        have hb5 := hb5.ch hcn (fun _ _ e => e)
        have hx := hx.ch hcn (fun _ _ e => e)
        have hy := hy.ch hcn (fun _ _ e => e)
        have hz5 := hcn.size
        have hc := hc.trans hcn
        have hzz := RdrU.of hF.rdr (by first | omega | (simp; omega; done) | simp)
        have hl5 := hzz.1
        simp [go_sem]
        rw [hI]
        exact ⟨gx, gy, gz, by simp [h0], by simp, by simp, by simp, by omega, by omega, by omega, hx.rdr, hy.rdr, hzz.rdr, hc⟩
      · have hb := (Sl.of_own hrow)
        have hb1 := hcut
        have hc := hcw
        have hcz := hcw.size
        simp [go_sem, hlb, hcutr, h3, hwl]
        refine (new_fresh _ e _ (by first | omega | (simp; omega)) hb.drew).mono ?_
        rintro _ wn0 ⟨gx, rfl, hg0, hF, hcn⟩
        have hcn := hcn.of_drew
        have hg0 : wr.heap.size ≤ gx := hg0
        have hb := hb.ch hcn (fun _ _ e => e)
        have hb1 := hb1.ch hcn (fun _ _ e => e)
        have hz0 := hcn.size
        have hc := hc.trans hcn
        have hx := RdrU.of hF.rdr (by first | omega | (simp; omega; done) | simp)
        have hl0 := hx.1
        simp [go_sem, hlb, hcutr, h3, hwl]
        have hlit := Sl.lit wn0 5 [0] 1 rfl (by unfold maxLen; omega)
        rw [show (bvs [0]).toArray = #[Value.int .u8 0] by simp [bvs, bv]] at hlit
        have hcn := (Ch.refl Nw wn0).alloc (.cells #[Value.int .u8 0] 5)
        generalize hwa : World.alloc wn0 (.cells #[Value.int .u8 0] 5) = wa at hlit hcn ⊢
        clear hwa
        have hb := hb.ch hcn (fun _ _ e => e)
        have hb1 := hb1.ch hcn (fun _ _ e => e)
        have hx := hx.ch hcn (fun _ _ e => e)
        have hz1 := hcn.size
        have hc := hc.trans hcn
        refine (new_fresh _ e.dropLast _ (by first | omega | (simp; omega)) hb1).mono ?_
        rintro _ wn2 ⟨gy, rfl, hg2, hF, hcn⟩
        have hb := hb.ch hcn (fun _ _ e => e)
        have hb1 := hb1.ch hcn (fun _ _ e => e)
        have hlit := own_ch hlit hcn (fun _ _ e => e)
        have hx := hx.ch hcn (fun _ _ e => e)
        have hz2 := hcn.size
        have hc := hc.trans hcn
        have hy := RdrU.of hF.rdr (by first | omega | (simp; omega; done) | simp)
        have hl2 := hy.1
        simp [go_sem, h3]
        refine VB_copyOf tyB hb (bvs_length e) (bvs_one _) (by unfold maxLen; omega) (by omega) fun v4 w4 hcopy hcn hfr => ?_
        have hb := hb.ch hcn (fun _ _ e => e)
        have hb1 := hb1.ch hcn (fun _ _ e => e)
        have hlit := own_ch hlit hcn (fun _ _ e => e)
        have hx := hx.ch hcn (fun _ _ e => e)
        have hy := hy.ch hcn (fun _ _ e => e)
        have hz3 := hcn.size
        have hc := hc.trans hcn
        simp [go_sem]
        refine VB_appn tyB hcopy (Sl.of_own hlit) (bvs_length _) (bvs_one _) (by unfold maxLen; omega) (by omega) fun v5 w5 h5 hcn _ => ?_
        have hb5 : Sl w5 v5 (e ++ [0]).length (bvs (e ++ [0])) := by rw [bvs_append]; simpa using Sl.of_own h5
        have hx := hx.ch hcn (fun k hk e => by have := hfr k e; omega)
        have hy := hy.ch hcn (fun k hk e => by have := hfr k e; omega)
        have hc := hc.trans' hcn (fun j hj e => by have := hfr j e; have := hcw.size; omega)
        have hz4 := hcn.size
        simp [go_sem]
        refine (new_fresh v5 (e ++ [0]) _ (by first | omega | (simp; omega)) hb5).mono ?_
        rintro _ wn5 ⟨gz, rfl, hg5, hF, hcn⟩
        have hb5 := hb5.ch hcn (fun _ _ e => e)
        have hx := hx.ch hcn (fun _ _ e => e)
        have hy := hy.ch hcn (fun _ _ e => e)
        have hz5 := hcn.size
        have hc := hc.trans hcn
        have hzz := RdrU.of hF.rdr (by first | omega | (simp; omega; done) | simp)
        have hl5 := hzz.1
        simp [go_sem]
        rw [hI]
        exact ⟨gx, gy, gz, by simp [h0], by simp, by simp, by simp, by omega, by omega, by omega, hx.rdr, hy.rdr, hzz.rdr, hc⟩
      · have hb := (Sl.of_own hrow)
        have hb1 := hcut
        have hc := hcw
        have hcz := hcw.size
        simp [go_sem, hlb, hcutr, h3, hwl]
        have hlit := Sl.lit wr 5 [0] 1 rfl (by unfold maxLen; omega)
        rw [show (bvs [0]).toArray = #[Value.int .u8 0] by simp [bvs, bv]] at hlit
        have hcn := (Ch.refl Nw wr).alloc (.cells #[Value.int .u8 0] 5)
        generalize hwa : World.alloc wr (.cells #[Value.int .u8 0] 5) = wa at hlit hcn ⊢
        clear hwa
        have hb := hb.ch hcn (fun _ _ e => e)
        have hb1 := hb1.ch hcn (fun _ _ e => e)
        have hz0 := hcn.size
        have hc := hc.trans hcn
        refine (new_fresh _ e _ (by first | omega | (simp; omega)) hb.drew).mono ?_
        rintro _ wn1 ⟨gx, rfl, hg1, hF, hcn⟩
        have hcn := hcn.of_drew
        have hg1 : wa.heap.size ≤ gx := hg1
        have hb := hb.ch hcn (fun _ _ e => e)
        have hb1 := hb1.ch hcn (fun _ _ e => e)
        have hlit := own_ch hlit hcn (fun _ _ e => e)
        have hz1 := hcn.size
        have hc := hc.trans hcn
        have hx := RdrU.of hF.rdr (by first | omega | (simp; omega; done) | simp)
        have hl1 := hx.1
        simp [go_sem, hlb, hcutr, h3, hwl]
        refine (new_fresh _ e.dropLast _ (by first | omega | (simp; omega)) hb1).mono ?_
        rintro _ wn2 ⟨gy, rfl, hg2, hF, hcn⟩
        have hb := hb.ch hcn (fun _ _ e => e)
        have hb1 := hb1.ch hcn (fun _ _ e => e)
        have hlit := own_ch hlit hcn (fun _ _ e => e)
        have hx := hx.ch hcn (fun _ _ e => e)
        have hz2 := hcn.size
        have hc := hc.trans hcn
        have hy := RdrU.of hF.rdr (by first | omega | (simp; omega; done) | simp)
        have hl2 := hy.1
        simp [go_sem, h3]
        refine VB_copyOf tyB hb (bvs_length e) (bvs_one _) (by unfold maxLen; omega) (by omega) fun v4 w4 hcopy hcn hfr => ?_
        have hb := hb.ch hcn (fun _ _ e => e)
        have hb1 := hb1.ch hcn (fun _ _ e => e)
        have hlit := own_ch hlit hcn (fun _ _ e => e)
        have hx := hx.ch hcn (fun _ _ e => e)
        have hy := hy.ch hcn (fun _ _ e => e)
        have hz3 := hcn.size
        have hc := hc.trans hcn
        simp [go_sem]
        refine VB_appn tyB hcopy (Sl.of_own hlit) (bvs_length _) (bvs_one _) (by unfold maxLen; omega) (by omega) fun v5 w5 h5 hcn _ => ?_
        have hb5 : Sl w5 v5 (e ++ [0]).length (bvs (e ++ [0])) := by rw [bvs_append]; simpa using Sl.of_own h5
        have hx := hx.ch hcn (fun k hk e => by have := hfr k e; omega)
        have hy := hy.ch hcn (fun k hk e => by have := hfr k e; omega)
        have hc := hc.trans' hcn (fun j hj e => by have := hfr j e; have := hcw.size; omega)
        have hz4 := hcn.size
        simp [go_sem]
        refine (new_fresh v5 (e ++ [0]) _ (by first | omega | (simp; omega)) hb5).mono ?_
        rintro _ wn5 ⟨gz, rfl, hg5, hF, hcn⟩
        have hb5 := hb5.ch hcn (fun _ _ e => e)
        have hx := hx.ch hcn (fun _ _ e => e)
        have hy := hy.ch hcn (fun _ _ e => e)
        have hz5 := hcn.size
        have hc := hc.trans hcn
        have hzz := RdrU.of hF.rdr (by first | omega | (simp; omega; done) | simp)
        have hl5 := hzz.1
        simp [go_sem]
        rw [hI]
        exact ⟨gx, gy, gz, by simp [h0], by simp, by simp, by simp, by omega, by omega, by omega, hx.rdr, hy.rdr, hzz.rdr, hc⟩
    --END
    · rintro f' wy hIy
      rw [hI] at hIy
      obtain ⟨gx, gy, gz, i0, i5, i6, i7, hwx, hxy, hyz, hx, hy, hz, hc⟩ := hIy
      obtain ⟨G, hG⟩ : ∃ G : Nat → Nat, G = fun j => if j = 0 then gx else if j = 1 then gy else gz := ⟨_, rfl⟩
      have hG0 : gx = G 0 := by simp [hG]
      have hG1 : gy = G 1 := by simp [hG]
      have hG2 : gz = G 2 := by simp [hG]
      have hinj : ∀ i j, i < 3 → j < 3 → G i = G j → i = j := by
        intro i j hi hj h
        rw [hG] at h
        simp only at h
        repeat' split at h
        all_goals omega
      have hst : ∀ j, j < 3 → Rdr wy (G j) (stB D N k j 0) (stE k j 0) := by
        intro j hj
        rw [(stB_zero D N k j hn0).1, (stB_zero D N k j hn0).2, ← he]
        have : j = 0 ∨ j = 1 ∨ j = 2 := by omega
        rcases this with rfl | rfl | rfl
        · rw [← hG0]; simpa [cut] using hx
        · rw [← hG1]; simpa [cut] using hy
        · rw [← hG2]; simpa [cut] using hz
      have hGw : ∀ j, j < 3 → w.heap.size ≤ G j := by
        intro j hj
        have : j = 0 ∨ j = 1 ∨ j = 2 := by omega
        rcases this with rfl | rfl | rfl <;> omega
      rw [hG0] at i5
      rw [hG1] at i6
      rw [hG2] at i7
      clear hx hy hz hwx hxy hyz hG0 hG1 hG2 hG
      simp [go_sem]
      refine v_loop (fun q f wx => ∃ i : Nat, i ≤ k ∧ q = k - i ∧ f 0 = .slice (some ad) k c ∧ f 5 = .pointer (some ⟨G 0, 0, none⟩) ∧ f 6 = .pointer (some ⟨G 1, 0, none⟩) ∧ f 7 = .pointer (some ⟨G 2, 0, none⟩) ∧ f 8 = .int .i64 i ∧ (∀ j, j < 3 → Rdr wx (G j) (stB D N k j i) (stE k j i)) ∧ Ch Nw w wx) k
        ⟨0, Nat.zero_le _, rfl, by simp [i0], by simp [i5], by simp [i6], by simp [i7], by simp, hst, hc⟩ ?_
      rintro J2 hJ2 _ f wx ⟨i, hi, rfl, h0, h5, h6, h7, h8, hst, hc⟩
      simp [go_sem, h0, h8, hlen2]
      refine VIf_dec (fun hlt => ?_) (fun hge => ?_)
      · obtain ⟨hd0, hd1, hd2, hd3⟩ := hq4 i hlt
        simp [go_sem, h5, h6, h7]
        have hB := heap_alloc_new wx (.cells #[.pointer (some ⟨G 0, 0, none⟩), .pointer (some ⟨G 1, 0, none⟩), .pointer (some ⟨G 2, 0, none⟩)] 36)
        have hcB := (Ch.refl Nw wx).alloc (.cells #[.pointer (some ⟨G 0, 0, none⟩), .pointer (some ⟨G 1, 0, none⟩), .pointer (some ⟨G 2, 0, none⟩)] 36)
        generalize hwB : World.alloc wx _ = wB at *
        obtain ⟨va, hva⟩ : ∃ va, va = Value.slice (some ⟨wx.heap.size, 0, none⟩) 3 3 := ⟨_, rfl⟩
        have hvo : va.ownBlock = some wx.heap.size := by rw [hva]; rfl
        have hlG : ∀ j, j < 3 → G j < wx.heap.size := fun j hj => (hst j hj).lt
        refine v_loop (fun q f wz => ∃ m : Nat, m ≤ 3 ∧ q = 3 - m ∧ f 0 = .slice (some ad) k c ∧ f 5 = .pointer (some ⟨G 0, 0, none⟩) ∧ f 6 = .pointer (some ⟨G 1, 0, none⟩) ∧ f 7 = .pointer (some ⟨G 2, 0, none⟩) ∧ f 8 = .int .i64 i ∧ f 9 = va ∧ f 10 = .int .i64 m ∧
            (∀ j, j < 3 → Rdr wz (G j) (stB D N k j (if j < m then i + 1 else i)) (stE k j (if j < m then i + 1 else i))) ∧ Sl wz va 3 [.pointer (some ⟨G 0, 0, none⟩), .pointer (some ⟨G 1, 0, none⟩), .pointer (some ⟨G 2, 0, none⟩)] ∧ Ch Nw w wz) 3
          ⟨0, Nat.zero_le _, rfl, by simp [h0], by simp [h5], by simp [h6], by simp [h7], by simp [h8], by simp [hva], by simp, fun j hj => by simpa using (hst j hj).ch hcB (fun e => e) (fun _ e => e), by rw [hva]; exact lit3 hB, hc.trans hcB⟩ ?_
        rintro J3 hJ3 _ f wz ⟨m, hm, rfl, h0, h5, h6, h7, h8, h9, h10, hst, hB, hc⟩
        have hl9 := hB.len Try.underlying38 3
        simp [go_sem, h9, h10, hl9]
        refine VIf_dec (fun hlt3 => ?_) (fun hge3 => ?_)
        · have hlt3 : m < 3 := by omega
          have hd0 := hc.cell hd0 (fun e => e)
          have hd1 := hc.cell hd1 (fun e => e)
          rw [← add_of_add, add_pos _ 1 (by decide)] at hd1
          have hm3 : (D i : Int).tmod 3 = ((D i % 3 : Nat) : Int) := by rw [Int.tmod_eq_emod_of_nonneg (by omega)]; omega
          have hml : D i % 3 < 3 := Nat.mod_lt _ (by omega)
          have c16 : (N i : Int).tmod 65536 = ((N i % 65536 : Nat) : Int) := by rw [Int.tmod_eq_emod_of_nonneg (by omega)]; omega
          have c32 : (N i : Int).tmod 4294967296 = ((N i % 4294967296 : Nat) : Int) := by rw [Int.tmod_eq_emod_of_nonneg (by omega)]; omega
          have r0 : ((D i : Int) % 3 == 0) = decide (D i % 3 = 0) := by rw [Bool.eq_iff_iff]; simp; omega
          have r1 : ((D i : Int) % 3 == 1) = decide (D i % 3 = 1) := by rw [Bool.eq_iff_iff]; simp; omega
          have hm4 : m = 0 ∨ m = 1 ∨ m = 2 := by omega
          obtain ⟨a, ha, hca, _⟩ := hB.at tyR rfl (i := m) (u := .pointer (some ⟨G m, 0, none⟩)) (by rcases hm4 with rfl | rfl | rfl <;> rfl)
          have hrm := hst m hlt3
          rw [if_neg (Nat.lt_irrefl m)] at hrm
          have hlen1 := st_len D N k m i hn
          obtain ⟨q1, q2⟩ := step_law D N k m i hlt
          simp [go_sem]
          refine v_draw' [(0, none), (1, none), (2, none), (3, none), (4, none), (5, none), (6, none)] (by kernel_rfl) (by kernel_rfl) ?_
          by_cases g0 : D i % 3 = 0
          · have hw : wd (D i) = 2 := by simp [wd, g0]
            rw [hw] at q1 q2
            simp [go_sem, h0, h8, h9, h10, hd0, hd1, hlt, hm3, g0, ha, hca]
            refine (ru16 (G m) _ _ _ (by omega) hrm.drew).mono ?_
            rintro _ w6 ⟨rfl, hr6, hc6⟩
            have hc6 := hc6.of_drew
            rw [q1] at hr6
            rw [q2]
            have hnB : ∀ j, va.ownBlock = some j → ¬ only (G m) j := fun j hj e => by rw [hvo] at hj; unfold only at e; have := hlG m hlt3; injection hj; omega
            have hl96 := (hB.ch hc6 hnB).len Try.underlying38 3
            have close : ∀ f' : Nat → Value, f' 0 = .slice (some ad) k c → f' 5 = .pointer (some ⟨G 0, 0, none⟩) → f' 6 = .pointer (some ⟨G 1, 0, none⟩) → f' 7 = .pointer (some ⟨G 2, 0, none⟩) → f' 8 = .int .i64 i → f' 9 = va → f' 10 = .int .i64 ((m + 1 : Nat) : Int) → Rnd J3 (3 - m) f' w6 := by
              intro f' a0 a5 a6 a7 a8 a9 a10
              refine Rnd.intro (3 - (m + 1)) (by omega) (hJ3 _ _ _ ⟨m + 1, by omega, rfl, a0, a5, a6, a7, a8, a9, a10, fun j hj => ?_, hB.ch hc6 hnB, hc.trans' hc6 fun j hj e => by unfold only at e; have := hGw m hlt3; omega⟩)
              by_cases hjm : j = m
              · subst hjm; simpa using hr6
              · have := (hst j hj).apart hrm (fun h => hjm (hinj j m hj hlt3 h)) hc6
                by_cases hjl : j < m
                · rw [if_pos hjl] at this; rw [if_pos (by omega)]; exact this
                · rw [if_neg hjl] at this; rw [if_neg (by omega)]; exact this
            have wv : IntKind.u64.wrap ((N i : Int) % 65536) = (N i : Int) % 65536 := by rw [IntKind.wrap_u64]; omega
            have w0 : IntKind.u64.wrap 0 = 0 := by rw [IntKind.wrap_u64]; omega
            by_cases hm1 : m = 1
            · have b1 : ((m : Int) == 1) = true := by simp; omega
              have hb3 : IntKind.i64.wrap ((k : Int) - 1) = (k : Int) - 1 := by rw [IntKind.wrap_i64]; omega
              by_cases hik : i + 1 = k
              · have b2 : ((i : Int) == (k : Int) - 1) = true := by simp; omega
                have hv : valB D N k m i = 0 := by unfold valB; rw [if_pos ⟨hik, hm1⟩]
                rw [hv]
                simp [go_sem, h0, h8, h10, hlen2, c16, b1, b2, hb3, w0]
                exact close _ (by simp [h0]) (by simp [h5]) (by simp [h6]) (by simp [h7]) (by simp [h8]) (by simp [h9]) (by simp [IntKind.wrap_i64]; omega)
              · have b2 : ((i : Int) == (k : Int) - 1) = false := by simp; omega
                have hv : valB D N k m i = N i % 65536 := by unfold valB; rw [if_neg (fun h => hik h.1), hw]
                rw [hv]
                simp [go_sem, h0, h8, h10, hlen2, c16, b1, b2, hb3, wv]
                exact close _ (by simp [h0]) (by simp [h5]) (by simp [h6]) (by simp [h7]) (by simp [h8]) (by simp [h9]) (by simp [IntKind.wrap_i64]; omega)
            · have b1 : ((m : Int) == 1) = false := by simp; omega
              have hv : valB D N k m i = N i % 65536 := by unfold valB; rw [if_neg (fun h => hm1 h.2), hw]
              rw [hv]
              simp [go_sem, h10, c16, b1, wv]
              exact close _ (by simp [h0]) (by simp [h5]) (by simp [h6]) (by simp [h7]) (by simp [h8]) (by simp [h9]) (by simp [IntKind.wrap_i64]; omega)
          · by_cases g1 : D i % 3 = 1
            · have hw : wd (D i) = 4 := by simp [wd, g1]
              rw [hw] at q1 q2
              simp [go_sem, h0, h8, h9, h10, hd0, hd1, hlt, hm3, g1, ha, hca]
              refine (ru32 (G m) _ _ _ (by omega) hrm.drew).mono ?_
              rintro _ w6 ⟨rfl, hr6, hc6⟩
              have hc6 := hc6.of_drew
              rw [q1] at hr6
              rw [q2]
              have hnB : ∀ j, va.ownBlock = some j → ¬ only (G m) j := fun j hj e => by rw [hvo] at hj; unfold only at e; have := hlG m hlt3; injection hj; omega
              have hl96 := (hB.ch hc6 hnB).len Try.underlying38 3
              have close : ∀ f' : Nat → Value, f' 0 = .slice (some ad) k c → f' 5 = .pointer (some ⟨G 0, 0, none⟩) → f' 6 = .pointer (some ⟨G 1, 0, none⟩) → f' 7 = .pointer (some ⟨G 2, 0, none⟩) → f' 8 = .int .i64 i → f' 9 = va → f' 10 = .int .i64 ((m + 1 : Nat) : Int) → Rnd J3 (3 - m) f' w6 := by
                intro f' a0 a5 a6 a7 a8 a9 a10
                refine Rnd.intro (3 - (m + 1)) (by omega) (hJ3 _ _ _ ⟨m + 1, by omega, rfl, a0, a5, a6, a7, a8, a9, a10, fun j hj => ?_, hB.ch hc6 hnB, hc.trans' hc6 fun j hj e => by unfold only at e; have := hGw m hlt3; omega⟩)
                by_cases hjm : j = m
                · subst hjm; simpa using hr6
                · have := (hst j hj).apart hrm (fun h => hjm (hinj j m hj hlt3 h)) hc6
                  by_cases hjl : j < m
                  · rw [if_pos hjl] at this; rw [if_pos (by omega)]; exact this
                  · rw [if_neg hjl] at this; rw [if_neg (by omega)]; exact this
              have wv : IntKind.u64.wrap ((N i : Int) % 4294967296) = (N i : Int) % 4294967296 := by rw [IntKind.wrap_u64]; omega
              have w0 : IntKind.u64.wrap 0 = 0 := by rw [IntKind.wrap_u64]; omega
              by_cases hm1 : m = 1
              · have b1 : ((m : Int) == 1) = true := by simp; omega
                have hb3 : IntKind.i64.wrap ((k : Int) - 1) = (k : Int) - 1 := by rw [IntKind.wrap_i64]; omega
                by_cases hik : i + 1 = k
                · have b2 : ((i : Int) == (k : Int) - 1) = true := by simp; omega
                  have hv : valB D N k m i = 0 := by unfold valB; rw [if_pos ⟨hik, hm1⟩]
                  rw [hv]
                  simp [go_sem, h0, h8, h10, hlen2, c32, b1, b2, hb3, w0]
                  exact close _ (by simp [h0]) (by simp [h5]) (by simp [h6]) (by simp [h7]) (by simp [h8]) (by simp [h9]) (by simp [IntKind.wrap_i64]; omega)
                · have b2 : ((i : Int) == (k : Int) - 1) = false := by simp; omega
                  have hv : valB D N k m i = N i % 4294967296 := by unfold valB; rw [if_neg (fun h => hik h.1), hw]
                  rw [hv]
                  simp [go_sem, h0, h8, h10, hlen2, c32, b1, b2, hb3, wv]
                  exact close _ (by simp [h0]) (by simp [h5]) (by simp [h6]) (by simp [h7]) (by simp [h8]) (by simp [h9]) (by simp [IntKind.wrap_i64]; omega)
              · have b1 : ((m : Int) == 1) = false := by simp; omega
                have hv : valB D N k m i = N i % 4294967296 := by unfold valB; rw [if_neg (fun h => hm1 h.2), hw]
                rw [hv]
                simp [go_sem, h10, c32, b1, wv]
                exact close _ (by simp [h0]) (by simp [h5]) (by simp [h6]) (by simp [h7]) (by simp [h8]) (by simp [h9]) (by simp [IntKind.wrap_i64]; omega)
            · have hw : wd (D i) = 8 := by simp [wd, g0, g1]
              have hN8 : N i % 18446744073709551616 = N i := Nat.mod_eq_of_lt hd3
              rw [hw] at q1 q2
              simp [go_sem, h0, h8, h9, h10, hd0, hd1, hlt, hm3, r0, r1, g0, g1, ha, hca]
              refine (ru64 (G m) _ _ _ (by omega) hrm.drew).mono ?_
              rintro _ w6 ⟨rfl, hr6, hc6⟩
              have hc6 := hc6.of_drew
              rw [q1] at hr6
              rw [q2]
              have hnB : ∀ j, va.ownBlock = some j → ¬ only (G m) j := fun j hj e => by rw [hvo] at hj; unfold only at e; have := hlG m hlt3; injection hj; omega
              have hl96 := (hB.ch hc6 hnB).len Try.underlying38 3
              have close : ∀ f' : Nat → Value, f' 0 = .slice (some ad) k c → f' 5 = .pointer (some ⟨G 0, 0, none⟩) → f' 6 = .pointer (some ⟨G 1, 0, none⟩) → f' 7 = .pointer (some ⟨G 2, 0, none⟩) → f' 8 = .int .i64 i → f' 9 = va → f' 10 = .int .i64 ((m + 1 : Nat) : Int) → Rnd J3 (3 - m) f' w6 := by
                intro f' a0 a5 a6 a7 a8 a9 a10
                refine Rnd.intro (3 - (m + 1)) (by omega) (hJ3 _ _ _ ⟨m + 1, by omega, rfl, a0, a5, a6, a7, a8, a9, a10, fun j hj => ?_, hB.ch hc6 hnB, hc.trans' hc6 fun j hj e => by unfold only at e; have := hGw m hlt3; omega⟩)
                by_cases hjm : j = m
                · subst hjm; simpa using hr6
                · have := (hst j hj).apart hrm (fun h => hjm (hinj j m hj hlt3 h)) hc6
                  by_cases hjl : j < m
                  · rw [if_pos hjl] at this; rw [if_pos (by omega)]; exact this
                  · rw [if_neg hjl] at this; rw [if_neg (by omega)]; exact this
              have wv : IntKind.u64.wrap ((N i : Int) % 18446744073709551616) = (N i : Int) % 18446744073709551616 := by rw [IntKind.wrap_u64]; omega
              have w0 : IntKind.u64.wrap 0 = 0 := by rw [IntKind.wrap_u64]; omega
              by_cases hm1 : m = 1
              · have b1 : ((m : Int) == 1) = true := by simp; omega
                have hb3 : IntKind.i64.wrap ((k : Int) - 1) = (k : Int) - 1 := by rw [IntKind.wrap_i64]; omega
                by_cases hik : i + 1 = k
                · have b2 : ((i : Int) == (k : Int) - 1) = true := by simp; omega
                  have hv : valB D N k m i = 0 := by unfold valB; rw [if_pos ⟨hik, hm1⟩]
                  rw [hv]
                  simp [go_sem, h0, h8, h10, hlen2, b1, b2, hb3]
                  exact close _ (by simp [h0]) (by simp [h5]) (by simp [h6]) (by simp [h7]) (by simp [h8]) (by simp [h9]) (by simp [IntKind.wrap_i64]; omega)
                · have b2 : ((i : Int) == (k : Int) - 1) = false := by simp; omega
                  have hv : valB D N k m i = N i % 18446744073709551616 := by unfold valB; rw [if_neg (fun h => hik h.1), hw]
                  rw [hv]
                  simp [go_sem, h0, h8, h10, hlen2, hN8, b1, b2, hb3]
                  exact close _ (by simp [h0]) (by simp [h5]) (by simp [h6]) (by simp [h7]) (by simp [h8]) (by simp [h9]) (by simp [IntKind.wrap_i64]; omega)
              · have b1 : ((m : Int) == 1) = false := by simp; omega
                have hv : valB D N k m i = N i % 18446744073709551616 := by unfold valB; rw [if_neg (fun h => hm1 h.2), hw]
                rw [hv]
                simp [go_sem, h10, hN8, b1]
                exact close _ (by simp [h0]) (by simp [h5]) (by simp [h6]) (by simp [h7]) (by simp [h8]) (by simp [h9]) (by simp [IntKind.wrap_i64]; omega)
        · simp [go_sem, h8]
          obtain rfl : m = 3 := by omega
          refine Rnd.intro (k - (i + 1)) (by omega) (hJ2 _ _ _ ⟨i + 1, by omega, rfl, by simp [h0], by simp [h5], by simp [h6], by simp [h7], by simp [IntKind.wrap_i64]; omega, fun j hj => by simpa [hj] using hst j hj, hc⟩)
      · obtain rfl : i = k := by omega
        simp [go_sem, h5]
        obtain ⟨e0, e1, e2, e3, e4, e5⟩ := st_end D N i
        have r0 := hst 0 (by omega)
        have r1 := hst 1 (by omega)
        have r2 := hst 2 (by omega)
        rw [e0, e1] at r0
        rw [e2, e3] at r1
        rw [e4, e5] at r2
        have hn01 : G 0 ≠ G 1 := fun h => by have := hinj 0 1 (by omega) (by omega) h; omega
        have hn02 : G 0 ≠ G 2 := fun h => by have := hinj 0 2 (by omega) (by omega) h; omega
        have hn12 : G 1 ≠ G 2 := fun h => by have := hinj 1 2 (by omega) (by omega) h; omega
        have E0 : endS [] 0 = ([], 0) := rfl
        have E2 : endS [0] 0 = ([], 5) := rfl
        refine (end_any (G 0) [] 0 wx r0).mono ?_
        rw [E0]
        rintro _ w1 ⟨rfl, s0, d1⟩
        have r1 := r1.apart r0 hn01.symm d1
        have r2 := r2.apart r0 hn02.symm d1
        simp [go_sem, h6]
        refine (err_any (G 1) [] 4 w1 r1).mono ?_
        rintro _ _ ⟨rfl, rfl⟩
        simp [go_sem, h7]
        refine (err_any (G 2) [0] 0 _ r2).mono ?_
        rintro _ _ ⟨rfl, rfl⟩
        simp [go_sem, h7]
        refine (left_any (G 2) [0] 0 _ r2).mono ?_
        rintro _ _ ⟨rfl, rfl⟩
        simp [go_sem, h7]
        refine (end_any (G 2) [0] 0 _ r2).mono ?_
        rw [E2]
        rintro _ w2 ⟨rfl, s2, d2⟩
        simp [go_sem]
        refine (wakes_any w2).mono ?_
        rintro _ w3 ⟨rfl, d3⟩
        simp [go_sem]
        have hg0 := hGw 0 (by omega)
        have hg2 := hGw 2 (by omega)
        exact hR _ _ ⟨rfl, ((hc.trans' d1 fun j hj e => by unfold only at e; omega).trans' d2 fun j hj e => by unfold only at e; omega).trans d3⟩
end Go.Proofs.Ytbodlpncejhliaa
