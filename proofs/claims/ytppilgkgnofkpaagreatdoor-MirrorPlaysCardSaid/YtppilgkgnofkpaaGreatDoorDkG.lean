/- Package disk's Flush and Crash, as contracts on calls. No condition but on sizes. -/
import Derived.Test.YtppilgkgnofkpaaGreatDoorDkF
set_option linter.unusedSimpArgs false
set_option linter.unusedVariables false

namespace Go.Kin
open Go Go.RowKit
def fl (D : Dk) (k : Nat) : Dk := (D.cache.take k).foldl (fun d e => d.comes e 512) D
theorem fl_succ {D : Dk} {k : Nat} {e : Nat × Byts} (h : D.cache[k]? = some e) : fl D (k + 1) = (fl D k).comes e 512 := by
  unfold fl
  rw [List.take_add_one, h]
  simp
theorem foldl_cache (l : List (Nat × Byts)) (D : Dk) : (l.foldl (fun d e => d.comes e 512) D).cache = D.cache := by
  induction l generalizing D with
  | nil => rfl
  | cons e l ih => rw [List.foldl_cons, ih]; rfl
theorem fl_cache (D : Dk) (k : Nat) : (fl D k).cache = D.cache := foldl_cache _ _
theorem fl_all (D : Dk) : { fl D D.cache.length with cache := [] } = D.flush := by
  unfold fl Dk.flush
  rw [List.take_length]
theorem foldl_astray (l : List (Nat × Byts)) (D : Dk) : (l.foldl (fun d e => d.comes e 512) D).astray = D.astray := by
  induction l generalizing D with
  | nil => rfl
  | cons e l ih => rw [List.foldl_cons, ih]; rfl
theorem fl_astray (D : Dk) (k : Nat) : (fl D k).astray = D.astray := foldl_astray _ _
theorem flush_astray (D : Dk) : D.flush.astray = D.astray := foldl_astray _ _
theorem pick1_cache (d : Dk) (e : Nat × Byts) (k : Int) : (pick1 d e k).cache = d.cache := by
  unfold pick1
  split
  · rfl
  · split <;> rfl
theorem picks_append (l : List ((Nat × Byts) × Int)) (e : Nat × Byts) (k : Int) : ∀ d : Dk, d.picks (l ++ [(e, k)]) = pick1 (d.picks l) e k := by
  induction l with
  | nil => intro d; rfl
  | cons x l ih => intro d; obtain ⟨f, m⟩ := x; exact ih _
theorem picks_cache (l : List ((Nat × Byts) × Int)) : ∀ d : Dk, (d.picks l).cache = d.cache := by
  induction l with
  | nil => intro d; rfl
  | cons x l ih =>
    intro d
    obtain ⟨f, m⟩ := x
    show ((pick1 d f m).picks l).cache = d.cache
    rw [ih, pick1_cache]
def pk (D : Dk) (ps : List Int) (k : Nat) : Dk := D.picks ((D.cache.zip ps).take k)
theorem pk_succ {D : Dk} {ps : List Int} {k : Nat} {e : Nat × Byts} {m : Int} (h : D.cache[k]? = some e) (hm : ps[k]? = some m) : pk D ps (k + 1) = pick1 (pk D ps k) e m := by
  unfold pk
  rw [List.take_add_one, List.getElem?_zip_eq_some (z := (e, m)) |>.2 ⟨h, hm⟩]
  exact picks_append _ _ _ _
theorem pk_cache (D : Dk) (ps : List Int) (k : Nat) : (pk D ps k).cache = D.cache := picks_cache _ _
theorem pk_all (D : Dk) (ps : List Int) : pk D ps (min ps.length D.cache.length) = D.picks (D.cache.zip ps) := by
  unfold pk
  rw [List.take_of_length_le (by simp; omega)]
end Go.Kin
namespace Go.Proofs.YtppilgkgnofkpaaGreatDoor
open Go.RowKit Go.Kin

section
variable {w : World} {d p n : Nat} {D : Dk} {O Y : Nat → Prop} {z : Dn} {vs : List (Nat × Value)}
theorem DkP.cvl (h : DkP w d p n D O z vs Y) : ∃ A c, z.cv = .slice A D.cache.length c ∧ D.cache.length ≤ c ∧ c ≤ maxLen := by
  rcases h.cache.own.2 with ⟨hv, h0⟩ | ⟨g, cap, cur, hv, _, _, h1, h2, _⟩
  · exact ⟨none, 0, by rw [hv, h0], by omega, Nat.zero_le _⟩
  · exact ⟨_, _, hv, h1, h2⟩
/-- an entry of the cache in memory -/
theorem DkP.entry (h : DkP w d p n D O z vs Y) {i a : Nat} {b : Byts} (hi : D.cache[i]? = some (a, b)) : ∃ g cap A c, z.cv = .slice (some ⟨g, 0, none⟩) D.cache.length cap ∧ g < w.heap.size ∧ i < D.cache.length ∧ w.cell? ⟨g, i * 2, none⟩ = some (.int .u16 a) ∧ w.cell? ⟨g, i * 2 + 1, none⟩ = some (.slice A 512 c) ∧ Sl w (.slice A 512 c) 512 (bvs b) ∧ b.length = 512 ∧ ∀ k, (Value.slice A 512 c).ownBlock = some k → Y k ∧ k < w.heap.size := by
  obtain ⟨u, h1, h2⟩ := h.cache.each i a b hi
  have hb : b.length = 512 := (h.ok.cache _ (List.mem_of_getElem? hi)).1
  obtain ⟨g, cap, hv, _, _, h3, h4, h5, h6⟩ := own_cells h.cache.own h1
  obtain ⟨A, c, hu, hr⟩ := id h2.1
  rw [hb] at hu
  subst hu
  exact ⟨g, cap, A, c, hv, h3, h4, h5, h6, by have := h2.1; rwa [hb] at this, hb, h2.2⟩
theorem flush_any (P : Pwr) (h : DkP w d p n D O z vs Y) (hp : PwAt w p P) (hpO : ¬ O p) (hfu : P.fuse ≤ 9223372036854775807) (hcl : D.cache.length ≤ 1000000) :
    Ret Tryz.prog 25 #[.pointer (some ⟨d, 0, none⟩)] w fun v' w' => v' = .int .i64 (if D.able P && P.made then 0 else 3) ∧ DkAt w' d p n (if D.able P && P.made then D.flush else D) (Gr O w w') ∧ PwAt w' p (if D.able P then P.step else P) ∧ Ch (fun k => O k ∨ k = p) w w' := by
  refine v_enter Tryz.func25 Tryz.ntmps25 rfl (by simp) fun R' hR => ?_
  have hOd : O d := h.ox _ (.inl rfl)
  simp [go_sem]
  refine (able_any P h hp).mono ?_
  rintro _ w1 ⟨rfl, hw⟩
  subst w1
  cases hab : D.able P with
  | false =>
    rw [show ableE D P = 3 by simp [ableE, hab]]
    simp [go_sem]
    exact hR _ _ ⟨by simp [hab], by simpa [hab] using h.grow (fun _ => .inl) h.olt (Nat.le_refl _), by simpa [hab] using hp, Ch.refl _ _⟩
  | true =>
    rw [show ableE D P = 0 by simp [ableE, hab]]
    have c1 : w.cell? ⟨d, 1, none⟩ = some (.pointer (some ⟨p, 0, none⟩)) := cell_blk h.blk 1
    simp [go_sem, c1]
    refine (step_any p P.off P.fuse w hp hfu).mono ?_
    rintro _ w1 ⟨rfl, hp1, k1, _⟩
    simp only [stepS_eq] at hp1 ⊢
    have hp1 : PwAt w1 p P.step := hp1
    have h1 := h.ch k1 fun k hk e => by simp only [one] at e; subst e; exact hpO hk
    have k1' : Ch (fun k => O k ∨ k = p) w w1 := k1.mono fun _ _ e => .inr e
    cases hmd : P.made with
    | false =>
      simp [go_sem]
      exact hR _ _ ⟨by simp [hab, hmd], by simpa [hab, hmd] using h1.grow (fun _ => .inl) h.olt k1.size, by simpa [hab] using hp1, k1'⟩
    | true =>
      simp only [hab, hmd, Bool.and_self, if_true] at hR
      obtain ⟨A, cc, hcv, hcl1, hcl2⟩ := h.cvl
      have d3 : w1.cell? ⟨d, 3, none⟩ = some (.slice A D.cache.length cc) := by rw [← hcv]; exact cell_blk h1.blk 3
      simp [go_sem, d3]
      refine v_loop (fun r f u => ∃ k Yk, r = D.cache.length - k ∧ k ≤ D.cache.length ∧ f 0 = .pointer (some ⟨d, 0, none⟩) ∧ f 20 = .slice A D.cache.length cc ∧ f 21 = .int .i64 D.cache.length ∧ f 22 = .int .i64 k ∧ DkP u d p n (fl D k) (Gr O w u) z vs Yk ∧ (∀ j, Yk j → Y j ∨ w.heap.size ≤ j) ∧ PwAt u p P.step ∧ Ch (fun k => O k ∨ k = p) w u) D.cache.length
        ⟨0, Y, rfl, by omega, by simp, by simp, by simp, by simp, h1.mono (fun _ => .inl) (Gr.lt h.olt k1.size), fun j => .inl, hp1, k1'⟩ ?_
      rintro J hJ _ f u ⟨k, Yk, rfl, hk, f0, f20, f21, f22, hD, hYk, hpk, ku⟩
      have hpn : ¬ Gr O w u p := fun e => e.elim hpO fun e => by have := lt_of_block hp; omega
      by_cases hlt : k < D.cache.length
      · obtain ⟨e, he⟩ : ∃ e, D.cache[k]? = some e := ⟨_, List.getElem?_eq_getElem hlt⟩
        obtain ⟨a, b⟩ := e
        obtain ⟨g, cap, A2, c2, hcv2, hgl, _, r0, r1, hs, hb, hY2⟩ := hD.entry (i := k) (a := a) (b := b) (by rw [fl_cache]; exact he)
        rw [hcv, fl_cache] at hcv2
        cases hcv2
        have hki : (k : Int) < D.cache.length := by omega
        have hwk : IntKind.i64.wrap ((k : Int) + 1) = ((k + 1 : Nat) : Int) := by rw [IntKind.wrap_i64]; omega
        have ca := (Ch.refl Nw u).alloc (.cells #[.int .u16 a, .slice A2 512 c2] 140)
        have ba := fun i => cell_blk (hp_alloc u (.cells #[.int .u16 a, .slice A2 512 c2] 140)) i
        simp [go_sem, f0, f20, f21, f22, hki, hlt, r0, r1, ba]
        refine (comes_any a _ b 512 hb (by omega) (hD.ch ca fun _ _ e => e) (hs.ch ca fun _ _ e => e) (fun j hj => Nat.lt_of_lt_of_le (hY2 j hj).2 ca.size)).mono ?_
        rintro _ u2 ⟨rfl, ⟨Y2, hD2, hYY, hYY2⟩, k2⟩
        simp [go_sem, f22, hwk]
        have k2' : Ch (fun j => j = z.bm ∨ j = z.bb) u u2 := (ca.mono fun _ _ e => e.elim).trans k2
        have kk : Ch (fun k => O k ∨ k = p) w u2 := ku.trans' k2' fun j hj e => by
          rcases e with rfl | rfl
          · exact .inl (h.ox _ (.inr (.inl rfl)))
          · exact .inl (h.ox _ (.inr (.inr (.inl rfl))))
        refine Rnd.intro (D.cache.length - (k + 1)) (by omega) (hJ _ _ _ ⟨k + 1, Y2, rfl, by omega, by simp [f0], by simp [f20], by simp [f21], by simp, ?_, ?_, ?_, kk⟩)
        · rw [fl_succ he]
          refine hD2.mono (fun j hj => ?_) (Gr.lt h.olt kk.size)
          have hs1 := ku.size
          have hs2 := ca.size
          rcases hj with hj | hj
          · rcases hj with hj | hj
            · exact .inl hj
            · exact .inr ⟨hj.1, by have := k2.size; omega⟩
          · exact .inr ⟨by omega, hj.2⟩
        · intro j hj
          rcases hYY2 j hj with hj | hj
          · exact hYk j hj
          · have := ku.size; have := ca.size; exact .inr (by omega)
        · exact hpk.ch k2' (fun e => by
            rcases e with e | e
            · exact hpn (hD.ox _ (.inr (.inl e)))
            · exact hpn (hD.ox _ (.inr (.inr (.inl e)))))
      · have : k = D.cache.length := by omega
        subst this
        have d3u : u.cell? ⟨d, 3, none⟩ = some z.cv := cell_blk hD.blk 3
        have z3u := frz_blk hD.blk 3
        have cs : Ch (one d) u (u.setCell ⟨d, 3, none⟩ (.slice none 0 0)) := (Ch.refl (one d) u).setCell (p := ⟨d, 3, none⟩) (.inl rfl) _
        have hyd : ∀ k, Yk k → ¬ one d k := fun k hk e => by simp only [one] at e; exact (hD.yne k hk).2.1 e
        simp [go_sem, f0, f21, f22, d3u, z3u]
        refine hR _ _ ⟨rfl, ?_, by simpa [hab] using hpk.ch cs (fun e => by simp only [one] at e; subst e; exact hpO hOd), ku.trans' cs fun j _ e => .inl (by simp only [one] at e; subst e; exact hOd)⟩
        rw [← fl_all]
        refine ⟨{ z with cv := .slice none 0 0 }, [], Yk, ?_⟩
        refine hD.own (D' := { fl D D.cache.length with cache := [] }) (z' := { z with cv := .slice none 0 0 }) (Y' := Yk) (O' := Gr O w _) ?_ (cs.mono fun _ _ e => .inl e) rfl rfl rfl ⟨rfl, rfl, rfl⟩ (CacheAt.nil _ _) (hD.astray.ch cs hyd) ⟨hD.ok.m, by simp⟩ (fun k hk => by simp [Value.ownBlock] at hk) (fun j hj => ?_) (fun _ => id) (fun j hj => ?_) (Gr.lt h.olt (Nat.le_trans ku.size cs.size))
        · rw [hp_setCell, hD.blk, setOf_cells]; rfl
        · exact hj.imp id fun e => ⟨e.1, Nat.lt_of_lt_of_le e.2 cs.size⟩
        · obtain ⟨g1, g2⟩ := hD.yne j hj
          exact ⟨g1.imp id fun e => ⟨e.1, Nat.lt_of_lt_of_le e.2 cs.size⟩, g2⟩
theorem cutS (A : Option Addr) (n m c : Nat) (hm : m ≤ c) (w : World) : (Instr.sliceAt 134 (.slice A n c) none (some (.int .i64 m)) none).run Tryz.prog w = .ok (.slice A m c) w := by
  obtain ⟨i, hi, _, hsz, _⟩ := info_parts tyWr.info
  have hA : (if c = 0 then A else A.map (·.add (0 * 2))) = A := by
    cases A with
    | none => simp
    | some ad => split <;> simp [Addr.add]
  have : (Instr.sliceAt 134 (.slice A n c) none (some (.int .i64 m)) none).run Tryz.prog w = .ok (.slice (if c = 0 then A else A.map (·.add (0 * 2))) m c) w := by
    simp [Instr.sliceAt, Instr.slice, Instr.sliceBounds, Instr.sliceBound, asIntOf, run_underlying tyWr.und, sizeOf, typeInfo, hi, hsz, hm, eq_comm]
  rw [hA] at this
  exact this
theorem tyI : Ty1 Tryz.prog 61 3 (.int .i64 0) 8 := ⟨Tryz.underlying61, by kernel_rfl, rfl⟩
theorem crash_any (ps : List Int) (v : Value) (h : DkP w d p n D O z vs Y) (hcl : D.cache.length ≤ 1000000) (hps : ps.length ≤ 1000000) (hpr : ∀ x ∈ ps, -9223372036854775808 ≤ x ∧ x ≤ 9223372036854775807) (hv : Sl w v ps.length (ps.map (Value.int .i64))) (hvO : 0 < ps.length → ∀ k, v.ownBlock = some k → ¬ O k) :
    Ret Tryz.prog 26 #[.pointer (some ⟨d, 0, none⟩), v] w fun v' w' => v' = .tuple #[] ∧ DkAt w' d p n (D.crash ps) (Gr O w w') ∧ Ch O w w' := by
  refine v_enter Tryz.func26 Tryz.ntmps26 rfl (by simp) fun R' hR => ?_
  have hOd : O d := h.ox _ (.inl rfl)
  have c6 : w.cell? ⟨d, 6, none⟩ = some (.bool D.dead) := cell_blk h.blk 6
  cases hd : D.dead with
  | true =>
    rw [hd] at c6
    simp [go_sem, c6]
    exact hR _ _ ⟨rfl, by simpa [Dk.crash, hd] using h.grow (fun _ => .inl) h.olt (Nat.le_refl _), Ch.refl _ _⟩
  | false =>
    rw [hd] at c6
    obtain ⟨A, cc, hcv, hcl1, hcl2⟩ := h.cvl
    have d3 : w.cell? ⟨d, 3, none⟩ = some (.slice A D.cache.length cc) := by rw [← hcv]; exact cell_blk h.blk 3
    have hlen := hv.len Tryz.underlying61 3
    obtain ⟨m, hm⟩ : ∃ m, m = min ps.length D.cache.length := ⟨_, rfl⟩
    have hmi : (if D.cache.length < ps.length then (D.cache.length : Int) else ps.length) = (m : Int) := by split <;> omega
    have hmc : (m : Int) ≤ cc := by omega
    simp [go_sem, c6]
    refine v_draw' [(0, none), (1, none), (2, none), (3, none), (4, none), (5, none), (6, none), (7, none), (8, none), (9, none), (10, none), (11, none), (12, none), (13, none), (14, none)] (by kernel_rfl) (by kernel_rfl) ?_
    simp [go_sem, d3, hlen, hmi, hmc]
    have hmc1 : m ≤ D.cache.length := by omega
    have hmc2 : m ≤ ps.length := by omega
    refine v_loop (fun r f u => ∃ k Yk, r = m - k ∧ k ≤ m ∧ f 0 = .pointer (some ⟨d, 0, none⟩) ∧ f 1 = v ∧ f 26 = .slice A m cc ∧ f 27 = .int .i64 m ∧ f 28 = .int .i64 k ∧ DkP u d p n (pk D ps k) (Gr O w u) z vs Yk ∧ (∀ j, Yk j → Y j ∨ w.heap.size ≤ j) ∧ Ch O w u) m
      ⟨0, Y, rfl, by omega, by simp, by simp, by simp, by simp, by simp, (h.ch (Ch.refl Nw w).drew fun _ _ e => e).mono (fun _ => .inl) (Gr.lt h.olt (Nat.le_refl _)), fun j => .inl, (Ch.refl O w).drew⟩ ?_
    rintro J hJ _ f u ⟨k, Yk, rfl, hk, f0, f1, f26, f27, f28, hD, hYk, ku⟩
    by_cases hlt : k < m
    · obtain ⟨e, he⟩ : ∃ e, D.cache[k]? = some e := ⟨_, List.getElem?_eq_getElem (by omega)⟩
      obtain ⟨a, b⟩ := e
      obtain ⟨q, hq⟩ : ∃ q, ps[k]? = some q := ⟨_, List.getElem?_eq_getElem (by omega)⟩
      obtain ⟨q1, q2⟩ := hpr q (List.mem_of_getElem? hq)
      obtain ⟨g, cap, A2, c2, hcv2, hgl, _, r0, r1, hs, hb, hY2⟩ := hD.entry (i := k) (a := a) (b := b) (by rw [pk_cache]; exact he)
      rw [hcv, pk_cache] at hcv2
      cases hcv2
      have hki : (k : Int) < m := by omega
      have hwk : IntKind.i64.wrap ((k : Int) + 1) = ((k + 1 : Nat) : Int) := by rw [IntKind.wrap_i64]; omega
      have ca := (Ch.refl Nw u).alloc (.cells #[.int .u16 a, .slice A2 512 c2] 140)
      have ba' := hp_alloc u (.cells #[.int .u16 a, .slice A2 512 c2] 140)
      have ba := fun i => cell_blk ba' i
      have hvk := (hv.ch ku (hvO (by omega))).ch ca fun _ _ e => e
      obtain ⟨ad, hix, hcx, _⟩ := hvk.at tyI (by simp) (i := k) (u := .int .i64 q) (by simp [hq])
      have hpk := pk_succ he hq
      have fin : ∀ f' u2 Y2, f' 0 = f 0 → f' 1 = f 1 → f' 26 = f 26 → f' 27 = f 27 → f' 28 = .int .i64 ((k + 1 : Nat) : Int) → ∀ k2 : Ch (fun j => j = z.bm ∨ j = z.bb) (u.alloc (.cells #[.int .u16 a, .slice A2 512 c2] 140)) u2, DkP u2 d p n (pk D ps (k + 1)) (Gr (Gr O w u) (u.alloc (.cells #[.int .u16 a, .slice A2 512 c2] 140)) u2) z vs Y2 → (∀ j, Y2 j → Yk j ∨ u.heap.size ≤ j) → Rnd J (m - k) f' u2 := by
        intro f' u2 Y2 e0 e1 e26 e27 e28 k2 hD2 hYY
        have k2' : Ch (fun j => j = z.bm ∨ j = z.bb) u u2 := (ca.mono fun _ _ e => e.elim).trans k2
        have kk : Ch O w u2 := ku.trans' k2' fun j hj e => by
          rcases e with rfl | rfl
          · exact h.ox _ (.inr (.inl rfl))
          · exact h.ox _ (.inr (.inr (.inl rfl)))
        refine Rnd.intro (m - (k + 1)) (by omega) (hJ _ _ _ ⟨k + 1, Y2, rfl, by omega, by rw [e0, f0], by rw [e1, f1], by rw [e26, f26], by rw [e27, f27], e28, ?_, ?_, kk⟩)
        · refine hD2.mono (fun j hj => ?_) (Gr.lt h.olt kk.size)
          have hs1 := ku.size
          have hs2 := ca.size
          rcases hj with hj | hj
          · rcases hj with hj | hj
            · exact .inl hj
            · exact .inr ⟨hj.1, by have := k2.size; omega⟩
          · exact .inr ⟨by omega, hj.2⟩
        · intro j hj
          rcases hYY j hj with hj | hj
          · exact hYk j hj
          · have := ku.size; exact .inr (by omega)
      have hDa := hD.ch ca fun _ _ e => e
      have hsa := hs.ch ca fun _ _ e => e
      have hYa := fun j (hj : (Value.slice A2 512 c2).ownBlock = some j) => Nat.lt_of_lt_of_le (hY2 j hj).2 ca.size
      by_cases hq1 : q = 1
      · subst hq1
        simp [go_sem, f0, f1, f26, f27, f28, hki, hlt, r0, r1, ba, hix, hcx]
        refine (comes_any a _ b 512 hb (by omega) hDa hsa hYa).mono ?_
        rintro _ u2 ⟨rfl, ⟨Y2, hD2, _, hYY2⟩, k2⟩
        simp [go_sem, f28, hwk]
        refine fin _ u2 Y2 (by simp) (by simp) (by simp) (by simp) (by simp) k2 ?_ (fun j hj => (hYY2 j hj).imp id fun e => Nat.le_trans ca.size e)
        rw [hpk]
        simpa [pick1] using hD2
      · have hq1' : (q == 1) = false := beq_false_of_ne hq1
        by_cases hq2 : 1 < q
        · have hwq : IntKind.i64.wrap (q - 2) = q - 2 := by rw [IntKind.wrap_i64]; omega
          simp [go_sem, f0, f1, f26, f27, f28, hki, hlt, r0, r1, ba, hix, hcx, hq1', hq2]
          refine v_draw' [(0, none), (1, none), (2, none), (3, none), (4, none), (5, none), (6, none), (7, none), (8, some [])] (by kernel_rfl) (by kernel_rfl) ?_
          obtain ⟨t, ht⟩ : ∃ t : Nat, (q - 2) % 512 = t := ⟨((q - 2) % 512).toNat, by omega⟩
          have htm : (q - 2).tmod 512 = (t : Int) := by rw [Int.tmod_eq_emod_of_nonneg (by omega), ht]
          have hwt : IntKind.i64.wrap (t : Int) = (t : Int) := by rw [IntKind.wrap_i64]; omega
          simp [go_sem, f0, f1, f26, f27, f28, hki, hlt, r0, r1, ba, hix, hcx, hq1', hq2, hwq, htm, hwt]
          refine (comes_any a _ b t hb (by omega) (hDa.ch (Ch.refl Nw _).drew fun _ _ e => e) (hsa.ch (Ch.refl Nw _).drew fun _ _ e => e) hYa).mono ?_
          rintro _ u2 ⟨rfl, ⟨Y2, hD2, _, hYY2⟩, k2⟩
          simp [go_sem, f28, hwk]
          refine fin _ u2 Y2 (by simp) (by simp) (by simp) (by simp) (by simp) (Ch.of_drew k2) ?_ (fun j hj => (hYY2 j hj).imp id fun e => Nat.le_trans ca.size e)
          rw [hpk]
          simp only [pick1, if_neg hq1, if_pos hq2, ht, Int.toNat_natCast]
          exact hD2
        · simp [go_sem, f0, f1, f26, f27, f28, hki, hlt, r0, r1, ba, hix, hcx, hq1', hq2, hwk]
          refine fin _ _ Yk (by simp) (by simp) (by simp) (by simp) (by simp) (Ch.refl _ _) ?_ (fun j => .inl)
          rw [hpk]
          simp only [pick1, if_neg hq1, if_neg hq2]
          exact hDa.mono (fun _ => .inl) (Gr.lt hDa.olt (Nat.le_refl _))
    · have : k = m := by omega
      subst this
      have b0 := hD.blk
      have b1 : (u.setCell ⟨d, 3, none⟩ (.slice none 0 0)).heap[d]? = some (.cells (dcs n p { z with cv := .slice none 0 0 } (pk D ps k)) 138 (0, 0)) := by rw [hp_setCell, b0, setOf_cells]; rfl
      have b2 : ((u.setCell ⟨d, 3, none⟩ (.slice none 0 0)).setCell ⟨d, 7, none⟩ (.bool false)).heap[d]? = some (.cells (dcs n p { z with cv := .slice none 0 0 } { pk D ps k with lose := false }) 138 (0, 0)) := by rw [hp_setCell, b1, setOf_cells]; rfl
      have b3 : (((u.setCell ⟨d, 3, none⟩ (.slice none 0 0)).setCell ⟨d, 7, none⟩ (.bool false)).setCell ⟨d, 8, none⟩ (.pointer none)).heap[d]? = some (.cells (dcs n p { z with cv := .slice none 0 0, av := .pointer none } { pk D ps k with lose := false, cache := [], astray := none }) 138 (0, 0)) := by rw [hp_setCell, b2, setOf_cells]; rfl
      have e0 := fun i => cell_blk b0 i
      have e1 := fun i => cell_blk b1 i
      have e2 := fun i => cell_blk b2 i
      have y0 := fun i => frz_blk b0 i
      have y1 := fun i => frz_blk b1 i
      have y2 := fun i => frz_blk b2 i
      have cs : Ch (one d) u (((u.setCell ⟨d, 3, none⟩ (.slice none 0 0)).setCell ⟨d, 7, none⟩ (.bool false)).setCell ⟨d, 8, none⟩ (.pointer none)) := (((Ch.refl (one d) u).setCell (p := ⟨d, 3, none⟩) (.inl rfl) _).setCell (p := ⟨d, 7, none⟩) (.inl rfl) _).setCell (p := ⟨d, 8, none⟩) (.inl rfl) _
      simp [go_sem, f0, f27, f28, e0, e1, e2, y0, y1, y2, dcs]
      refine hR _ _ ⟨rfl, ?_, ku.trans' cs fun j _ e => by simp only [one] at e; subst e; exact hOd⟩
      have hcr : D.crash ps = { pk D ps k with lose := false, cache := [], astray := none } := by
        rw [hm, pk_all, Dk.crash, hd]; rfl
      rw [hcr]
      refine ⟨{ z with cv := .slice none 0 0, av := .pointer none }, [], Yk, ?_⟩
      refine hD.own (D' := { pk D ps k with lose := false, cache := [], astray := none }) (z' := { z with cv := .slice none 0 0, av := .pointer none }) (Y' := Yk) (O' := Gr O w _) b3 (cs.mono fun _ _ e => .inl e) rfl rfl rfl ⟨rfl, rfl, rfl⟩ (CacheAt.nil _ _) rfl ⟨hD.ok.m, by simp⟩ (fun k hk => by simp [Value.ownBlock] at hk) (fun j hj => ?_) (fun _ => id) (fun j hj => ?_) (Gr.lt h.olt (Nat.le_trans ku.size cs.size))
      · exact hj.imp id fun e => ⟨e.1, Nat.lt_of_lt_of_le e.2 cs.size⟩
      · obtain ⟨g1, g2⟩ := hD.yne j hj
        exact ⟨g1.imp id fun e => ⟨e.1, Nat.lt_of_lt_of_le e.2 cs.size⟩, g2⟩
theorem crash_nil (v : Value) (w : World) : Ret Tryz.prog 26 #[.pointer none, v] w fun v' w' => v' = .tuple #[] ∧ w' = w := by
  refine v_enter Tryz.func26 Tryz.ntmps26 rfl (by simp) fun R' hR => ?_
  simp [go_sem]
  exact hR _ _ ⟨rfl, rfl⟩
theorem flush_nil (w : World) : Ret Tryz.prog 25 #[.pointer none] w fun v' w' => v' = .int .i64 2 ∧ w' = w := by
  refine v_enter Tryz.func25 Tryz.ntmps25 rfl (by simp) fun R' hR => ?_
  simp [go_sem]
  refine (able_nil w).mono ?_
  rintro _ w1 ⟨rfl, hw⟩
  subst w1
  simp [go_sem]
  exact hR _ _ ⟨rfl, rfl⟩
theorem write_nil (a : Nat) (v : Value) (w : World) : Ret Tryz.prog 50 #[.pointer none, .int .u16 a, v] w fun v' w' => v' = .int .i64 2 ∧ w' = w := by
  refine v_enter Tryz.func50 Tryz.ntmps50 rfl (by simp) fun R' hR => ?_
  simp [go_sem]
  refine (able_nil w).mono ?_
  rintro _ w1 ⟨rfl, hw⟩
  subst w1
  simp [go_sem]
  exact hR _ _ ⟨rfl, rfl⟩
end
end Go.Proofs.YtppilgkgnofkpaaGreatDoor
