/- Package space, and the mirror's copies: looked at. No condition but on sizes. -/
import Derived.Test.YtppilgkgnofkpaaDoorMrA
set_option linter.unusedSimpArgs false
set_option linter.unusedVariables false

namespace Go.Proofs.YtppilgkgnofkpaaDoor
open Go.RowKit Go.Kin

section
variable {w w' : World} {m p n i : Nat} {z : Mz} {s : Mr} {mv : Value} {A : Nat → Nat → Prop} {O S : Nat → Prop}
theorem spdisk_any (h : MrP w m p n z s mv A) (hi : i < 2) : Ret Tryd.prog 66 #[.pointer (some ⟨z.sp, 0, none⟩), .int .i64 i] w fun v' w' => v' = .slice (some ⟨z.g i, 0, none⟩) n n ∧ w' = w := by
  refine v_enter Tryd.func66 Tryd.ntmps66 rfl (by simp) fun R' hR => ?_
  have c0 : w.cell? ⟨z.sp, 0, none⟩ = some (.slice (some ⟨z.g 0, 0, none⟩) n n) := cell_blk h.sp 0
  have c1 : w.cell? ⟨z.sp, 1, none⟩ = some (.slice (some ⟨z.g 1, 0, none⟩) n n) := cell_blk h.sp 1
  rcases lt2 hi with rfl | rfl
  · simp [go_sem, c0]
    exact hR _ _ ⟨rfl, rfl⟩
  · simp [go_sem, c1]
    exact hR _ _ ⟨rfl, rfl⟩
theorem spis_any (h : MrP w m p n z s mv A) (hi : i < 2) (a : Nat) (ha : a < 65536) : Ret Tryd.prog 34 #[.pointer (some ⟨z.sp, 0, none⟩), .int .i64 i, .int .u16 a] w fun v' w' => v' = .bool (decide (a < n) && s.sick i a) ∧ w' = w := by
  refine v_enter Tryd.func34 Tryd.ntmps34 rfl (by simp) fun R' hR => ?_
  simp [go_sem]
  refine (spdisk_any h hi).mono ?_
  rintro _ w1 ⟨rfl, rfl⟩
  have hlen : ∀ w', (Builtin.len_ #[143] 3 #[.slice (some ⟨z.g i, 0, none⟩) n n]).run Tryd.prog w' = .ok (.int .i64 n) w' := fun w' => by simp [Builtin.len_, run_underlying Tryd.underlying143, goInt]
  have hw64 : IntKind.i64.wrap (a : Int) = a := by rw [IntKind.wrap_i64]; omega
  by_cases han : a < n
  · have han' : (a : Int) < n := by omega
    have hb := h.pl i hi
    have cc : w1.cell? ⟨z.g i, a * 2 + 1, none⟩ = some (.bool (s.sick i a)) := by rw [cell_blk hb]; exact (plcs_at s i han).2
    simp [go_sem, hlen, hw64, han, han', cc]
    exact hR _ _ ⟨by simp [han], rfl⟩
  · have han' : ¬ (a : Int) < n := by omega
    simp [go_sem, hlen, hw64, han, han']
    exact hR _ _ ⟨by simp [han], rfl⟩
theorem pls_set (s : Mr) {n a : Nat} (i : Nat) : (pls s n i).set a (s.use i a, true) = pls { s with sick := upd1 s.sick i (upd1 (s.sick i) a true) } n i := by
  unfold pls
  simp only [upd1_same]
  apply List.ext_getElem?
  intro j
  rw [List.getElem?_set]
  by_cases hj : a = j
  · subst hj
    by_cases ha : a < n <;> simp [ha]
  · rw [if_neg hj]
    simp only [List.getElem?_map]
    cases hr : (List.range n)[j]? with
    | none => rfl
    | some x =>
      have hx : x = j := by
        have := List.getElem?_eq_some_iff.1 hr
        obtain ⟨h1, h2⟩ := this
        simpa using h2.symm
      subst hx
      simp [upd1_ne _ _ (fun e => hj e.symm)]
theorem MrP.row (h : MrP w m p n z s mv A) (hi : i < 2) (hc : Ch (one (z.g i)) w w') {s' : Mr} (hb : w'.heap[z.g i]? = some (.cells (plcs s' n i) 146 (0, 0))) (hj : ∀ j, j ≠ i → plcs s' n j = plcs s n j) (e : mcs s' z mv = mcs s z mv) (e1 : s'.dk = s.dk) (e2 : s'.P = s.P) (e5 : s'.moves = s.moves) : MrP w' m p n z s' mv A := by
  have hx : MrX z m mv (z.g i) := by
    rcases lt2 hi with rfl | rfl
    · exact .inr (.inr (.inl rfl))
    · exact .inr (.inr (.inr (.inl rfl)))
  obtain ⟨n1, n2, n3, n4, n5, n6⟩ := h.ne
  have nm : m ≠ z.g i ∧ z.sp ≠ z.g i := by
    rcases lt2 hi with rfl | rfl
    · exact ⟨fun e => n2 e.symm, n4⟩
    · exact ⟨fun e => n3 e.symm, n5⟩
  have hvi : ∀ k, mv.ownBlock = some k → k ≠ z.g i := fun k hk => by
    rcases lt2 hi with rfl | rfl
    · exact (h.nv k hk).2.2.1
    · exact (h.nv k hk).2.2.2
  refine ⟨by rw [e]; exact hc.obj h.blk nm.1, fun j hj => ?_, hc.obj h.sp nm.2, fun j hj2 => ?_, by rw [e5]; exact own_ch h.mo hc hvi, by rw [e5]; exact h.okm, h.ab, h.ne, h.nx, h.nv⟩
  · rw [e1, e2]
    exact (h.sd j hj).ch hc (fun k hk e => (h.xi hj hx).1 (by simp only [one] at e; rw [← e]; exact hk)) fun e => (h.xi hj hx).2 e.symm
  · by_cases hji : j = i
    · rw [hji]; exact hb
    · rw [hj j hji]
      refine hc.obj (h.pl j hj2) fun e => ?_
      simp only [one] at e
      rcases lt2 hi with rfl | rfl <;> rcases lt2 hj2 with rfl | rfl
      · exact hji rfl
      · exact n6 e.symm
      · exact n6 e
      · exact hji rfl
theorem sick_any (h : MrP w m p n z s mv A) (hi : i < 2) (a : Nat) (ha : a < 65536) : Ret Tryd.prog 84 #[.pointer (some ⟨z.sp, 0, none⟩), .int .i64 i, .int .u16 a] w fun v' w' => MrP w' m p n z (s.sicks n i a) mv A ∧ Ch (one (z.g i)) w w' := by
  refine v_enter Tryd.func84 Tryd.ntmps84 rfl (by simp) fun R' hR => ?_
  simp [go_sem]
  refine (v_enter Tryd.func102 Tryd.ntmps102 rfl (by simp) fun R2 hR2 => ?_ : Ret Tryd.prog 102 #[.pointer (some ⟨z.sp, 0, none⟩), .int .i64 i, .int .u16 a, .func (.func 103) #[] #[]] w fun v' w' => (∃ k, v' = .int .i64 k) ∧ MrP w' m p n z (s.sicks n i a) mv A ∧ Ch (one (z.g i)) w w').mono ?_
  · have hfn : ∀ (x : List Value) (w : World), (callFunc 103 x.toArray).run Tryd.prog w = .ok (.enter 103 x.toArray) w := fun x w => by simp [go_sem]
    have hlen : ∀ w', (Builtin.len_ #[143] 3 #[.slice (some ⟨z.g i, 0, none⟩) n n]).run Tryd.prog w' = .ok (.int .i64 n) w' := fun w' => by simp [Builtin.len_, run_underlying Tryd.underlying143, goInt]
    have hw64 : IntKind.i64.wrap (a : Int) = a := by rw [IntKind.wrap_i64]; omega
    simp [go_sem]
    refine (spdisk_any h hi).mono ?_
    rintro _ w1 ⟨rfl, rfl⟩
    by_cases h0 : a = 0
    · subst h0
      simp [go_sem]
      exact hR2 _ _ ⟨⟨_, rfl⟩, by simpa [Mr.sicks] using h, Ch.refl _ _⟩
    · have h0' : ((a : Int) == 0) = false := beq_false_of_ne (by omega)
      by_cases han : a < n
      · have han' : ¬ (n : Int) ≤ a := by omega
        simp [go_sem, hlen, hw64, h0, h0', han, han']
        have hb := h.pl i hi
        have ff := fun j => frz_blk hb j
        have cc : w1.cell? ⟨z.g i, a * 2 + 1, none⟩ = some (.bool (s.sick i a)) := by rw [cell_blk hb]; exact (plcs_at s i han).2
        have hc : Ch (one (z.g i)) w1 (w1.setCell ⟨z.g i, a * 2 + 1, none⟩ (.bool true)) := (Ch.refl (one (z.g i)) w1).setCell (p := ⟨z.g i, a * 2 + 1, none⟩) (.inl rfl) _
        have hs : s.sicks n i a = { s with sick := upd1 s.sick i (upd1 (s.sick i) a true) } := by unfold Mr.sicks; rw [if_neg (by omega)]
        refine (v_enter Tryd.func103 Tryd.ntmps103 rfl (by simp) fun R3 hR3 => ?_ : Ret Tryd.prog 103 #[.pointer (some ⟨z.g i, a * 2, none⟩)] w1 fun v' w' => v' = .bool true ∧ w' = w1.setCell ⟨z.g i, a * 2 + 1, none⟩ (.bool true)).mono ?_
        · simp [go_sem, cc, ff]
          exact hR3 _ _ ⟨rfl, rfl⟩
        rintro _ w2 ⟨rfl, rfl⟩
        simp [go_sem]
        refine hR2 _ _ ⟨⟨_, rfl⟩, ?_, hc⟩
        rw [hs]
        refine h.row hi hc ?_ (fun j hj => ?_) rfl rfl rfl rfl
        · rw [hp_setCell, hb, setOf_cells]
          congr 1
          congr 1
          unfold plcs
          rw [← pls_set]
          exact rows_set_at (n := 2) (plc_size _) (pls_at s i han) (i := 1) (by omega) rfl
        · unfold plcs pls
          simp only [upd1_ne _ _ hj]
      · have han' : (n : Int) ≤ a := by omega
        simp [go_sem, hlen, hw64, h0, h0', han, han']
        exact hR2 _ _ ⟨⟨_, rfl⟩, by simpa [Mr.sicks, show n ≤ a by omega] using h, Ch.refl _ _⟩
  · rintro _ w1 ⟨⟨k, rfl⟩, h1, c1⟩
    simp [go_sem]
    exact hR _ _ ⟨h1, c1⟩
/-- what a copy says -/
def MReadR (w : World) (r : Option Byts) (v' : Value) (w' : World) : Prop := match r with
  | some b => ∃ u, v' = .tuple #[u, .bool true] ∧ b.length = 512 ∧ Sl w' u 512 (bvs b) ∧ Fresh w.heap.size u ∧ ∀ k, u.ownBlock = some k → k < w'.heap.size
  | none => ∃ u, v' = .tuple #[u, .bool false]
set_option maxRecDepth 100000 in
theorem mread_any (h : MrP w m p n z s mv A) (q : Pt) (ok : PtOk q) (hk : Lk w) (k : Nat) (hk4 : k < 4) : Ret Tryd.prog 83 #[.pointer (some ⟨m, 0, none⟩), .agg (pt q), .agg #[.int .i64 (k / 2 : Nat), .int .u16 (adr q k)]] w fun v' w' => MReadR w (s.good n q k) v' w' ∧ Ch Nw w w' := by
  refine v_enter Tryd.func83 Tryd.ntmps83 rfl (by simp) fun R' hR => ?_
  have hps := pt_size ok
  have hpa := pt_all ok
  have hi : k / 2 < 2 := by omega
  have hal := adr_lt ok k
  obtain ⟨i, hki⟩ : ∃ i, k / 2 = i := ⟨_, rfl⟩
  rw [hki] at hi
  have b0 := al2_0 w (.cells (pt q) 28) (.cells #[.int .i64 (k / 2 : Nat), .int .u16 (adr q k)] 157)
  have b1 := al2_1 w (.cells (pt q) 28) (.cells #[.int .i64 (k / 2 : Nat), .int .u16 (adr q k)] 157)
  have ca := ((Ch.refl Nw w).alloc (.cells (pt q) 28)).alloc (.cells #[.int .i64 (k / 2 : Nat), .int .u16 (adr q k)] 157)
  have hg : s.good n q k = if (s.dk i).able s.P then ((s.dk i).look n (adr q k)).filter (fitB q) else none := by unfold Mr.good; rw [hki]
  rw [hki] at b0 b1 ca ⊢
  simp [go_sem]
  obtain ⟨g, hgs⟩ : ∃ g, w.heap.size = g := ⟨_, rfl⟩
  rw [hgs] at b0 b1 ⊢
  generalize (w.alloc (.cells (pt q) 28)).alloc (.cells #[.int .i64 i, .int .u16 (adr q k)] 157) = w1 at *
  have h1 := h.ch ca fun _ _ e => e
  have h1d := h1.ch (Ch.refl Nw w1).drew fun _ _ e => e
  have c1 := fun j => cell_blk b1 j
  have cd : w1.cell? ⟨m, i, none⟩ = some (.pointer (some ⟨z.d i, 0, none⟩)) := by
    rw [cell_blk h1.blk]
    rcases lt2 hi with rfl | rfl <;> rfl
  refine v_draw' [(0, none), (1, none), (2, none), (3, none), (4, none), (5, none), (6, none), (7, none), (8, none), (9, some []), (10, none), (11, none), (12, none), (13, none), (14, none)] (by kernel_rfl) (by kernel_rfl) ?_
  have hi2 : (i : Int) < 2 := by omega
  simp [go_sem, c1, cd, hi, hi2]
  refine ((h1d.sd i hi).read (adr q k) hal).mono ?_
  rintro _ w2 ⟨h2, _, k2⟩
  have k2' := Ch.of_drew k2
  have b02 := k2'.obj b0 id
  rcases h2 with ⟨hE, b, u, hlook, rfl, hb, hu, hf, ho⟩ | ⟨hE, rfl⟩
  · have hab : (s.dk i).able s.P = true := by
      cases hab : (s.dk i).able s.P with
      | true => rfl
      | false => simp [readE, hab] at hE
    rw [hab, if_pos rfl, hlook] at hg
    simp [go_sem, b02, hps, hpa]
    refine (fits_any q u b w2 ok (by rw [hb]; exact hu) ho (by omega) ((hk.ch ca id).ch k2' id)).mono ?_
    rintro _ w3 ⟨rfl, k3⟩
    simp [go_sem]
    refine hR _ _ ⟨?_, (ca.trans k2').trans k3⟩
    rw [hg]
    cases hfit : fitB q b with
    | true =>
      have e : (some b : Option Byts).filter (fitB q) = some b := by simp [Option.filter, hfit]
      rw [e]
      refine ⟨u, ?_, hb, hu.ch k3 fun _ _ e => e, ?_, fun k hk => Nat.lt_of_lt_of_le (ho k hk) k3.size⟩
      · rw [show (decide (b.length = 512) && decide (digS q b = q.h)) = fitB q b from rfl, hfit]
      · have := ca.size
        exact hf.mono (by simpa [← hgs] using this)
    | false =>
      have e : (some b : Option Byts).filter (fitB q) = none := by simp [Option.filter, hfit]
      rw [e]
      exact ⟨u, by rw [show (decide (b.length = 512) && decide (digS q b = q.h)) = fitB q b from rfl, hfit]⟩
  · have hgn : s.good n q k = none := by
      rw [hg]
      unfold readE at hE
      cases hab : (s.dk i).able s.P with
      | false => simp
      | true =>
        simp only [hab] at hE
        cases hl : (s.dk i).look n (adr q k) with
        | none => simp
        | some b =>
          exfalso
          apply hE
          have hna : ¬ n ≤ adr q k := fun hc => by
            unfold Dk.look at hl
            simp [hc] at hl
          simp [hna, hl]
    have hE2 : ((readE n (s.dk i) s.P (adr q k)) == 0) = false := beq_false_of_ne hE
    simp [go_sem, hE, hE2]
    exact hR _ _ ⟨by rw [hgn]; exact ⟨_, rfl⟩, ca.trans k2'⟩
end
end Go.Proofs.YtppilgkgnofkpaaDoor
