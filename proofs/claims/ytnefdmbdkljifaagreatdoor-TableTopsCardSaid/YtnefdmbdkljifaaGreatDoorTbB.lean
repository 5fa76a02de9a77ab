/- Tables: a number's inode, of any source. Conditions: the variables ptr.wide and tree.hole hold what the text lays. -/
import Derived.Test.YtnefdmbdkljifaaGreatDoorTrC
import Derived.Test.YtnefdmbdkljifaaGreatDoorInE
import Derived.Test.YtnefdmbdkljifaaGreatDoorInD
import Derived.Test.YtnefdmbdkljifaaGreatDoorInL
import Derived.Test.YtnefdmbdkljifaaGreatDoorTrH
set_option linter.unusedSimpArgs false
set_option linter.unusedVariables false

/- Tables: a leaf's inodes, and an inode, of any source. Conditions: the variables ptr.wide and tree.hole hold what the text lays. -/
namespace Go.Proofs.YtnefdmbdkljifaaGreatDoor
open Go.RowKit Go.Kin

/-- a leaf's inodes are read -/
def bread {σ : Type} (rd : Src σ) (s : σ) (p : Pt) : σ × List In × Int :=
  if p = ptz then (s, ibz, 0) else if (rd s p).2.2 ≠ 0 then ((rd s p).1, ibz, (rd s p).2.2) else if (ib4 (rd s p).2.1).2 ≠ 0 then ((rd s p).1, ibz, 21) else ((rd s p).1, (ib4 (rd s p).2.1).1, 0)
theorem bread_ok {σ : Type} (rd : Src σ) (s : σ) (p : Pt) : IbOk (bread rd s p).2.1 := by
  have okL := ib4_ok (rd s p).2.1
  unfold bread
  generalize ib4 (rd s p).2.1 = L at *
  generalize rd s p = r at *
  by_cases h1 : p = ptz
  · rw [if_pos h1]
    exact ibz_ok
  · rw [if_neg h1]
    by_cases h2 : r.2.2 ≠ 0
    · rw [if_pos h2]
      exact ibz_ok
    · rw [if_neg h2]
      by_cases h3 : L.2 ≠ 0
      · rw [if_pos h3]
        exact ibz_ok
      · rw [if_neg h3]
        exact okL
section
variable {σ : Type} {H : σ → HP} {m : σ → Nat} {rd : Src σ} {bt : TypeId} {bv : Value} {s : σ} {w w' : World} {O : Nat → Prop}
set_option maxRecDepth 100000 in
theorem bread_any (hs : SrcOk H m rd (.iface bt bv)) (hm : 16 ≤ m s) (hH : ∀ s, HOk (H s)) (h : H s w O) (p : Pt) (ok : PtOk p) (env : TEnv w) (hg : GlOk H O) :
    Ret Tryz.prog 33 #[.iface bt bv, .agg (pt p)] w fun v' w' => v' = .tuple #[.agg (ib (bread rd s p).2.1), .int .i64 (bread rd s p).2.2] ∧ H (bread rd s p).1 w' (Gr O w w') ∧ Ch O w w' := by
  refine v_enter Tryz.func33 Tryz.ntmps33 rfl (by simp) fun R' hR => ?_
  have hps := pt_size ok
  have hpa := pt_all ok
  have hns := ib_size ibz_ok
  have hna := ib_all ibz_ok
  have hlO := (hH s).lt h
  have ca := ((Ch.refl Nw w).alloc (.cells (pt p) 37)).alloc (.cells (ib ibz) 100)
  have b0 := al2_0 w (.cells (pt p) 37) (.cells (ib ibz) 100)
  have b1 := al2_1 w (.cells (pt p) 37) (.cells (ib ibz) 100)
  have env1 := env.ch ca fun _ _ e => e
  have sa : ((w.alloc (.cells (pt p) 37)).alloc (.cells (ib ibz) 100)).heap.size = w.heap.size + 2 := by simp
  obtain ⟨cs, T, fr, hh0, hx, hz⟩ := env.lh
  have hl0 := lt_of_block hh0
  have hh1 := ca.obj hh0 id
  have heq : ∀ w, (Op.equalIn 10000 37 (.agg (pt p)) (.agg (pt ptz))).run Tryz.prog w = .ok (decide (p = ptz)) w := fun w => eq_pt w ok ptz_ok
  have fz1 := frz_blk b1 0
  have hhg : ∀ hlt, ((w.alloc (.cells (pt p) 37)).alloc (.cells (ib ibz) 100)).heap[0]'hlt = .cells cs T fr := fun hlt => by
    have := hh1
    rw [Array.getElem?_eq_getElem hlt] at this
    exact Option.some.inj this
  by_cases hp : p = ptz
  · have ht : bread rd s p = (s, ibz, 0) := by unfold bread; rw [if_pos hp]
    rw [ht] at hR
    subst hp
    simp [go_sem, hps, hpa, hz_ib, zc_ib, bld_pt0, heq, bld_ib0, hns, hna, blit_whole]
    exact hR _ _ ⟨rfl, (hH s).weak ((hH s).ch h (ca.setRow (.inr (by omega)) _) fun _ _ e => e) (fun k hk => .inl hk) (Gr.lt hlO (by simp; omega)), (ca.setRow (.inr (by omega)) _).mono fun _ _ e => e.elim⟩
  · simp [go_sem, hps, hpa, hz_ib, zc_ib, bld_pt0, heq, hp]
    have h1 := (hH s).ch h ca fun _ _ e => e
    have nO : ∀ j, w.heap.size ≤ j → ¬ O j := fun j hj e => by have := hlO j e; omega
    have hsa := ca.size
    obtain ⟨r, hr⟩ : ∃ r, rd s p = r := ⟨_, rfl⟩
    have fin : ∀ {W : World} {W1 : World} {x : σ × List In × Int}, bread rd s p = x → H x.1 W (Gr O W1 W) → w.heap.size ≤ W1.heap.size → W1.heap.size ≤ W.heap.size → Ch O w W → R' (.tuple #[.agg (ib x.2.1), .int .i64 x.2.2]) W := fun {W W1 x} e a b c d => by
      subst e
      exact hR _ _ ⟨rfl, (hH _).weak a (fun k hk => hk.imp id fun e => ⟨by omega, e.2⟩) (Gr.lt hlO (by omega)), d⟩
    clear hR
    revert h1 b0 b1 sa ca env1 fz1 hh1 hhg hsa
    generalize (w.alloc (.cells (pt p) 37)).alloc (.cells (ib ibz) 100) = w1
    intro ca b0 b1 env1 sa hh1 fz1 hhg h1 hsa
    refine hs.run s w1 O p _ hm h1 ok env1 hg fun u w2 sl hb2 h2 c2 => ?_
    have env2 := hg.env env1 c2 ⟨_, h2⟩ fun _ _ e => e
    have b12 := c2.obj b1 (nO _ (by omega))
    have hs2 := c2.size
    have cw2 : Ch O w w2 := (ca.mono fun _ _ e => e.elim).trans c2
    rw [hr] at sl hb2 h2 ⊢
    have fz12 := frz_blk b12 0
    have t0 : bread rd s p = if r.2.2 ≠ 0 then (r.1, ibz, r.2.2) else if (ib4 r.2.1).2 ≠ 0 then (r.1, ibz, 21) else (r.1, (ib4 r.2.1).1, 0) := by
      unfold bread
      rw [if_neg hp, hr]
    have endr : ∀ {W : World} {x : σ × List In × Int}, bread rd s p = x → x.1 = r.1 → Ch Nw w2 W → R' (.tuple #[.agg (ib x.2.1), .int .i64 x.2.2]) (W.setRow (w.heap.size + 1) (ib x.2.1)) := fun {W x} e e1 c => by
      have c' : Ch (one (w.heap.size + 1)) w2 (W.setRow (w.heap.size + 1) (ib x.2.1)) := (c.mono (S' := one (w.heap.size + 1)) fun _ _ e => e.elim).setRow (.inl rfl) _
      have hs' := c'.size
      refine fin (W1 := w1) e ?_ (by omega) (by omega) (cw2.trans' c' fun k hk e => by simp only [one] at e; omega)
      rw [e1]
      exact (hH r.1).weak ((hH r.1).ch h2 c' fun k hk e => by simp only [one] at e; exact hk.elim (nO k (by omega)) fun e => by omega) (fun k hk => hk.imp id fun e => ⟨e.1, by omega⟩) (Gr.lt (fun k hk => by have := hlO k hk; omega) (by omega))
    by_cases he : r.2.2 = 0
    · rw [if_neg (by omega)] at t0
      simp [go_sem, he]
      refine (ibtake_any u r.2.1 w2 hb2 sl env2.lw).mono ?_
      rintro _ w3 ⟨rfl, c3⟩
      have ok8 := ib4_ok r.2.1
      obtain ⟨N8, hN8⟩ : ∃ N8, (ib4 r.2.1).1 = N8 := ⟨_, rfl⟩
      obtain ⟨e8, he8⟩ : ∃ e8, (ib4 r.2.1).2 = e8 := ⟨_, rfl⟩
      rw [hN8] at ok8 t0 ⊢
      rw [he8] at t0 ⊢
      have h8s := ib_size ok8
      have h8a := ib_all ok8
      have b13 := c3.obj b12 id
      have c4 := c3.alloc (.cells (ib ibz) 100)
      have b14 := ((Ch.refl Nw w3).alloc (.cells (ib ibz) 100)).obj b13 id
      have b15 := ((Ch.refl Nw w3).alloc (.cells (ib N8) 100)).obj b13 id
      by_cases h8 : e8 = 0
      · rw [if_neg (by omega)] at t0
        subst h8
        simp [go_sem, hz_ib, zc_ib, h8s, h8a, hns, hna, b14, b15, blit_whole]
        have := endr t0 rfl (c3.alloc (.cells (ib N8) 100))
        exact this
      · rw [if_pos h8] at t0
        have h82 : (e8 == 0) = false := beq_false_of_ne h8
        simp [go_sem, hz_ib, zc_ib, h8s, h8a, hns, hna, b14, b15, blit_whole, h8, h82, bne, bld_ib0]
        have := endr t0 rfl (c3.alloc (.cells (ib N8) 100))
        exact this
    · rw [if_pos he] at t0
      have he2 : (r.2.2 == 0) = false := beq_false_of_ne he
      simp [go_sem, he, he2, bne, bld_ib0, b12, hns, hna, blit_whole]
      have := endr t0 rfl (Ch.refl Nw w2)
      exact this
end
end Go.Proofs.YtnefdmbdkljifaaGreatDoor

/- Trees: how much a Get, or an All, does; what it answers is a pointer. Conditions: none but that the values are of their types. -/
namespace Go.Proofs.YtnefdmbdkljifaaGreatDoor
open Go.RowKit Go.Kin

section
variable {σ : Type} {H : σ → HP} {m : σ → Nat} {rd : Src σ} {sv : Value}
theorem tgo_m (hs : SrcOk H m rd sv) (off : Nat) : ∀ (k : Nat) (s : σ) (p : Pt), m s ≤ m (tgo rd off k s p).1 + 16 * k
  | 0, s, p => by unfold tgo; simp
  | k + 1, s, p => by
    have h := tread_m hs s p
    unfold tgo
    split
    · simp only; omega
    · have h2 := tgo_m hs off k (tread rd s p).1 ((tread rd s p).2.1.getD (if k = 1 then off / 8 else off % 8) ptz)
      omega
theorem tgo_ok (rd : Src σ) (off : Nat) : ∀ (k : Nat) (s : σ) (p : Pt), PtOk p → PtOk (tgo rd off k s p).2.1
  | 0, s, p, h => by unfold tgo; exact h
  | k + 1, s, p, h => by
    have ok := tread_ok rd s p
    unfold tgo
    split
    · exact ptz_ok
    · refine tgo_ok rd off k _ _ ?_
      rw [List.getD_eq_getElem?_getD]
      generalize (if k = 1 then off / 8 else off % 8) = j
      by_cases hj : j < (tread rd s p).2.1.length
      · rw [List.getElem?_eq_getElem hj]; exact ok.all _ (List.getElem_mem hj)
      · rw [List.getElem?_eq_none (by omega)]; exact ptz_ok
theorem tget_ok (rd : Src σ) (s : σ) (p : Pt) (off : Nat) (h : PtOk p) : PtOk (tget rd s p off).2.1 := by
  unfold tget
  split
  · exact tgo_ok rd off 2 s p h
  · exact ptz_ok
theorem tget_m (hs : SrcOk H m rd sv) (s : σ) (p : Pt) (off : Nat) : m s ≤ m (tget rd s p off).1 + 32 := by
  unfold tget
  split
  · exact tgo_m hs off 2 s p
  · simp
theorem twk_m (hs : SrcOk H m rd sv) (top : List Pt) : ∀ (L : List Nat) (s : σ) (ls : List (Nat × Pt)) (ns : List Pt), m s ≤ m (twk rd top L s ls ns).1 + 16 * L.length
  | [], s, ls, ns => by unfold twk; simp
  | i :: L, s, ls, ns => by
    have h := tread_m hs s (top.getD i ptz)
    unfold twk
    split
    · have h2 := twk_m hs top L s ls ns
      simp only [List.length_cons]; omega
    · split
      · simp only [List.length_cons]; omega
      · have h2 := twk_m hs top L (tread rd s (top.getD i ptz)).1 (ls ++ tlvs i (tread rd s (top.getD i ptz)).2.1) (ns ++ [top.getD i ptz])
        simp only [List.length_cons]; omega
theorem tall_m (hs : SrcOk H m rd sv) (s : σ) (p : Pt) : m s ≤ m (tall rd s p).1 + 144 := by
  have h1 : m s ≤ m (twalk rd s p).1 + 144 := by
    have h := tread_m hs s p
    unfold twalk
    split
    · simp
    · split
      · simp only; omega
      · have h2 := twk_m hs (tread rd s p).2.1 (List.range 8) (tread rd s p).1 [] [p]
        simp only [List.length_range] at h2
        omega
  unfold tall
  split
  · split
    · exact h1
    · exact h1
  · simp
end
end Go.Proofs.YtnefdmbdkljifaaGreatDoor

namespace Go.Proofs.YtnefdmbdkljifaaGreatDoor
open Go.RowKit Go.Kin

theorem tbmay_any (n : Nat) (hn : n < 65536) (w : World) : Ret Tryz.prog 25 #[.int .u16 n] w fun v' w' => v' = .bool (decide (1 ≤ n ∧ n ≤ 255)) ∧ w' = w := by
  refine v_enter Tryz.func25 Tryz.ntmps25 rfl (by simp) fun R' hR => ?_
  by_cases h1 : 1 ≤ n
  · have h1' : (1 : Int) ≤ n := by omega
    by_cases h2 : n ≤ 255
    · have h2' : (n : Int) ≤ 255 := by omega
      simp [go_sem, h1, h1', h2, h2']
      exact hR _ _ ⟨by simp [h1, h2], rfl⟩
    · have h2' : ¬ (n : Int) ≤ 255 := by omega
      simp [go_sem, h1, h1', h2, h2']
      exact hR _ _ ⟨by simp [h1, h2], rfl⟩
  · have h1' : ¬ (1 : Int) ≤ n := by omega
    simp [go_sem, h1, h1']
    exact hR _ _ ⟨by simp [h1], rfl⟩
theorem tbleaf_any (n : Nat) (hn : n < 65536) (w : World) : Ret Tryz.prog 24 #[.int .u16 n] w fun v' w' => v' = .tuple #[.int .u32 (n / 4 : Nat), .int .i64 (n % 4 : Nat)] ∧ w' = w := by
  refine v_enter Tryz.func24 Tryz.ntmps24 rfl (by simp) fun R' hR => ?_
  have e1 : (n : Int).tdiv 4 = ((n / 4 : Nat) : Int) := by rw [Int.tdiv_eq_ediv_of_nonneg (by omega)]; omega
  have e2 : (n : Int).tmod 4 = ((n % 4 : Nat) : Int) := by rw [Int.tmod_eq_emod_of_nonneg (by omega)]; omega
  have w1 : IntKind.u32.wrap (IntKind.u16.wrap ((n : Int) / 4)) = ((n / 4 : Nat) : Int) := by simp [IntKind.wrap, IntKind.bits, IntKind.signed]; omega
  have w2 : IntKind.i64.wrap (IntKind.u16.wrap ((n : Int) % 4)) = ((n % 4 : Nat) : Int) := by
    rw [show IntKind.u16.wrap ((n : Int) % 4) = (n : Int) % 4 by simp [IntKind.wrap, IntKind.bits, IntKind.signed]; omega, IntKind.wrap_i64]
    omega
  have w3 : IntKind.i64.wrap ((n : Int) % 4) = ((n % 4 : Nat) : Int) := by
    rw [IntKind.wrap_i64]
    omega
  simp [go_sem, e1, e2, w1, w2, w3]
  exact hR _ _ ⟨by simp, rfl⟩
/-- a number's inode -/
def btget {σ : Type} (rd : Src σ) (s : σ) (p : Pt) (n : Nat) : σ × In × Int :=
  if ¬ (1 ≤ n ∧ n ≤ 255) then (s, inz, 1) else if (tget rd s p (n / 4)).2.2 ≠ 0 then ((tget rd s p (n / 4)).1, inz, (tget rd s p (n / 4)).2.2)
  else ((bread rd (tget rd s p (n / 4)).1 (tget rd s p (n / 4)).2.1).1, (bread rd (tget rd s p (n / 4)).1 (tget rd s p (n / 4)).2.1).2.1.getD (n % 4) inz, (bread rd (tget rd s p (n / 4)).1 (tget rd s p (n / 4)).2.1).2.2)
section
variable {σ : Type} {H : σ → HP} {m : σ → Nat} {rd : Src σ} {bt : TypeId} {bv sv : Value} {s : σ} {w w' : World} {O : Nat → Prop}
theorem bread_m (hs : SrcOk H m rd sv) (s : σ) (p : Pt) : m s ≤ m (bread rd s p).1 + 16 := by
  have h := hs.step s p
  unfold bread
  split
  · exact Nat.le_add_right _ _
  · split
    · exact h
    · split
      · exact h
      · exact h
set_option maxRecDepth 100000 in
theorem btget_any (hs : SrcOk H m rd (.iface bt bv)) (hm : 48 ≤ m s) (hH : ∀ s, HOk (H s)) (h : H s w O) (p : Pt) (ok : PtOk p) (n : Nat) (hn : n < 65536) (env : TEnv w) (hg : GlOk H O) :
    Ret Tryz.prog 13 #[.iface bt bv, .agg (pt p), .int .u16 n] w fun v' w' => v' = .tuple #[.agg (ino (btget rd s p n).2.1), .int .i64 (btget rd s p n).2.2] ∧ H (btget rd s p n).1 w' (Gr O w w') ∧ Ch O w w' := by
  refine v_enter Tryz.func13 Tryz.ntmps13 rfl (by simp) fun R' hR => ?_
  have hps := pt_size ok
  have hpa := pt_all ok
  have hlO := (hH s).lt h
  have hz := ino_size inz_ok
  have hza := ino_all inz_ok
  have ca := ((Ch.refl Nw w).alloc (.cells (pt p) 37)).alloc (.cells (ino inz) 56)
  have b0 := al2_0 w (.cells (pt p) 37) (.cells (ino inz) 56)
  have b1 := al2_1 w (.cells (pt p) 37) (.cells (ino inz) 56)
  have env1 := env.ch ca fun _ _ e => e
  have h1 := (hH s).ch h ca fun _ _ e => e
  have sa : ((w.alloc (.cells (pt p) 37)).alloc (.cells (ino inz) 56)).heap.size = w.heap.size + 2 := by simp
  obtain ⟨w1, hw1⟩ : ∃ w1, (w.alloc (.cells (pt p) 37)).alloc (.cells (ino inz) 56) = w1 := ⟨_, rfl⟩
  rw [hw1] at ca b0 b1 env1 h1 sa
  simp [go_sem, hps, hpa, hz_ino, zc_ino, hw1]
  obtain ⟨g6, hg6⟩ : ∃ g6, w.heap.size + 1 = g6 := ⟨_, rfl⟩
  rw [hg6] at b1 ⊢
  clear hw1
  have nO : ∀ j, w.heap.size ≤ j → ¬ O j := fun j hj e => by have := hlO j e; omega
  have h6O : ¬ O g6 := nO g6 (by omega)
  have fin : ∀ {W : World} {x : σ × In × Int}, btget rd s p n = x → H x.1 W (Gr O w1 W) → Ch O w1 W → R' (.tuple #[.agg (ino x.2.1), .int .i64 x.2.2]) (W.setRow g6 (ino x.2.1)) := fun {W x} e a c => by
    subst e
    have hsW := c.size
    have c' : Ch (Kin.one g6) W (W.setRow g6 (ino (btget rd s p n).2.1)) := (Ch.refl (Kin.one g6) W).setRow (.inl rfl) _
    have hs' := c'.size
    refine hR _ _ ⟨rfl, (hH _).weak ((hH _).ch a c' fun k hk e => by simp only [Kin.one] at e; subst e; exact hk.elim h6O fun e => by omega) (fun k hk => hk.imp id fun e => ⟨by omega, by omega⟩) (Gr.lt hlO (by omega)), ?_⟩
    exact ((ca.mono fun _ _ e => e.elim).trans c).trans' c' fun k hk e => by simp only [Kin.one] at e; omega
  have hl1 : ∀ k, O k → k < w1.heap.size := fun k hk => by have := hlO k hk; omega
  refine (tbmay_any n hn w1).mono ?_
  rintro _ w2 ⟨rfl, hw⟩
  subst w2
  by_cases hmay : 1 ≤ n ∧ n ≤ 255
  case neg =>
    have e : btget rd s p n = (s, inz, 1) := by unfold btget; rw [if_pos hmay]
    simp [go_sem, hmay, bld_ino0, b1, hz, hza, blit_whole]
    exact fin e ((hH _).weak h1 (fun k hk => .inl hk) (Gr.lt hl1 (Nat.le_refl _))) (Ch.refl _ _)
  simp [go_sem, hmay]
  refine (tbleaf_any n hn w1).mono ?_
  rintro _ w2 ⟨rfl, hw⟩
  subst w2
  simp [go_sem, b0, hps, hpa]
  have htg := tget_gl hs (by omega) hH h1 p ok (n / 4) (by omega) env1 hg
  have ok2 := tget_ok rd s p (n / 4) ok
  have m2 := tget_m hs s p (n / 4)
  have hb0 : btget rd s p n = if (tget rd s p (n / 4)).2.2 ≠ 0 then ((tget rd s p (n / 4)).1, inz, (tget rd s p (n / 4)).2.2) else ((bread rd (tget rd s p (n / 4)).1 (tget rd s p (n / 4)).2.1).1, (bread rd (tget rd s p (n / 4)).1 (tget rd s p (n / 4)).2.1).2.1.getD (n % 4) inz, (bread rd (tget rd s p (n / 4)).1 (tget rd s p (n / 4)).2.1).2.2) := by
    unfold btget
    rw [if_neg (fun e => e hmay)]
  obtain ⟨⟨s2, q2, e2⟩, hT⟩ : ∃ x, tget rd s p (n / 4) = x := ⟨_, rfl⟩
  rw [hT] at htg ok2 m2 hb0
  simp only at htg ok2 m2 hb0
  have e4 : ((n / 4 : Nat) : Int) = (n : Int) / 4 := by omega
  rw [e4] at htg
  refine htg.mono ?_
  rintro _ w2 ⟨rfl, h2, c2⟩
  have hq2 := pt_size ok2
  have hqa2 := pt_all ok2
  have hs2 := c2.size
  have env2 := hg.env env1 c2 ⟨_, h2⟩ fun _ _ e => e
  have b12 := c2.obj b1 h6O
  have c3 := (Ch.refl Nw w2).alloc (.cells (pt q2) 37)
  have b3 := hp_alloc w2 (.cells (pt q2) 37)
  have env3 := env2.ch c3 fun _ _ e => e
  have h3 := (hH _).ch h2 c3 fun _ _ e => e
  have b13 := c3.obj b12 id
  have s3 : (w2.alloc (.cells (pt q2) 37)).heap.size = w2.heap.size + 1 := by simp
  have c13 := c2.trans (c3.mono (S' := O) fun _ _ e => e.elim)
  obtain ⟨w3, hw3⟩ : ∃ w3, w2.alloc (.cells (pt q2) 37) = w3 := ⟨_, rfl⟩
  rw [hw3] at c3 b3 env3 h3 b13 s3 c13
  have h3' : H s2 w3 (Gr O w1 w3) := (hH _).weak h3 (fun k hk => hk.imp id fun e => ⟨e.1, by omega⟩) (Gr.lt hl1 (by omega))
  have hzp := pt_size ptz_ok
  by_cases he : e2 = 0
  · rw [if_neg (by omega)] at hb0
    subst he
    simp [go_sem, hz_pt, zc_pt, hzp, hq2, hqa2, blit_whole, hw3, b3]
    have hbr := bread_any hs (by omega) hH h3' q2 ok2 env3 (hg.gr env1)
    have okb := bread_ok rd s2 q2
    obtain ⟨⟨s4, L4, e5⟩, hB⟩ : ∃ x, bread rd s2 q2 = x := ⟨_, rfl⟩
    rw [hB] at hbr hb0 okb
    simp only at hbr hb0 okb
    refine hbr.mono ?_
    rintro _ w4 ⟨rfl, h4, c4⟩
    have hs4 := c4.size
    have n6 : ¬ Gr O w1 w3 g6 := fun e => e.elim h6O fun e => by omega
    have b14 := c4.obj b13 n6
    have hb4 := ib_size okb
    have hba := ib_all okb
    have hbz := ib_size ibz_ok
    obtain ⟨x, hx, okx⟩ := okb.at' (k := n % 4) (by omega)
    have hxg := ib_get okb hx
    have hxs := ino_size okx
    have c5 := (Ch.refl Nw w4).alloc (.cells (ib L4) 100)
    have b5 := hp_alloc w4 (.cells (ib L4) 100)
    have b15 := c5.obj b14 id
    have h5 := (hH _).ch h4 c5 fun _ _ e => e
    have s5 : (w4.alloc (.cells (ib L4) 100)).heap.size = w4.heap.size + 1 := by simp
    have c15 : Ch O w1 (w4.alloc (.cells (ib L4) 100)) := (c13.trans' c4 fun k hk e => e.elim id fun e => by omega).trans (c5.mono fun _ _ e => e.elim)
    obtain ⟨w5, hw5⟩ : ∃ w5, w4.alloc (.cells (ib L4) 100) = w5 := ⟨_, rfl⟩
    rw [hw5] at c5 b5 b15 h5 s5 c15
    have hm4 : ((n % 4 : Nat) : Int) = (n : Int) % 4 := by omega
    have hlt4 : (n : Int) % 4 < 4 := by omega
    have hlt4' : n % 4 < 4 := by omega
    have hge4 : (0 : Int) ≤ (n : Int) % 4 := by omega
    have htn : ((n : Int) % 4).toNat = n % 4 := by omega
    have hle : n % 4 * 44 + 44 ≤ 176 := by omega
    have hgd : L4.getD (n % 4) inz = x := by rw [List.getD_eq_getElem?_getD, hx]; rfl
    rw [hgd] at hb0
    simp [go_sem, hz_ib, zc_ib, hb4, hba, hbz, blit_whole, hw5, b5, b15, hlt4, hlt4', hge4, htn, hle, hxg, hxs, hz]
    rw [ino_all okx]
    exact fin hb0 ((hH _).weak h5 (fun k hk => hk.elim (fun e => e.imp id fun e => ⟨e.1, by omega⟩) fun e => .inr ⟨by omega, by omega⟩) (Gr.lt hl1 (by omega))) c15
  · rw [if_pos he] at hb0
    have he2 : (e2 == 0) = false := beq_false_of_ne he
    simp [go_sem, hz_pt, zc_pt, hzp, hq2, hqa2, blit_whole, hw3, b13, he, he2, bne, bld_ino0, hz, hza]
    exact fin hb0 h3' c13
end
end Go.Proofs.YtnefdmbdkljifaaGreatDoor
