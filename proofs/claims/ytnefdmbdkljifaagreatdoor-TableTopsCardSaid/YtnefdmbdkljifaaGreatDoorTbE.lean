/- Tables: a leaf that is made anew, of any sink. Conditions: the variables ptr.wide and tree.hole hold what the text lays. -/
import Derived.Test.YtnefdmbdkljifaaGreatDoorTbD
import Derived.Test.YtnefdmbdkljifaaGreatDoorTrC
import Derived.Test.YtnefdmbdkljifaaGreatDoorTrV
set_option linter.unusedSimpArgs false
set_option linter.unusedVariables false

namespace Go.Kin
open Go Go.RowKit
def ResK3 (R : Value → World → Prop) (w : World) (u x : Value) (v : Value) (w' : World) : Prop := w' = w ∧ R (.tuple #[v, u, x]) w
@[simp] theorem ResK3_app (R : Value → World → Prop) (w : World) (u x v : Value) (w' : World) : ResK3 R w u x v w' = (w' = w ∧ R (.tuple #[v, u, x]) w) := nr rfl
section
attribute [local semireducible] VRc VRes VR
@[simp] theorem VRes_ctt (P : Program) (n : Nat) (R : Value → World → Prop) (f : Nat → Value) (w : World) (t y a : Nat) (ty : TypeId) :
    VRes P n #[.cell a ty, .tmp t, .tmp y] f w R = VRc P ty (ev n f (.tmp a)) w (ResK3 R w (ev n f (.tmp t)) (ev n f (.tmp y))) := by
  show _ = VR _ _
  unfold VRes VR
  simp only [resSem, List.mapM_toArray, List.mapM_cons, List.mapM_nil, act_getD, ev_tmp]
  simp only [Sem.run_bind, Sem.run_pure, Sem.run_map, Result.andThen_ok]
  cases h1 : (asAddr (if a < n then f a else undef)).run P w with
  | halt h w2 => simp
  | ok ad w2 =>
    simp only [Result.andThen_ok]
    cases h2 : (loadVar ty ad).run P w2 with
    | halt h w3 => simp
    | ok v w3 =>
      apply propext
      simp [ResK3]
      constructor
      · rintro ⟨_, ⟨rfl, hw⟩, h⟩; exact ⟨hw, h⟩
      · rintro ⟨hw, h⟩; exact ⟨_, ⟨rfl, hw⟩, h⟩
end
attribute [irreducible] ResK3
end Go.Kin
namespace Go.Proofs.YtnefdmbdkljifaaGreatDoor
open Go.RowKit Go.Kin

/-- what Put answers, and that the bytes are new -/
def IPutF (xs : List In) (w : World) (v' : Value) (w' : World) : Prop :=
  ∃ s e, v' = .tuple #[s, .int .i64 e] ∧ Ch Nw w w' ∧ ((e = 0 ∧ xs.all mayI = true ∧ Sl w' s (bytesI xs).length (bvs (bytesI xs)) ∧ ∀ k, s.ownBlock = some k → w.heap.size ≤ k ∧ k < w'.heap.size) ∨ (e = 5 ∧ xs.all mayI = false ∧ s = .slice none 0 0))
theorem ibputf_any (xs : List In) (w : World) (ok : IbOk xs) (hw : Lw w) : Ret Tryz.prog 50 #[.agg (ib xs)] w (IPutF xs w) := by
  refine v_enter Tryz.func50 Tryz.ntmps50 rfl (by simp) fun R' hR => ?_
  have hsz := ib_size ok
  have hall := ib_all ok
  have hc := (Ch.refl Nw w).alloc (.cells (ib xs) 100)
  have heq := fun w => eq_ib w ok ibz_ok
  by_cases hz : xs = ibz
  · subst hz
    have hmk := mk_zb 512 (w.alloc (.cells (ib ibz) 100)) (by decide)
    have z512 : ((512 : Nat) : Int) = 512 := rfl
    rw [z512] at hmk
    have bM := hp_alloc (w.alloc (.cells (ib ibz) 100)) (.cells (bvs (zb 512)).toArray 5)
    have hsl := Sl.of_blk bM (n := 512) (c := 512) (off := 0) (xs := bvs (zb 512)) (Nat.le_refl _) (by decide) (by simp only [List.drop_zero]; rw [List.take_of_length_le (by simp [bvs_length, zb_length])])
    simp [go_sem, hsz, hall, bld_ib0, heq]
    rw [hmk]
    simp [go_sem]
    refine hR _ _ ⟨_, 0, rfl, hc.alloc _, .inl ⟨rfl, may_ibz, ?_, fun k hk => ?_⟩⟩
    · rw [bytes_ibz, zb_length]
      simpa using hsl
    · simp [Value.ownBlock] at hk
      simp
      omega
  simp [go_sem, hsz, hall, bld_ib0, heq, hz]
  revert hc
  generalize w.alloc (.cells (ib xs) 100) = w1
  intro hc
  refine v_loop (fun r f wr => ∃ k, k ≤ 4 ∧ r = 4 - k ∧ f 11 = .agg (ib xs) ∧ f 12 = .int .i64 k ∧ (xs.take k).all mayI = true ∧ Mine 5 w (f 4) (128 * k) (bvs (bytesI (xs.take k))) wr) 4
    ⟨0, by omega, rfl, by simp, by simp, by simp, by simpa [bytesI, bvs] using Mine.nil _ hc⟩ ?_
  rintro J hJ _ f wr ⟨k, hk, rfl, h11, h12, ha, hm⟩
  by_cases hk4 : k < 4
  · have hki : (k : Int) < 4 := by omega
    obtain ⟨x, hx, okx⟩ := ok.at' hk4
    have hix := ib_index ok hk4 hx
    have hs1 := ino_size okx
    have ha1 := ino_all okx
    have hwk : IntKind.i64.wrap ((k : Int) + 1) = ((k + 1 : Nat) : Int) := by simp [IntKind.wrap_i64]; omega
    have htk : xs.take (k + 1) = xs.take k ++ [x] := by rw [List.take_add_one, hx]; rfl
    have htl : (bytesI (xs.take k)).length = 128 * k := by
      rw [bytesI_length _ fun q hq => ok.all q (List.mem_of_mem_take hq), List.length_take, ok.len, Nat.min_eq_left hk]
    have hm1 := hm.step ((Ch.refl Nw wr).alloc (.cells (ino x) 56))
    have hb1 := hp_alloc wr (.cells (ino x) 56)
    simp [go_sem, h11, h12, hki, hix, hz_ino, zc_ino, ino_size inz_ok, hs1, ha1, blit_whole]
    revert hm1 hb1
    generalize wr.alloc (.cells (ino x) 56) = w2
    generalize wr.heap.size = g
    intro hm1 hb1
    refine (imay_any x w2 okx (hw.ch hm1.ch id)).mono ?_
    rintro _ w3 ⟨rfl, c3⟩
    have hm2 := hm1.step c3
    have hb2 := c3.hp hb1 id
    cases hmay : mayI x
    · simp [go_sem]
      refine hR _ _ ⟨_, 5, rfl, hm2.ch, .inr ⟨rfl, ?_, rfl⟩⟩
      rw [List.all_eq_false]
      exact ⟨x, List.mem_of_getElem? hx, by simp [hmay]⟩
    · simp [go_sem, hb2, hs1, ha1]
      refine (iput_any x (f 4) (128 * k) (bytesI (xs.take k)) w3 okx (by omega) htl hm2.own).mono ?_
      intro v3 w4 q
      have hm3 := hm2.grow q.1 q.2.1 q.2.2
      simp [go_sem, h11, h12, hwk]
      refine Rnd.intro (4 - (k + 1)) (by omega) (hJ _ _ _ ⟨k + 1, by omega, rfl, by simp [h11], by simp, ?_, ?_⟩)
      · rw [htk, List.all_append, ha]
        simp [hmay]
      · rw [htk]
        simpa [bytesI, Nat.mul_add] using hm3
  · obtain rfl : k = 4 := by omega
    rw [List.take_of_length_le (by rw [ok.len]; omega)] at ha hm
    simp [go_sem, h12]
    refine hR _ _ ⟨_, 0, rfl, hm.ch, .inl ⟨rfl, ha, ?_, fun k hk => ⟨hm.fresh k hk, own_in hm.own k hk⟩⟩⟩
    rw [bytesI_length _ ok.all, ok.len]
    exact hm.sl
/-- other inodes in a leaf -/
def bset (L : List In) (l : List (Nat × In)) : List In := l.foldl (fun L x => L.set (x.1 % 4) x.2) L
/-- a leaf's pointer, ahead of its making -/
def tbp (off : Nat) : Pt := ⟨4, 0, 0, off, 0, List.replicate 32 0, [0, 0, 0, 0]⟩
def bmade {σ : Type} (rd : Src σ) (nw : σ → Pt → List UInt8 → σ × Pt × Int) (s : σ) (p : Pt) (off : Nat) (l : List (Nat × In)) : σ × Pt × Bool × Int :=
  if (tget rd s p off).2.2 ≠ 0 then ((tget rd s p off).1, (tget rd s p off).2.1, false, (tget rd s p off).2.2) else
  if (bread rd (tget rd s p off).1 (tget rd s p off).2.1).2.2 ≠ 0 then ((bread rd (tget rd s p off).1 (tget rd s p off).2.1).1, (tget rd s p off).2.1, false, (bread rd (tget rd s p off).1 (tget rd s p off).2.1).2.2) else
  if bset (bread rd (tget rd s p off).1 (tget rd s p off).2.1).2.1 l = (bread rd (tget rd s p off).1 (tget rd s p off).2.1).2.1 then ((bread rd (tget rd s p off).1 (tget rd s p off).2.1).1, (tget rd s p off).2.1, false, 0) else
  if bset (bread rd (tget rd s p off).1 (tget rd s p off).2.1).2.1 l = ibz then ((bread rd (tget rd s p off).1 (tget rd s p off).2.1).1, ptz, true, 0) else
  if (bset (bread rd (tget rd s p off).1 (tget rd s p off).2.1).2.1 l).all mayI = false then ((bread rd (tget rd s p off).1 (tget rd s p off).2.1).1, (tget rd s p off).2.1, false, 5) else
  ((nw (bread rd (tget rd s p off).1 (tget rd s p off).2.1).1 (tbp off) (bytesI (bset (bread rd (tget rd s p off).1 (tget rd s p off).2.1).2.1 l))).1,
   (nw (bread rd (tget rd s p off).1 (tget rd s p off).2.1).1 (tbp off) (bytesI (bset (bread rd (tget rd s p off).1 (tget rd s p off).2.1).2.1 l))).2.1, true,
   (nw (bread rd (tget rd s p off).1 (tget rd s p off).2.1).1 (tbp off) (bytesI (bset (bread rd (tget rd s p off).1 (tget rd s p off).2.1).2.1 l))).2.2)
theorem bset_ok : ∀ (l : List (Nat × In)) {L : List In}, IbOk L → (∀ x ∈ l, ItOk x) → IbOk (bset L l)
  | [], _, h, _ => h
  | x :: l, L, h, hl => bset_ok l (h.set (x.1 % 4) (hl x (by simp)).i) fun y hy => hl y (by simp [hy])
theorem bset_take {l : List (Nat × In)} {L : List In} {i : Nat} {x : Nat × In} (hx : l[i]? = some x) : bset L (l.take (i + 1)) = (bset L (l.take i)).set (x.1 % 4) x.2 := by
  unfold bset
  rw [List.take_add_one, hx, List.foldl_append]
  rfl
theorem tbp_ok {off : Nat} (h : off < 4294967296) : PtOk (tbp off) := ⟨by simp [tbp], by simp [tbp], by simp [tbp], by simpa [tbp] using h, by simp [tbp], by simp [tbp], by simp [tbp], by simp [tbp]⟩
theorem bld_tbp {w : World} {K : Value → World → Prop} (off : Nat) : VBld Tryz.prog 37 [(0, .int .u8 4), (3, .int .u32 off)] w K = K (.agg (pt (tbp off))) w := by
  refine VBld_struct Tryz.underlying37 hz_pt (places := #[(0, 1), (1, 1), (2, 1), (3, 1), (4, 1), (5, 32), (37, 4)]) (by simp [go_sem]) ?_
  have hz := pt_size ptz_ok
  simp [fillB, zc_pt, Value.cells, hz, blit_size]
  simp [blit, pt, ptz, tbp]
  rfl
section
variable {σ : Type} {H : σ → HP} {m : σ → Nat} {rd : Src σ} {nw : σ → Pt → List UInt8 → σ × Pt × Int} {od : σ → Pt → σ} {bt : TypeId} {bv sv : Value} {s : σ} {w w' : World} {O : Nat → Prop}
set_option maxRecDepth 100000 in
set_option maxHeartbeats 4000000 in
theorem bmade_any (hs : SnkOk H m rd nw od (.iface bt bv)) (hm : 64 ≤ m s) (hH : ∀ s, HOk (H s)) (h : H s w O) (p : Pt) (ok : PtOk p) (off : Nat) (hoff : off < 4294967296) (lv : Value) (l : List (Nat × In)) (hl : Lst w lv itL 45 l) (hin : ∀ x ∈ l, ItOk x) (hlO : ∀ j, lv.ownBlock = some j → ¬ O j ∧ j < w.heap.size) (hll : l.length ≤ 1000000) (env : TEnv w) (hg : GlOk H O) :
    Ret Tryz.prog 29 #[.iface bt bv, .agg (pt p), .int .u32 off, lv] w fun v' w' => v' = .tuple #[.agg (pt (bmade rd nw s p off l).2.1), .bool (bmade rd nw s p off l).2.2.1, .int .i64 (bmade rd nw s p off l).2.2.2] ∧ PtOk (bmade rd nw s p off l).2.1 ∧ H (bmade rd nw s p off l).1 w' (Gr O w w') ∧ Ch O w w' := by
  refine v_enter Tryz.func29 Tryz.ntmps29 rfl (by simp) fun R' hR => ?_
  have hps := pt_size ok
  have hpa := pt_all ok
  have hzp := pt_size ptz_ok
  have hzpa := pt_all ptz_ok
  have hOl := (hH s).lt h
  have ca := ((Ch.refl Nw w).alloc (.cells (pt p) 37)).alloc (.cells (pt ptz) 37)
  have b0 := al2_0 w (.cells (pt p) 37) (.cells (pt ptz) 37)
  have b1 := al2_1 w (.cells (pt p) 37) (.cells (pt ptz) 37)
  have env1 := env.ch ca fun _ _ e => e
  have h1 := (hH s).ch h ca fun _ _ e => e
  have sa : ((w.alloc (.cells (pt p) 37)).alloc (.cells (pt ptz) 37)).heap.size = w.heap.size + 2 := by simp
  have hl1 := hl.ch ca fun _ _ _ e => e
  obtain ⟨w1, hw1⟩ : ∃ w1, (w.alloc (.cells (pt p) 37)).alloc (.cells (pt ptz) 37) = w1 := ⟨_, rfl⟩
  rw [hw1] at ca b0 b1 env1 h1 sa hl1
  simp [go_sem, hps, hpa, hz_pt, zc_pt, hw1, b0]
  obtain ⟨g8, hg8⟩ : ∃ g, w.heap.size + 1 = g := ⟨_, rfl⟩
  rw [hg8] at b1 ⊢
  clear hw1
  have nO : ∀ j, w.heap.size ≤ j → ¬ O j := fun j hj e => by have := hOl j e; omega
  have h8O : ¬ O g8 := nO g8 (by omega)
  have hOl1 : ∀ k, O k → k < w1.heap.size := fun k hk => by have := hOl k hk; omega
  have fin : ∀ {W : World} {x : σ × Pt × Bool × Int}, bmade rd nw s p off l = x → PtOk x.2.1 → H x.1 W (Gr O w1 W) → Ch (fun k => O k ∨ k = g8) w1 W → R' (.tuple #[.agg (pt x.2.1), .bool x.2.2.1, .int .i64 x.2.2.2]) (W.setRow g8 (pt x.2.1)) := fun {W x} e okx a c => by
    subst e
    have hsW := c.size
    have c' : Ch (Kin.one g8) W (W.setRow g8 (pt (bmade rd nw s p off l).2.1)) := (Ch.refl (Kin.one g8) W).setRow (.inl rfl) _
    have hs' := c'.size
    refine hR _ _ ⟨rfl, okx, (hH _).weak ((hH _).ch a c' fun k hk e => by simp only [Kin.one] at e; subst e; exact hk.elim h8O fun e => by omega) (fun k hk => hk.imp id fun e => ⟨by omega, by omega⟩) (Gr.lt hOl (by omega)), ?_⟩
    exact ((ca.mono fun _ _ e => e.elim).trans' c fun k hk e => e.resolve_right (by omega)).trans' c' fun k hk e => by simp only [Kin.one] at e; omega
  have htg := tget_gl hs.rd (by omega) hH h1 p ok off hoff env1 hg
  have ok2 := tget_ok rd s p off ok
  have m2 := tget_m hs.rd s p off
  have hbm : bmade rd nw s p off l = bmade rd nw s p off l := rfl
  conv at hbm => rhs; unfold bmade
  obtain ⟨⟨s2, q2, e2⟩, hT⟩ : ∃ x, tget rd s p off = x := ⟨_, rfl⟩
  rw [hT] at htg ok2 m2 hbm
  simp only at htg ok2 m2 hbm
  refine htg.mono ?_
  rintro _ w2 ⟨rfl, h2, c2⟩
  have hq2 := pt_size ok2
  have hqa2 := pt_all ok2
  have hs2 := c2.size
  have env2 := hg.env env1 c2 ⟨_, h2⟩ fun _ _ e => e
  have b12 := c2.obj b1 h8O
  have hl2 := hl1.ch c2 fun b _ e => (hlO b e).1
  have c3 := (Ch.refl Nw w2).alloc (.cells (pt q2) 37)
  have b3 := hp_alloc w2 (.cells (pt q2) 37)
  have env3 := env2.ch c3 fun _ _ e => e
  have h3 := (hH _).ch h2 c3 fun _ _ e => e
  have b13 := c3.obj b12 id
  have hl3 := hl2.ch c3 fun _ _ _ e => e
  have s3 : (w2.alloc (.cells (pt q2) 37)).heap.size = w2.heap.size + 1 := by simp
  have c13 := c2.trans (c3.mono (S' := O) fun _ _ e => e.elim)
  obtain ⟨w3, hw3⟩ : ∃ w3, w2.alloc (.cells (pt q2) 37) = w3 := ⟨_, rfl⟩
  rw [hw3] at c3 b3 env3 h3 b13 s3 c13 hl3
  have h3' : H s2 w3 (Gr O w1 w3) := (hH _).weak h3 (fun k hk => hk.imp id fun e => ⟨e.1, by omega⟩) (Gr.lt hOl1 (by omega))
  obtain ⟨g11, hg11⟩ : ∃ g, w2.heap.size = g := ⟨_, rfl⟩
  have wide : ∀ {W W' : World}, Ch O W W' → Ch (fun k => O k ∨ k = g8) W W' := fun c => c.mono fun k _ e => .inl e
  by_cases he : e2 = 0
  case neg =>
    rw [if_pos he] at hbm
    have he2 : (e2 == 0) = false := beq_false_of_ne he
    simp [go_sem, hq2, hqa2, hz_pt, zc_pt, hzp, blit_whole, hw3, b13, b3, he, he2, bne]
    exact fin hbm ok2 h3' (wide c13)
  rw [if_neg (by omega)] at hbm
  subst he
  simp [go_sem, hq2, hqa2, hz_pt, zc_pt, hzp, blit_whole, hw3, b3]
  rw [hg11] at b3 ⊢
  have hbr := bread_any hs.rd (by omega) hH h3 q2 ok2 env3 (hg.gr env1)
  have okb := bread_ok rd s2 q2
  have bm := bread_m hs.rd s2 q2
  obtain ⟨⟨s4, L4, e4⟩, hB⟩ : ∃ x, bread rd s2 q2 = x := ⟨_, rfl⟩
  rw [hB] at hbr okb bm hbm
  simp only at hbr okb bm hbm
  refine hbr.mono ?_
  rintro _ w4 ⟨rfl, h4, c4⟩
  have hs4 := c4.size
  have nG : ∀ k, w.heap.size ≤ k → k < w1.heap.size → ¬ Gr O w1 w2 k := fun k h1 h2 e => e.elim (nO k h1) fun e => by omega
  have b14 := c4.obj b13 (nG g8 (by omega) (by omega))
  have b34 : w4.heap[g11]? = some (.cells (pt q2) 37 (0, 0)) := c4.obj b3 fun e => e.elim (fun e => by have := hOl1 g11 e; omega) fun e => by omega
  have hb4 := ib_size okb
  have hba := ib_all okb
  have hbz := ib_size ibz_ok
  have env4 := (hg.gr env1).env env3 c4 ⟨_, h4⟩ fun _ _ e => e
  have c5 := (Ch.refl Nw w4).alloc (.cells (ib L4) 100)
  have b5 := hp_alloc w4 (.cells (ib L4) 100)
  have s5 : (w4.alloc (.cells (ib L4) 100)).heap.size = w4.heap.size + 1 := by simp
  have b15 := c5.obj b14 id
  have b35 := c5.obj b34 id
  have env5 := env4.ch c5 fun _ _ e => e
  obtain ⟨w5, hw5⟩ : ∃ w5, w4.alloc (.cells (ib L4) 100) = w5 := ⟨_, rfl⟩
  rw [hw5] at c5 b5 s5 b15 b35 env5
  have h5 := (hH _).ch h4 c5 fun _ _ e => e
  have c15 : Ch O w1 w5 := (c13.trans' c4 fun k hk e => e.elim id fun e => by omega).trans (c5.mono fun _ _ e => e.elim)
  have h5' : H s4 w5 (Gr O w1 w5) := (hH _).weak h5 (fun k hk => hk.elim (fun e => e.imp id fun e => ⟨e.1, by omega⟩) fun e => .inr ⟨by omega, by omega⟩) (Gr.lt hOl1 (by omega))
  have hl5 := (hl3.ch c4 fun b hb e hG => hG.elim (hlO b e).1 fun h => by have := (hlO b e).2; omega).ch c5 fun _ _ _ e => e
  by_cases he : e4 = 0
  case neg =>
    rw [if_pos he] at hbm
    have he2 : (e4 == 0) = false := beq_false_of_ne he
    simp [go_sem, hz_ib, zc_ib, hb4, hba, hbz, blit_whole, hw5, b15, b35, hq2, hqa2, hzp, he, he2, bne]
    exact fin hbm ok2 h5' (wide c15)
  rw [if_neg (by omega)] at hbm
  subst he
  have c6 := (Ch.refl Nw w5).alloc (.cells (ib L4) 100)
  have b6 := hp_alloc w5 (.cells (ib L4) 100)
  have s6 : (w5.alloc (.cells (ib L4) 100)).heap.size = w5.heap.size + 1 := by simp
  have b16 := c6.obj b15 id
  have b36 := c6.obj b35 id
  have b56 := c6.obj b5 id
  have env6 := env5.ch c6 fun _ _ e => e
  have h6 := (hH _).ch h5 c6 fun _ _ e => e
  have hl6 := hl5.ch c6 fun _ _ _ e => e
  have c16 : Ch O w1 (w5.alloc (.cells (ib L4) 100)) := c15.trans (c6.mono fun _ _ e => e.elim)
  obtain ⟨w6, hw6⟩ : ∃ w6, w5.alloc (.cells (ib L4) 100) = w6 := ⟨_, rfl⟩
  rw [hw6] at c6 b6 s6 b16 b36 b56 env6 h6 hl6 c16
  have hlen := hl6.len Tryz.underlying43 3
  simp [go_sem, hz_ib, zc_ib, hb4, hba, hbz, blit_whole, hw5, b5, hw6, hlen]
  obtain ⟨g13, hg13⟩ : ∃ g, w4.heap.size = g := ⟨_, rfl⟩
  obtain ⟨g14, hg14⟩ : ∃ g, w5.heap.size = g := ⟨_, rfl⟩
  rw [hg13] at b56 ⊢
  rw [hg14] at b6 ⊢
  have F4 : ∀ k, Gr (Gr O w1 w2) w3 w4 k → k < g13 ∧ k ≠ g8 ∧ k ≠ g11 := fun k hk => by
    rcases hk with (hk | hk) | hk
    · have := hOl k hk
      omega
    · omega
    · omega
  refine v_loop (fun r f u => ∃ i, r = l.length - i ∧ i ≤ l.length ∧ f 0 = .iface bt bv ∧ f 2 = .int .u32 off ∧ f 8 = .pointer (some ⟨g8, 0, none⟩) ∧ f 11 = .pointer (some ⟨g11, 0, none⟩) ∧ f 13 = .pointer (some ⟨g13, 0, none⟩) ∧ f 14 = .pointer (some ⟨g14, 0, none⟩) ∧ f 42 = lv ∧ f 43 = .int .i64 l.length ∧ f 44 = .int .i64 (i : Nat) ∧
      u.heap[g8]? = some (.cells (pt ptz) 37 (0, 0)) ∧ u.heap[g11]? = some (.cells (pt q2) 37 (0, 0)) ∧ u.heap[g13]? = some (.cells (ib L4) 100 (0, 0)) ∧ u.heap[g14]? = some (.cells (ib (bset L4 (l.take i))) 100 (0, 0)) ∧
      Ch (Kin.one g14) w6 u) l.length
    ⟨0, rfl, Nat.zero_le _, by simp, by simp, by simp, by simp, by simp, by simp, by simp, by simp, by simp, b16, b36, b56, by simpa [bset] using b6, Ch.refl _ _⟩ ?_
  rintro J hJ _ f u ⟨i, rfl, hi, f0, f2, f8, f11, f13, f14, f42, f43, f44, u8, u11, u13, u14, cu⟩
  have hsu := cu.size
  have envu := env6.ch cu fun k hk e => by simp only [Kin.one] at e; have := env.lt k hk; omega
  have hu := (hH _).ch h6 cu fun k hk e => by simp only [Kin.one] at e; have := F4 k hk; omega
  have hlu := hl6.ch cu fun b _ hb e => by simp only [Kin.one] at e; have := (hlO b hb).2; omega
  have c1u : Ch O w1 u := c16.trans' cu fun k hk e => by simp only [Kin.one] at e; omega
  have okB := bset_ok (l.take i) okb fun x hx => hin x (List.mem_of_mem_take hx)
  by_cases hlt : i < l.length
  · have hii : (i : Int) < l.length := by omega
    obtain ⟨x, hx⟩ : ∃ x, l[i]? = some x := ⟨_, List.getElem?_eq_getElem hlt⟩
    have okx := hin x (List.mem_of_getElem? hx)
    have hlu' : Lst u lv (fun a => (itv a).toList) 45 l := hlu
    obtain ⟨bl, of', cl, csl, Tl, frl, hvl, hbl, hel, hcl⟩ := hlu'.elem (by decide) (fun a ha => itv_size (hin a ha)) hx
    have hxs := itv_size okx
    have hxa := itv_all okx
    have hxi := itv_i okx
    have hon := itv_ones (x := x)
    have hzs := itv_size itz_ok
    have hwi : IntKind.i64.wrap ((i : Int) + 1) = ((i + 1 : Nat) : Int) := by rw [IntKind.wrap_i64]; omega
    have c7 := (Ch.refl Nw u).alloc (.cells (itv x) 76)
    have b7 := hp_alloc u (.cells (itv x) 76)
    have s7 : (u.alloc (.cells (itv x) 76)).heap.size = u.heap.size + 1 := by simp
    have u14' := c7.obj u14 id
    have c70 := (cell_blk b7 0).trans itv_0
    obtain ⟨w7, hw7⟩ : ∃ w7, u.alloc (.cells (itv x) 76) = w7 := ⟨_, rfl⟩
    rw [hw7] at c7 b7 s7 u14' c70
    rw [hvl] at f42
    simp [go_sem, f42, f43, f44, hlt, hii, hbl, hel, hcl, hz_it, zc_it, hon, hzs, hxs, hxa, blit_whole, hw7, c70]
    refine (tbleaf_any x.1 okx.n w7).mono ?_
    rintro _ w8 ⟨rfl, hw8⟩
    subst w8
    have hxz := ino_size okx.i
    have hm4 : (x.1 : Int) % 4 < 4 := by omega
    have hm4' : x.1 % 4 < 4 := by omega
    have hge4 : (0 : Int) ≤ (x.1 : Int) % 4 := by omega
    have htn : ((x.1 : Int) % 4).toNat = x.1 % 4 := by omega
    have hle : x.1 % 4 * 44 + 44 ≤ 176 := by omega
    have hbs := ib_size okB
    have hbb := ib_blit okB hm4' okx.i
    simp [go_sem, b7, hxs, hxi, f14, f44, hm4, hm4', hge4, htn, hle, u14', hbs, hxz, hbb, hwi]
    have cS : Ch (Kin.one g14) u (w7.setRow g14 (ib ((bset L4 (l.take i)).set (x.1 % 4) x.2))) := (c7.mono (S' := Kin.one g14) fun _ _ e => e.elim).setRow (.inl rfl) _
    have n8 : ¬ Kin.one g14 g8 := fun e => by simp only [Kin.one] at e; omega
    have n11 : ¬ Kin.one g14 g11 := fun e => by simp only [Kin.one] at e; omega
    have n13 : ¬ Kin.one g14 g13 := fun e => by simp only [Kin.one] at e; omega
    refine Rnd.intro (l.length - (i + 1)) (by omega) (hJ _ _ _ ⟨i + 1, rfl, by omega, by simp [f0], by simp [f2], by simp [f8], by simp [f11], by simp [f13], by simp [f14], by simp [f42, hvl], by simp [f43], by simp, cS.obj u8 n8, cS.obj u11 n11, cS.obj u13 n13, ?_, cu.trans cS⟩)
    rw [hp_setRow, u14', bset_take hx]
    rfl
  · obtain rfl : i = l.length := by omega
    have hii : ¬ ((l.length : Nat) : Int) < l.length := by omega
    rw [List.take_of_length_le (Nat.le_refl _)] at u14 okB
    obtain ⟨B, hBe⟩ : ∃ B, bset L4 l = B := ⟨_, rfl⟩
    rw [hBe] at u14 okB hbm
    have hBs := ib_size okB
    have hBa := ib_all okB
    have heq1 := fun w => eq_ib w okB okb
    have heq2 := fun w => eq_ib w okB ibz_ok
    have G5 : ∀ {W : World}, u.heap.size ≤ W.heap.size → ∀ k, Gr (Gr O w1 w2) w3 w4 k → Gr O w1 W k := fun hW k hk => by
      rcases hk with (hk | hk) | hk
      · exact .inl hk
      · exact .inr ⟨by omega, by omega⟩
      · exact .inr ⟨by omega, by omega⟩
    have hFin : H s4 u (Gr O w1 u) := (hH _).weak hu (G5 (Nat.le_refl _)) (Gr.lt hOl1 (by omega))
    by_cases hB1 : B = L4
    · rw [if_pos hB1] at hbm
      have hq1 : ∀ w, (Op.equalIn 10000 100 (.agg (ib B)) (.agg (ib L4))).run Tryz.prog w = .ok true w := fun w => by rw [heq1, decide_eq_true hB1]
      simp [go_sem, f43, f44, f14, f13, f11, f8, u14, u13, u11, u8, hBs, hBa, hb4, hba, hq1, hq2, hqa2, hzp, blit_whole]
      exact fin hbm ok2 hFin (wide c1u)
    rw [if_neg hB1] at hbm
    have hq1 : ∀ w, (Op.equalIn 10000 100 (.agg (ib B)) (.agg (ib L4))).run Tryz.prog w = .ok false w := fun w => by rw [heq1, decide_eq_false hB1]
    by_cases hB2 : B = ibz
    · rw [if_pos hB2] at hbm
      have hq2' : ∀ w, (Op.equalIn 10000 100 (.agg (ib B)) (.agg (ib ibz))).run Tryz.prog w = .ok true w := fun w => by rw [heq2, decide_eq_true hB2]
      simp [go_sem, f43, f44, f14, f13, f8, u14, u13, u8, hBs, hBa, hb4, hba, hq1, hq2', bld_ib0, bld_pt0, hzp, hzpa, blit_whole]
      exact fin hbm ptz_ok hFin (wide c1u)
    rw [if_neg hB2] at hbm
    have hq2' : ∀ w, (Op.equalIn 10000 100 (.agg (ib B)) (.agg (ib ibz))).run Tryz.prog w = .ok false w := fun w => by rw [heq2, decide_eq_false hB2]
    simp [go_sem, f43, f44, f14, f13, u14, u13, hBs, hBa, hb4, hba, hq1, hq2', bld_ib0]
    refine (ibputf_any B u okB envu.lw).mono ?_
    rintro _ w9 ⟨sv, e9, rfl, c9, hcase⟩
    have s9 := c9.size
    have v8 := c9.obj u8 id
    have v11 := c9.obj u11 id
    have env9 := envu.ch c9 fun _ _ e => e
    have h9 := (hH _).ch hu c9 fun _ _ e => e
    have c19 : Ch O w1 w9 := c1u.trans (c9.mono fun _ _ e => e.elim)
    rcases hcase with ⟨rfl, hall, hsl, hfr⟩ | ⟨rfl, hall, rfl⟩
    · rw [if_neg (by rw [hall]; decide)] at hbm
      have h512 : (bytesI B).length = 512 := by rw [bytesI_length _ okB.all, okB.len]
      rw [h512] at hsl
      simp [go_sem, f0, f2, bld_tbp]
      obtain ⟨⟨s10, p10, e10⟩, hN⟩ : ∃ y, nw s4 (tbp off) (bytesI B) = y := ⟨_, rfl⟩
      rw [hN] at hbm
      simp only at hbm
      have l4 : ∀ k, Gr (Gr O w1 w2) w3 w4 k → k < u.heap.size := (hH _).lt hu
      refine hs.nw s4 w9 (Gr (Gr O w1 w2) w3 w4) (tbp off) (bytesI B) sv _ (by omega) h9 (tbp_ok hoff) h512 hsl (fun j hj => ⟨fun e => by have := l4 j e; have := hfr j hj; omega, (hfr j hj).2⟩) env9 ((hg.gr env1).gr env3) fun w10 okn h10 c10 => ?_
      rw [hN] at okn h10 ⊢
      have s10' := c10.size
      have x8 := c10.obj v8 fun e => (F4 g8 e).2.1 rfl
      have x11 := c10.obj v11 fun e => (F4 g11 e).2.2 rfl
      have hpn := pt_size okn
      have hpna := pt_all okn
      have c11 : Ch (Kin.one g11) w10 (w10.setRow g11 (pt p10)) := (Ch.refl (Kin.one g11) w10).setRow (.inl rfl) _
      have s11 := c11.size
      have y8 := c11.obj x8 fun e => by simp only [Kin.one] at e; omega
      have y11 : (w10.setRow g11 (pt p10)).heap[g11]? = some (.cells (pt p10) 37 (0, 0)) := by rw [hp_setRow, x11]; rfl
      have h11 := (hH _).ch h10 c11 fun k hk e => by
        simp only [Kin.one] at e
        rcases hk with hk | hk
        · exact (F4 k hk).2.2 e
        · omega
      have c1z : Ch O w1 (w10.setRow g11 (pt p10)) := (c19.trans' c10 fun k hk e => by
        rcases e with (e | e) | e
        · exact e
        · omega
        · omega).trans' c11 fun k hk e => by simp only [Kin.one] at e; omega
      simp [go_sem, f8, f11, x8, x11, y8, y11, hpn, hpna, hq2, hzp, blit_whole]
      exact fin hbm okn ((hH _).weak h11 (fun k hk => hk.elim (G5 (by omega) k) fun e => .inr ⟨by omega, by omega⟩) (Gr.lt hOl1 (by omega))) (wide c1z)
    · rw [if_pos hall] at hbm
      simp [go_sem, f8, f11, v8, v11, hq2, hqa2, hzp, blit_whole]
      exact fin hbm ok2 ((hH _).weak h9 (G5 s9) (Gr.lt hOl1 (by omega))) (wide c19)
theorem bmade_m (hs : SnkOk H m rd nw od sv) (s : σ) (p : Pt) (off : Nat) (l : List (Nat × In)) : m s ≤ m (bmade rd nw s p off l).1 + 64 := by
  have h1 := tget_m hs.rd s p off
  have h2 := bread_m hs.rd (tget rd s p off).1 (tget rd s p off).2.1
  have h3 := hs.stepN (bread rd (tget rd s p off).1 (tget rd s p off).2.1).1 (tbp off) (bytesI (bset (bread rd (tget rd s p off).1 (tget rd s p off).2.1).2.1 l))
  unfold bmade
  split
  · simp only; omega
  · split
    · simp only; omega
    · split
      · simp only; omega
      · split
        · simp only; omega
        · split
          · simp only; omega
          · simp only; omega
end
end Go.Proofs.YtnefdmbdkljifaaGreatDoor
