/- The inode that an overlay tells. No condition. -/
import Derived.Test.YtmhnlgndgdmebaaDoorOvD
namespace Go.Proofs.YtmhnlgndgdmebaaDoor
open Go.RowKit Go.Kin Go.Maps

def TlOk (tl : Tl) : Prop := ∀ num, InOk (tl.ino num).1
theorem gT_ok (bad : Nat) : TlOk (gT bad) := fun num => by
  unfold gT
  simp only
  split
  · exact inz_ok
  · exact ⟨show 1 < 256 by decide, num.isLt, show 0 < 4294967296 by decide, ptz_ok⟩
theorem ovT_ok {D : Ov} {tl : Tl} (h : TlOk tl) (hD : ∀ a x, D.ino a = some x → InOk x) : TlOk (ovT D tl) := fun num => by
  unfold ovT
  simp only
  split
  · split
    · exact hD _ _ ‹_›
    · exact h num
  · exact inz_ok
theorem TlAt.ok {w : World} {g bad : Nat} {Z : Nat → Prop} : ∀ {d : Nat} {v : Value} {tl : Tl}, TlAt w g bad Z d v tl → TlOk tl
  | 0, _, _, h => by rw [h.2]; exact gT_ok bad
  | _ + 1, _, _, h => by
    obtain ⟨o, bt, bv, of, n, D, X, Y, z, tl', h1, h2, h3, rfl, _⟩ := h
    exact ovT_ok h3.ok h2.inOk
def InR (g bad : Nat) (r : In × Int) (w : World) (v' : Value) (w' : World) : Prop := v' = .tuple #[.agg (ino r.1), .int .i64 r.2] ∧ GrAt w' g bad ∧ Ch (one g) w w'
section
variable {w w' : World} {S Z : Nat → Prop} {o n g bad d : Nat} {bt : TypeId} {bv of : Value} {D : Ov} {X Y : Nat → Prop} {z : Oz} {tl : Tl}
set_option maxRecDepth 100000 in
theorem oino_any (h : OvP w o (.iface bt bv) of n D X Y z) (hg : GrAt w g bad) (num : Num) (htl : TlOk tl)
    (ask : ∀ w1, Ch Nw w w1 → ∀ {K : Value → World → Prop}, (∀ v' w', InR g bad (tl.ino num) w1 v' w' → K v' w') → VInv Tryd.prog (.iface bt bv) "Inode" [.int .u16 num.val] w1 K) :
    Ret Tryd.prog 33 #[.pointer (some ⟨o, 0, none⟩), .int .u16 num.val] w (InR g bad ((ovT D tl).ino num) w) := by
  refine v_enter Tryd.func33 Tryd.ntmps33 rfl (by simp) fun R' hR => ?_
  have hs := ino_size inz_ok
  have hz44 : ∀ {x : In}, InOk x → (ino x).size = 44 := fun ok => ino_size ok
  have b0 := hp_alloc w (.cells (ino inz) 85)
  have c0 := (Ch.refl Nw w).alloc (.cells (ino inz) 85)
  have hgl : g < w.heap.size := by
    obtain ⟨x, hg⟩ := hg
    exact lt_of_block hg
  simp [go_sem, VAl_big, hz_ino, zc_ino, hs]
  obtain ⟨V, hV⟩ : ∃ V, w.heap.size = V := ⟨_, rfl⟩
  rw [hV] at b0 hgl ⊢
  generalize w.alloc (.cells (ino inz) 85) = w1 at *
  have hV1 := lt_of_block b0
  have h1 := h.ch c0 (fun _ _ e => e) fun _ _ e => e
  have hg1 := hg.ch c0 id
  have hoff0 : ((0 : Off).val : Int) = 0 := rfl
  have hmay := omay_any o num 0 w1
  rw [hoff0] at hmay
  refine hmay.mono ?_
  rintro _ w2 ⟨rfl, hw2⟩
  subst w2
  have setG : ∀ {u : World} (cs : Array Value), GrAt u g bad → GrAt (u.setRow V cs) g bad := fun {u} cs hu => by
    obtain ⟨x, hu⟩ := hu
    exact ⟨x, by rw [hp_setRow_ne _ _ _ _ (by omega)]; exact hu⟩
  cases hok : okN num 0 with
  | false =>
    have e : (ovT D tl).ino num = (inz, 1) := by unfold ovT; simp only [hok, Bool.false_eq_true, if_false]
    rw [e] at hR
    simp [go_sem, bld_ino0, b0, hs, blit_whole]
    rw [ino_all inz_ok]
    exact hR _ _ ⟨rfl, setG _ hg1, (c0.mono fun _ _ e => e.elim).setRow (.inr (by omega)) _⟩
  | true =>
    have c2 : w1.cell? ⟨o, 2, none⟩ = some (.map (some z.bi)) := cell_blk h1.blk 2
    have hl : (Instr.lookup 79 (.map (some z.bi)) (.int .u16 num.val) true).run Tryd.prog w1 = _ := h1.ino.look_ok kysU Tryd.underlying79 (zI w1) num
    obtain ⟨y, hy⟩ : ∃ y : In, ((D.ino num).map inoV).getD (.agg (ino inz)) = .agg (ino y) ∧ InOk y := by
      cases hi : D.ino num with
      | none => exact ⟨inz, rfl, inz_ok⟩
      | some x => exact ⟨x, rfl, h.inOk _ _ hi⟩
    have hsy := ino_size hy.2
    rw [hy.1] at hl
    have b1 := hp_alloc w1 (.cells (ino y) 85)
    have ca := (Ch.refl Nw w1).alloc (.cells (ino y) 85)
    have b0a := ca.obj b0 id
    have h3 := h1.ch ca (fun _ _ e => e) fun _ _ e => e
    have hg3 := hg1.ch ca id
    simp at hl
    simp [go_sem, c2, hl, VAl_big, hz_ino, zc_ino, hs, hsy, blit_whole]
    obtain ⟨X1, hX1⟩ : ∃ X1, w1.heap.size = X1 := ⟨_, rfl⟩
    rw [hX1] at b1 ⊢
    generalize w1.alloc (.cells (ino y) 85) = w3 at *
    have c03 : Ch (one g) w w3 := (c0.trans ca).mono fun _ _ e => e.elim
    have d0 : w3.cell? ⟨o, 0, none⟩ = some (.iface bt bv) := cell_blk h3.blk 0
    cases hi : D.ino num with
    | some x =>
      have e : (ovT D tl).ino num = (x, 0) := by unfold ovT; simp only [hok, hi, if_true]
      rw [e] at hR
      have hyx : ino y = ino x := by
        have := hy.1
        rw [hi] at this
        simp [inoV] at this
        exact this.symm
      rw [hyx] at b1 hsy
      have hex : (ino x).extract 0 44 = ino x := by rw [← hsy]; simp
      simp [go_sem, b1, b0a, hs, hsy, hex, blit_whole]
      exact hR _ _ ⟨rfl, setG _ hg3, c03.setRow (.inr (by omega)) _⟩
    | none =>
      have e : (ovT D tl).ino num = tl.ino num := by unfold ovT; simp only [hok, hi, if_true]
      rw [e] at hR
      have okt := htl num
      simp [go_sem, d0]
      refine ask w3 (c0.trans ca) fun v4 w4 h4 => ?_
      obtain ⟨rfl, hg4, c4⟩ := h4
      have b04 := c4.obj b0a (fun e => by simp only [one] at e; omega)
      have hst := ino_size okt
      have hex : (ino (tl.ino num).1).extract 0 44 = ino (tl.ino num).1 := ino_all okt
      simp [go_sem, b04, hs, hst, hex, blit_whole]
      exact hR _ _ ⟨rfl, setG _ hg4, (c03.trans c4).setRow (.inr (by omega)) _⟩
end
set_option maxRecDepth 100000 in
theorem ask_ino {g bad : Nat} {Z : Nat → Prop} (hZ : ¬ Z g) (num : Num) : ∀ (d : Nat) (w : World) (v : Value) (tl : Tl), TlAt w g bad Z d v tl → GrAt w g bad → ∀ {K : Value → World → Prop}, (∀ v' w', InR g bad (tl.ino num) w v' w' → K v' w') → VInv Tryd.prog v "Inode" [.int .u16 num.val] w K
  | 0, w, v, tl, h, hg, K, hK => by
    obtain ⟨rfl, rfl⟩ := h
    rw [VInv_to (cmGI _ _ w)]
    exact (gino_any g bad num w hg).mono fun v' w' h => hK v' w' h
  | d + 1, w, v, tl, h, hg, K, hK => by
    obtain ⟨o, bt, bv, of, n, D, X, Y, z, tl', rfl, h2, h3, rfl, h5⟩ := h
    rw [VInv_to (cmOI _ _ w)]
    exact (oino_any h2 hg num h3.ok fun w1 c1 {K} hk => ask_ino hZ num d w1 _ _ (TlAt.ch c1 (fun _ _ e => e) d _ _ h3) (hg.ch c1 id) hk).mono fun v' w' h => hK v' w' h
end Go.Proofs.YtmhnlgndgdmebaaDoor
