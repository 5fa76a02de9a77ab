/- All that an overlay tells, as a text. No condition. -/
import Derived.Test.YtnefdmbdkljifaaDoorOvD
set_option linter.unusedSimpArgs false
set_option linter.unusedVariables false

/- The inode that an overlay tells. No condition. -/
namespace Go.Proofs.YtnefdmbdkljifaaDoor
open Go.RowKit Go.Kin Go.Maps

def TlOk (tl : Tl) : Prop := ∀ num, InOk (tl.ino num).1
theorem gT_ok (bad : Nat) : TlOk (gT bad) := fun num => by
  unfold gT
  simp only
  split
  · exact inz_ok
  · exact ⟨show 1 < 256 by decide, num.isLt, show 0 < 4294967296 by decide, ptz_ok⟩
theorem ovT_ok {D : Ov} {tl : Tl} (h : TlOk tl) (hD : ∀ a x, D.ino a = some x → InOk x) : TlOk (ovT D tl) := fun num => by
  unfold ovT
  simp only
  split
  · split
    · exact hD _ _ ‹_›
    · exact h num
  · exact inz_ok
theorem TlAt.ok {w : World} {g bad : Nat} {Z : Nat → Prop} : ∀ {d : Nat} {v : Value} {tl : Tl}, TlAt w g bad Z d v tl → TlOk tl
  | 0, _, _, h => by rw [h.2]; exact gT_ok bad
  | _ + 1, _, _, h => by
    obtain ⟨o, bt, bv, of, n, D, X, Y, z, tl', h1, h2, h3, rfl, _⟩ := h
    exact ovT_ok h3.ok h2.inOk
def InR (g bad : Nat) (r : In × Int) (w : World) (v' : Value) (w' : World) : Prop := v' = .tuple #[.agg (ino r.1), .int .i64 r.2] ∧ GrAt w' g bad ∧ Ch (Kin.one g) w w'
section
variable {w w' : World} {S Z : Nat → Prop} {o n g bad d : Nat} {bt : TypeId} {bv of : Value} {D : Ov} {X Y : Nat → Prop} {z : Oz} {tl : Tl}
set_option maxRecDepth 100000 in
theorem oino_any (h : OvP w o (.iface bt bv) of n D X Y z) (hg : GrAt w g bad) (num : Num) (htl : TlOk tl)
    (ask : ∀ w1, Ch Nw w w1 → ∀ {K : Value → World → Prop}, (∀ v' w', InR g bad (tl.ino num) w1 v' w' → K v' w') → VInv Tryd.prog (.iface bt bv) "Inode" [.int .u16 num.val] w1 K) :
    Ret Tryd.prog 28 #[.pointer (some ⟨o, 0, none⟩), .int .u16 num.val] w (InR g bad ((ovT D tl).ino num) w) := by
  refine v_enter Tryd.func28 Tryd.ntmps28 rfl (by simp) fun R' hR => ?_
  have hs := ino_size inz_ok
  have hz44 : ∀ {x : In}, InOk x → (ino x).size = 44 := fun ok => ino_size ok
  have b0 := hp_alloc w (.cells (ino inz) 49)
  have c0 := (Ch.refl Nw w).alloc (.cells (ino inz) 49)
  have hgl : g < w.heap.size := by
    obtain ⟨x, hg⟩ := hg
    exact lt_of_block hg
  simp [go_sem, VAl_big, hz_ino, zc_ino, hs]
  obtain ⟨V, hV⟩ : ∃ V, w.heap.size = V := ⟨_, rfl⟩
  rw [hV] at b0 hgl ⊢
  generalize w.alloc (.cells (ino inz) 49) = w1 at *
  have hV1 := lt_of_block b0
  have h1 := h.ch c0 (fun _ _ e => e) fun _ _ e => e
  have hg1 := hg.ch c0 id
  have hoff0 : ((0 : Off).val : Int) = 0 := rfl
  have hmay := omay_any o num 0 w1
  rw [hoff0] at hmay
  refine hmay.mono ?_
  rintro _ w2 ⟨rfl, hw2⟩
  subst w2
  have setG : ∀ {u : World} (cs : Array Value), GrAt u g bad → GrAt (u.setRow V cs) g bad := fun {u} cs hu => by
    obtain ⟨x, hu⟩ := hu
    exact ⟨x, by rw [hp_setRow_ne _ _ _ _ (by omega)]; exact hu⟩
  cases hok : okN num 0 with
  | false =>
    have e : (ovT D tl).ino num = (inz, 1) := by unfold ovT; simp only [hok, Bool.false_eq_true, if_false]
    rw [e] at hR
    simp [go_sem, bld_ino0, b0, hs, blit_whole]
    rw [ino_all inz_ok]
    exact hR _ _ ⟨rfl, setG _ hg1, (c0.mono fun _ _ e => e.elim).setRow (.inr (by omega)) _⟩
  | true =>
    have c2 : w1.cell? ⟨o, 2, none⟩ = some (.map (some z.bi)) := cell_blk h1.blk 2
    have hl : (Instr.lookup 66 (.map (some z.bi)) (.int .u16 num.val) true).run Tryd.prog w1 = _ := h1.ino.look_ok kysU Tryd.underlying66 (zI w1) num
    obtain ⟨y, hy⟩ : ∃ y : In, ((D.ino num).map inoV).getD (.agg (ino inz)) = .agg (ino y) ∧ InOk y := by
      cases hi : D.ino num with
      | none => exact ⟨inz, rfl, inz_ok⟩
      | some x => exact ⟨x, rfl, h.inOk _ _ hi⟩
    have hsy := ino_size hy.2
    rw [hy.1] at hl
    have b1 := hp_alloc w1 (.cells (ino y) 49)
    have ca := (Ch.refl Nw w1).alloc (.cells (ino y) 49)
    have b0a := ca.obj b0 id
    have h3 := h1.ch ca (fun _ _ e => e) fun _ _ e => e
    have hg3 := hg1.ch ca id
    simp at hl
    simp [go_sem, c2, hl, VAl_big, hz_ino, zc_ino, hs, hsy, blit_whole]
    obtain ⟨X1, hX1⟩ : ∃ X1, w1.heap.size = X1 := ⟨_, rfl⟩
    rw [hX1] at b1 ⊢
    generalize w1.alloc (.cells (ino y) 49) = w3 at *
    have c03 : Ch (Kin.one g) w w3 := (c0.trans ca).mono fun _ _ e => e.elim
    have d0 : w3.cell? ⟨o, 0, none⟩ = some (.iface bt bv) := cell_blk h3.blk 0
    cases hi : D.ino num with
    | some x =>
      have e : (ovT D tl).ino num = (x, 0) := by unfold ovT; simp only [hok, hi, if_true]
      rw [e] at hR
      have hyx : ino y = ino x := by
        have := hy.1
        rw [hi] at this
        simp [inoV] at this
        exact this.symm
      rw [hyx] at b1 hsy
      have hex : (ino x).extract 0 44 = ino x := by rw [← hsy]; simp
      simp [go_sem, b1, b0a, hs, hsy, hex, blit_whole]
      exact hR _ _ ⟨rfl, setG _ hg3, c03.setRow (.inr (by omega)) _⟩
    | none =>
      have e : (ovT D tl).ino num = tl.ino num := by unfold ovT; simp only [hok, hi, if_true]
      rw [e] at hR
      have okt := htl num
      simp [go_sem, d0]
      refine ask w3 (c0.trans ca) fun v4 w4 h4 => ?_
      obtain ⟨rfl, hg4, c4⟩ := h4
      have b04 := c4.obj b0a (fun e => by simp only [Kin.one] at e; omega)
      have hst := ino_size okt
      have hex : (ino (tl.ino num).1).extract 0 44 = ino (tl.ino num).1 := ino_all okt
      simp [go_sem, b04, hs, hst, hex, blit_whole]
      exact hR _ _ ⟨rfl, setG _ hg4, (c03.trans c4).setRow (.inr (by omega)) _⟩
end
set_option maxRecDepth 100000 in
theorem ask_ino {g bad : Nat} {Z : Nat → Prop} (hZ : ¬ Z g) (num : Num) : ∀ (d : Nat) (w : World) (v : Value) (tl : Tl), TlAt w g bad Z d v tl → GrAt w g bad → ∀ {K : Value → World → Prop}, (∀ v' w', InR g bad (tl.ino num) w v' w' → K v' w') → VInv Tryd.prog v "Inode" [.int .u16 num.val] w K
  | 0, w, v, tl, h, hg, K, hK => by
    obtain ⟨rfl, rfl⟩ := h
    rw [VInv_to (cmGI _ _ w)]
    exact (gino_any g bad num w hg).mono fun v' w' h => hK v' w' h
  | d + 1, w, v, tl, h, hg, K, hK => by
    obtain ⟨o, bt, bv, of, n, D, X, Y, z, tl', rfl, h2, h3, rfl, h5⟩ := h
    rw [VInv_to (cmOI _ _ w)]
    exact (oino_any h2 hg num h3.ok fun w1 c1 {K} hk => ask_ino hZ num d w1 _ _ (TlAt.ch c1 (fun _ _ e => e) d _ _ h3) (hg.ch c1 id) hk).mono fun v' w' h => hK v' w' h
end Go.Proofs.YtnefdmbdkljifaaDoor

namespace Go.Proofs.YtnefdmbdkljifaaDoor
open Go.RowKit Go.Kin Go.Maps

def b8 (e : Int) : UInt8 := UInt8.ofNat (e % 256).toNat
theorem b8_v (e : Int) : Value.int .u8 (IntKind.u8.wrap e) = bv (b8 e) := by
  unfold bv b8
  rw [UInt8.toNat_ofNat_of_lt' (by simp [UInt8.size]; omega)]
  congr 1
  simp [IntKind.wrap, IntKind.bits, IntKind.signed]
  omega
def nm (k : Nat) : Num := Fin.ofNat 65536 k
theorem nm_val {k : Nat} (h : k < 65536) : (nm k).val = k := Nat.mod_eq_of_lt h
def of' (k : Nat) : Off := Fin.ofNat 4294967296 k
theorem of_val {k : Nat} (h : k < 65536) : (of' k).val = k := Nat.mod_eq_of_lt (by omega)
def headT (tl : Tl) (num : Num) : Byts := [b8 (tl.ino num).2, b8 (tl.ino num).1.k, b8 (tl.ino num).1.n, b8 (tl.ino num).1.s]
def offT (tl : Tl) (num : Num) (off : Off) : Byts := [b8 (tl.lf num off).2, b8 (tl.lf num off).2, b8 ((tl.lf num off).1.length / 2 : Nat)] ++ (tl.lf num off).1.take 1
def tOff (tl : Tl) (num : Num) : Nat → Byts
  | 0 => []
  | j + 1 => tOff tl num j ++ offT tl num (of' j)
def tNum (tl : Tl) : Nat → Byts
  | 0 => []
  | k + 1 => tNum tl k ++ (headT tl (nm (k + 1)) ++ tOff tl (nm (k + 1)) 6)
theorem offT_len (tl : Tl) (num : Num) (off : Off) : (offT tl num off).length ≤ 4 := by
  unfold offT
  simp
  omega
theorem tOff_len (tl : Tl) (num : Num) (j : Nat) : (tOff tl num j).length ≤ 4 * j := by
  induction j with
  | zero => simp [tOff]
  | succ j ih =>
    have := offT_len tl num (of' j)
    rw [tOff, List.length_append]
    omega
theorem tNum_len (tl : Tl) (k : Nat) : (tNum tl k).length ≤ 28 * k := by
  induction k with
  | zero => simp [tNum]
  | succ k ih =>
    have := tOff_len tl (nm (k + 1)) 6
    rw [tNum, List.length_append, List.length_append]
    simp [headT]
    omega
def Bnd (tl : Tl) : Prop := ∀ num off, (tl.lf num off).1.length ≤ 512
section
variable {w : World} {g bad d o : Nat} {Z : Nat → Prop} {tl : Tl}
set_option maxRecDepth 100000 in
theorem t_ino (h : TlAt w g bad Z (d + 1) (.iface 29 (.pointer (some ⟨o, 0, none⟩))) tl) (hg : GrAt w g bad) (hZ : ¬ Z g) (num : Num) : Ret Tryd.prog 28 #[.pointer (some ⟨o, 0, none⟩), .int .u16 num.val] w (InR g bad (tl.ino num) w) := by
  obtain ⟨o', bt, bv, of, n, D, X, Y, z, tl', h1, h2, h3, rfl, h5⟩ := h
  cases h1
  exact oino_any h2 hg num h3.ok fun w1 c1 {K} hk => ask_ino hZ num d w1 _ _ (TlAt.ch c1 (fun _ _ e => e) d _ _ h3) (hg.ch c1 id) hk
set_option maxRecDepth 100000 in
theorem t_leaf (h : TlAt w g bad Z (d + 1) (.iface 29 (.pointer (some ⟨o, 0, none⟩))) tl) (hg : GrAt w g bad) (hZ : ¬ Z g) (num : Num) (off : Off) : Ret Tryd.prog 17 #[.pointer (some ⟨o, 0, none⟩), .int .u16 num.val, .int .u32 off.val] w fun v' w' => LfR w (tl.lf num off) v' w' ∧ GrAt w' g bad ∧ Ch (Kin.one g) w w' := by
  obtain ⟨o', bt, bv, of, n, D, X, Y, z, tl', h1, h2, h3, rfl, h5⟩ := h
  cases h1
  exact oleaf_any h2 hg num off fun w1 c1 {K} hk => ask_leaf hZ num off d w1 _ _ (TlAt.ch c1 (fun _ _ e => e) d _ _ h3) (hg.ch c1 id) hk
set_option maxRecDepth 100000 in
theorem t_map (h : TlAt w g bad Z (d + 1) (.iface 29 (.pointer (some ⟨o, 0, none⟩))) tl) (hg : GrAt w g bad) (hZ : ¬ Z g) (num : Num) (off : Off) : Ret Tryd.prog 29 #[.pointer (some ⟨o, 0, none⟩), .int .u16 num.val, .int .u32 off.val] w fun v' w' => v' = .tuple #[.bool (decide ((tl.lf num off).1 ≠ [])), .int .i64 (tl.lf num off).2] ∧ GrAt w' g bad ∧ Ch (Kin.one g) w w' := by
  obtain ⟨o', bt, bv, of, n, D, X, Y, z, tl', h1, h2, h3, rfl, h5⟩ := h
  cases h1
  exact omap_any h2 hg num off fun w1 c1 {K} hk => ask_map hZ num off d w1 _ _ (TlAt.ch c1 (fun _ _ e => e) d _ _ h3) (hg.ch c1 id) hk
end
structure TdI (W : World) (g bad o : Nat) (pre : Byts) (f : Nat → Value) (u : World) : Prop where
  f0 : f 0 = .pointer (some ⟨o, 0, none⟩)
  own : u.ownsRow 0 5 1 (f 3) pre.length (bvs pre)
  fr : Fresh W.heap.size (f 3)
  ch : Ch (Kin.one g) W u
  gr : GrAt u g bad
theorem own_blt {w : World} {e s n : Nat} {v : Value} {xs : List Value} (h : w.ownsRow 0 e s v n xs) : ∀ k, v.ownBlock = some k → k < w.heap.size := fun k hk => by
  rcases h.2 with ⟨hv, _⟩ | ⟨g, cap, cur, hv, _, hg, _⟩
  · rw [hv] at hk; simp [Value.ownBlock] at hk
  · rw [hv] at hk
    simp [Value.ownBlock] at hk
    rw [← hk]; exact lt_of_block hg
theorem own_app {w1 : World} {v v' : Value} {B : Nat} (hf : Fresh B v) (h : v'.ownBlock = v.ownBlock ∨ Fresh w1.heap.size v') (hs : B ≤ w1.heap.size) : Fresh B v' := by
  rcases h with h | h
  · intro k hk; exact hf k (by rw [← h]; exact hk)
  · exact h.mono hs
theorem VB_lits {w : World} {v : Value} {l cs : Byts} {n m ad : Nat} {ty : TypeId} {arr : Array Value} {K : Value → World → Prop} (ho : w.ownsRow 0 5 1 v n (bvs l)) (hn : n ≤ 100000) (ha : arr = (bvs cs).toArray) (hm : cs.length = m) (hm2 : m ≤ 1000) (had : ad = w.heap.size)
    (hk : ∀ v' w', w'.ownsRow 0 5 1 v' (n + m) (bvs (l ++ cs)) → Ch (fun k => v.ownBlock = some k) w w' → (v'.ownBlock = v.ownBlock ∨ Fresh w.heap.size v') → K v' w') :
    VB Tryd.prog .append #[44, 44] ty #[v, .slice (some ⟨ad, 0, none⟩) m m] (w.alloc (.cells arr 5)) K := by
  subst had ha
  have hs := Sl.of_own (Sl.lit w 5 cs m hm (by unfold maxLen; omega))
  refine VB_appn tyB (ho.alloc _) hs (by rw [bvs_length]; exact hm) (bvs_one cs) (by unfold maxLen; omega) (by omega) fun v' w' k1 k2 k3 => hk v' w' (by rw [bvs_append]; exact k1) (((Ch.refl _ w).alloc _).trans k2) (k3.imp id fun e => e.mono (by simp))
end Go.Proofs.YtnefdmbdkljifaaDoor
