/- Acts on overlays: their inodes, their blocks, what they do. Condition: the variable ptr.wide holds what the text lays. -/
import Derived.Test.YtmhnlgndgdmebaaDoorOvJ
import Derived.Test.YtmhnlgndgdmebaaDoorOpn
namespace Go.Proofs.YtmhnlgndgdmebaaDoor
open Go.RowKit Go.Kin Go.Maps

structure Ac where
  d : Nat
  num : Num
  off : Off
  i : In
  n : Nat
  c : UInt8
def acv (a : Ac) : List Value := .int .u8 a.d :: .int .u16 a.num.val :: .int .u32 a.off.val :: ((ino a.i).toList ++ [.int .u16 a.n, .int .u8 a.c.toNat])
structure Ac.Ok (a : Ac) : Prop where
  d : a.d < 256
  n : a.n < 65536
  i : InOk a.i
def Ac.block (a : Ac) : Byts := List.replicate (min a.n 600) a.c
def Ov.deed (D : Ov) (a : Ac) : Ov := if a.d = 0 then D.setI a.num a.i else if a.d = 1 then D.setL a.num a.off a.block else D.wipe a.num
section
variable {a : Ac}
theorem acv_len (ok : a.Ok) : (acv a).length = 49 := by
  have h : (ino a.i).toList.length = 44 := by rw [Array.length_toList]; exact ino_size ok.i
  simp [acv] at *
  omega
theorem acv_size (ok : a.Ok) : (acv a).toArray.size = 49 := acv_len ok
theorem acv_0 : (acv a).toArray[0]? = some (.int .u8 a.d) := by simp [acv]
theorem acv_1 : (acv a).toArray[1]? = some (.int .u16 a.num.val) := by simp [acv]
theorem acv_2 : (acv a).toArray[2]? = some (.int .u32 a.off.val) := by simp [acv]
theorem acv_47 (ok : a.Ok) : (acv a).toArray[47]? = some (.int .u16 a.n) := by
  have h : (ino a.i).toList.length = 44 := by rw [Array.length_toList]; exact ino_size ok.i
  rw [List.getElem?_toArray]
  show ((ino a.i).toList ++ [.int .u16 a.n, .int .u8 a.c.toNat])[44]? = _
  rw [List.getElem?_append_right (by omega), h]
  rfl
theorem acv_48 (ok : a.Ok) : (acv a).toArray[48]? = some (.int .u8 a.c.toNat) := by
  have h : (ino a.i).toList.length = 44 := by rw [Array.length_toList]; exact ino_size ok.i
  rw [List.getElem?_toArray]
  show ((ino a.i).toList ++ [.int .u16 a.n, .int .u8 a.c.toNat])[45]? = _
  rw [List.getElem?_append_right (by omega), h]
  rfl
theorem acv_i (ok : a.Ok) : (acv a).toArray.extract 3 47 = ino a.i := by
  have h : (ino a.i).toList.length = 44 := by rw [Array.length_toList]; exact ino_size ok.i
  apply Array.ext'
  rw [Array.toList_extract, List.extract_eq_take_drop]
  show ((ino a.i).toList ++ [Value.int .u16 a.n, Value.int .u8 a.c.toNat]).take 44 = _
  rw [List.take_append_of_le_length (by omega), List.take_of_length_le (by omega)]
theorem acv_all (ok : a.Ok) : (acv a).toArray.extract 0 49 = (acv a).toArray := by rw [← acv_size ok]; simp
theorem block_len : a.block.length = min a.n 600 := List.length_replicate
end
section
variable {w w' : World} {S : Nat → Prop} {o n : Nat} {base of : Value} {D : Ov} {X Y Y' : Nat → Prop} {z : Oz}
theorem of_any (x : In) (ok : InOk x) (w : World) : Ret Tryd.prog 30 #[.agg (ino x)] w fun v' w' => v' = .agg (ino x) ∧ Ch Nw w w' := by
  refine v_enter Tryd.func30 Tryd.ntmps30 rfl (by simp) fun R' hR => ?_
  have hs := ino_size ok
  have hs0 := ino_size inz_ok
  have hax := ino_all ok
  have h0 := al2_0 w (.cells (ino x) 56) (.cells (ino inz) 85)
  have h1 := al2_1 w (.cells (ino x) 56) (.cells (ino inz) 85)
  have ca := ((Ch.refl Nw w).alloc (.cells (ino x) 56)).alloc (.cells (ino inz) 85)
  have c0 := fun i => cell_blk h0 i
  simp [go_sem, VAl_big, hz_ino, zc_ino, hs0, hs, c0, h0, h1, ino_k, ino_n, ino_s, ino_r ok, bld_ino4 x ok, blit_whole, hax]
  exact hR _ _ ⟨rfl, ca.setRow (.inr (by omega)) _⟩
set_option maxRecDepth 100000 in
theorem block_any (a : Ac) (ok : a.Ok) (w : World) : Ret Tryd.prog 32 #[.agg (acv a).toArray] w fun v' w' => Mine 5 w v' a.block.length (bvs a.block) w' := by
  refine v_enter Tryd.func32 Tryd.ntmps32 rfl (by simp) fun R' hR => ?_
  have hs := acv_size ok
  have hn := ok.n
  have ba := hp_alloc w (.cells (acv a).toArray 58)
  have ca := (Ch.refl Nw w).alloc (.cells (acv a).toArray 58)
  have sa : (w.alloc (.cells (acv a).toArray 58)).heap.size = w.heap.size + 1 := by simp
  simp [go_sem]
  obtain ⟨q, hq⟩ : ∃ q, w.heap.size = q := ⟨_, rfl⟩
  rw [hq] at ba sa ⊢
  generalize w.alloc (.cells (acv a).toArray 58) = w1 at *
  refine v_loop (fun r f u => ∃ k, r = 600 - k ∧ k ≤ 600 ∧ k ≤ a.n ∧ f 4 = .int .i64 k ∧ f 1 = .pointer (some ⟨q, 0, none⟩) ∧ Mine 5 w1 (f 3) k (bvs (List.replicate k a.c)) u) 600
    ⟨0, rfl, by omega, by omega, by simp, by simp, by simpa [bvs] using Mine.nil 5 (Ch.refl Nw w1)⟩ ?_
  rintro J hJ _ f u ⟨k, rfl, hk, hkn, f4, f1, hm⟩
  have bu := hm.ch.obj ba id
  have c47 : u.cell? ⟨q, 47, none⟩ = some (.int .u16 a.n) := by rw [cell_blk bu]; exact acv_47 ok
  have c48 : u.cell? ⟨q, 48, none⟩ = some (.int .u8 a.c.toNat) := by rw [cell_blk bu]; exact acv_48 ok
  have hw64 : IntKind.i64.wrap (a.n : Int) = a.n := by rw [IntKind.wrap_i64]; omega
  by_cases h1 : k < a.n
  · have h1' : (k : Int) < a.n := by omega
    by_cases h2 : k < 600
    · have h2' : (k : Int) < 600 := by omega
      have hwk : IntKind.i64.wrap ((k : Int) + 1) = ((k + 1 : Nat) : Int) := by rw [IntKind.wrap_i64]; omega
      simp [go_sem, f1, f4, c47, c48, hw64, h1, h1', h2, h2']
      refine VB_lits (cs := [a.c]) (m := 1) hm.own (by omega) rfl rfl (by omega) rfl fun v' w' k1 k2 k3 => ?_
      have hg := hm.grow k1 k2 k3
      rw [← List.replicate_succ'] at hg
      have hwk' : IntKind.i64.wrap ((k : Int) + 1) = (k : Int) + 1 := by rw [hwk]; omega
      simp [go_sem, f4, hwk']
      exact Rnd.intro (600 - (k + 1)) (by omega) (hJ _ _ _ ⟨k + 1, rfl, by omega, by omega, by simp, by simp [f1], by simpa using hg⟩)
    · have h2' : ¬ (k : Int) < 600 := by omega
      simp [go_sem, f1, f4, c47, hw64, h1, h1', h2, h2']
      have e : a.block = List.replicate k a.c := by unfold Ac.block; congr 1; omega
      rw [e] at hR
      refine hR _ _ ⟨by simpa using hm.own, ca.trans hm.ch, ?_⟩
      simpa using hm.fresh.mono (show w.heap.size ≤ w1.heap.size by omega)
  · have h1' : ¬ (k : Int) < a.n := by omega
    simp [go_sem, f1, f4, c47, hw64, h1, h1']
    have e : a.block = List.replicate k a.c := by unfold Ac.block; congr 1; omega
    rw [e] at hR
    refine hR _ _ ⟨by simpa using hm.own, ca.trans hm.ch, ?_⟩
    simpa using hm.fresh.mono (show w.heap.size ≤ w1.heap.size by omega)
theorem OvP.wide (h : OvP w o base of n D X Y z) (hY : ∀ k, Y k → Y' k) (hX : ∀ k, Y' k → ¬ X k) (hlt : ∀ k, Y' k → k < w.heap.size) : OvP w o base of n D X Y' z := by
  obtain ⟨FL, h1, h2⟩ := h.lf
  refine ⟨h.blk, h.ino, h.inOk, ⟨FL, h1, fun a => ⟨(h2 a).1, fun b hb => ?_⟩⟩, h.lfOk, h.wp, h.wpOk, h.x, h.ne, hX, fun k hk => hk.elim (fun e => h.lt k (.inl e)) (hlt k)⟩
  obtain ⟨v, h3, h4, h5⟩ := (h2 a).2 b hb
  exact ⟨v, h3, h4, fun k hk => hY k (h5 k hk)⟩
set_option maxRecDepth 100000 in
theorem deed_any (h : OvP w o base of n D X Y z) (a : Ac) (ok : a.Ok) (hw : Lw w) (hn : n ≤ 1000000) : Ret Tryd.prog 16 #[.pointer (some ⟨o, 0, none⟩), .agg (acv a).toArray] w fun _ w' => OvP w' o base of (n + 1) (D.deed a) X (fun k => Y k ∨ (w.heap.size ≤ k ∧ k < w'.heap.size)) z ∧ Ch X w w' := by
  refine v_enter Tryd.func16 Tryd.ntmps16 rfl (by simp) fun R' hR => ?_
  have hs := acv_size ok
  have hax := acv_all ok
  have ba := hp_alloc w (.cells (acv a).toArray 58)
  have ca := (Ch.refl Nw w).alloc (.cells (acv a).toArray 58)
  have h1 := h.ch ca (fun _ _ e => e) fun _ _ e => e
  have hws : w.heap.size ≤ (w.alloc (.cells (acv a).toArray 58)).heap.size := ca.size
  have hw1 := hw.ch ca id
  have c0 : (w.alloc (.cells (acv a).toArray 58)).cell? ⟨w.heap.size, 0, none⟩ = some (.int .u8 a.d) := by rw [cell_blk ba]; exact acv_0
  simp [go_sem, c0]
  obtain ⟨q, hq⟩ : ∃ q, w.heap.size = q := ⟨_, rfl⟩
  rw [hq] at ba c0 hws ⊢
  rw [hq] at hR
  generalize w.alloc (.cells (acv a).toArray 58) = w1 at *
  have wide : ∀ {v2 : Value} {w2 : World} {D2 : Ov} {Y2 : Nat → Prop}, OvP w2 o base of (n + 1) D2 X Y2 z → (∀ k, Y2 k → Y k ∨ (q ≤ k ∧ k < w2.heap.size)) → Ch X w1 w2 → D2 = D.deed a → R' v2 w2 := fun {v2 w2 D2 Y2} h2 hY c2 e => by
    subst e
    refine hR _ _ ⟨h2.wide hY (fun k hk => ?_) fun k hk => ?_, (ca.mono fun _ _ e => e.elim).trans c2⟩
    · rcases hk with hk | hk
      · exact h.yx k hk
      · intro e
        have := h.lt k (.inl e)
        omega
    · rcases hk with hk | hk
      · have := h1.lt k (.inr hk); have := c2.size; omega
      · exact hk.2
  have cell1 : ∀ {u : World} {S' : Nat → Prop}, Ch S' w1 u → ¬ S' q → u.heap[q]? = some (.cells (acv a).toArray 58 (0, 0)) ∧ u.cell? ⟨q, 1, none⟩ = some (.int .u16 a.num.val) ∧ u.cell? ⟨q, 2, none⟩ = some (.int .u32 a.off.val) := fun {u S'} hc hq => by
    have hb := hc.obj ba hq
    exact ⟨hb, by rw [cell_blk hb]; exact acv_1, by rw [cell_blk hb]; exact acv_2⟩
  obtain ⟨b1, b11, b12⟩ := cell1 (Ch.refl Nw w1) id
  obtain ⟨d1, d11, d12⟩ := cell1 (Ch.refl Nw w1).drew id
  by_cases e0 : a.d = 0
  · have hd : D.setI a.num a.i = D.deed a := by unfold Ov.deed; rw [if_pos e0]
    have h1d := h1.ch (Ch.refl Nw w1).drew (fun _ _ e => e) fun _ _ e => e
    have hi := acv_i ok
    simp [go_sem, e0]
    refine v_draw' [(0, none), (1, none), (2, none), (3, none), (4, none), (5, some [0, 1, 2]), (6, some [])] (by kernel_rfl) (by kernel_rfl) ?_
    simp [go_sem, b1, b11, d1, d11, hs, hi]
    refine (of_any a.i ok.i w1.drew).mono ?_
    rintro _ w3 ⟨rfl, c3⟩
    have c13 := Ch.of_drew c3
    obtain ⟨x1, x11, x12⟩ := cell1 c13 id
    simp [go_sem, x1, x11, x12]
    refine (seti_any (h1.ch c13 (fun _ _ e => e) fun _ _ e => e) a.num a.i ok.i (hw1.ch c13 id) hn).mono ?_
    rintro v4 w4 ⟨_, h4, c4⟩
    simp [go_sem]
    exact wide h4 (fun k hk => .inl hk) ((c13.mono fun _ _ e => e.elim).trans c4) hd
  by_cases e1 : a.d = 1
  · have hd : D.setL a.num a.off a.block = D.deed a := by unfold Ov.deed; rw [if_neg e0, if_pos e1]
    simp [go_sem, e1]
    refine v_draw' [(0, none), (1, none), (2, none), (3, none), (4, none), (5, none), (6, some [0, 1, 2, 3, 4]), (7, some [])] (by kernel_rfl) (by kernel_rfl) ?_
    simp [go_sem, b1, b11, b12, d1, d11, d12, hs, hax]
    refine (block_any a ok w1.drew).mono ?_
    intro v3 w3 m3
    have c13 := Ch.of_drew m3.ch
    obtain ⟨x1, x11, x12⟩ := cell1 c13 id
    have hbl : a.block.length ≤ 600 := by rw [block_len]; omega
    simp [go_sem, x1, x11, x12]
    have s13 := c13.size
    refine (setl_any (h1.ch c13 (fun _ _ e => e) fun _ _ e => e) a.num a.off a.block v3 m3.sl (by omega) hn).mono ?_
    rintro v4 w4 ⟨_, h4, c4⟩
    simp [go_sem]
    exact wide h4 (fun k hk => hk.imp id fun e => ⟨by omega, e.2⟩) ((c13.mono fun _ _ e => e.elim).trans c4) hd
  · have hd : D.wipe a.num = D.deed a := by unfold Ov.deed; rw [if_neg e0, if_neg e1]
    have n0 : ¬ (a.d : Int) = 0 := by omega
    have n1 : ¬ (a.d : Int) = 1 := by omega
    have n0' : ((a.d : Int) == 0) = false := beq_false_of_ne n0
    have n1' : ((a.d : Int) == 1) = false := beq_false_of_ne n1
    simp [go_sem, e0, e1, n0, n1, n0', n1', b11]
    refine (wipe_any h1 a.num hn).mono ?_
    rintro v4 w4 ⟨_, h4, c4⟩
    simp [go_sem]
    exact wide h4 (fun k hk => .inl hk) c4 hd
end
end Go.Proofs.YtmhnlgndgdmebaaDoor
