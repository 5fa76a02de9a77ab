/- Acts on overlays: their inodes, their blocks, what they do. Condition: the variable ptr.wide holds what the text lays. -/
import Derived.Test.YtnefdmbdkljifaaDoorOvJ
import Derived.Test.YtnefdmbdkljifaaDoorSlK
set_option linter.unusedSimpArgs false
set_option linter.unusedVariables false

namespace Go.Proofs.YtnefdmbdkljifaaDoor
open Go.RowKit Go.Kin Go.Maps

structure Ac where
  d : Nat
  num : Num
  off : Off
  i : In
  n : Nat
  c : UInt8
def acv (a : Ac) : List Value := .int .u8 a.d :: .int .u16 a.num.val :: .int .u32 a.off.val :: ((ino a.i).toList ++ [.int .u16 a.n, .int .u8 a.c.toNat])
structure Ac.Ok (a : Ac) : Prop where
  d : a.d < 256
  n : a.n < 65536
  i : InOk a.i
def Ac.block (a : Ac) : Byts := List.replicate (min a.n 600) a.c
def Ov.deed (D : Ov) (a : Ac) : Ov := if a.d = 0 then D.setI a.num a.i else if a.d = 1 then D.setL a.num a.off a.block else D.wipe a.num
section
variable {a : Ac}
theorem acv_len (ok : a.Ok) : (acv a).length = 49 := by
  have h : (ino a.i).toList.length = 44 := by rw [Array.length_toList]; exact ino_size ok.i
  simp [acv] at *
  omega
theorem acv_size (ok : a.Ok) : (acv a).toArray.size = 49 := acv_len ok
theorem acv_0 : (acv a).toArray[0]? = some (.int .u8 a.d) := by simp [acv]
theorem acv_1 : (acv a).toArray[1]? = some (.int .u16 a.num.val) := by simp [acv]
theorem acv_2 : (acv a).toArray[2]? = some (.int .u32 a.off.val) := by simp [acv]
theorem acv_47 (ok : a.Ok) : (acv a).toArray[47]? = some (.int .u16 a.n) := by
  have h : (ino a.i).toList.length = 44 := by rw [Array.length_toList]; exact ino_size ok.i
  rw [List.getElem?_toArray]
  show ((ino a.i).toList ++ [.int .u16 a.n, .int .u8 a.c.toNat])[44]? = _
  rw [List.getElem?_append_right (by omega), h]
  rfl
theorem acv_48 (ok : a.Ok) : (acv a).toArray[48]? = some (.int .u8 a.c.toNat) := by
  have h : (ino a.i).toList.length = 44 := by rw [Array.length_toList]; exact ino_size ok.i
  rw [List.getElem?_toArray]
  show ((ino a.i).toList ++ [.int .u16 a.n, .int .u8 a.c.toNat])[45]? = _
  rw [List.getElem?_append_right (by omega), h]
  rfl
theorem acv_i (ok : a.Ok) : (acv a).toArray.extract 3 47 = ino a.i := by
  have h : (ino a.i).toList.length = 44 := by rw [Array.length_toList]; exact ino_size ok.i
  apply Array.ext'
  rw [Array.toList_extract, List.extract_eq_take_drop]
  show ((ino a.i).toList ++ [Value.int .u16 a.n, Value.int .u8 a.c.toNat]).take 44 = _
  rw [List.take_append_of_le_length (by omega), List.take_of_length_le (by omega)]
theorem acv_all (ok : a.Ok) : (acv a).toArray.extract 0 49 = (acv a).toArray := by rw [← acv_size ok]; simp
theorem block_len : a.block.length = min a.n 600 := List.length_replicate
end
section
variable {w w' : World} {S : Nat → Prop} {o n : Nat} {base of : Value} {D : Ov} {X Y Y' : Nat → Prop} {z : Oz}
theorem of_any (x : In) (ok : InOk x) (w : World) : Ret Tryd.prog 8 #[.agg (ino x)] w fun v' w' => v' = .agg (ino x) ∧ Ch Nw w w' := by
  refine v_enter Tryd.func8 Tryd.ntmps8 rfl (by simp) fun R' hR => ?_
  have hs := ino_size ok
  have hs0 := ino_size inz_ok
  have hax := ino_all ok
  have h0 := al2_0 w (.cells (ino x) 41) (.cells (ino inz) 49)
  have h1 := al2_1 w (.cells (ino x) 41) (.cells (ino inz) 49)
  have ca := ((Ch.refl Nw w).alloc (.cells (ino x) 41)).alloc (.cells (ino inz) 49)
  have c0 := fun i => cell_blk h0 i
  simp [go_sem, VAl_big, hz_ino, zc_ino, hs0, hs, c0, h0, h1, ino_k, ino_n, ino_s, ino_r ok, bld_ino4 x ok, blit_whole, hax]
  exact hR _ _ ⟨rfl, ca.setRow (.inr (by omega)) _⟩
set_option maxRecDepth 100000 in
theorem block_any (a : Ac) (ok : a.Ok) (w : World) : Ret Tryd.prog 6 #[.agg (acv a).toArray] w fun v' w' => Mine 5 w v' a.block.length (bvs a.block) w' := by
  refine v_enter Tryd.func6 Tryd.ntmps6 rfl (by simp) fun R' hR => ?_
  have hs := acv_size ok
  have hn := ok.n
  have ba := hp_alloc w (.cells (acv a).toArray 43)
  have ca := (Ch.refl Nw w).alloc (.cells (acv a).toArray 43)
  have sa : (w.alloc (.cells (acv a).toArray 43)).heap.size = w.heap.size + 1 := by simp
  simp [go_sem]
  obtain ⟨q, hq⟩ : ∃ q, w.heap.size = q := ⟨_, rfl⟩
  rw [hq] at ba sa ⊢
  generalize w.alloc (.cells (acv a).toArray 43) = w1 at *
  refine v_loop (fun r f u => ∃ k, r = 600 - k ∧ k ≤ 600 ∧ k ≤ a.n ∧ f 4 = .int .i64 k ∧ f 1 = .pointer (some ⟨q, 0, none⟩) ∧ Mine 5 w1 (f 3) k (bvs (List.replicate k a.c)) u) 600
    ⟨0, rfl, by omega, by omega, by simp, by simp, by simpa [bvs] using Mine.nil 5 (Ch.refl Nw w1)⟩ ?_
  rintro J hJ _ f u ⟨k, rfl, hk, hkn, f4, f1, hm⟩
  have bu := hm.ch.obj ba id
  have c47 : u.cell? ⟨q, 47, none⟩ = some (.int .u16 a.n) := by rw [cell_blk bu]; exact acv_47 ok
  have c48 : u.cell? ⟨q, 48, none⟩ = some (.int .u8 a.c.toNat) := by rw [cell_blk bu]; exact acv_48 ok
  have hw64 : IntKind.i64.wrap (a.n : Int) = a.n := by rw [IntKind.wrap_i64]; omega
  by_cases h1 : k < a.n
  · have h1' : (k : Int) < a.n := by omega
    by_cases h2 : k < 600
    · have h2' : (k : Int) < 600 := by omega
      have hwk : IntKind.i64.wrap ((k : Int) + 1) = ((k + 1 : Nat) : Int) := by rw [IntKind.wrap_i64]; omega
      simp [go_sem, f1, f4, c47, c48, hw64, h1, h1', h2, h2']
      refine VB_lits (cs := [a.c]) (m := 1) hm.own (by omega) rfl rfl (by omega) rfl fun v' w' k1 k2 k3 => ?_
      have hg := hm.grow k1 k2 k3
      rw [← List.replicate_succ'] at hg
      have hwk' : IntKind.i64.wrap ((k : Int) + 1) = (k : Int) + 1 := by rw [hwk]; omega
      simp [go_sem, f4, hwk']
      exact Rnd.intro (600 - (k + 1)) (by omega) (hJ _ _ _ ⟨k + 1, rfl, by omega, by omega, by simp, by simp [f1], by simpa using hg⟩)
    · have h2' : ¬ (k : Int) < 600 := by omega
      simp [go_sem, f1, f4, c47, hw64, h1, h1', h2, h2']
      have e : a.block = List.replicate k a.c := by unfold Ac.block; congr 1; omega
      rw [e] at hR
      refine hR _ _ ⟨by simpa using hm.own, ca.trans hm.ch, ?_⟩
      simpa using hm.fresh.mono (show w.heap.size ≤ w1.heap.size by omega)
  · have h1' : ¬ (k : Int) < a.n := by omega
    simp [go_sem, f1, f4, c47, hw64, h1, h1']
    have e : a.block = List.replicate k a.c := by unfold Ac.block; congr 1; omega
    rw [e] at hR
    refine hR _ _ ⟨by simpa using hm.own, ca.trans hm.ch, ?_⟩
    simpa using hm.fresh.mono (show w.heap.size ≤ w1.heap.size by omega)
theorem OvP.wide (h : OvP w o base of n D X Y z) (hY : ∀ k, Y k → Y' k) (hX : ∀ k, Y' k → ¬ X k) (hlt : ∀ k, Y' k → k < w.heap.size) : OvP w o base of n D X Y' z := by
  obtain ⟨FL, h1, h2⟩ := h.lf
  refine ⟨h.blk, h.ino, h.inOk, ⟨FL, h1, fun a => ⟨(h2 a).1, fun b hb => ?_⟩⟩, h.lfOk, h.wp, h.wpOk, h.x, h.ne, hX, fun k hk => hk.elim (fun e => h.lt k (.inl e)) (hlt k)⟩
  obtain ⟨v, h3, h4, h5⟩ := (h2 a).2 b hb
  exact ⟨v, h3, h4, fun k hk => hY k (h5 k hk)⟩
end
end Go.Proofs.YtnefdmbdkljifaaDoor
