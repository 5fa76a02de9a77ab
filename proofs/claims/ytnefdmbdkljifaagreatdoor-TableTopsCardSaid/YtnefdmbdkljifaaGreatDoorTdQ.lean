/- TableTops answers true for every input. Condition: the listed package variables hold what the text lays. (Printed by genTdQ.py.) -/
import Derived.Test.YtnefdmbdkljifaaGreatDoorKep
import Derived.Test.YtnefdmbdkljifaaGreatDoorTrV
import Derived.Test.YtnefdmbdkljifaaGreatDoorTbN
import Derived.Test.YtnefdmbdkljifaaGreatDoorTdA
import Derived.Test.YtnefdmbdkljifaaGreatDoorTbW
import Derived.Test.YtnefdmbdkljifaaGreatDoorShaB
set_option linter.unusedSimpArgs false
set_option linter.unusedVariables false

/- Fields that are slices of structs, opened. They speak of no program. No condition. -/
namespace Go.Kin
open Go Go.RowKit Go.WideShapes Go.ChangeShapes
section
variable {H : Type} {enc : TypeId × Value → H} {P : Program} {W : World} {base : Nat} {spare : Nat → Bool} {held : Bool} {fuel : Nat} {t e : Nat} {cs : List Value} {x : DataW H × List MemPlace}
theorem list_of_rows {α : Type} (good : α → Prop) (en : α → List Value) {k : Nat} (hk : 0 < k) {A : Option Addr} {n c : Nat} (h1 : n ≤ c) (h2 : c ≤ maxLen)
    (h3 : 0 < n → ∃ ad, A = some ad ∧ ad.block < W.heap.size ∧ ∀ j, j < n → ∃ (cs : List Value) (fuel : Nat) (x : DataW H × List MemPlace), cs.length = k ∧ (∀ i, i < k → W.cell? (ad.add (j * k + i)) = cs[i]?) ∧ DataW.trod enc P W base spare held fuel e cs = some x)
    (hel : ∀ cs fuel x, cs.length = k → DataW.trod enc P W base spare held fuel e cs = some x → ∃ a, good a ∧ cs = en a) : ∃ l : List α, (∀ a ∈ l, good a) ∧ Lst W (.slice A n c) en k l := by
  rcases Nat.eq_zero_or_pos n with rfl | hn
  · exact ⟨[], by simp, A, c, rfl, h1, h2, fun h => absurd h (by simp)⟩
  obtain ⟨ad, rfl, hlt, hj⟩ := h3 hn
  have pick : ∀ j : Fin n, ∃ a : α, good a ∧ ∀ i, i < k → W.cell? (ad.add (j.1 * k + i)) = (en a)[i]? := fun j => by
    obtain ⟨cs, fuel, x, hl, hc, htr⟩ := hj j.1 j.2
    obtain ⟨a, ha, rfl⟩ := hel cs fuel x hl htr
    exact ⟨a, ha, hc⟩
  have pickl : ∀ j : Fin n, ∃ a : α, good a ∧ (en a).length = k ∧ ∀ i, i < k → W.cell? (ad.add (j.1 * k + i)) = (en a)[i]? := fun j => by
    obtain ⟨cs, fuel, x, hl, hc, htr⟩ := hj j.1 j.2
    obtain ⟨a, ha, rfl⟩ := hel cs fuel x hl htr
    exact ⟨a, ha, hl, hc⟩
  obtain ⟨f, hf⟩ := Classical.axiomOfChoice pickl
  have hlen : (List.ofFn f).length = n := List.length_ofFn
  have hget : ∀ j a, (List.ofFn f)[j]? = some a → ∃ hj : j < n, a = f ⟨j, hj⟩ := fun j a ha => by
    have hjn : j < n := by have := (List.getElem?_eq_some_iff.1 ha).1; omega
    rw [List.getElem?_ofFn, dif_pos hjn] at ha
    exact ⟨hjn, (Option.some.inj ha).symm⟩
  have hrd : ∀ j a i u, (List.ofFn f)[j]? = some a → (en a)[i]? = some u → W.cell? (ad.add (j * k + i)) = some u := fun j a i u ha hu => by
    obtain ⟨hjn, rfl⟩ := hget j a ha
    obtain ⟨_, hl, hc⟩ := hf ⟨j, hjn⟩
    have hik : i < k := by have := (List.getElem?_eq_some_iff.1 hu).1; omega
    rw [hc i hik, hu]
  obtain ⟨b, off, spot⟩ := ad
  have hsp : spot = none := by
    obtain ⟨a, ha⟩ : ∃ a, (List.ofFn f)[0]? = some a := ⟨_, List.getElem?_eq_getElem (by omega)⟩
    obtain ⟨h0n, rfl⟩ := hget 0 a ha
    obtain ⟨_, hl, _⟩ := hf ⟨0, h0n⟩
    obtain ⟨u, hu⟩ : ∃ u, (en (f ⟨0, h0n⟩))[0]? = some u := ⟨_, List.getElem?_eq_getElem (by omega)⟩
    have h00 := hrd 0 _ 0 u ha hu
    simp only [Nat.zero_mul, Nat.add_zero, Addr.add, if_true, World.cell?] at h00
    split at h00
    · split at h00
      · cases h00
      · rename_i hs
        simpa using hs
    · cases h00
  subst hsp
  refine ⟨List.ofFn f, fun a ha => ?_, some ⟨b, off, none⟩, c, by rw [hlen], by omega, h2, fun _ => ⟨b, off, rfl, hlt, fun j a i u ha hu => ?_⟩⟩
  · obtain ⟨j, hj⟩ := List.mem_iff_getElem?.1 ha
    obtain ⟨hjn, rfl⟩ := hget j a hj
    exact (hf ⟨j, hjn⟩).1
  · have := hrd j a i u ha hu
    rwa [Addr.add_lit, ← Nat.add_assoc] at this
/-- a field that is a slice of anything -/
theorem trod_list {α : Type} (good : α → Prop) (en : α → List Value) {k : Nat} (hk : 0 < k) (ht : P.underlying t = some (.slice e)) (hC : P.cellsOf e = k) (h : DataW.trod enc P W base spare held fuel t cs = some x)
    (hel : ∀ cs fuel x, cs.length = k → DataW.trod enc P W base spare held fuel e cs = some x → ∃ a, good a ∧ cs = en a) : ∃ (v : Value) (l : List α), cs = [v] ∧ (∀ a ∈ l, good a) ∧ Lst W v en k l := by
  rcases Go.Deep.open_slice ht h with ⟨hcs, _⟩ | ⟨a, len, cap, m, n', DD, Pl, hcs, _, hl, hm, hmm, _, hi⟩
  · subst hcs
    exact ⟨_, [], rfl, by simp, none, 0, rfl, Nat.le_refl _, Nat.zero_le _, fun h => absurd h (by simp)⟩
  · subst hcs
    have hlm : len ≤ m := by rw [hmm]; split <;> omega
    have hrow : ∀ j, j < len → ∃ (cs : List Value) (fuel : Nat) (x : DataW H × List MemPlace), cs.length = k ∧ (∀ i, i < k → W.cell? (a.add (j * k + i)) = cs[i]?) ∧ DataW.trod enc P W base spare held fuel e cs = some x := fun j hj => by
      obtain ⟨cs', hc, ht'⟩ := hi j (by omega)
      rw [hC] at hc
      obtain ⟨_, hcl, hat⟩ := World.cells?_some hc
      exact ⟨cs', _, _, hcl, fun i hi => by rw [← hat i hi, add_of_add], ht'⟩
    obtain ⟨l, h1, h2⟩ := list_of_rows good en hk (A := some a) (n := len) (c := cap) hl hm (fun hp => ⟨a, rfl, by
      obtain ⟨cs', _, _, hl', hc', _⟩ := hrow 0 hp
      have hc0 := hc' 0 hk
      rw [List.getElem?_eq_getElem (by omega)] at hc0
      have := World.block_lt_of_cell? W _ hc0
      rwa [block_of_add] at this, hrow⟩) hel
    exact ⟨_, l, rfl, h1, h2⟩
end
end Go.Kin

/- The table law's acts, opened. No condition. -/
namespace Go.Proofs.YtnefdmbdkljifaaGreatDoor
open Go.ChangeShapes Go.WideShapes Go.ChangeAt Go.RowKit Go.Kin

section
variable {H : Type} {enc : TypeId × Value → H} {W : World} {base : Nat} {spare : Nat → Bool} {held : Bool} {fuel : Nat} {cs : List Value} {x : DataW H × List MemPlace}
set_option maxRecDepth 100000 in
theorem trod_inoT (h : DataW.trod enc Tryz.prog W base spare held fuel 50 cs = some x) : ∃ y, InOk y ∧ cs = (ino y).toList := by
  obtain ⟨xs, m, _, _, hl, hxl, hf⟩ := DataW.trod_struct Tryz.underlying50 h
  have hc : Tryz.prog.cellsOf 50 = 44 := by kernel_rfl
  rw [hc] at hl
  match xs, hxl with
  | [y0, y1, y2, y3], _ =>
    have f0 := hf 0 _ rfl
    have f1 := hf 1 _ rfl
    have f2 := hf 2 _ rfl
    have f3 := hf 3 _ rfl
    obtain ⟨k, hk, _, _, _, hk8⟩ := trod_nat Tryz.underlying5 (.inr (.inr (.inr rfl))) f0
    obtain ⟨n, hn, _, _, hn16, _⟩ := trod_nat Tryz.underlying31 (.inr (.inr (.inl rfl))) f1
    obtain ⟨s, hs, _, hs32, _, _⟩ := trod_nat Tryz.underlying32 (.inr (.inl rfl)) f2
    obtain ⟨p, okp, hp⟩ := trod_pt f3
    have c8 : Tryz.prog.cellsOf 5 = 1 := by kernel_rfl
    have c16 : Tryz.prog.cellsOf 31 = 1 := by kernel_rfl
    have c32 : Tryz.prog.cellsOf 32 = 1 := by kernel_rfl
    have cP : Tryz.prog.cellsOf 37 = 41 := by kernel_rfl
    have hk : (cs.drop 0).take (Tryz.prog.cellsOf 5) = [.int .u8 k] := hk
    have hn : (cs.drop 1).take (Tryz.prog.cellsOf 31) = [.int .u16 n] := hn
    have hs : (cs.drop 2).take (Tryz.prog.cellsOf 32) = [.int .u32 s] := hs
    have hp : (cs.drop 3).take (Tryz.prog.cellsOf 37) = (pt p).toList := hp
    rw [c8] at hk
    rw [c16] at hn
    rw [c32] at hs
    rw [cP] at hp
    refine ⟨⟨k, n, s, p⟩, ⟨hk8 rfl, hn16 rfl, hs32 rfl, okp⟩, ?_⟩
    have st : ∀ i j, (cs.drop i).take j ++ cs.drop (i + j) = cs.drop i := fun i j => by rw [← List.drop_drop, List.take_append_drop]
    have e1 : cs = (cs.drop 0).take 1 ++ ((cs.drop 1).take 1 ++ ((cs.drop 2).take 1 ++ (cs.drop 3).take 41)) := by
      rw [List.take_of_length_le (i := 41) (by simp; omega), st 2 1, st 1 1, st 0 1, List.drop_zero]
    rw [e1, hk, hn, hs, hp]
    simp [ino]
set_option maxRecDepth 100000 in
theorem trod_tit (h : DataW.trod enc Tryz.prog W base spare held fuel 52 cs = some x) : ∃ y : Nat × In, ItOk y ∧ cs = itL y := by
  obtain ⟨xs, m, _, _, hl, hxl, hf⟩ := DataW.trod_struct Tryz.underlying52 h
  have hc : Tryz.prog.cellsOf 52 = 45 := by kernel_rfl
  rw [hc] at hl
  match xs, hxl with
  | [y0, y1], _ =>
    have f0 := hf 0 _ rfl
    have f1 := hf 1 _ rfl
    obtain ⟨n, hn, _, _, hn16, _⟩ := trod_nat Tryz.underlying31 (.inr (.inr (.inl rfl))) f0
    obtain ⟨y, oky, hy⟩ := trod_inoT f1
    have c16 : Tryz.prog.cellsOf 31 = 1 := by kernel_rfl
    have cI : Tryz.prog.cellsOf 50 = 44 := by kernel_rfl
    have hn : (cs.drop 0).take (Tryz.prog.cellsOf 31) = [.int .u16 n] := hn
    have hy : (cs.drop 1).take (Tryz.prog.cellsOf 50) = (ino y).toList := hy
    rw [c16] at hn
    rw [cI] at hy
    refine ⟨(n, y), ⟨hn16 rfl, oky⟩, ?_⟩
    have st : ∀ i j, (cs.drop i).take j ++ cs.drop (i + j) = cs.drop i := fun i j => by rw [← List.drop_drop, List.take_append_drop]
    have e1 : cs = (cs.drop 0).take 1 ++ (cs.drop 1).take 44 := by
      rw [List.take_of_length_le (i := 44) (by simp; omega), st 0 1, List.drop_zero]
    rw [e1, hn, hy]
    rfl
set_option maxRecDepth 100000 in
theorem trod_tq (h : DataW.trod enc Tryz.prog W base spare held fuel 47 cs = some x) : ∃ a : Tq, a.In W ∧ cs = tqL a := by
  obtain ⟨xs, m, _, _, hl, hxl, hf⟩ := DataW.trod_struct Tryz.underlying47 h
  have hc : Tryz.prog.cellsOf 47 = 1 := by kernel_rfl
  rw [hc] at hl
  match xs, hxl with
  | [y0], _ =>
    have f0 := hf 0 _ rfl
    obtain ⟨v, l, hv, hin, hL⟩ := trod_list ItOk itL (k := 45) (by decide) Tryz.underlying45 (by kernel_rfl) f0 fun cs fuel x _ ht => trod_tit ht
    have cS : Tryz.prog.cellsOf 45 = 1 := by kernel_rfl
    have hv : (cs.drop 0).take (Tryz.prog.cellsOf 45) = [v] := hv
    rw [cS] at hv
    refine ⟨⟨v, l⟩, ⟨hL, hin⟩, ?_⟩
    match cs, hl with
    | [a0], _ =>
      simp at hv
      rw [hv]
      rfl
end
end Go.Proofs.YtnefdmbdkljifaaGreatDoor

/- TableTops, walked. Conditions: the variables ptr.wide and tree.hole hold what the text lays. -/
namespace Go.Proofs.YtnefdmbdkljifaaGreatDoor
open Go.RowKit Go.Kin
set_option maxRecDepth 100000 in
set_option maxHeartbeats 8000000 in
theorem tableTops_any (g : Nat) (p : Pt) (v : Value) (b : List UInt8) (W : World) (hg : g < 18446744073709551616) (okp : PtOk p) (hs : Sl W v b.length (bvs b)) (hown : ∀ k, v.ownBlock = some k → k < W.heap.size) (env : TEnv W) :
    Ret Tryz.prog 5 #[.int .u64 g, .agg (pt p), v] W fun v' w' => v' = .bool true ∧ Ch Nw W w' := by
  refine v_enter Tryz.func5 Tryz.ntmps5 rfl (by simp) fun R' hR => ?_
  have hlen := hs.len Tryz.underlying62 3
  have hps := pt_size okp
  have hpa := pt_all okp
  have hzs := tpv_size tpz_ok
  have hza := tpv_all tpz_ok
  have hgl := env.lt
  simp [go_sem, hps, hpa, hlen]
  have c1 := (Ch.refl Nw W).alloc (.cells (pt p) 37)
  have b1 := hp_alloc W (.cells (pt p) 37)
  obtain ⟨w1, hw1⟩ : ∃ w1, W.alloc (.cells (pt p) 37) = w1 := ⟨_, rfl⟩
  rw [hw1] at b1 c1 ⊢
  have envN : ∀ w, Ch Nw W w → TEnv w := fun w hc => env.ch hc fun _ _ e => e
  by_cases h600 : 600 < b.length
  · have h600' : (600 : Int) < (b.length : Int) := by omega
    simp [go_sem, h600']
    refine (kwakes_any w1 (envN _ c1)).mono ?_
    rintro _ w2 ⟨rfl, d2⟩
    simp [go_sem]
    exact hR _ _ ⟨rfl, c1.trans d2⟩
  have h600' : ¬ (600 : Int) < (b.length : Int) := by omega
  simp [go_sem, h600']
  refine v_draw' [(0, none), (2, none), (1, some [2]), (3, some []), (4, some []), (5, some []), (6, none)] (by kernel_rfl) (by kernel_rfl) ?_
  have c1d : Ch Nw W w1.drew := c1.drew
  have b1d : w1.drew.heap[W.heap.size]? = some (.cells (pt p) 37 (0, 0)) := b1
  obtain ⟨u1, hu1⟩ : ∃ u1, w1.drew = u1 := ⟨_, rfl⟩
  rw [hu1] at c1d b1d ⊢
  simp [go_sem, b1d, hps, hpa]
  refine (refNum g 8 u1 hg (by decide)).mono ?_
  rintro v2 w2 ⟨k1, k2, k3⟩
  have m2 : Mine 5 W v2 8 (bvs (le g 8)) w2 := Mine.of k1 c1d k2 k3
  have b2 := k2.hp b1d id
  simp [go_sem, b2, hps, hpa]
  refine (rbytes_any p w2 okp).mono ?_
  rintro v3 w3 m3
  have m2' := m2.step m3.ch
  have b3 := m3.ch.hp b2 id
  have hlt1 := lt_of_block b1
  have c03 := m2'.ch
  simp [go_sem]
  refine VB_appn tyB m2'.own m3.sl (by rw [bvs_length, putP_length okp]) (bvs_one _) (by unfold maxLen; omega) (by omega) fun v4 w4 d1 d2 d3 => ?_
  have m4 := m2'.grow d1 d2 d3
  rw [← bvs_append] at m4
  have ne2 : ∀ k, v2.ownBlock = some k → W.heap.size < k := fun k hk => by have := k3 k hk; have := c1d.size; have := lt_of_block b1d; omega
  have b4 := d2.hp b3 fun e => by have := ne2 _ e; omega
  simp [go_sem]
  refine (refFill v4 (le g 8 ++ putP p) 512 w4 (by simp [le_length, putP_length okp]) (by decide) (by simpa [le_length, putP_length okp] using m4.sl)).mono ?_
  rintro v5 w5 ⟨k51, k52, k53⟩
  have b5 := k52.hp b4 id
  have hfl : (le g 8 ++ putP p).length = 72 := by simp [le_length, putP_length okp]
  rw [hfl] at k51
  have hxe : le g 8 ++ putP p ++ List.replicate (Int.toNat 512 - 72) 0 = putT (g, p) := by
    rw [show List.replicate (Int.toNat 512 - 72) (0 : UInt8) = zb 440 from rfl, List.append_assoc]
    rfl
  rw [hxe] at k51
  have m5 : Mine 5 W v5 512 (bvs (putT (g, p))) w5 := Mine.of k51 m4.ch k52 k53
  have okx : TpOk (g, p) := ⟨hg, okp⟩
  have hxs := tpv_size okx
  have hxa := tpv_all okx
  have hpl := putT_length (x := (g, p)) okp
  simp [go_sem, b5, hps, hpa, bld_tp2 g p okp hg]
  refine (puttop_any (g, p) w5 okx).mono ?_
  rintro v6 w6 m6
  have m5' := m5.step m6.ch
  have b6 := m6.ch.hp b5 id
  have c06 := m5'.ch
  simp [go_sem]
  refine (taketop_any v6 (putT (g, p)) w6 (by rw [hpl]; decide) (by rw [hpl]; exact m6.sl) (envN _ c06).lw).mono ?_
  rintro _ w7 ⟨rfl, c7⟩
  have b7 := c7.hp b6 id
  have okb : TpOk (tpS (putT (g, p))).1 := tpS_ok _
  have hbs := tpv_size okb
  have hba := tpv_all okb
  have hS := tpS_put okx
  obtain ⟨bk, hbk⟩ : ∃ bk, tpS (putT (g, p)) = bk := ⟨_, rfl⟩
  rw [hbk] at okb hbs hba hS ⊢
  have c8 := c7.alloc (.cells (tpv bk.1) 69)
  simp [go_sem, hz_tp, zc_tp, hbs, hba, hzs, blit_whole]
  have b8 := (Ch.refl Nw w7).alloc (.cells (tpv bk.1) 69) |>.hp b7 id
  have q8 := hp_alloc w7 (.cells (tpv bk.1) 69)
  obtain ⟨w8, hw8⟩ : ∃ w8, w7.alloc (.cells (tpv bk.1) 69) = w8 := ⟨_, rfl⟩
  rw [hw8] at b8 q8 c8 ⊢
  have heqp : ∀ w, (Op.equalIn 10000 37 (.agg (pt p)) (.agg (pt ptz))).run Tryz.prog w = .ok (decide (p = ptz)) w := fun w => eq_pt w okp ptz_ok
  have heq1 : ∀ w, (Op.equalIn 10000 69 (.agg (tpv bk.1)) (.agg (tpv (g, p)))).run Tryz.prog w = .ok (decide (bk.1 = (g, p))) w := fun w => eq_tp w okb okx
  have heq2 : ∀ w, (Op.equalIn 10000 69 (.agg (tpv bk.1)) (.agg (tpv tpz))).run Tryz.prog w = .ok (decide (bk.1 = tpz)) w := fun w => eq_tp w okb tpz_ok
  have sx := fun {w : World} {v : Value} {l : List UInt8} {n : Nat} (h : Sl w v n (bvs l)) (hn : l.length = n) => h.str (P := Tryz.prog) hn Tryz.underlying62 Tryz.underlying5 Tryz.underlying9
  have c56 := m6.ch.trans c8
  have s58 := sx (m5.sl.ch c56 fun _ _ e => e) hpl
  have s68 := sx (m6.sl.ch c8 fun _ _ e => e) hpl
  have hbeq : (putT (g, p) == putT (g, p)) = true := by simp
  have hmay : (p = ptz ∧ goodP p = true) ∨ (¬ p = ptz ∧ goodP p = mayP p) := by
    by_cases hp : p = ptz
    · exact .inl ⟨hp, by simp [goodP, hp]⟩
    · exact .inr ⟨hp, by simp [goodP, hp]⟩
  obtain ⟨gd, hgd⟩ : ∃ gd, goodP p = gd := ⟨_, rfl⟩
  rw [hgd] at hS hmay
  have fin : ∀ w9, Ch Nw w8 w9 → (Ret Tryz.prog 7 #[] w9 fun v' w' => v' = .bool true ∧ Ch Nw W w') := fun w9 c9 => (kwakes_any w9 (envN _ (c06.trans (c8.trans c9)))).mono fun v' w' ⟨h1, h2⟩ => ⟨h1, (c06.trans (c8.trans c9)).trans h2⟩
  have okt := tpS_ok b
  have hts := tpv_size okt
  have hta := tpv_all okt
  have heq3 : ∀ w, (Op.equalIn 10000 69 (.agg (tpv (tpS b).1)) (.agg (tpv tpz))).run Tryz.prog w = .ok (decide ((tpS b).1 = tpz)) w := fun w => eq_tp w okt tpz_ok
  have hsW := fun {w} (hc : Ch Nw W w) => sx (hs.ch hc fun _ _ e => e) rfl
  have c08 := c06.trans c8
  rcases hmay with ⟨hp, hgt⟩ | ⟨hp, hgt⟩
  case' inl =>
    rw [hgt, if_pos rfl] at hS
    subst hS
    rw [decide_eq_true hp] at heqp
    simp [go_sem, b8, q8, hps, hpa, bld_pt0, heqp, s58, s68, hxs, hxa, bld_tp2 g p okp hg, heq1]
    obtain ⟨w9, hw9⟩ : ∃ w9, w8 = w9 := ⟨_, rfl⟩
    have c9 : Ch Nw w8 w9 := hw9 ▸ Ch.refl _ _
    rw [hw9]
    clear hw9
  case' inr =>
    rw [decide_eq_false hp] at heqp
    simp [go_sem, b8, hps, hpa, bld_pt0, heqp]
    refine (rmay_any p w8 okp).mono ?_
    rw [mayR_eq p okp, ← hgt]
    rintro _ w9 ⟨rfl, c9⟩
    have b9 := c9.hp b8 id
    have q9 := c9.hp q8 id
    have s59 := sx (m5.sl.ch (c56.trans c9) fun _ _ e => e) hpl
    have s69 := sx (m6.sl.ch (c8.trans c9) fun _ _ e => e) hpl
    cases gd
    case' false =>
      rw [if_neg (by decide)] at hS
      subst hS
      simp [go_sem, b9, q9, hps, hpa, s59, s69, hzs, hza, bld_tp0, heq2]
    case' true =>
      rw [if_pos rfl] at hS
      subst hS
      simp [go_sem, b9, q9, hps, hpa, s59, s69, hxs, hxa, bld_tp2 g p okp hg, heq1]
  all_goals
    have c09 := c08.trans c9
    refine (taketop_any v b w9 (by omega) (hs.ch c09 fun _ _ e => e) (envN _ c09).lw).mono ?_
    rintro _ w10 ⟨rfl, c10⟩
    have c010 := c09.trans c10
    simp [go_sem, hz_tp, zc_tp, hts, hta, hzs, blit_whole]
    have c11 := c010.alloc (.cells (tpv (tpS b).1) 69)
    have q11 := hp_alloc w10 (.cells (tpv (tpS b).1) 69)
    have c911 := (c9.trans c10).alloc (.cells (tpv (tpS b).1) 69)
    obtain ⟨w11, hw11⟩ : ∃ w11, w10.alloc (.cells (tpv (tpS b).1) 69) = w11 := ⟨_, rfl⟩
    rw [hw11] at q11 c11 c911 ⊢
    have q11d : w11.drew.heap[w10.heap.size]? = some (.cells (tpv (tpS b).1) 69 (0, 0)) := q11
    have c11d := c11.drew
    have c911d := c911.drew
    have sb := hsW c11d
    by_cases h0 : (tpS b).2 = 0
    · have h0' : ((tpS b).2 != 0) = false := by simp [h0]
      simp [go_sem, h0']
      refine v_draw' [(0, none), (3, none), (4, none), (1, some [3, 4]), (2, none), (5, none), (6, none), (7, some []), (8, none), (9, none)] (by kernel_rfl) (by kernel_rfl) ?_
      obtain ⟨u, hu⟩ : ∃ u, w11.drew = u := ⟨_, rfl⟩
      rw [hu] at q11d c11d c911d sb ⊢
      simp [go_sem, q11d, hts, hta, sb]
      refine (puttop_any (tpS b).1 u okt).mono ?_
      rintro v12 w12 m12
      have s12 := sx m12.sl (putT_length okt.p)
      have hbb : (putT (tpS b).1 == b) = true := by rw [tpS_back b h0]; simp
      have sb2 := hsW (c11d.trans m12.ch)
      simp [go_sem, s12, hbb, sb2]
      refine (fin w12 (c911d.trans m12.ch)).mono ?_
      rintro _ w13 ⟨rfl, c13⟩
      simp [go_sem]
      exact hR _ _ ⟨rfl, c13⟩
    · have h0' : ((tpS b).2 != 0) = true := by simpa using h0
      obtain ⟨hE, hN⟩ := tpS_err b h0
      have hE1 : (tpS b).1 = tpz := by rw [hE]
      have hE2 : ((tpS b).2 == 5) = true := by rw [hE]; rfl
      rw [decide_eq_true hE1] at heq3
      simp [go_sem, h0']
      refine v_draw' [(0, none), (1, none), (2, none), (3, none), (4, none), (5, none), (6, none), (7, none), (8, none), (9, none), (10, none), (11, none), (12, none), (16, none), (17, none), (13, some [16, 17]), (14, some [16, 17]), (15, none), (18, none), (19, none), (20, none), (21, none), (22, some []), (23, none), (24, none)] (by kernel_rfl) (by kernel_rfl) ?_
      obtain ⟨u, hu⟩ : ∃ u, w11.drew = u := ⟨_, rfl⟩
      rw [hu] at q11d c11d c911d sb ⊢
      by_cases h512 : b.length = 512
      · have h5 : ((b.length : Int) != 512) = false := by rw [h512]; rfl
        simp [go_sem, q11d, hts, hta, hzs, hza, sb, hE2, bld_tp0, heq3, hlen, h5]
        refine (ltop_any v b u (by omega) (hs.ch c11d fun _ _ e => e) fun k hk => Nat.lt_of_lt_of_le (hown k hk) c11d.size).mono ?_
        rintro _ w12 ⟨rfl, c12⟩
        have sb2 := hsW (c11d.trans c12)
        simp [go_sem, sb2]
        refine (puttop_any (tpR b) w12 (tpR_ok b)).mono ?_
        rintro v13 w13 m13
        have s13 := sx m13.sl (putT_length (tpR_ok b).p)
        have hbb : (putT (tpR b) == b) = false := by simpa using hN
        have sb3 := hsW ((c11d.trans c12).trans m13.ch)
        simp [go_sem, s13, hbb, sb3]
        refine (fin w13 (c911d.trans (c12.trans m13.ch))).mono ?_
        rintro _ w14 ⟨rfl, c14⟩
        simp [go_sem]
        exact hR _ _ ⟨rfl, c14⟩
      · have h5 : ((b.length : Int) != 512) = true := by
          have : ¬ (b.length : Int) = 512 := by omega
          simpa using this
        simp [go_sem, q11d, hts, hta, hzs, hza, sb, hE2, bld_tp0, heq3, hlen, h5]
        refine (fin u c911d).mono ?_
        rintro _ w14 ⟨rfl, c14⟩
        simp [go_sem]
        exact hR _ _ ⟨rfl, c14⟩
end Go.Proofs.YtnefdmbdkljifaaGreatDoor

namespace Go.Proofs.YtnefdmbdkljifaaGreatDoor
open Go.ChangeShapes Go.WideShapes Go.ChangeAt Go.RowKit Go.Kin

set_option maxRecDepth 100000 in
theorem tableTops_lifted (os : Os) (started : os.Started) (H : Type) (enc : TypeId × Value → H) :
    ReturnsInHanded {} Tryz.checked os 5 .any (fun w args => (Rows.tableTopsSpec.pre enc Tryz.prog Tryz.f5 [] false w args ∧ laidMetH Tryz.prog Rows.tableTopsRow.laid w) ∧ sizedMet enc Tryz.prog Tryz.f5 (OpenSpec.ofChange Rows.tableTopsSpec) false w args)
      (Rows.tableTopsSpec.post enc Tryz.prog Tryz.f5 false true false false) := by
  refine returnsInHanded_of_change_and (C := Tryz.checked) (X := fun w _ => laidMetH Tryz.prog Rows.tableTopsRow.laid w) (fun _ _ _ hh h => h.of_heap hh) own started (by kernel_rfl) Tryz.func5
    (ChangeSpec.witness_at (enc := enc) (C := Tryz.checked) (os := os) (X := fun w _ => laidMetH Tryz.prog Rows.tableTopsRow.laid w) false (laidWorld5 os) #[.int .u64 0, .agg (pt ptz), .slice none 0 0] 8 rfl (by kernel_rfl) (by kernel_rfl) (by kernel_rfl) (by kernel_rfl) (by kernel_rfl) (laidWorld5_met os _)) ?_
  intro W base args ds gs before hval0 hW _ _ hL _
  have hval : ∀ (j : Nat) t v, Tryz.f5.params[j]? = some t → args[j]? = some v → Value.okWide Tryz.prog W .any base t v := hval0
  have hW' := hW
  obtain ⟨p, q, hA0, hV, rfl, hfz, hnd⟩ := hW
  have hA : DataW.TrodAll enc Tryz.prog W 0 (fun _ => true) true Tryz.f5.params.toList args.toList ds p := hA0
  have hAk := hA
  rw [Tryz.params5] at hA hval
  obtain ⟨v0, vs0, d0, ds0, p0, q0, hargs, rfl, rfl, h0, hA⟩ := trodAll_cons hA
  obtain ⟨v1, vs1, d1, ds1, p1, q1, rfl, rfl, rfl, h1, hA⟩ := trodAll_cons hA
  obtain ⟨v2, vs2, d2, ds2, p2, q2, rfl, rfl, rfl, h2, hA⟩ := trodAll_cons hA
  obtain ⟨rfl, rfl, rfl⟩ := trodAll_nil hA
  obtain rfl : args = #[v0, v1, v2] := Array.ext' hargs
  obtain ⟨rfl, rfl⟩ := trodVars_none hV
  have o0 := hval 0 33 v0 rfl rfl
  have o1 := hval 1 37 v1 rfl rfl
  have o2 := hval 2 62 v2 rfl rfl
  obtain ⟨n0, rfl, hn0⟩ := open_u64 Tryz.underlying33 o0 h0
  obtain ⟨fuel1, cs1, rfl, hf1⟩ := open_agg o1 (.inl ⟨_, Tryz.underlying37⟩) h1
  obtain ⟨p1, ok1, rfl⟩ := trod_pt hf1
  obtain ⟨l2, hs2⟩ := open_bytes Tryz.underlying62 Tryz.underlying5 (by kernel_rfl) o2 h2
  have hov2 := own_lt Tryz.underlying62 o2
  refine (tableTops_any n0 p1 v2 l2 W hn0 ok1 hs2 hov2 (tenv_of_laid hL)).calls.mono fun e W' ⟨v, he, hv, hc⟩ => ?_
  subst he; subst hv
  exact ⟨_, rfl, post_law laidOut hW' hAk rfl (by kernel_rfl) (by kernel_rfl) Tryz.underlying4 rfl rfl hc.below⟩
theorem tableTops_row : Rows.TableTopsSaid :=
  OpenClaim.holds_of_wide 5 Tryz.f5 rfl rfl rfl rfl rfl rfl rfl ⟨rfl, rfl, rfl, rfl, rfl⟩ rfl rfl rfl rfl rfl (by kernel_rfl) Tryz.func5 (by kernel_rfl)
    (of_decide_eq_true (by kernel_rfl)) (by unfold Func.isWrapper; first | (rw [if_pos (by decide +kernel)]; kernel_rfl) | (rw [if_neg (by decide +kernel)]; exact ⟨rfl, rfl⟩))
    (fun os started H enc _ => tableTops_lifted os started H enc)
theorem tableTops_holds : Rows.TableTopsCardSaid :=
  Claim7.holds_tied_plain_at .later [] [.data, .data] true (true, "804dcc6c0e82b5d9d03f6b6e3cbd8916604af6eb66f6e79b8c0a5bdd488723ca") false
    tableTops_row (fun _ h => by cases h) (by kernel_rfl) (fun _ h => by cases h) tableTops_row_tie rfl ⟨rfl, rfl⟩ (by kernel_rfl) rfl
    (fun f fn hf hfn => by
      obtain rfl : f = 5 := Option.some.inj ((show Tryz.prog.funcNamed "kintsugi/kintsugilaw12.TableTops" = some 5 by kernel_rfl).symm.trans hf) |>.symm
      obtain rfl : fn = Tryz.f5 := (Option.some.inj (Tryz.func5.symm.trans hfn)).symm
      exact ⟨by kernel_rfl, fun j t ht => no_stand (by kernel_rfl) j t ht⟩)
    (by kernel_rfl)
#print axioms tableTops_holds
end Go.Proofs.YtnefdmbdkljifaaGreatDoor
