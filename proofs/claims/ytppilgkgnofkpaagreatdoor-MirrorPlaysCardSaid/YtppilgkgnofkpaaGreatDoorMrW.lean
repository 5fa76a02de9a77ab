/- A mirror that is known (the law's wakes), walked. Conditions: the variables sha.constants and ptr.wide hold what the text lays. -/
import Derived.Test.YtppilgkgnofkpaaGreatDoorMrJ
import Derived.Test.YtppilgkgnofkpaaGreatDoorMrM
import Derived.Test.YtppilgkgnofkpaaGreatDoorMrX
import Derived.Test.YtppilgkgnofkpaaGreatDoorRmG
import Derived.Test.YtppilgkgnofkpaaGreatDoorSpm
set_option linter.unusedSimpArgs false
set_option linter.unusedVariables false

/- A mirror that is known, in plain Lean. No condition but that one block fits a pointer, and noughts do not. -/
namespace Go.Proofs.YtppilgkgnofkpaaGreatDoor
open Go.RowKit Go.Kin

def tw {α : Type} (d a b : α) : Nat → α := fun i => if i = 0 then a else if i = 1 then b else d
section
variable {α : Type} (d a b x : α)
@[simp] theorem tw_0 : tw d a b 0 = a := rfl
@[simp] theorem tw_1 : tw d a b 1 = b := rfl
@[simp] theorem tw_u0 : upd1 (tw d a b) 0 x = tw d x b := by
  funext i
  unfold upd1 tw
  by_cases h : i = 0 <;> simp [h]
@[simp] theorem tw_u1 : upd1 (tw d a b) 1 x = tw d a x := by
  funext i
  unfold upd1 tw
  by_cases h : i = 0
  · simp [h]
  · by_cases h1 : i = 1 <;> simp [h1, h]
end
theorem tw_all {α : Type} (d : α) : (fun _ : Nat => d) = tw d d d := by
  funext i
  unfold tw
  split
  · rfl
  · split <;> rfl
theorem mnew_eq : Mr.new = ⟨tw Dk.new Dk.new Dk.new, Pwr.on, fun _ _ => 0, fun _ _ => false, tw 0 0 0, tw 0 0 0, []⟩ := by
  unfold Mr.new
  rw [← tw_all, ← tw_all]
section
variable (p : Pt) (B : Byts)
def wkC (l : List (Nat × Byts)) : Dk := { Dk.new with cache := l }
def wkR (l : List (Nat × Byts)) : Dk := { Dk.new with cache := l, m := fun x => if x = 1 then some Go.Kin.zb else none }
def wkS (l : List (Nat × Byts)) : Dk := { Dk.new with cache := l, m := fun x => if x = 1 then some Go.Kin.zb else none, stuck := fun x => if x = 2 then true else false }
def wk1 : Mr := ⟨tw Dk.new (wkC [(1, B), (2, B)]) (wkC [(3, B), (4, B)]), Pwr.on, fun _ _ => 0, fun _ _ => false, tw 0 0 0, tw 0 0 0, []⟩
def wk2 : Mr := ⟨tw Dk.new (wkR [(2, B)]) (wkC [(3, B), (4, B)]), Pwr.on, fun _ _ => 0, fun _ _ => false, tw 0 0 0, tw 0 0 0, []⟩
def wk3 : Mr := ⟨tw Dk.new (wkR [(2, B), (1, B)]) (wkC [(3, B), (4, B)]), Pwr.on, fun _ _ => 0, fun _ _ => false, tw 0 1 0, tw 0 1 0, []⟩
def wk4 : Mr := ⟨tw Dk.new (wkS [(1, B)]) (wkC [(3, B), (4, B)]), Pwr.on, fun _ _ => 0, fun _ _ => false, tw 0 1 0, tw 0 1 0, []⟩
def wk5 : Mr := ⟨tw Dk.new (wkS [(1, B), (2, B)]) (wkC [(3, B), (4, B)]), Pwr.on, fun _ _ => 0, upd1 (fun _ _ => false) 0 (upd1 (fun _ => false) 2 true), tw 0 2 0, tw 0 1 0, [p]⟩
variable {p B}
theorem mend_yes {n : Nat} {s : Mr} {q : Pt} {b c : Byts} {k : Nat} (h : (s.writ n q b k).good n q k = some c) : s.mend n q b k = { s.writ n q b k with mended := upd1 (s.writ n q b k).mended (k / 2) ((s.writ n q b k).mended (k / 2) + 1) } := by
  unfold Mr.mend
  simp [h]
theorem mend_no {n : Nat} {s : Mr} {q : Pt} {b : Byts} {k : Nat} (h : (s.writ n q b k).good n q k = none) : s.mend n q b k = ((s.writ n q b k).sicks n (k / 2) (adr q k)).moved q := by
  unfold Mr.mend
  simp [h]
theorem wk_write (hp : p.a = [1, 2, 3, 4]) (hm : mayP p = true) (hB : fitB p B = true) : Mr.new.write 9 p B = (wk1 B, 0) := by
  have hl := fitB_len hB
  have hc : cseq p.a 4 = [0, 1, 2, 3] := by rw [hp]; decide
  have a0 : adr p 0 = 1 := by unfold adr; rw [hp]; rfl
  have a1 : adr p 1 = 2 := by unfold adr; rw [hp]; rfl
  have a2 : adr p 2 = 3 := by unfold adr; rw [hp]; rfl
  have a3 : adr p 3 = 4 := by unfold adr; rw [hp]; rfl
  unfold Mr.write
  rw [hm, hB, hc, mnew_eq]
  simp [Mr.put, Mr.writ, Dk.write, Dk.writes, Dk.put, Dk.wpow, Dk.able, wrOk, a0, a1, a2, a3, hl, Pwr.on, Pwr.made, Pwr.step, Dk.new, wk1, wkC]
theorem wk_rot : (wk1 B).dk 0 = wkC [(1, B), (2, B)] ∧ (wkC [(1, B), (2, B)]).rot 1 Go.Kin.zb = wkR [(2, B)] := by
  refine ⟨rfl, ?_⟩
  simp [Dk.rot, wkC, wkR, dropC, Dk.new]
theorem wk_heal (hp : p.a = [1, 2, 3, 4]) (hm : mayP p = true) (hB : fitB p B = true) (h0 : fitB p Go.Kin.zb = false) : (wk2 B).heal 9 p false = (wk3 B, B, 0) := by
  have hl := fitB_len hB
  have hc : cseq p.a 4 = [0, 1, 2, 3] := by rw [hp]; decide
  have a0 : adr p 0 = 1 := by unfold adr; rw [hp]; rfl
  have a1 : adr p 1 = 2 := by unfold adr; rw [hp]; rfl
  have g0 : (wk2 B).good 9 p 0 = none := by
    simp [Mr.good, wk2, wkR, Dk.able, Pwr.on, Dk.look, Dk.tells, a0, lastC, Dk.new, blockM, Option.filter, h0]
  have g1 : (wk2 B).good 9 p 1 = some B := by
    simp [Mr.good, wk2, wkR, Dk.able, Pwr.on, Dk.look, Dk.tells, a1, lastC, Dk.new, Option.filter, hB]
  have gm : (({ wk2 B with found := tw 0 1 0 } : Mr).writ 9 p B 0).good 9 p 0 = some B := by
    simp [Mr.good, Mr.writ, wk2, wkR, Dk.able, Pwr.on, Dk.look, Dk.tells, a0, lastC, Dk.new, Option.filter, hB, Dk.write, Dk.writes, Dk.put, Dk.wpow, Pwr.made, Pwr.step, hl]
  have hlk : (wk2 B).lks 9 p false = [0, 1] := by
    unfold Mr.lks
    rw [hc]
    simp [Mr.cut, g0, g1]
  have hrun : (wk2 B).run 9 p [0, 1] = ⟨tw 0 1 0, some B, [0]⟩ := by
    have hd : ((wk2 B).dk 0).dead = false := rfl
    have hf : (wk2 B).found = tw 0 0 0 := rfl
    simp [Mr.run, Mr.step, g0, g1, hd, hf]
  unfold Mr.heal
  rw [hm, hlk, hrun]
  simp only [if_true, List.foldl_cons, List.foldl_nil]
  rw [mend_yes gm]
  simp [Mr.writ, Dk.write, Dk.writes, Dk.put, Dk.wpow, Dk.able, a0, hl, Pwr.on, Pwr.made, Pwr.step, Dk.new, wk2, wk3, wkR]
theorem wk_look : ((wk3 B).dk 0).look 9 1 = some B := by
  simp [wk3, wkR, Dk.look, Dk.tells, lastC, Dk.new]
theorem wk_stick : ((wk3 B).dk 0).stick 2 = wkS [(1, B)] := by
  simp [wk3, wkR, wkS, Dk.stick, dropC, Dk.new]
theorem wk_check (hp : p.a = [1, 2, 3, 4]) (hm : mayP p = true) (hB : fitB p B = true) : (wk4 B).heal 9 p true = (wk5 p B, B, 0) := by
  have hl := fitB_len hB
  have hc : cseq p.a 4 = [0, 1, 2, 3] := by rw [hp]; decide
  have a0 : adr p 0 = 1 := by unfold adr; rw [hp]; rfl
  have a1 : adr p 1 = 2 := by unfold adr; rw [hp]; rfl
  have a2 : adr p 2 = 3 := by unfold adr; rw [hp]; rfl
  have a3 : adr p 3 = 4 := by unfold adr; rw [hp]; rfl
  have g0 : (wk4 B).good 9 p 0 = some B := by
    simp [Mr.good, wk4, wkS, Dk.able, Pwr.on, Dk.look, Dk.tells, a0, lastC, Dk.new, Option.filter, hB]
  have g1 : (wk4 B).good 9 p 1 = none := by
    simp [Mr.good, wk4, wkS, Dk.able, Pwr.on, Dk.look, a1, Dk.new]
  have g2 : (wk4 B).good 9 p 2 = some B := by
    simp [Mr.good, wk4, wkC, Dk.able, Pwr.on, Dk.look, Dk.tells, a2, lastC, Dk.new, Option.filter, hB]
  have g3 : (wk4 B).good 9 p 3 = some B := by
    simp [Mr.good, wk4, wkC, Dk.able, Pwr.on, Dk.look, Dk.tells, a3, lastC, Dk.new, Option.filter, hB]
  have gm : (({ wk4 B with found := tw 0 2 0 } : Mr).writ 9 p B 1).good 9 p 1 = none := by
    simp [Mr.good, Mr.writ, wk4, wkS, Dk.able, Pwr.on, Dk.look, a1, Dk.new, Dk.write, Dk.writes, Dk.put, Dk.wpow, Pwr.made, Pwr.step, hl]
  have hlk : (wk4 B).lks 9 p true = [0, 1, 2, 3] := by
    unfold Mr.lks
    rw [hc]
    rfl
  have hrun : (wk4 B).run 9 p [0, 1, 2, 3] = ⟨tw 0 2 0, some B, [1]⟩ := by
    have hd : ((wk4 B).dk 0).dead = false := rfl
    have hf : (wk4 B).found = tw 0 1 0 := rfl
    simp [Mr.run, Mr.step, g0, g1, g2, g3, hd, hf]
  unfold Mr.heal
  rw [hm, hlk, hrun]
  simp only [if_true, List.foldl_cons, List.foldl_nil]
  rw [mend_no gm]
  simp [Mr.sicks, Mr.moved, Mr.writ, Dk.write, Dk.writes, Dk.put, Dk.wpow, Dk.able, a1, hl, Pwr.on, Pwr.made, Pwr.step, Dk.new, wk4, wk5, wkS]
end
end Go.Proofs.YtppilgkgnofkpaaGreatDoor

/- A pointer that is sealed has its own tag's digest. No condition. -/
namespace Go.Proofs.YtppilgkgnofkpaaGreatDoor
open Go.RowKit Go.Kin

theorem tag16 (p : Pt) : (putP p).take 16 = [UInt8.ofNat p.k, UInt8.ofNat p.l] ++ (le p.o 2 ++ (le p.f 4 ++ le p.b 8)) := by
  have e : putP p = ([UInt8.ofNat p.k, UInt8.ofNat p.l] ++ (le p.o 2 ++ (le p.f 4 ++ le p.b 8))) ++ (p.h ++ (p.a.flatMap (fun x => le x 2) ++ List.replicate 8 0)) := by
    simp [putP]
  rw [e, List.take_left' (by simp [le_length])]
theorem dig_seal (p : Pt) (b b' : List UInt8) : digS (sealP p b) b' = digS p b' := by
  unfold digS
  rw [tag16, tag16]
  rfl
theorem seal_may (p : Pt) (b : List UInt8) : mayP (sealP p b) = mayP p := rfl
end Go.Proofs.YtppilgkgnofkpaaGreatDoor

/- A mirror that is known (the law's wakes), walked. Conditions: the variables sha.constants and ptr.wide hold what the text lays. -/
namespace Go.Proofs.YtppilgkgnofkpaaGreatDoor
open Go.RowKit Go.Kin

def mkq : Pt := ⟨2, 0, 3, 0, 0, zb 32, [1, 2, 3, 4]⟩
theorem mkq_ok : PtOk mkq := ⟨by decide, by decide, by decide, by decide, by decide, rfl, rfl, by simp [mkq]⟩
theorem mkq_ne : digS mkq Go.Kin.zb ≠ digS mkq (fullB [7]) := by decide +kernel
theorem mkq_may : mayP mkq = true := by decide
theorem blit_mkq : blit (blit (blit (pt ptz) 0 #[.int .u8 2]) 2 #[.int .u16 3]) 37 #[.int .u16 1, .int .u16 2, .int .u16 3, .int .u16 4] = pt mkq := by
  simp [blit, pt, ptz, mkq, bvs_length, zb_length, u16s, u16v]
theorem bld_mkq {w : World} {K : Value → World → Prop} : VBld Tryz.prog 58 [(0, .int .u8 2), (2, .int .u16 3), (6, .agg #[.int .u16 1, .int .u16 2, .int .u16 3, .int .u16 4])] w K = K (.agg (pt mkq)) w := by
  refine VBld_struct Tryz.underlying58 hz_pt (places := #[(0, 1), (1, 1), (2, 1), (3, 1), (4, 1), (5, 32), (37, 4)]) (by simp [go_sem]) ?_
  have hz : (pt ptz).size = 41 := pt_size ptz_ok
  simp [fillB, zc_pt, Value.cells, hz, blit_size]
  exact blit_mkq
def acz : Ac := ⟨0, 0, 0, .slice none 0 0, [], false, 0, .slice none 0 0, []⟩
def amz : Am := ⟨0, ptz, .slice none 0 0, [], false, acz⟩
def am7 (v : Value) : Am := ⟨0, mkq, v, [7], false, acz⟩
theorem hz_am : (Tryz.prog.info? 65).map (fun i => i.zero.isSome) = some true := by kernel_rfl
theorem zc_am : zc Tryz.prog 65 = amv amz := by kernel_rfl
theorem bld_am7 {A : Option Addr} {c : Nat} {w : World} {K : Value → World → Prop} : VBld Tryz.prog 65 [(1, .agg (pt mkq)), (2, .slice A 1 c)] w K = K (.agg (amv (am7 (.slice A 1 c)))) w := by
  refine VBld_struct Tryz.underlying65 hz_am (places := #[(0, 1), (1, 41), (42, 1), (43, 1), (44, 7)]) (by simp [go_sem]) ?_
  have hz : (amv amz).size = 51 := amv_size ptz_ok
  have hp : (pt mkq).size = 41 := pt_size mkq_ok
  simp [fillB, zc_am, Value.cells, hz, hp, blit_size]
  simp [blit, amv, amL, am7, amz, acv, acz, pt, mkq, ptz, bvs_length, zb_length, u16s, u16v]
  rfl
end Go.Proofs.YtppilgkgnofkpaaGreatDoor

namespace Go.Proofs.YtppilgkgnofkpaaGreatDoor
open Go.RowKit Go.Kin

section
variable {W w0 w : World} {K : Nat → Prop} {x p m n i : Nat} {z : Mz} {s : Mr}
theorem kprc (h : Keep W w0 w K fun w O => PrAt w x p m n z s O) (j : Nat) : w.cell? ⟨x, j, none⟩ = (prc p m z)[j]? := by
  obtain ⟨O, h1, _⟩ := h.ex
  exact h1.cell j
theorem kdkc (h : Keep W w0 w K fun w O => PrAt w x p m n z s O) (hi : i < 2) : w.cell? ⟨x, 1 + i, none⟩ = some (.pointer (some ⟨z.d i, 0, none⟩)) := by
  obtain ⟨O, h1, _⟩ := h.ex
  exact h1.dkc hi
theorem kmr (h : Keep W w0 w K fun w O => PrAt w x p m n z s O) : ∃ O, MrAt w m p n z s O := by
  obtain ⟨O, h1, _⟩ := h.ex
  obtain ⟨O', h2, _⟩ := h1.mr
  exact ⟨O', h2⟩
theorem kmrs {f : FuncId} {args : Array Value} {R : Value → Prop} {s' : Mr} (h : Keep W w0 w K fun w O => PrAt w x p m n z s O) (hf : ∀ O, MrAt w m p n z s O → (∀ k, O k → W.heap.size ≤ k) → (∀ k, K k → ¬ O k) → Ret Tryz.prog f args w fun v w' => R v ∧ MrAt w' m p n z s' (Gr O w w') ∧ Ch O w w') :
    Ret Tryz.prog f args w fun v w' => R v ∧ Keep W w0 w' K fun w O => PrAt w x p m n z s' O :=
  h.step (R := fun v _ => R v) fun O hp hO hK => hp.step fun O' h1 h2 => hf O' h1 (fun k hk => hO k (h2 k hk)) fun k hk e => hK k hk (h2 k e)
theorem tw_le {d a b c i : Nat} (h0 : d ≤ c) (h1 : a ≤ c) (h2 : b ≤ c) : tw d a b i ≤ c := by
  unfold tw
  split
  · exact h1
  · split
    · exact h2
    · exact h0
theorem fine_tw {D0 D1 : Dk} {u : Nat → Nat → Nat} {sk : Nat → Nat → Bool} {f0 f1 m0 m1 c : Nat} {mv : List Pt} (h0 : D0.cache.length ≤ c) (h1 : D1.cache.length ≤ c) (a0 : D0.astray = none) (a1 : D1.astray = none) (hf0 : f0 ≤ c) (hf1 : f1 ≤ c) (hm0 : m0 ≤ c) (hm1 : m1 ≤ c) (hv : mv.length ≤ c) :
    (⟨tw Dk.new D0 D1, Pwr.on, u, sk, tw 0 f0 f1, tw 0 m0 m1, mv⟩ : Mr).Fine c :=
  ⟨by show (-1 : Int) ≤ _; decide, fun i hi => by rcases lt2 hi with rfl | rfl; exact h0; exact h1, fun i hi x hx => by
    rcases lt2 hi with rfl | rfl
    · simp [a0] at hx
    · simp [a1] at hx, fun i => tw_le (Nat.zero_le _) hf0 hf1, fun i => tw_le (Nat.zero_le _) hm0 hm1, hv⟩
theorem kread {c : Nat} (h : Keep W w0 w K fun w O => PrAt w x p m n z s O) (q : Pt) (ok : PtOk q) (hw : Lw w) (hk : Lk w) (fine : s.Fine c) (hc : c ≤ 800000) (hgk : K 1) :
    Ret Tryz.prog 9 #[.pointer (some ⟨m, 0, none⟩), .agg (pt q)] w fun v' w' => ∃ O' : Nat → Prop, (∃ u, v' = .tuple #[u, .int .i64 (s.heal n q false).2.2] ∧ Sl w' u (s.heal n q false).2.1.length (bvs (s.heal n q false).2.1) ∧ ∀ j, u.ownBlock = some j → w.heap.size ≤ j ∧ ¬ O' j ∧ (0 < (s.heal n q false).2.1.length → j < w'.heap.size)) ∧
      (∀ K' : Nat → Prop, (∀ k, K' k → ¬ O' k ∧ k < w'.heap.size) → Keep W w' w' K' fun w O => PrAt w x p m n z (s.heal n q false).1 O) ∧ (∀ k, K k → ¬ O' k ∧ k < w'.heap.size) ∧ Ch (fun k => ¬ K k) w0 w' := by
  refine h.stepO (R := fun v' w' O' => ∃ u, v' = .tuple #[u, .int .i64 (s.heal n q false).2.2] ∧ Sl w' u (s.heal n q false).2.1.length (bvs (s.heal n q false).2.1) ∧ ∀ j, u.ownBlock = some j → w.heap.size ≤ j ∧ ¬ O' j ∧ (0 < (s.heal n q false).2.1.length → j < w'.heap.size)) fun O hp hO hK => ?_
  obtain ⟨O1, h1, hx1, h2⟩ := hp.mr
  refine (read_m h1 q ok hw hk fine hc fun e => hK _ hgk (h2 _ e)).mono ?_
  rintro v w' ⟨u, e, hh⟩
  obtain ⟨O2, y1, y2, y3⟩ := hh.at'
  have hxl := hp.lt x hp.ox
  have hx2 : ¬ O2 x := fun e => (y2 x e).elim hx1 fun e => by omega
  have hs := hh.ch.size
  refine ⟨fun k => O2 k ∨ k = x, ⟨u, e, hh.sl, fun j hj => ⟨(y3 j hj).1, fun e => e.elim (y3 j hj).2 fun e => by have := (y3 j hj).1; omega, fun h0 => sl_lt hh.sl h0 j hj⟩⟩, ⟨hh.ch.obj hp.blk hx1, ⟨O2, y1, hx2, fun k => .inl⟩, .inr rfl, fun k hk => hk.elim (y1.lt k) fun e => by omega⟩, fun k hk => hk.elim (fun hk => (y2 k hk).imp (h2 k) id) fun e => .inl (by subst e; exact hp.ox), hh.ch.mono fun k _ e => h2 k e⟩
end

set_option maxRecDepth 100000 in
set_option maxHeartbeats 8000000 in
theorem mrwakes_any (w : World) (hw : Lw w) (hk : Lk w) : Ret Tryz.prog 6 #[] w fun v' w' => v' = .bool true ∧ Ch Nw w w' := by
  refine v_enter Tryz.func6 Tryz.ntmps6 rfl (by simp) fun R' hR => ?_
  have okm := mkq_ok
  have hbld := fun w K => bld_mkq (w := w) (K := K)
  have hb7 := fun A c w K => bld_am7 (A := A) (c := c) (w := w) (K := K)
  have hpm := pt_size okm
  have ok7 : ∀ v, (amv (am7 v)).size = 51 := fun v => amv_size okm
  have hzs := pt_size ptz_ok
  simp [go_sem]
  refine (begun_any 9 w (by decide) (by decide)).mono ?_
  rintro _ w1 ⟨x, p, m, z, rfl, hpr, c1⟩
  have kp1 : Keep w w1 w1 _ (fun w O => PrAt w x p m 9 z Mr.new O) := Keep.of hpr (fun k hk => hk.1) c1
  have c2 := (Ch.refl Nw w1).alloc (.cells #[.int .u8 7] 5)
  have hl1 := lit1 w1 7 (by decide)
  simp [go_sem, hbld, hb7, hpm, ok7]
  refine (sealed_any (am7 (.slice (some ⟨w1.heap.size, 0, none⟩) 1 1)) _ okm hl1 (by show 1 ≤ 1000000; decide)).mono ?_
  rintro _ w2 ⟨u, rfl, m2, c2', u2⟩
  have c2 := c2.trans c2'
  obtain ⟨q, hq⟩ : ∃ q, (am7 (.slice (some ⟨w1.heap.size, 0, none⟩) 1 1)).ptr = q := ⟨_, rfl⟩
  obtain ⟨B, hB⟩ : ∃ B, fullB [7] = B := ⟨_, rfl⟩
  have hqs : sealP mkq B = q := by rw [← hq, ← hB]; rfl
  have okq : PtOk q := by rw [← hqs]; exact sealP_ok okm _
  have hqa : q.a = [1, 2, 3, 4] := by rw [← hqs]; rfl
  have hmay : mayP q = true := by rw [← hqs, seal_may]; exact mkq_may
  have hBl : B.length = 512 := by rw [← hB]; exact fullB_len _
  have hfB : fitB q B = true := by
    unfold fitB
    rw [← hqs, dig_seal]
    simp [hBl, sealP]
  have hf0 : fitB q Go.Kin.zb = false := by
    unfold fitB
    rw [← hqs, dig_seal]
    have := mkq_ne
    rw [hB] at this
    simp [sealP, this]
  rw [hq]
  have m2 : w2.ownsRow 0 5 1 u 512 (bvs B) := by rw [← hB]; exact m2
  clear hB hqs hq
  have hps := pt_size okq
  have hpa := pt_all okq
  have eq := fun w => eq_pt w okq okq
  have hps1 : ∀ x ∈ [q], PtOk x := fun x hx => by simp at hx; subst hx; exact okq
  obtain ⟨Au, cu, hu⟩ : ∃ A c, u = .slice A 512 c := by
    rcases m2.2 with ⟨hv, h0⟩ | ⟨g, cap, cur, hv, _⟩
    · exact absurd h0 (by decide)
    · exact ⟨_, _, hv⟩
  have c3 := (Ch.refl Nw w2).alloc (.cells (pt q) 58)
  have b3 := hp_alloc w2 (.cells (pt q) 58)
  obtain ⟨g, hg⟩ : ∃ g, w2.heap.size = g := ⟨_, rfl⟩
  simp [go_sem, hz_pt, zc_pt, hps, hzs, blit_whole]
  rw [hg] at b3 ⊢
  have u3 := own_ch m2 c3 fun _ _ e => e
  have c13 := c2.trans c3
  have gl := lt_of_block b3
  have hgs : w1.heap.size ≤ g := by rw [← hg]; exact c2.size
  have ulo : ∀ k, u.ownBlock = some k → w1.heap.size ≤ k ∧ k < g := fun k hk => ⟨by have := u2 k hk; simp at this; omega, by rw [← hg]; exact own_blt m2 k hk⟩
  revert b3 u3 c13 gl
  clear c3
  generalize w2.alloc (.cells (pt q) 58) = w3
  intro b3 u3 c13 gl
  have kp3 := kp1.more PrAt.ok c13
  obtain ⟨K, hK⟩ : ∃ K : Nat → Prop, K = fun k => (k < w1.heap.size ∧ ¬ (w.heap.size ≤ k ∧ k < w1.heap.size)) ∨ (w1.heap.size ≤ k ∧ k < w3.heap.size) := ⟨_, rfl⟩
  rw [← hK] at kp3
  have Kg : K g := by rw [hK]; exact .inr ⟨hgs, gl⟩
  have Ku : ∀ k, u.ownBlock = some k → K k := fun k hk => by rw [hK]; exact .inr ⟨(ulo k hk).1, by have := (ulo k hk).2; omega⟩
  have Kc : K 1 := by rw [hK]; exact .inl ⟨by have := hk.lt; have := c1.size; omega, fun e => by have := hk.lt; omega⟩
  have hw3 : Lw w3 := (hw.ch c1 id).ch c13 id
  have hk3 : Lk w3 := (hk.ch c1 id).ch c13 id
  clear kp1 hpr
  -- Write
  have kp := kp3.stay PrAt.ok (Ch.refl Nw w3).drew
  have x4 : w3.cell? ⟨x, 4, none⟩ = some (.pointer (some ⟨m, 0, none⟩)) := kprc kp3 4
  subst hu
  refine v_draw' [(0, none), (1, none), (2, none), (3, none), (4, none), (5, none), (6, some []), (7, none)] (by kernel_rfl) (by kernel_rfl) ?_
  simp [go_sem, x4, b3, hps, hpa]
  have hwr := wk_write hqa hmay hfB
  refine (kmrs kp (R := fun v => v = .int .i64 0) (s' := wk1 B) fun O h1 hO hK => (mwrite_any h1 q okq hw3 hk3 B _ (by rw [hBl]; exact Sl.of_own u3) (fun j hj => kp.lt j (Ku j hj)) (fun _ j hj => hK j (Ku j hj)) (by omega) (Mr.Fine.new 0) (by omega)).mono fun v w' hh => ?_).mono ?_
  · rw [hwr] at hh; exact hh
  rintro _ w4 ⟨rfl, kp4⟩
  clear kp kp3 hwr x4
  -- Rot
  have d4 : w4.cell? ⟨x, 1, none⟩ = some (.pointer (some ⟨z.d 0, 0, none⟩)) := kprc kp4 1
  simp [go_sem]
  refine v_draw' [(0, none), (1, none), (2, none), (3, none), (4, none), (5, some [0, 1, 2, 3, 4]), (6, some [])] (by kernel_rfl) (by kernel_rfl) ?_
  simp [go_sem, d4]
  refine (full_any (.slice none 0 0) [] w4.drew (Sl.nil _) (by decide)).mono ?_
  rintro v5 w5 ⟨m5, c5, f5⟩
  rw [full0] at m5
  have c5 : Ch Nw w4 w5 := Ch.of_drew c5
  have kp5 := kp4.more PrAt.ok c5
  have b5 := c5.obj (kp4.blk Kg b3) id
  have u5 := own_ch (kp4.own u3 Ku) c5 fun _ _ e => e
  have K5v : ∀ k, v5.ownBlock = some k → w4.heap.size ≤ k ∧ k < w5.heap.size := fun k hk => ⟨f5 k hk, own_blt m5 k hk⟩
  have d5 : w5.cell? ⟨x, 1, none⟩ = some (.pointer (some ⟨z.d 0, 0, none⟩)) := kprc kp5 1
  simp [go_sem, d5]
  refine (kp5.step (R := fun v _ => v = .int .i64 0) (H' := fun w O => PrAt w x p m 9 z (wk2 B) O) fun O hp hO hK => ?_).mono ?_
  · have hs2 : ({ wk1 B with dk := upd1 (wk1 B).dk 0 (wkR [(2, B)]) } : Mr) = wk2 B := by simp [wk1, wk2]
    rw [← hs2]
    refine (hp.disk (i := 0) (by omega) (D' := wkR [(2, B)]) (R := fun v' _ => v' = .int .i64 0) fun E hE hEO hEp => ?_)
    refine (hE.rot 1 (by decide) Go.Kin.zb v5 (by show 2 ≤ 1000000; decide) (by rw [zb_len]; exact Sl.of_own m5) fun j hj e => hK j (.inr (K5v j hj)) (hEO j e)).mono fun v w' hh => ⟨hh.1.trans (by simp [zb_len]), ?_, hh.2.2⟩
    have := hh.2.1
    rw [if_pos ⟨zb_len, by decide⟩, wk_rot.1, wk_rot.2] at this
    exact this
  rintro _ w6 ⟨rfl, kp6⟩
  -- Read
  have Kw : K 0 := by rw [hK]; exact .inl ⟨by have := hw.lt; have := c1.size; omega, fun e => by have := hw.lt; omega⟩
  have hk6 : Lk w6 := ((hk3.ch kp4.ck fun e => e Kc).ch c5 id).ch kp6.ck fun e => e (.inl Kc)
  have hw6 : Lw w6 := ((hw3.ch kp4.ck fun e => e Kw).ch c5 id).ch kp6.ck fun e => e (.inl Kw)
  have b6 := kp6.blk (.inl Kg) b5
  have u6 := kp6.own u5 fun k hk => .inl (Ku k hk)
  have x6 : w6.cell? ⟨x, 4, none⟩ = some (.pointer (some ⟨m, 0, none⟩)) := kprc kp6 4
  simp [go_sem]
  refine v_draw' [(0, none), (1, none), (2, none), (3, none), (4, none), (5, some []), (6, none), (7, none), (8, none), (9, none), (10, none)] (by kernel_rfl) (by kernel_rfl) ?_
  simp [go_sem, x6, b6, hps, hpa]
  have hh := wk_heal hqa hmay hfB hf0
  have fine2 : (wk2 B).Fine 4 := fine_tw (by simp [wkR]) (by simp [wkC]) rfl rfl (by decide) (by decide) (by decide) (by decide) (by decide)
  refine (kread (kp6.stay PrAt.ok (Ch.refl Nw w6).drew) q okq hw6 hk6 fine2 (by decide) (.inl Kc)).mono ?_
  rw [hh]
  rintro _ w7 ⟨O7, ⟨u7, rfl, s7, o7⟩, hK7, kn7, ck7⟩
  have s7 : Sl w7 u7 512 (bvs B) := by rw [← hBl]; exact s7
  have kp7 := hK7 (fun k => K k ∨ u7.ownBlock = some k) fun k hk => hk.elim (fun e => kn7 k (.inl e)) fun e => ⟨(o7 k e).2.1, (o7 k e).2.2 (by show 0 < B.length; omega)⟩
  have b7 := ck7.obj b5 fun e => e (.inl Kg)
  have u7' := own_ch u5 ck7 fun k hk e => e (.inl (Ku k hk))
  have hk7 : Lk w7 := ((hk3.ch kp4.ck fun e => e Kc).ch c5 id).ch ck7 fun e => e (.inl Kc)
  have hw7 : Lw w7 := ((hw3.ch kp4.ck fun e => e Kw).ch c5 id).ch ck7 fun e => e (.inl Kw)
  clear kp6 kp5 kp4 hK7 kn7 ck7 hk6 hw6 b6 u6 b5 u5 b3 u3 hw3 hk3
  -- Look
  have d7 : w7.cell? ⟨x, 1, none⟩ = some (.pointer (some ⟨z.d 0, 0, none⟩)) := kprc kp7 1
  simp [go_sem, d7]
  obtain ⟨O8, hp8, _⟩ := kp7.ex
  refine (hp8.look (i := 0) (by omega) 1 (by decide)).mono ?_
  rintro v8 w8 ⟨r8, c8⟩
  have e8 : ((wk3 B).dk 0).look 9 1 = some B := wk_look
  rw [e8] at r8
  obtain ⟨u8, rfl, _, s8, f8, l8⟩ := r8
  have kp8 := kp7.more PrAt.ok c8
  have b8 := c8.obj b7 id
  have u8' := own_ch u7' c8 fun _ _ e => e
  have s78 := s7.ch c8 fun _ _ e => e
  have hk8 := hk7.ch c8 id
  have hw8 := hw7.ch c8 id
  -- Stick
  have d8 : w8.cell? ⟨x, 1, none⟩ = some (.pointer (some ⟨z.d 0, 0, none⟩)) := kprc kp8 1
  simp [go_sem, d8]
  refine (kp8.step (R := fun v _ => v = .int .i64 0) (H' := fun w O => PrAt w x p m 9 z (wk4 B) O) fun O hp hO hK => ?_).mono ?_
  · have hs2 : ({ wk3 B with dk := upd1 (wk3 B).dk 0 (wkS [(1, B)]) } : Mr) = wk4 B := by simp [wk3, wk4]
    rw [← hs2]
    refine (hp.disk (i := 0) (by omega) (D' := wkS [(1, B)]) (R := fun v' _ => v' = .int .i64 0) fun E hE hEO hEp => ?_)
    refine (hE.stick 2 (by decide) (by show 2 ≤ 1000000; decide)).mono fun v w' hh => ⟨hh.1.trans (by simp), ?_, hh.2.2⟩
    have := hh.2.1
    rw [if_pos (by decide), wk_stick] at this
    exact this
  rintro _ w9 ⟨rfl, kp9⟩
  -- Check
  obtain ⟨K8, hK8⟩ : ∃ K8 : Nat → Prop, K8 = fun k => (K k ∨ u7.ownBlock = some k) ∨ (w7.heap.size ≤ k ∧ k < w8.heap.size) := ⟨_, rfl⟩
  rw [← hK8] at kp9
  have K8K : ∀ k, K k → K8 k := fun k hk => by rw [hK8]; exact .inl (.inl hk)
  have K87 : ∀ k, u7.ownBlock = some k → K8 k := fun k hk => by rw [hK8]; exact .inl (.inr hk)
  have K88 : ∀ k, u8.ownBlock = some k → K8 k := fun k hk => by rw [hK8]; exact .inr ⟨f8 k hk, l8 k hk⟩
  have hk9 := hk8.ch kp9.ck fun e => e (K8K _ Kc)
  have hw9 := hw8.ch kp9.ck fun e => e (K8K _ Kw)
  have b9 := kp9.blk (K8K _ Kg) b8
  have x9 : w9.cell? ⟨x, 4, none⟩ = some (.pointer (some ⟨m, 0, none⟩)) := kprc kp9 4
  simp [go_sem]
  refine v_draw' [(0, none), (1, none), (2, none), (3, none), (4, none), (5, some []), (6, none)] (by kernel_rfl) (by kernel_rfl) ?_
  simp [go_sem, x9, b9, hps, hpa]
  have hch := wk_check hqa hmay hfB
  have fine4 : (wk4 B).Fine 4 := fine_tw (by simp [wkS]) (by simp [wkC]) rfl rfl (by decide) (by decide) (by decide) (by decide) (by decide)
  refine (kmrs (kp9.stay PrAt.ok (Ch.refl Nw w9).drew) (R := fun v => v = .int .i64 0) (s' := wk5 q B) fun O h1 hO hK => (check_m h1 q okq hw9 hk9 fine4 (by decide) fun e => hK _ (K8K _ Kc) e).mono fun v w' hh => ?_).mono ?_
  · rw [hch] at hh; exact hh
  rintro _ w10 ⟨rfl, kp10⟩
  -- Moves
  have x10 : w10.cell? ⟨x, 4, none⟩ = some (.pointer (some ⟨m, 0, none⟩)) := kprc kp10 4
  have fine5 : (wk5 q B).Fine 4 := fine_tw (by simp [wkS]) (by simp [wkC]) rfl rfl (by decide) (by decide) (by decide) (by decide) (by simp)
  simp [go_sem, x10]
  obtain ⟨O10, hm10⟩ := kmr kp10
  refine (mmoves_any hm10 fine5 (by decide)).mono ?_
  rintro v11 w11 ⟨m11, c11, f11⟩
  have kp11 := kp10.more PrAt.ok c11
  obtain ⟨g11, cap11, cur11, rfl, hcap, hb11, hex, hsz⟩ := mv_at (s := wk5 q B) m11 (fun x hx => hps1 x hx) (k := 0) (x := q) rfl
  have b11 := c11.obj (kp10.blk (K8K _ Kg) b8) id
  have t7 : Sl w11 u7 512 (bvs B) := (kp10.sl s78 K87).ch c11 fun _ _ e => e
  have t8 : Sl w11 u8 512 (bvs B) := (kp10.sl s8 K88).ch c11 fun _ _ e => e
  have tu : Sl w11 (.slice Au 512 cu) 512 (bvs B) := (kp10.sl (Sl.of_own u8') fun k hk => K8K _ (Ku k hk)).ch c11 fun _ _ e => e
  have sx := fun {w : World} {v : Value} {l : List UInt8} {n : Nat} (h : Sl w v n (bvs l)) (hn : l.length = n) => h.str (P := Tryz.prog) hn Tryz.underlying59 Tryz.underlying5 Tryz.underlying9
  have q7 := sx t7.drew hBl
  have q8 := sx t8.drew hBl
  have qu := sx tu.drew hBl
  have hlen : ∀ w', (Builtin.len_ #[43] 3 #[.slice (some ⟨g11, 0, none⟩) (wk5 q B).moves.length cap11]).run Tryz.prog w' = .ok (.int .i64 1) w' := fun w' => by simp [Builtin.len_, run_underlying Tryz.underlying43, goInt, wk5]
  have x11 : w11.cell? ⟨x, 3, none⟩ = some (.pointer (some ⟨z.sp, 0, none⟩)) := kprc kp11 3
  have y11 : w11.cell? ⟨x, 4, none⟩ = some (.pointer (some ⟨m, 0, none⟩)) := kprc kp11 4
  have hmv : (wk5 q B).moves.length = 1 := rfl
  rw [hmv] at hlen ⊢
  simp at hex hsz
  simp [go_sem]
  refine v_draw' [(0, none), (1, none), (2, none), (3, none), (4, none), (5, none), (6, none), (7, none), (8, none), (9, none), (10, none), (11, none), (12, none), (13, none), (14, none), (15, none), (16, none), (17, none), (18, none), (19, none), (20, none), (21, none), (22, none), (23, none), (24, none), (25, none), (26, none), (27, none), (28, none), (29, none), (30, none), (31, none), (32, none), (33, none), (34, none), (35, none), (36, none), (37, none), (38, none), (39, none), (40, none), (41, some []), (42, none), (43, none), (44, none), (45, none), (46, none), (47, none), (49, none), (48, some [49]), (50, none), (51, none), (52, none), (53, none), (54, none), (55, none), (56, none), (57, some []), (58, none), (59, none), (60, none), (61, none), (62, none), (63, none), (64, none), (65, some []), (66, none), (67, none), (68, none)] (by kernel_rfl) (by kernel_rfl) ?_
  simp [go_sem, q7, q8, qu, hlen, hb11, hex, hsz, b11, hps, hpa, eq, x11]
  obtain ⟨O11, hm11⟩ := kmr (kp11.stay PrAt.ok (Ch.refl Nw w11).drew)
  obtain ⟨mv, A, hP, _⟩ := id hm11
  have hIs : Ret Tryz.prog 29 #[.pointer (some ⟨z.sp, 0, none⟩), .int .i64 0, .int .u16 2] w11.drew fun v' w' => v' = .bool true ∧ w' = w11.drew := spis_any hP (i := 0) (by omega) 2 (by decide)
  refine hIs.mono ?_
  rintro _ _ ⟨rfl, rfl⟩
  simp [go_sem, y11]
  have hCo : Ret Tryz.prog 35 #[.pointer (some ⟨m, 0, none⟩), .int .i64 0] w11.drew fun v' w' => v' = .agg #[.int .i64 2, .int .i64 1] ∧ Ch Nw w11.drew w' := mcount_any hm11 (i := 0) (by omega)
  refine hCo.mono ?_
  rintro _ w12 ⟨rfl, c12⟩
  have hm12 := hm11.ch c12 fun _ _ e => e
  have y12 : w12.cell? ⟨x, 4, none⟩ = some (.pointer (some ⟨m, 0, none⟩)) := kprc (kp11.stay PrAt.ok (Ch.of_drew c12)) 4
  simp [go_sem, y12]
  have hH0 : Ret Tryz.prog 36 #[.pointer (some ⟨m, 0, none⟩), .int .i64 0] w12 fun v' w' => v' = .int .u8 1 ∧ w' = w12 := mhealth_any hm12 (i := 0) (by omega)
  have hH1 : Ret Tryz.prog 36 #[.pointer (some ⟨m, 0, none⟩), .int .i64 1] w12 fun v' w' => v' = .int .u8 0 ∧ w' = w12 := mhealth_any hm12 (i := 1) (by omega)
  refine hH0.mono ?_
  rintro _ _ ⟨rfl, rfl⟩
  simp [go_sem, y12]
  refine hH1.mono ?_
  rintro _ _ ⟨rfl, rfl⟩
  simp [go_sem]
  exact hR _ _ ⟨rfl, kp11.ch.trans (Ch.of_drew c12)⟩
end Go.Proofs.YtppilgkgnofkpaaGreatDoor
