/- A mirror that is known (the law's wakes), walked. Conditions: the variables sha.constants and ptr.wide hold what the text lays. -/
import Derived.Test.YtppilgkgnofkpaaGreatDoorMrJ
import Derived.Test.YtppilgkgnofkpaaGreatDoorMrL
import Derived.Test.YtppilgkgnofkpaaGreatDoorMrN
set_option linter.unusedSimpArgs false
set_option linter.unusedVariables false

/- A mirror that is known, in plain Lean. No condition but that one block fits a pointer, and noughts do not. -/
namespace Go.Proofs.YtppilgkgnofkpaaGreatDoor
open Go.RowKit Go.Kin

def tw {α : Type} (d a b : α) : Nat → α := fun i => if i = 0 then a else if i = 1 then b else d
section
variable {α : Type} (d a b x : α)
@[simp] theorem tw_0 : tw d a b 0 = a := rfl
@[simp] theorem tw_1 : tw d a b 1 = b := rfl
@[simp] theorem tw_u0 : upd1 (tw d a b) 0 x = tw d x b := by
  funext i
  unfold upd1 tw
  by_cases h : i = 0 <;> simp [h]
@[simp] theorem tw_u1 : upd1 (tw d a b) 1 x = tw d a x := by
  funext i
  unfold upd1 tw
  by_cases h : i = 0
  · simp [h]
  · by_cases h1 : i = 1 <;> simp [h1, h]
end
theorem tw_all {α : Type} (d : α) : (fun _ : Nat => d) = tw d d d := by
  funext i
  unfold tw
  split
  · rfl
  · split <;> rfl
theorem mnew_eq : Mr.new = ⟨tw Dk.new Dk.new Dk.new, Pwr.on, fun _ _ => 0, fun _ _ => false, tw 0 0 0, tw 0 0 0, []⟩ := by
  unfold Mr.new
  rw [← tw_all, ← tw_all]
section
variable (p : Pt) (B : Byts)
def wkC (l : List (Nat × Byts)) : Dk := { Dk.new with cache := l }
def wkR (l : List (Nat × Byts)) : Dk := { Dk.new with cache := l, m := fun x => if x = 1 then some Go.Kin.zb else none }
def wkS (l : List (Nat × Byts)) : Dk := { Dk.new with cache := l, m := fun x => if x = 1 then some Go.Kin.zb else none, stuck := fun x => if x = 2 then true else false }
def wk1 : Mr := ⟨tw Dk.new (wkC [(1, B), (2, B)]) (wkC [(3, B), (4, B)]), Pwr.on, fun _ _ => 0, fun _ _ => false, tw 0 0 0, tw 0 0 0, []⟩
def wk2 : Mr := ⟨tw Dk.new (wkR [(2, B)]) (wkC [(3, B), (4, B)]), Pwr.on, fun _ _ => 0, fun _ _ => false, tw 0 0 0, tw 0 0 0, []⟩
def wk3 : Mr := ⟨tw Dk.new (wkR [(2, B), (1, B)]) (wkC [(3, B), (4, B)]), Pwr.on, fun _ _ => 0, fun _ _ => false, tw 0 1 0, tw 0 1 0, []⟩
def wk4 : Mr := ⟨tw Dk.new (wkS [(1, B)]) (wkC [(3, B), (4, B)]), Pwr.on, fun _ _ => 0, fun _ _ => false, tw 0 1 0, tw 0 1 0, []⟩
def wk5 : Mr := ⟨tw Dk.new (wkS [(1, B), (2, B)]) (wkC [(3, B), (4, B)]), Pwr.on, fun _ _ => 0, upd1 (fun _ _ => false) 0 (upd1 (fun _ => false) 2 true), tw 0 2 0, tw 0 1 0, [p]⟩
variable {p B}
theorem mend_yes {n : Nat} {s : Mr} {q : Pt} {b c : Byts} {k : Nat} (h : (s.writ n q b k).good n q k = some c) : s.mend n q b k = { s.writ n q b k with mended := upd1 (s.writ n q b k).mended (k / 2) ((s.writ n q b k).mended (k / 2) + 1) } := by
  unfold Mr.mend
  simp [h]
theorem mend_no {n : Nat} {s : Mr} {q : Pt} {b : Byts} {k : Nat} (h : (s.writ n q b k).good n q k = none) : s.mend n q b k = ((s.writ n q b k).sicks n (k / 2) (adr q k)).moved q := by
  unfold Mr.mend
  simp [h]
theorem wk_write (hp : p.a = [1, 2, 3, 4]) (hm : mayP p = true) (hB : fitB p B = true) : Mr.new.write 9 p B = (wk1 B, 0) := by
  have hl := fitB_len hB
  have hc : cseq p.a 4 = [0, 1, 2, 3] := by rw [hp]; decide
  have a0 : adr p 0 = 1 := by unfold adr; rw [hp]; rfl
  have a1 : adr p 1 = 2 := by unfold adr; rw [hp]; rfl
  have a2 : adr p 2 = 3 := by unfold adr; rw [hp]; rfl
  have a3 : adr p 3 = 4 := by unfold adr; rw [hp]; rfl
  unfold Mr.write
  rw [hm, hB, hc, mnew_eq]
  simp [Mr.put, Mr.writ, Dk.write, Dk.writes, Dk.put, Dk.wpow, Dk.able, wrOk, a0, a1, a2, a3, hl, Pwr.on, Pwr.made, Pwr.step, Dk.new, wk1, wkC]
theorem wk_rot : (wk1 B).dk 0 = wkC [(1, B), (2, B)] ∧ (wkC [(1, B), (2, B)]).rot 1 Go.Kin.zb = wkR [(2, B)] := by
  refine ⟨rfl, ?_⟩
  simp [Dk.rot, wkC, wkR, dropC, Dk.new]
theorem wk_heal (hp : p.a = [1, 2, 3, 4]) (hm : mayP p = true) (hB : fitB p B = true) (h0 : fitB p Go.Kin.zb = false) : (wk2 B).heal 9 p false = (wk3 B, B, 0) := by
  have hl := fitB_len hB
  have hc : cseq p.a 4 = [0, 1, 2, 3] := by rw [hp]; decide
  have a0 : adr p 0 = 1 := by unfold adr; rw [hp]; rfl
  have a1 : adr p 1 = 2 := by unfold adr; rw [hp]; rfl
  have g0 : (wk2 B).good 9 p 0 = none := by
    simp [Mr.good, wk2, wkR, Dk.able, Pwr.on, Dk.look, Dk.tells, a0, lastC, Dk.new, blockM, Option.filter, h0]
  have g1 : (wk2 B).good 9 p 1 = some B := by
    simp [Mr.good, wk2, wkR, Dk.able, Pwr.on, Dk.look, Dk.tells, a1, lastC, Dk.new, Option.filter, hB]
  have gm : (({ wk2 B with found := tw 0 1 0 } : Mr).writ 9 p B 0).good 9 p 0 = some B := by
    simp [Mr.good, Mr.writ, wk2, wkR, Dk.able, Pwr.on, Dk.look, Dk.tells, a0, lastC, Dk.new, Option.filter, hB, Dk.write, Dk.writes, Dk.put, Dk.wpow, Pwr.made, Pwr.step, hl]
  have hlk : (wk2 B).lks 9 p false = [0, 1] := by
    unfold Mr.lks
    rw [hc]
    simp [Mr.cut, g0, g1]
  have hrun : (wk2 B).run 9 p [0, 1] = ⟨tw 0 1 0, some B, [0]⟩ := by
    have hd : ((wk2 B).dk 0).dead = false := rfl
    have hf : (wk2 B).found = tw 0 0 0 := rfl
    simp [Mr.run, Mr.step, g0, g1, hd, hf]
  unfold Mr.heal
  rw [hm, hlk, hrun]
  simp only [if_true, List.foldl_cons, List.foldl_nil]
  rw [mend_yes gm]
  simp [Mr.writ, Dk.write, Dk.writes, Dk.put, Dk.wpow, Dk.able, a0, hl, Pwr.on, Pwr.made, Pwr.step, Dk.new, wk2, wk3, wkR]
theorem wk_look : ((wk3 B).dk 0).look 9 1 = some B := by
  simp [wk3, wkR, Dk.look, Dk.tells, lastC, Dk.new]
theorem wk_stick : ((wk3 B).dk 0).stick 2 = wkS [(1, B)] := by
  simp [wk3, wkR, wkS, Dk.stick, dropC, Dk.new]
theorem wk_check (hp : p.a = [1, 2, 3, 4]) (hm : mayP p = true) (hB : fitB p B = true) : (wk4 B).heal 9 p true = (wk5 p B, B, 0) := by
  have hl := fitB_len hB
  have hc : cseq p.a 4 = [0, 1, 2, 3] := by rw [hp]; decide
  have a0 : adr p 0 = 1 := by unfold adr; rw [hp]; rfl
  have a1 : adr p 1 = 2 := by unfold adr; rw [hp]; rfl
  have a2 : adr p 2 = 3 := by unfold adr; rw [hp]; rfl
  have a3 : adr p 3 = 4 := by unfold adr; rw [hp]; rfl
  have g0 : (wk4 B).good 9 p 0 = some B := by
    simp [Mr.good, wk4, wkS, Dk.able, Pwr.on, Dk.look, Dk.tells, a0, lastC, Dk.new, Option.filter, hB]
  have g1 : (wk4 B).good 9 p 1 = none := by
    simp [Mr.good, wk4, wkS, Dk.able, Pwr.on, Dk.look, a1, Dk.new]
  have g2 : (wk4 B).good 9 p 2 = some B := by
    simp [Mr.good, wk4, wkC, Dk.able, Pwr.on, Dk.look, Dk.tells, a2, lastC, Dk.new, Option.filter, hB]
  have g3 : (wk4 B).good 9 p 3 = some B := by
    simp [Mr.good, wk4, wkC, Dk.able, Pwr.on, Dk.look, Dk.tells, a3, lastC, Dk.new, Option.filter, hB]
  have gm : (({ wk4 B with found := tw 0 2 0 } : Mr).writ 9 p B 1).good 9 p 1 = none := by
    simp [Mr.good, Mr.writ, wk4, wkS, Dk.able, Pwr.on, Dk.look, a1, Dk.new, Dk.write, Dk.writes, Dk.put, Dk.wpow, Pwr.made, Pwr.step, hl]
  have hlk : (wk4 B).lks 9 p true = [0, 1, 2, 3] := by
    unfold Mr.lks
    rw [hc]
    rfl
  have hrun : (wk4 B).run 9 p [0, 1, 2, 3] = ⟨tw 0 2 0, some B, [1]⟩ := by
    have hd : ((wk4 B).dk 0).dead = false := rfl
    have hf : (wk4 B).found = tw 0 1 0 := rfl
    simp [Mr.run, Mr.step, g0, g1, g2, g3, hd, hf]
  unfold Mr.heal
  rw [hm, hlk, hrun]
  simp only [if_true, List.foldl_cons, List.foldl_nil]
  rw [mend_no gm]
  simp [Mr.sicks, Mr.moved, Mr.writ, Dk.write, Dk.writes, Dk.put, Dk.wpow, Dk.able, a1, hl, Pwr.on, Pwr.made, Pwr.step, Dk.new, wk4, wk5, wkS]
end
end Go.Proofs.YtppilgkgnofkpaaGreatDoor

/- A pointer that is sealed has its own tag's digest. No condition. -/
namespace Go.Proofs.YtppilgkgnofkpaaGreatDoor
open Go.RowKit Go.Kin

theorem tag16 (p : Pt) : (putP p).take 16 = [UInt8.ofNat p.k, UInt8.ofNat p.l] ++ (le p.o 2 ++ (le p.f 4 ++ le p.b 8)) := by
  have e : putP p = ([UInt8.ofNat p.k, UInt8.ofNat p.l] ++ (le p.o 2 ++ (le p.f 4 ++ le p.b 8))) ++ (p.h ++ (p.a.flatMap (fun x => le x 2) ++ List.replicate 8 0)) := by
    simp [putP]
  rw [e, List.take_left' (by simp [le_length])]
theorem dig_seal (p : Pt) (b b' : List UInt8) : digS (sealP p b) b' = digS p b' := by
  unfold digS
  rw [tag16, tag16]
  rfl
theorem seal_may (p : Pt) (b : List UInt8) : mayP (sealP p b) = mayP p := rfl
end Go.Proofs.YtppilgkgnofkpaaGreatDoor

namespace Go.Proofs.YtppilgkgnofkpaaGreatDoor
open Go.RowKit Go.Kin

def mkq : Pt := ⟨2, 0, 3, 0, 0, zb 32, [1, 2, 3, 4]⟩
theorem mkq_ok : PtOk mkq := ⟨by decide, by decide, by decide, by decide, by decide, rfl, rfl, by simp [mkq]⟩
theorem mkq_ne : digS mkq Go.Kin.zb ≠ digS mkq (fullB [7]) := by decide +kernel
theorem mkq_may : mayP mkq = true := by decide
theorem blit_mkq : blit (blit (blit (pt ptz) 0 #[.int .u8 2]) 2 #[.int .u16 3]) 37 #[.int .u16 1, .int .u16 2, .int .u16 3, .int .u16 4] = pt mkq := by
  simp [blit, pt, ptz, mkq, bvs_length, zb_length, u16s, u16v]
theorem bld_mkq {w : World} {K : Value → World → Prop} : VBld Tryz.prog 58 [(0, .int .u8 2), (2, .int .u16 3), (6, .agg #[.int .u16 1, .int .u16 2, .int .u16 3, .int .u16 4])] w K = K (.agg (pt mkq)) w := by
  refine VBld_struct Tryz.underlying58 hz_pt (places := #[(0, 1), (1, 1), (2, 1), (3, 1), (4, 1), (5, 32), (37, 4)]) (by simp [go_sem]) ?_
  have hz : (pt ptz).size = 41 := pt_size ptz_ok
  simp [fillB, zc_pt, Value.cells, hz, blit_size]
  exact blit_mkq
def acz : Ac := ⟨0, 0, 0, .slice none 0 0, [], false, 0, .slice none 0 0, []⟩
def amz : Am := ⟨0, ptz, .slice none 0 0, [], false, acz⟩
def am7 (v : Value) : Am := ⟨0, mkq, v, [7], false, acz⟩
theorem hz_am : (Tryz.prog.info? 65).map (fun i => i.zero.isSome) = some true := by kernel_rfl
theorem zc_am : zc Tryz.prog 65 = amv amz := by kernel_rfl
theorem bld_am7 {A : Option Addr} {c : Nat} {w : World} {K : Value → World → Prop} : VBld Tryz.prog 65 [(1, .agg (pt mkq)), (2, .slice A 1 c)] w K = K (.agg (amv (am7 (.slice A 1 c)))) w := by
  refine VBld_struct Tryz.underlying65 hz_am (places := #[(0, 1), (1, 41), (42, 1), (43, 1), (44, 7)]) (by simp [go_sem]) ?_
  have hz : (amv amz).size = 51 := amv_size ptz_ok
  have hp : (pt mkq).size = 41 := pt_size mkq_ok
  simp [fillB, zc_am, Value.cells, hz, hp, blit_size]
  simp [blit, amv, amL, am7, amz, acv, acz, pt, mkq, ptz, bvs_length, zb_length, u16s, u16v]
  rfl
end Go.Proofs.YtppilgkgnofkpaaGreatDoor
