/- How many copies are good, as the mirror's law looks. No condition but on sizes. -/
import Derived.Test.YtppilgkgnofkpaaDoorMrK
import Derived.Test.YtppilgkgnofkpaaDoorMrM
import Derived.Test.YtppilgkgnofkpaaDoorMrJ
import Derived.Test.YtppilgkgnofkpaaDoorMrL
set_option linter.unusedSimpArgs false
set_option linter.unusedVariables false

/- What the mirror law's acts do. No condition but on sizes. -/
namespace Go.Proofs.YtppilgkgnofkpaaDoor
open Go.RowKit Go.Kin

/-- what befalls a disk, the power -/
def fauD (n : Nat) (a : Ac) (D : Dk) : Dk := match a.d with
  | 3 => D.crash a.ps
  | 4 => if a.addr < n then D.rot a.addr (fullB a.b) else D
  | 5 => if a.addr < n then D.bads a.addr else D
  | 6 => if a.addr < n then D.stick a.addr else D
  | 7 => { D with lose := true }
  | 8 => { D with astray := some a.addr }
  | 9 => { D with dead := true }
  | _ => D
def fauP (a : Ac) (P : Pwr) : Pwr := match a.d with
  | 10 => P.fused a.n
  | 11 => Pwr.on
  | _ => P
def Mr.fau (n : Nat) (a : Ac) (s : Mr) : Mr := { s with dk := upd1 s.dk (a.k % 2) (fauD n a (s.dk (a.k % 2))), P := fauP a s.P }
def Mr.act (n : Nat) (a : Am) (s : Mr) : Mr × Byts × Int := match a.d with
  | 0 => s.heal n a.ptr false
  | 1 => ((s.heal n a.ptr true).1, [], (s.heal n a.ptr true).2.2)
  | 2 => ((s.write n a.ptr (fullB a.b)).1, [], (s.write n a.ptr (fullB a.b)).2)
  | 3 => (s.flush.1, [], s.flush.2)
  | 4 => ({ s with moves := [] }, [], 0)
  | _ => (s.fau n a.ac, [], 0)
theorem Sd.power' {w w' : World} {d p n : Nat} {D : Dk} {P P' : Pwr} {O : Nat → Prop} (h : Sd w d p n D P O) (hp : PwAt w' p P') (hc : Ch (one p) w w') : Sd w' d p n D P' (Gr O w w') := by
  have h1 := h.dk.ch hc fun k hk e => by simp only [one] at e; subst e; exact h.pO hk
  exact ⟨h1.mono (fun _ => .inl) (Gr.lt h.olt hc.size), hp, h.gr⟩
section
variable {P : Program} {w w' : World} {x m p n i c : Nat} {z : Mz} {s s' : Mr} {O : Nat → Prop} {f : FuncId} {args : Array Value} {R : Value → World → Prop}
theorem PrAt.ch {S : Nat → Prop} (h : PrAt w x p m n z s O) (hc : Ch S w w') (hS : ∀ k, O k → ¬ S k) : PrAt w' x p m n z s O := by
  obtain ⟨O', h1, h2, h3⟩ := h.mr
  exact ⟨hc.obj h.blk (hS _ h.ox), ⟨O', h1.ch hc fun k hk => hS k (h3 k hk), h2, h3⟩, h.ox, fun k hk => Nat.lt_of_lt_of_le (h.lt k hk) hc.size⟩
theorem PrAt.weak {O' : Nat → Prop} (h : PrAt w x p m n z s O) (ho : ∀ k, O k → O' k) (hl : ∀ k, O' k → k < w.heap.size) : PrAt w x p m n z s O' := by
  obtain ⟨O1, h1, h2, h3⟩ := h.mr
  exact ⟨h.blk, ⟨O1, h1, h2, fun k hk => ho k (h3 k hk)⟩, ho _ h.ox, hl⟩
theorem PrAt.ok : HOk (fun w O => PrAt w x p m n z s O) := ⟨fun h => h.lt, fun h hc hS => h.ch hc hS, fun h a b => h.weak a b⟩
theorem PrAt.cell (h : PrAt w x p m n z s O) (j : Nat) : w.cell? ⟨x, j, none⟩ = (prc p m z)[j]? := cell_blk h.blk j
theorem PrAt.step (h : PrAt w x p m n z s O) (hf : ∀ O', MrAt w m p n z s O' → (∀ k, O' k → O k) → Ret P f args w fun v w' => R v w' ∧ MrAt w' m p n z s' (Gr O' w w') ∧ Ch O' w w') :
    Ret P f args w fun v w' => R v w' ∧ PrAt w' x p m n z s' (Gr O w w') ∧ Ch O w w' := by
  obtain ⟨O', h1, h2, h3⟩ := h.mr
  refine (hf O' h1 h3).mono ?_
  rintro v w' ⟨a, b, c⟩
  have hx := h.lt x h.ox
  exact ⟨a, ⟨c.obj h.blk h2, ⟨_, b, fun e => e.elim h2 fun e => by omega, fun k hk => hk.imp (h3 k) id⟩, .inl h.ox, Gr.lt h.lt c.size⟩, c.mono fun k _ e => h3 k e⟩
theorem PrAt.disk {D' : Dk} (h : PrAt w x p m n z s O) (hi : i < 2) (hd : ∀ B, Sd w (z.d i) p n (s.dk i) s.P B → (∀ k, B k → O k) → ¬ B p → Ret Tryd.prog f args w fun v' w' => R v' w' ∧ Sd w' (z.d i) p n D' s.P (Gr B w w') ∧ Ch B w w') :
    Ret Tryd.prog f args w fun v' w' => R v' w' ∧ PrAt w' x p m n z { s with dk := upd1 s.dk i D' } (Gr O w w') ∧ Ch O w w' :=
  h.step fun O' h1 h2 => h1.disk hi fun B hB hBO => (hd B hB (fun k hk => h2 k (hBO k hk)) hB.pO).mono fun v w' hh => ⟨hh.1, hh.2.1, hh.2.2.mono fun _ _ e => .inl e⟩
theorem PrAt.power {P' : Pwr} (h : PrAt w x p m n z s O) (hd : PwAt w p s.P → Ret Tryd.prog f args w fun v' w' => R v' w' ∧ PwAt w' p P' ∧ Ch (one p) w w') :
    Ret Tryd.prog f args w fun v' w' => R v' w' ∧ PrAt w' x p m n z { s with P := P' } (Gr O w w') ∧ Ch O w w' := by
  refine (h.step (s' := { s with dk := upd1 s.dk 0 (s.dk 0), P := P' }) fun O' h1 h2 => h1.disk (i := 0) (by omega) fun B hB hBO => (hd hB.pw).mono fun v w' hh => ⟨hh.1, hB.power' hh.2.1 hh.2.2, hh.2.2.mono fun _ _ e => .inr e⟩).mono ?_
  rintro v w' ⟨a, b, c⟩
  refine ⟨a, ?_, c⟩
  have e : upd1 s.dk 0 (s.dk 0) = s.dk := by
    funext j
    unfold upd1
    split
    · subst ‹j = 0›; rfl
    · rfl
  rwa [e] at b
end
end Go.Proofs.YtppilgkgnofkpaaDoor

/- A mirror that is known, in plain Lean. No condition but that one block fits a pointer, and noughts do not. -/
namespace Go.Proofs.YtppilgkgnofkpaaDoor
open Go.RowKit Go.Kin

def tw {α : Type} (d a b : α) : Nat → α := fun i => if i = 0 then a else if i = 1 then b else d
section
variable {α : Type} (d a b x : α)
@[simp] theorem tw_0 : tw d a b 0 = a := rfl
@[simp] theorem tw_1 : tw d a b 1 = b := rfl
@[simp] theorem tw_u0 : upd1 (tw d a b) 0 x = tw d x b := by
  funext i
  unfold upd1 tw
  by_cases h : i = 0 <;> simp [h]
@[simp] theorem tw_u1 : upd1 (tw d a b) 1 x = tw d a x := by
  funext i
  unfold upd1 tw
  by_cases h : i = 0
  · simp [h]
  · by_cases h1 : i = 1 <;> simp [h1, h]
end
theorem tw_all {α : Type} (d : α) : (fun _ : Nat => d) = tw d d d := by
  funext i
  unfold tw
  split
  · rfl
  · split <;> rfl
theorem mnew_eq : Mr.new = ⟨tw Dk.new Dk.new Dk.new, Pwr.on, fun _ _ => 0, fun _ _ => false, tw 0 0 0, tw 0 0 0, []⟩ := by
  unfold Mr.new
  rw [← tw_all, ← tw_all]
section
variable (p : Pt) (B : Byts)
def wkC (l : List (Nat × Byts)) : Dk := { Dk.new with cache := l }
def wkR (l : List (Nat × Byts)) : Dk := { Dk.new with cache := l, m := fun x => if x = 1 then some Go.Kin.zb else none }
def wkS (l : List (Nat × Byts)) : Dk := { Dk.new with cache := l, m := fun x => if x = 1 then some Go.Kin.zb else none, stuck := fun x => if x = 2 then true else false }
def wk1 : Mr := ⟨tw Dk.new (wkC [(1, B), (2, B)]) (wkC [(3, B), (4, B)]), Pwr.on, fun _ _ => 0, fun _ _ => false, tw 0 0 0, tw 0 0 0, []⟩
def wk2 : Mr := ⟨tw Dk.new (wkR [(2, B)]) (wkC [(3, B), (4, B)]), Pwr.on, fun _ _ => 0, fun _ _ => false, tw 0 0 0, tw 0 0 0, []⟩
def wk3 : Mr := ⟨tw Dk.new (wkR [(2, B), (1, B)]) (wkC [(3, B), (4, B)]), Pwr.on, fun _ _ => 0, fun _ _ => false, tw 0 1 0, tw 0 1 0, []⟩
def wk4 : Mr := ⟨tw Dk.new (wkS [(1, B)]) (wkC [(3, B), (4, B)]), Pwr.on, fun _ _ => 0, fun _ _ => false, tw 0 1 0, tw 0 1 0, []⟩
def wk5 : Mr := ⟨tw Dk.new (wkS [(1, B), (2, B)]) (wkC [(3, B), (4, B)]), Pwr.on, fun _ _ => 0, upd1 (fun _ _ => false) 0 (upd1 (fun _ => false) 2 true), tw 0 2 0, tw 0 1 0, [p]⟩
variable {p B}
theorem mend_yes {n : Nat} {s : Mr} {q : Pt} {b c : Byts} {k : Nat} (h : (s.writ n q b k).good n q k = some c) : s.mend n q b k = { s.writ n q b k with mended := upd1 (s.writ n q b k).mended (k / 2) ((s.writ n q b k).mended (k / 2) + 1) } := by
  unfold Mr.mend
  simp [h]
theorem mend_no {n : Nat} {s : Mr} {q : Pt} {b : Byts} {k : Nat} (h : (s.writ n q b k).good n q k = none) : s.mend n q b k = ((s.writ n q b k).sicks n (k / 2) (adr q k)).moved q := by
  unfold Mr.mend
  simp [h]
theorem wk_write (hp : p.a = [1, 2, 3, 4]) (hm : mayP p = true) (hB : fitB p B = true) : Mr.new.write 9 p B = (wk1 B, 0) := by
  have hl := fitB_len hB
  have hc : cseq p.a 4 = [0, 1, 2, 3] := by rw [hp]; decide
  have a0 : adr p 0 = 1 := by unfold adr; rw [hp]; rfl
  have a1 : adr p 1 = 2 := by unfold adr; rw [hp]; rfl
  have a2 : adr p 2 = 3 := by unfold adr; rw [hp]; rfl
  have a3 : adr p 3 = 4 := by unfold adr; rw [hp]; rfl
  unfold Mr.write
  rw [hm, hB, hc, mnew_eq]
  simp [Mr.put, Mr.writ, Dk.write, Dk.writes, Dk.put, Dk.wpow, Dk.able, wrOk, a0, a1, a2, a3, hl, Pwr.on, Pwr.made, Pwr.step, Dk.new, wk1, wkC]
theorem wk_rot : (wk1 B).dk 0 = wkC [(1, B), (2, B)] ∧ (wkC [(1, B), (2, B)]).rot 1 Go.Kin.zb = wkR [(2, B)] := by
  refine ⟨rfl, ?_⟩
  simp [Dk.rot, wkC, wkR, dropC, Dk.new]
theorem wk_heal (hp : p.a = [1, 2, 3, 4]) (hm : mayP p = true) (hB : fitB p B = true) (h0 : fitB p Go.Kin.zb = false) : (wk2 B).heal 9 p false = (wk3 B, B, 0) := by
  have hl := fitB_len hB
  have hc : cseq p.a 4 = [0, 1, 2, 3] := by rw [hp]; decide
  have a0 : adr p 0 = 1 := by unfold adr; rw [hp]; rfl
  have a1 : adr p 1 = 2 := by unfold adr; rw [hp]; rfl
  have g0 : (wk2 B).good 9 p 0 = none := by
    simp [Mr.good, wk2, wkR, Dk.able, Pwr.on, Dk.look, Dk.tells, a0, lastC, Dk.new, blockM, Option.filter, h0]
  have g1 : (wk2 B).good 9 p 1 = some B := by
    simp [Mr.good, wk2, wkR, Dk.able, Pwr.on, Dk.look, Dk.tells, a1, lastC, Dk.new, Option.filter, hB]
  have gm : (({ wk2 B with found := tw 0 1 0 } : Mr).writ 9 p B 0).good 9 p 0 = some B := by
    simp [Mr.good, Mr.writ, wk2, wkR, Dk.able, Pwr.on, Dk.look, Dk.tells, a0, lastC, Dk.new, Option.filter, hB, Dk.write, Dk.writes, Dk.put, Dk.wpow, Pwr.made, Pwr.step, hl]
  have hlk : (wk2 B).lks 9 p false = [0, 1] := by
    unfold Mr.lks
    rw [hc]
    simp [Mr.cut, g0, g1]
  have hrun : (wk2 B).run 9 p [0, 1] = ⟨tw 0 1 0, some B, [0]⟩ := by
    have hd : ((wk2 B).dk 0).dead = false := rfl
    have hf : (wk2 B).found = tw 0 0 0 := rfl
    simp [Mr.run, Mr.step, g0, g1, hd, hf]
  unfold Mr.heal
  rw [hm, hlk, hrun]
  simp only [if_true, List.foldl_cons, List.foldl_nil]
  rw [mend_yes gm]
  simp [Mr.writ, Dk.write, Dk.writes, Dk.put, Dk.wpow, Dk.able, a0, hl, Pwr.on, Pwr.made, Pwr.step, Dk.new, wk2, wk3, wkR]
theorem wk_look : ((wk3 B).dk 0).look 9 1 = some B := by
  simp [wk3, wkR, Dk.look, Dk.tells, lastC, Dk.new]
theorem wk_stick : ((wk3 B).dk 0).stick 2 = wkS [(1, B)] := by
  simp [wk3, wkR, wkS, Dk.stick, dropC, Dk.new]
theorem wk_check (hp : p.a = [1, 2, 3, 4]) (hm : mayP p = true) (hB : fitB p B = true) : (wk4 B).heal 9 p true = (wk5 p B, B, 0) := by
  have hl := fitB_len hB
  have hc : cseq p.a 4 = [0, 1, 2, 3] := by rw [hp]; decide
  have a0 : adr p 0 = 1 := by unfold adr; rw [hp]; rfl
  have a1 : adr p 1 = 2 := by unfold adr; rw [hp]; rfl
  have a2 : adr p 2 = 3 := by unfold adr; rw [hp]; rfl
  have a3 : adr p 3 = 4 := by unfold adr; rw [hp]; rfl
  have g0 : (wk4 B).good 9 p 0 = some B := by
    simp [Mr.good, wk4, wkS, Dk.able, Pwr.on, Dk.look, Dk.tells, a0, lastC, Dk.new, Option.filter, hB]
  have g1 : (wk4 B).good 9 p 1 = none := by
    simp [Mr.good, wk4, wkS, Dk.able, Pwr.on, Dk.look, a1, Dk.new]
  have g2 : (wk4 B).good 9 p 2 = some B := by
    simp [Mr.good, wk4, wkC, Dk.able, Pwr.on, Dk.look, Dk.tells, a2, lastC, Dk.new, Option.filter, hB]
  have g3 : (wk4 B).good 9 p 3 = some B := by
    simp [Mr.good, wk4, wkC, Dk.able, Pwr.on, Dk.look, Dk.tells, a3, lastC, Dk.new, Option.filter, hB]
  have gm : (({ wk4 B with found := tw 0 2 0 } : Mr).writ 9 p B 1).good 9 p 1 = none := by
    simp [Mr.good, Mr.writ, wk4, wkS, Dk.able, Pwr.on, Dk.look, a1, Dk.new, Dk.write, Dk.writes, Dk.put, Dk.wpow, Pwr.made, Pwr.step, hl]
  have hlk : (wk4 B).lks 9 p true = [0, 1, 2, 3] := by
    unfold Mr.lks
    rw [hc]
    rfl
  have hrun : (wk4 B).run 9 p [0, 1, 2, 3] = ⟨tw 0 2 0, some B, [1]⟩ := by
    have hd : ((wk4 B).dk 0).dead = false := rfl
    have hf : (wk4 B).found = tw 0 1 0 := rfl
    simp [Mr.run, Mr.step, g0, g1, g2, g3, hd, hf]
  unfold Mr.heal
  rw [hm, hlk, hrun]
  simp only [if_true, List.foldl_cons, List.foldl_nil]
  rw [mend_no gm]
  simp [Mr.sicks, Mr.moved, Mr.writ, Dk.write, Dk.writes, Dk.put, Dk.wpow, Dk.able, a1, hl, Pwr.on, Pwr.made, Pwr.step, Dk.new, wk4, wk5, wkS]
end
end Go.Proofs.YtppilgkgnofkpaaDoor

/- A pointer that is sealed has its own tag's digest. No condition. -/
namespace Go.Proofs.YtppilgkgnofkpaaDoor
open Go.RowKit Go.Kin

theorem tag16 (p : Pt) : (putP p).take 16 = [UInt8.ofNat p.k, UInt8.ofNat p.l] ++ (le p.o 2 ++ (le p.f 4 ++ le p.b 8)) := by
  have e : putP p = ([UInt8.ofNat p.k, UInt8.ofNat p.l] ++ (le p.o 2 ++ (le p.f 4 ++ le p.b 8))) ++ (p.h ++ (p.a.flatMap (fun x => le x 2) ++ List.replicate 8 0)) := by
    simp [putP]
  rw [e, List.take_left' (by simp [le_length])]
theorem dig_seal (p : Pt) (b b' : List UInt8) : digS (sealP p b) b' = digS p b' := by
  unfold digS
  rw [tag16, tag16]
  rfl
theorem seal_may (p : Pt) (b : List UInt8) : mayP (sealP p b) = mayP p := rfl
end Go.Proofs.YtppilgkgnofkpaaDoor

/- A mirror that is known (the law's wakes), walked. Conditions: the variables sha.constants and ptr.wide hold what the text lays. -/
namespace Go.Proofs.YtppilgkgnofkpaaDoor
open Go.RowKit Go.Kin

def mkq : Pt := ⟨2, 0, 3, 0, 0, zb 32, [1, 2, 3, 4]⟩
theorem mkq_ok : PtOk mkq := ⟨by decide, by decide, by decide, by decide, by decide, rfl, rfl, by simp [mkq]⟩
theorem mkq_ne : digS mkq Go.Kin.zb ≠ digS mkq (fullB [7]) := by decide +kernel
theorem mkq_may : mayP mkq = true := by decide
theorem blit_mkq : blit (blit (blit (pt ptz) 0 #[.int .u8 2]) 2 #[.int .u16 3]) 37 #[.int .u16 1, .int .u16 2, .int .u16 3, .int .u16 4] = pt mkq := by
  simp [blit, pt, ptz, mkq, bvs_length, zb_length, u16s, u16v]
theorem bld_mkq {w : World} {K : Value → World → Prop} : VBld Tryd.prog 28 [(0, .int .u8 2), (2, .int .u16 3), (6, .agg #[.int .u16 1, .int .u16 2, .int .u16 3, .int .u16 4])] w K = K (.agg (pt mkq)) w := by
  refine VBld_struct Tryd.underlying28 hz_pt (places := #[(0, 1), (1, 1), (2, 1), (3, 1), (4, 1), (5, 32), (37, 4)]) (by simp [go_sem]) ?_
  have hz : (pt ptz).size = 41 := pt_size ptz_ok
  simp [fillB, zc_pt, Value.cells, hz, blit_size]
  exact blit_mkq
def acz : Ac := ⟨0, 0, 0, .slice none 0 0, [], false, 0, .slice none 0 0, []⟩
def amz : Am := ⟨0, ptz, .slice none 0 0, [], false, acz⟩
def am7 (v : Value) : Am := ⟨0, mkq, v, [7], false, acz⟩
theorem hz_am : (Tryd.prog.info? 87).map (fun i => i.zero.isSome) = some true := by kernel_rfl
theorem zc_am : zc Tryd.prog 87 = amv amz := by kernel_rfl
theorem bld_am7 {A : Option Addr} {c : Nat} {w : World} {K : Value → World → Prop} : VBld Tryd.prog 87 [(1, .agg (pt mkq)), (2, .slice A 1 c)] w K = K (.agg (amv (am7 (.slice A 1 c)))) w := by
  refine VBld_struct Tryd.underlying87 hz_am (places := #[(0, 1), (1, 41), (42, 1), (43, 1), (44, 7)]) (by simp [go_sem]) ?_
  have hz : (amv amz).size = 51 := amv_size ptz_ok
  have hp : (pt mkq).size = 41 := pt_size mkq_ok
  simp [fillB, zc_am, Value.cells, hz, hp, blit_size]
  simp [blit, amv, amL, am7, amz, acv, acz, pt, mkq, ptz, bvs_length, zb_length, u16s, u16v]
  rfl
end Go.Proofs.YtppilgkgnofkpaaDoor

namespace Go.Proofs.YtppilgkgnofkpaaDoor
open Go.RowKit Go.Kin

section
variable {w w' : World} {x p m n i c : Nat} {z : Mz} {s s' : Mr} {O : Nat → Prop}
def fitsTo (n : Nat) (s : Mr) (q : Pt) (k : Nat) : Nat := ((cseq q.a k).filter (s.lgood n q)).length
theorem fitsTo_succ (n : Nat) (s : Mr) (q : Pt) (k : Nat) : fitsTo n s q (k + 1) = if q.a.getD k 0 = 0 then fitsTo n s q k else fitsTo n s q k + (s.lgood n q k).toNat := by
  unfold fitsTo
  rw [cseq_succ]
  split
  · rfl
  · rw [List.filter_append, List.length_append]
    cases h : s.lgood n q k <;> simp [h]
theorem fitsTo_le (n : Nat) (s : Mr) (q : Pt) : ∀ k, fitsTo n s q k ≤ k
  | 0 => by simp [fitsTo, cseq]
  | k + 1 => by
    have := fitsTo_le n s q k
    rw [fitsTo_succ]
    split
    · omega
    · cases s.lgood n q k <;> simp <;> omega
theorem PrAt.dkc (h : PrAt w x p m n z s O) (hi : i < 2) : w.cell? ⟨x, 1 + i, none⟩ = some (.pointer (some ⟨z.d i, 0, none⟩)) := by
  rw [h.cell]
  rcases lt2 hi with rfl | rfl <;> rfl
theorem PrAt.look (h : PrAt w x p m n z s O) (hi : i < 2) (a : Nat) (ha : a < 65536) : Ret Tryd.prog 32 #[.pointer (some ⟨z.d i, 0, none⟩), .int .u16 a] w fun v' w' => LookR w ((s.dk i).look n a) v' w' ∧ Ch Nw w w' := by
  obtain ⟨O', ⟨mv, A, hP, _, _⟩, _, _⟩ := h.mr
  exact ((hP.sd i hi).look a ha).mono fun v w' hh => ⟨hh.1, hh.2.2⟩
theorem PrAt.dead (h : PrAt w x p m n z s O) (hi : i < 2) : Ret Tryd.prog 47 #[.pointer (some ⟨z.d i, 0, none⟩)] w fun v' w' => v' = .bool (s.dk i).dead ∧ w' = w := by
  obtain ⟨O', ⟨mv, A, hP, _, _⟩, _, _⟩ := h.mr
  exact (hP.sd i hi).dead
theorem pt_adr {q : Pt} (ok : PtOk q) {k : Nat} (hk : k < 4) : (pt q)[37 + k]? = some (.int .u16 (adr q k)) := by
  have hl := ok.a
  refine pt_a ok ?_
  unfold adr
  rw [List.getD_eq_getElem?_getD, List.getElem?_eq_getElem (by omega)]
  rfl
end
end Go.Proofs.YtppilgkgnofkpaaDoor
