/- What mirrors heal, in plain Lean. No condition. -/
import Derived.Test.YtppilgkgnofkpaaGreatDoorShaA
import Derived.Test.YtppilgkgnofkpaaGreatDoorShaF
import Derived.Test.YtppilgkgnofkpaaGreatDoorPtC
import Derived.Test.YtppilgkgnofkpaaGreatDoorDkN
set_option linter.unusedSimpArgs false
set_option linter.unusedVariables false

/- What ptr's Take answers, as a contract on the call. Conditions: the variable ptr.wide holds what the text lays; sizes. -/
namespace Go.Proofs.YtppilgkgnofkpaaGreatDoor
open Go.RowKit Go.Kin

end Go.Proofs.YtppilgkgnofkpaaGreatDoor

/- A pointer's digest, and what is sealed and fits by it (digest, Seal, Fits), walked. Conditions: the variable sha.constants holds what the text lays; sizes. -/
namespace Go.Proofs.YtppilgkgnofkpaaGreatDoor
open Go.RowKit Go.Kin

theorem Hsh.ch {w w' : World} {g : Nat} {m : List UInt8} (h : Hsh w g m) (hc : Ch Nw w w') : Hsh w' g m := by
  obtain ⟨s, v, on, h1, h2, h3⟩ := h
  exact ⟨s, v, on, hc.hp h1 id, h2.ch hc fun _ _ e => e, h3⟩
theorem Lk.lt {w : World} (h : Lk w) : 1 < w.heap.size := by
  unfold Lk at h
  exact World.block_lt_of_cell? w _ (h 0 (by decide))
/-- the digest of a tag and a block -/
def digS (p : Pt) (b : List UInt8) : List UInt8 := shaS ((putP p).take 16 ++ b)
theorem digS_length (p : Pt) (b : List UInt8) : (digS p b).length = 32 := shaS_length _
theorem digest_any (p : Pt) (v : Value) (b : List UInt8) (w : World) (ok : PtOk p) (hs : Sl w v b.length (bvs b)) (hv : ∀ k, v.ownBlock = some k → k < w.heap.size) (hlen : b.length ≤ 900000) (hk : Lk w) :
    Ret Tryz.prog 65 #[.agg (pt p), v] w fun v' w' => v' = .agg (bvs (digS p b)).toArray ∧ Ch Nw w w' := by
  refine v_enter Tryz.func65 Tryz.ntmps65 rfl (by simp) fun R' hR => ?_
  obtain ⟨Z, hZ⟩ : ∃ z, (bvs (zb 32)).toArray = z := ⟨_, rfl⟩
  have hzc : zc Tryz.prog 55 = Z := by rw [← hZ]; kernel_rfl
  have hzz : (Tryz.prog.info? 55).map (fun i => i.zero.isSome) = some true := by kernel_rfl
  have hZs : Z.size = 32 := by rw [← hZ]; simp [bvs_length, zb_length]
  have hpl := putP_length ok
  simp [go_sem, hzc, hzz]
  have c1 := ((Ch.refl Nw w).alloc (.cells (pt p) 58)).alloc (.cells Z 55)
  have b0 := ((Ch.refl Nw (w.alloc (.cells (pt p) 58))).alloc (.cells Z 55)).hp (hp_alloc w (.cells (pt p) 58)) id
  have b4 := hp_alloc (w.alloc (.cells (pt p) 58)) (.cells Z 55)
  rw [show (w.alloc (.cells (pt p) 58)).heap.size = w.heap.size + 1 by simp] at b4
  revert c1 b0 b4
  generalize (w.alloc (.cells (pt p) 58)).alloc (.cells Z 55) = w1
  generalize hq0 : w.heap.size = q0 at *
  intro c1 b0 b4
  refine (newsha_any w1).mono ?_
  rintro _ w2 ⟨rfl, hH, c2⟩
  have hg1 : q0 + 1 < w1.heap.size := lt_of_block b4
  generalize w1.heap.size = g at *
  have b0' := c2.hp b0 id
  have hps := pt_size ok
  have hpa := pt_all ok
  simp [go_sem, b0', hps, hpa]
  refine (pput_any (.slice none 0 0) 0 [] p w2 ok (by decide) rfl (World.ownsRow_nil _ _ _ _)).mono ?_
  rintro s1 w3 ⟨h1, h2, h3⟩
  have c3 : Ch Nw w2 w3 := h2.mono fun k _ e => by simp [Value.ownBlock] at e
  have hH3 := hH.ch c3
  have hs1 := Sl.of_own h1
  rw [List.nil_append, Nat.zero_add] at hs1
  have hgl2 : g < w2.heap.size := by obtain ⟨_, _, _, h, _⟩ := hH; exact lt_of_block h
  have hs1o : s1.ownBlock ≠ some g := by
    rcases h3 with h3 | h3
    · rw [h3]; simp [Value.ownBlock]
    · intro h
      have := h3 g h
      omega
  obtain ⟨s2, hs2, ho2, _, hr2, _⟩ := hs1.cut tyB (by simp [bvs_length, hpl]) 0 16 (by decide) (by decide)
  replace hr2 : ∀ w', (Instr.sliceAt 59 s1 none (some (.int .i64 16)) none).run Tryz.prog w' = .ok s2 w' := hr2 rfl
  have hl16 : ((putP p).take 16).length = 16 := by rw [List.length_take]; omega
  have hs2 : Sl w3 s2 ((putP p).take 16).length (bvs ((putP p).take 16)) := by
    rw [hl16, bvs, List.map_take]
    simpa [bvs] using hs2
  have c13 := (c1.trans c2).trans c3
  have hgk : g ≠ 1 := by have := hk.lt; omega
  simp [go_sem, hr2]
  refine (write_any g [] s2 ((putP p).take 16) w3 hH3 hs2 (by rw [ho2]; exact hs1o) (by rw [hl16]; decide) (hk.ch c13 id) hgk).mono ?_
  rintro _ w4 ⟨rfl, hH4, c4⟩
  rw [List.nil_append] at hH4
  have hvg : ∀ k, v.ownBlock = some k → ¬ only g k := fun k hk' e => by
    have := hv k hk'
    simp only [only] at e
    omega
  have c14 : Ch Nw w w4 := c13.trans' c4 fun j hj e => by simp only [only] at e; omega
  simp [go_sem]
  refine (write_any g _ v b w4 hH4 ((hs.ch c14 fun _ _ e => e)) (fun h => hvg g h rfl) (by rw [hl16]; omega) (hk.ch c14 id) hgk).mono ?_
  rintro _ w5 ⟨rfl, hH5, c5⟩
  have c15 : Ch Nw w w5 := c14.trans' c5 fun j hj e => by simp only [only] at e; omega
  simp [go_sem]
  refine (sum_any g _ w5 hH5 (by rw [List.length_append, hl16]; omega) (hk.ch c15 id) hgk).mono ?_
  rintro _ w6 ⟨rfl, c6⟩
  have hb4 := c6.hp (c5.hp (c4.hp (c3.hp (c2.hp b4 id) id) (by simp only [only]; omega)) (by simp only [only]; omega)) id
  rw [show shaS ((putP p).take 16 ++ b) = digS p b from rfl]
  obtain ⟨Y, hY⟩ : ∃ z, (bvs (digS p b)).toArray = z := ⟨_, rfl⟩
  have hYs : Y.size = 32 := by rw [← hY]; simp [bvs_length, digS_length]
  have hYo : ones Y = true := by rw [← hY]; exact ones_bvs _
  have hYa : Y.extract 0 32 = Y := by rw [show (32 : Nat) = Y.size from hYs.symm]; simp
  rw [hY] at hR ⊢
  have b9 : (w6.setRow (q0 + 1) Y).heap[q0 + 1]? = some (.cells Y 55 (0, 0)) := by rw [hp_setRow, hb4]; rfl
  simp [go_sem, hb4, hYs, hYa, hZs, hYo, blit_whole, b9]
  exact hR _ _ ⟨rfl, (c15.trans c6).setRow (g := q0 + 1) (.inr (by omega)) _⟩
/-- the pointer that a block fits -/
def sealP (p : Pt) (b : List UInt8) : Pt := { p with h := digS p b }
theorem sealP_ok {p : Pt} (ok : PtOk p) (b : List UInt8) : PtOk (sealP p b) := ⟨ok.k, ok.l, ok.o, ok.f, ok.b, digS_length p b, ok.a, ok.at'⟩
theorem fits_any (p : Pt) (v : Value) (b : List UInt8) (w : World) (ok : PtOk p) (hs : Sl w v b.length (bvs b)) (hv : ∀ k, v.ownBlock = some k → k < w.heap.size) (hlen : b.length ≤ 900000) (hk : Lk w) :
    Ret Tryz.prog 23 #[.agg (pt p), v] w fun v' w' => v' = .bool (decide (b.length = 512) && decide (digS p b = p.h)) ∧ Ch Nw w w' := by
  refine v_enter Tryz.func23 Tryz.ntmps23 rfl (by simp) fun R' hR => ?_
  have hps := pt_size ok
  have hpa := pt_all ok
  have hln := hs.len Tryz.underlying59 3
  have c1 := (Ch.refl Nw w).alloc (.cells (pt p) 58)
  have b0 := hp_alloc w (.cells (pt p) 58)
  simp [go_sem, hps, hpa]
  revert c1 b0
  generalize w.alloc (.cells (pt p) 58) = w1
  generalize hq0 : w.heap.size = q0 at *
  intro c1 b0
  refine v_draw' [(0, none), (1, none), (2, none), (3, none), (4, none), (5, none), (7, none), (8, none), (6, some [7, 8]), (9, none), (10, none), (11, none)] (by kernel_rfl) (by kernel_rfl) ?_
  have b0d : w1.drew.heap[q0]? = some (.cells (pt p) 58 (0, 0)) := b0
  have hph := pt_h ok
  by_cases h5 : b.length = 512
  · have h5' : ((b.length : Int) == 512) = true := by rw [h5]; rfl
    simp [go_sem, hln, h5', b0, b0d, hps, hpa, hph]
    have hv1 : ∀ k, v.ownBlock = some k → k < w1.heap.size := fun k h => by have := hv k h; have := c1.size; omega
    refine (digest_any p v b w1.drew ok (hs.ch c1.drew fun _ _ e => e) hv1 hlen (hk.ch c1.drew id)).mono ?_
    rintro _ w2 ⟨rfl, c2⟩
    have b2 := c2.hp b0d id
    have heq : ∀ w, (Op.equalIn 10000 55 (.agg (bvs (digS p b)).toArray) (.agg (bvs p.h).toArray)).run Tryz.prog w = .ok (decide (digS p b = p.h)) w := fun w => run_equalIn_bvs w 9998 _ _ 32 Tryz.underlying55 Tryz.underlying5 Tryz.sizeOf5 Tryz.isAgg5 _ _ (digS_length p b) ok.h
    simp [go_sem, b2, hps, hph, heq, h5]
    exact hR _ _ ⟨by simp [h5], c1.drew.trans c2⟩
  · have h5' : ((b.length : Int) == 512) = false := beq_false_of_ne (by omega)
    simp [go_sem, hln, h5', h5]
    exact hR _ _ ⟨by simp [h5], c1.drew⟩
end Go.Proofs.YtppilgkgnofkpaaGreatDoor

/- What the document's Wide and Copies answer, as contracts on calls. No condition but that the values are of their types. -/
namespace Go.Proofs.YtppilgkgnofkpaaGreatDoor
open Go.RowKit Go.Kin

theorem tyCo : TyS Tryz.prog 108 113 (.agg #[.int .i64 0, .int .u16 0]) 2 16 := ⟨Tryz.underlying108, by kernel_rfl, rfl, by decide⟩
/-- the copies' cells -/
def ccs (a : List Nat) (k : Nat) : List Value := (cseq a k).flatMap (cenc a)
theorem ccs_length (a : List Nat) (k : Nat) : (ccs a k).length = 2 * (cseq a k).length := by
  unfold ccs
  induction cseq a k with
  | nil => rfl
  | cons x l ih => rw [List.flatMap_cons, List.length_append, ih]; simp [cenc]; omega
theorem ccs_succ (a : List Nat) (k : Nat) : ccs a (k + 1) = if a.getD k 0 = 0 then ccs a k else ccs a k ++ cenc a k := by
  unfold ccs
  rw [cseq_succ]
  split
  · rfl
  · simp
theorem cseq_le (a : List Nat) (k : Nat) : (cseq a k).length ≤ k := by
  have := List.length_filter_le (fun i => a.getD i 0 != 0) (List.range k)
  rw [List.length_range] at this
  exact this
theorem rcopies_any (p : Pt) (w : World) (ok : PtOk p) : Ret Tryz.prog 45 #[.agg (pt p)] w fun v' w' => MineS 113 2 w v' (cseq p.a 4).length (ccs p.a 4) w' := by
  refine v_enter Tryz.func45 Tryz.ntmps45 rfl (by simp) fun R' hR => ?_
  simp [go_sem]
  have hb := hp_alloc w (.cells (pt p) 58)
  have hc := (Ch.refl Nw w).alloc (.cells (pt p) 58)
  have hlt : w.heap.size < (w.alloc (.cells (pt p) 58)).heap.size := by simp
  revert hb hc hlt
  generalize w.alloc (.cells (pt p) 58) = w1
  generalize hg : w.heap.size = g
  intro hb hc hlt
  refine v_loop (fun r f wr => ∃ k, k ≤ 4 ∧ r = 4 - k ∧ f 1 = .pointer (some ⟨g, 0, none⟩) ∧ f 4 = .int .i64 k ∧ wr.heap[g]? = some (.cells (pt p) 58 (0, 0)) ∧ MineS 113 2 w1 (f 3) (cseq p.a k).length (ccs p.a k) wr) 4
    ⟨0, by omega, rfl, by simp, by simp, hb, by simpa [ccs, cseq] using MineS.nil _ _ (Ch.refl Nw w1)⟩ ?_
  rintro J hJ _ f wr ⟨k, hk, rfl, f1, f4, hbk, hm⟩
  by_cases hk4 : k < 4
  · have hki : (k : Int) < 4 := by omega
    have hwk : IntKind.i64.wrap ((k : Int) + 1) = ((k + 1 : Nat) : Int) := by simp [IntKind.wrap_i64]; omega
    have hwq : IntKind.i64.wrap ((k : Int) / 2) = (k : Int) / 2 := by simp [IntKind.wrap_i64]; omega
    obtain ⟨x, hx⟩ : ∃ x, p.a[k]? = some x := ⟨_, List.getElem?_eq_getElem (by rw [ok.a]; exact hk4)⟩
    have hcx := (cell_blk hbk (37 + k)).trans (pt_a ok hx)
    have hgx : p.a.getD k 0 = x := by rw [List.getD_eq_getElem?_getD, hx]; rfl
    by_cases hx0 : x = 0
    · subst hx0
      simp [go_sem, f1, f4, hki, hcx, hwk]
      refine Rnd.intro (4 - (k + 1)) (by omega) (hJ _ _ _ ⟨k + 1, by omega, rfl, by simp [f1], by simp, hbk, ?_⟩)
      rw [cseq_succ, ccs_succ, hgx, if_pos rfl, if_pos rfl]
      simpa using hm
    · have hx1 : ((x : Int) == 0) = false := beq_false_of_ne (by omega)
      simp [go_sem, f1, f4, hki, hcx, hwk, hwq, bne, hx1]
      have hle := cseq_le p.a k
      refine VB_app1S tyCo hm.own (us := [.int .i64 ((k : Int) / 2), .int .u16 x]) rfl (fun u hu => by simp at hu; rcases hu with rfl | rfl <;> rfl) (by unfold maxLen; omega) (by omega) fun v' w' d1 d2 d3 => ?_
      have hm' := hm.grow d1 d2 d3
      have hb' := d2.hp hbk (fun e => by have := hm.fresh g e; omega)
      simp [go_sem, f4, hwk]
      refine Rnd.intro (4 - (k + 1)) (by omega) (hJ _ _ _ ⟨k + 1, by omega, rfl, by simp [f1], by simp, hb', ?_⟩)
      rw [cseq_succ, ccs_succ, hgx, if_neg hx0, if_neg hx0, List.length_append]
      simp only [cenc, hgx]
      exact hm'
  · obtain rfl : k = 4 := by omega
    simp [go_sem, f4]
    exact hR _ _ ⟨hm.own, hc.trans hm.ch, hm.fresh.mono (by omega)⟩
end Go.Proofs.YtppilgkgnofkpaaGreatDoor

/- Mirrors in plain Lean: what each act does and answers. They speak of no program. No condition. -/
namespace Go.Proofs.YtppilgkgnofkpaaGreatDoor
open Go.RowKit Go.Kin

def upd1 {α : Type} (f : Nat → α) (i : Nat) (x : α) : Nat → α := fun j => if j = i then x else f j
@[simp] theorem upd1_same {α : Type} (f : Nat → α) (i : Nat) (x : α) : upd1 f i x i = x := by simp [upd1]
theorem upd1_ne {α : Type} (f : Nat → α) {i j : Nat} (x : α) (h : j ≠ i) : upd1 f i x j = f j := by simp [upd1, h]
/-- two disks, what is said of addresses, what was found and mended, the moves -/
structure Mr where
  dk : Nat → Dk
  P : Pwr
  use : Nat → Nat → Nat
  sick : Nat → Nat → Bool
  found : Nat → Nat
  mended : Nat → Nat
  moves : List Pt
def fitB (p : Pt) (b : Byts) : Bool := decide (b.length = 512) && decide (digS p b = p.h)
theorem fitB_len {p : Pt} {b : Byts} (h : fitB p b = true) : b.length = 512 := by
  unfold fitB at h
  rw [Bool.and_eq_true, decide_eq_true_iff] at h
  exact h.1
def adr (p : Pt) (k : Nat) : Nat := p.a.getD k 0
theorem adr_lt {p : Pt} (ok : PtOk p) (k : Nat) : adr p k < 65536 := by
  unfold adr
  rw [List.getD_eq_getElem?_getD]
  cases h : p.a[k]? with
  | none => simp
  | some x => exact ok.at' x (List.mem_of_getElem? h)
/-- a copy's block, if it is good -/
def Mr.good (n : Nat) (s : Mr) (p : Pt) (k : Nat) : Option Byts := if (s.dk (k / 2)).able s.P then ((s.dk (k / 2)).look n (adr p k)).filter (fitB p) else none
/-- while copies are looked at: what was found, the block, the bad copies -/
structure Lo where
  F : Nat → Nat
  blk : Option Byts
  bad : List Nat
def Mr.step (n : Nat) (s : Mr) (p : Pt) (t : Lo) (k : Nat) : Lo := match s.good n p k with
  | some x => if t.blk.isNone then { t with blk := some x } else t
  | none => if (s.dk (k / 2)).dead then t else { t with F := upd1 t.F (k / 2) (t.F (k / 2) + 1), bad := t.bad ++ [k] }
def Mr.run (n : Nat) (s : Mr) (p : Pt) (l : List Nat) : Lo := l.foldl (s.step n p) ⟨s.found, none, []⟩
theorem Mr.run_snoc (n : Nat) (s : Mr) (p : Pt) (l : List Nat) (k : Nat) : s.run n p (l ++ [k]) = s.step n p (s.run n p l) k := by simp [Mr.run]
/-- up to the first good copy -/
def Mr.cut (n : Nat) (s : Mr) (p : Pt) : List Nat → List Nat
  | [] => []
  | k :: l => if (s.good n p k).isSome then [k] else k :: s.cut n p l
theorem Mr.cut_none (n : Nat) (s : Mr) (p : Pt) {l : List Nat} (h : ∀ k ∈ l, s.good n p k = none) : s.cut n p l = l := by
  induction l with
  | nil => rfl
  | cons k l ih =>
    rw [Mr.cut, h k (by simp), ih fun x hx => h x (by simp [hx])]
    rfl
theorem Mr.cut_take (n : Nat) (s : Mr) (p : Pt) {l : List Nat} {x : Nat} {r : List Nat} (h : ∀ k ∈ l, s.good n p k = none) (hx : (s.good n p x).isSome = true) : s.cut n p (l ++ x :: r) = l ++ [x] := by
  induction l with
  | nil => rw [List.nil_append, Mr.cut, if_pos hx]; rfl
  | cons k l ih =>
    rw [List.cons_append, Mr.cut, h k (by simp), ih fun x hx => h x (by simp [hx])]
    rfl
def Mr.lks (n : Nat) (s : Mr) (p : Pt) (all : Bool) : List Nat := if all then cseq p.a 4 else s.cut n p (cseq p.a 4)
def Mr.writ (n : Nat) (s : Mr) (p : Pt) (b : Byts) (k : Nat) : Mr := { s with dk := upd1 s.dk (k / 2) ((s.dk (k / 2)).write n s.P (adr p k) b), P := (s.dk (k / 2)).wpow n s.P (adr p k) b }
def Mr.sicks (n : Nat) (s : Mr) (d a : Nat) : Mr := if a = 0 ∨ n ≤ a then s else { s with sick := upd1 s.sick d (upd1 (s.sick d) a true) }
def Mr.moved (s : Mr) (p : Pt) : Mr := if s.moves.contains p then s else { s with moves := s.moves ++ [p] }
def Mr.mend (n : Nat) (p : Pt) (b : Byts) (s : Mr) (k : Nat) : Mr :=
  let t := s.writ n p b k
  if (t.good n p k).isSome then { t with mended := upd1 t.mended (k / 2) (t.mended (k / 2) + 1) } else (t.sicks n (k / 2) (adr p k)).moved p
def Mr.heal (n : Nat) (s : Mr) (p : Pt) (all : Bool) : Mr × Byts × Int :=
  if mayP p then
    let t := s.run n p (s.lks n p all)
    match t.blk with
    | none => ({ s with found := t.F }, [], 21)
    | some b => (t.bad.foldl (Mr.mend n p b) { s with found := t.F }, b, 0)
  else (s, [], 1)
def wrOk (D : Dk) (n : Nat) (P : Pwr) (a : Nat) (b : Byts) : Bool := match D.writes n P a b with
  | .ok => true
  | _ => false
def Mr.put (n : Nat) (p : Pt) (b : Byts) (t : Mr × Int) (k : Nat) : Mr × Int := (t.1.writ n p b k, if wrOk (t.1.dk (k / 2)) n t.1.P (adr p k) b then 0 else t.2)
def Mr.write (n : Nat) (s : Mr) (p : Pt) (b : Byts) : Mr × Int := if mayP p && fitB p b then (cseq p.a 4).foldl (Mr.put n p b) (s, 21) else (s, 1)
def Mr.flush1 (s : Mr) (d : Nat) : Mr × Bool :=
  ({ s with dk := upd1 s.dk d (if (s.dk d).able s.P && s.P.made then (s.dk d).flush else s.dk d), P := if (s.dk d).able s.P then s.P.step else s.P }, (s.dk d).able s.P && s.P.made)
def Mr.flush (s : Mr) : Mr × Int := ((((s.flush1 0).1).flush1 1).1, if (s.flush1 0).2 || (((s.flush1 0).1).flush1 1).2 then 0 else 21)
theorem cseq_lt {a : List Nat} {k : Nat} (h : k ∈ cseq a 4) : k < 4 ∧ a.getD k 0 ≠ 0 := by
  unfold cseq at h
  rw [List.mem_filter, List.mem_range] at h
  exact ⟨h.1, by simpa using h.2⟩
end Go.Proofs.YtppilgkgnofkpaaGreatDoor

namespace Go.Proofs.YtppilgkgnofkpaaGreatDoor
open Go.RowKit Go.Kin

/-- a copy that fits, as a look tells it -/
def Mr.lgood (n : Nat) (s : Mr) (q : Pt) (k : Nat) : Bool := ((s.dk (k / 2)).look n (adr q k)).any (fitB q)
theorem Mr.good_on {n : Nat} {s : Mr} {q : Pt} {k : Nat} (h : s.P.off = false) : (s.good n q k).isSome = s.lgood n q k := by
  unfold Mr.good Mr.lgood Dk.able
  rw [h]
  cases hd : (s.dk (k / 2)).dead with
  | true => simp [Dk.look, hd]
  | false =>
    simp only [Bool.not_false, Bool.and_self, if_true]
    cases (s.dk (k / 2)).look n (adr q k) with
    | none => rfl
    | some b => cases hf : fitB q b <;> simp [Option.filter, hf]
theorem Mr.good_off {n : Nat} {s : Mr} {q : Pt} {k : Nat} (h : s.P.off = true) : s.good n q k = none := by
  unfold Mr.good Dk.able
  rw [h]
  simp
theorem Mr.good_fit {n : Nat} {s : Mr} {q : Pt} {k : Nat} {b : Byts} (h : s.good n q k = some b) : fitB q b = true := by
  unfold Mr.good at h
  split at h
  · exact (Option.filter_eq_some_iff.1 h).2
  · cases h
theorem Mr.run_blk (n : Nat) (s : Mr) (q : Pt) (l : List Nat) : ∀ t : Lo, (l.foldl (s.step n q) t).blk = t.blk.or (l.findSome? (s.good n q)) := by
  induction l with
  | nil => intro t; simp
  | cons k l ih =>
    intro t
    rw [List.foldl_cons, ih, List.findSome?_cons]
    unfold Mr.step
    cases hg : s.good n q k with
    | some x =>
      simp only
      cases hb : t.blk <;> simp [hb]
    | none =>
      simp only
      split <;> rfl
theorem Mr.cut_blk (n : Nat) (s : Mr) (q : Pt) (l : List Nat) : (s.cut n q l).findSome? (s.good n q) = l.findSome? (s.good n q) := by
  induction l with
  | nil => rfl
  | cons k l ih =>
    rw [Mr.cut]
    cases hg : s.good n q k with
    | some x => simp [hg]
    | none => simp [hg, ih]
theorem Mr.lks_blk (n : Nat) (s : Mr) (q : Pt) (all : Bool) : (s.run n q (s.lks n q all)).blk = (cseq q.a 4).findSome? (s.good n q) := by
  unfold Mr.run
  rw [Mr.run_blk]
  unfold Mr.lks
  cases all with
  | true => simp
  | false => simp [Mr.cut_blk]
/-- how many copies fit -/
def Mr.fits (n : Nat) (s : Mr) (q : Pt) : Nat := ((cseq q.a 4).filter (s.lgood n q)).length
theorem Mr.heal_says (n : Nat) (s : Mr) (q : Pt) (all : Bool) (h : mayP q = true) : (s.heal n q all).2.2 = if (s.fits n q ≠ 0) ∧ s.P.off = false then 0 else 21 := by
  unfold Mr.heal
  rw [h, if_pos rfl]
  simp only
  rw [Mr.lks_blk]
  have key : ((cseq q.a 4).findSome? (s.good n q)).isSome = decide ((s.fits n q ≠ 0) ∧ s.P.off = false) := by
    cases ho : s.P.off with
    | true =>
      rw [List.findSome?_eq_none_iff.2 fun k _ => Mr.good_off ho]
      simp
    | false =>
      unfold Mr.fits
      rw [Bool.eq_iff_iff, List.findSome?_isSome_iff]
      simp [Mr.good_on ho, List.length_eq_zero_iff, List.filter_eq_nil_iff]
  cases hf : (cseq q.a 4).findSome? (s.good n q) with
  | none =>
    rw [hf] at key
    have : ¬ ((s.fits n q ≠ 0) ∧ s.P.off = false) := by simpa using key.symm
    rw [if_neg this]
  | some b =>
    rw [hf] at key
    have : (s.fits n q ≠ 0) ∧ s.P.off = false := by simpa using key.symm
    rw [if_pos this]
theorem Mr.heal_fit (n : Nat) (s : Mr) (q : Pt) (all : Bool) (h : mayP q = true) (h0 : (s.heal n q all).2.2 = 0) : fitB q (s.heal n q all).2.1 = true := by
  unfold Mr.heal at h0 ⊢
  rw [h, if_pos rfl] at h0 ⊢
  simp only at h0 ⊢
  rw [Mr.lks_blk] at h0 ⊢
  cases hf : (cseq q.a 4).findSome? (s.good n q) with
  | none => rw [hf] at h0; cases h0
  | some b =>
    simp only
    obtain ⟨k, _, hk⟩ := List.exists_of_findSome?_eq_some hf
    exact Mr.good_fit hk
theorem Mr.heal_may (n : Nat) (s : Mr) (q : Pt) (all : Bool) (h : mayP q = false) : (s.heal n q all).2.2 = 1 := by
  unfold Mr.heal
  rw [h]
  rfl
/-- power that is on, disks of which nothing is armed -/
structure Mr.Calm (s : Mr) : Prop where
  on : s.P = Pwr.on
  dk : ∀ i, i < 2 → (s.dk i).dead = true ∨ ((s.dk i).lose = false ∧ (s.dk i).astray = none)
/-- a copy is good, or can't be -/
def Mr.okc (n : Nat) (s : Mr) (q : Pt) (k : Nat) : Prop := (s.dk (k / 2)).dead = true ∨ s.lgood n q k = true ∨ n ≤ adr q k ∨ s.sick (k / 2) (adr q k) = true
section
variable {n : Nat} {s : Mr} {q : Pt} {b : Byts}
theorem Mr.Calm.look (h : s.Calm) (hb : b.length = 512) {k : Nat} (hk : k < 4) : (s.writ n q b k).Calm ∧
    (∀ x, (s.dk (k / 2)).look n x = none ∧ ((s.writ n q b k).dk (k / 2)).look n x = none ∨ ((s.writ n q b k).dk (k / 2)).look n x = if x = adr q k ∧ adr q k < n ∧ (s.dk (k / 2)).dead = false ∧ (s.dk (k / 2)).stuck x = false then some b else (s.dk (k / 2)).look n x) ∧ ((s.writ n q b k).dk (k / 2)).dead = (s.dk (k / 2)).dead := by
  have hi : k / 2 < 2 := by omega
  obtain ⟨i, hki⟩ : ∃ i, k / 2 = i := ⟨_, rfl⟩
  obtain ⟨a, ha⟩ : ∃ a, adr q k = a := ⟨_, rfl⟩
  unfold Mr.writ
  rw [hki] at hi ⊢
  rw [ha]
  simp only [upd1_same]
  have hP := h.on
  cases hd : (s.dk i).dead with
  | true =>
    have e1 : (s.dk i).write n s.P a b = s.dk i := by unfold Dk.write Dk.writes Dk.able; simp [hd]
    have e2 : (s.dk i).wpow n s.P a b = s.P := by unfold Dk.wpow Dk.able; simp [hd]
    rw [e1, e2]
    refine ⟨⟨hP, fun j hj => ?_⟩, fun x => .inr ?_, hd⟩
    · by_cases hji : j = i
      · subst hji; simp only [upd1_same]; exact .inl hd
      · simp only [upd1_ne _ _ hji]; exact h.dk j hj
    · simp
  | false =>
    obtain ⟨hl, has⟩ := (h.dk i hi).resolve_left (by rw [hd]; simp)
    have e2 : (s.dk i).wpow n s.P a b = Pwr.on := by unfold Dk.wpow Dk.able; rw [hP, hd]; simp [Pwr.on, Pwr.step]
    rw [e2]
    by_cases han : a < n
    · have e1 : (s.dk i).write n s.P a b = { s.dk i with astray := none, cache := (s.dk i).cache ++ [(a, b)] } := by
        unfold Dk.write Dk.writes Dk.able Dk.put
        rw [hP, hd, hl, has]
        simp [Pwr.on, Pwr.made, han, hb, hd, hl, show ¬ n ≤ a by omega]
      rw [e1]
      refine ⟨⟨rfl, fun j hj => ?_⟩, fun x => .inr ?_, hd⟩
      · by_cases hji : j = i
        · subst hji; simp only [upd1_same]; exact .inr (by simpa using hl)
        · simp only [upd1_ne _ _ hji]; exact h.dk j hj
      · unfold Dk.look Dk.tells
        simp only [hd, lastC_append]
        by_cases hx : x = a
        · subst hx
          cases hst : (s.dk i).stuck x <;> simp [han, hd, hst, show ¬ n ≤ x by omega]
        · rw [if_neg fun e : a = x => hx e.symm]
          simp [hx, hd]
    · have e1 : (s.dk i).write n s.P a b = s.dk i := by
        unfold Dk.write Dk.writes Dk.able
        rw [hP, hd]
        simp [Pwr.on, show n ≤ a by omega]
      rw [e1]
      refine ⟨⟨rfl, fun j hj => ?_⟩, fun x => .inr ?_, hd⟩
      · by_cases hji : j = i
        · subst hji; simp only [upd1_same]; exact h.dk _ hj
        · simp only [upd1_ne _ _ hji]; exact h.dk j hj
      · simp [han]
theorem Mr.mend_fields (n : Nat) (s : Mr) (q : Pt) (b : Byts) (k : Nat) : (s.mend n q b k).dk = (s.writ n q b k).dk ∧ (s.mend n q b k).P = (s.writ n q b k).P ∧ ∀ i a, s.sick i a = true → (s.mend n q b k).sick i a = true := by
  unfold Mr.mend
  simp only
  split
  · exact ⟨rfl, rfl, fun _ _ h => h⟩
  · have e : ∀ t : Mr, (t.moved q).dk = t.dk ∧ (t.moved q).P = t.P ∧ (t.moved q).sick = t.sick := fun t => by unfold Mr.moved; split <;> exact ⟨rfl, rfl, rfl⟩
    obtain ⟨e1, e2, e3⟩ := e ((s.writ n q b k).sicks n (k / 2) (adr q k))
    rw [e1, e2, e3]
    unfold Mr.sicks
    split
    · exact ⟨rfl, rfl, fun _ _ h => h⟩
    · refine ⟨rfl, rfl, fun i a h => ?_⟩
      show upd1 s.sick (k / 2) (upd1 (s.sick (k / 2)) (adr q k) true) i a = true
      unfold upd1
      split
      · show (if a = adr q k then true else s.sick (k / 2) a) = true
        split
        · rfl
        · subst ‹i = k / 2›; exact h
      · exact h
theorem Mr.mend_calm (h : s.Calm) (hb : fitB q b = true) {k : Nat} (hk : k < 4) (hk0 : q.a.getD k 0 ≠ 0) : (s.mend n q b k).Calm ∧ (s.mend n q b k).okc n q k ∧ ∀ j, s.okc n q j → (s.mend n q b k).okc n q j := by
  have hb5 := fitB_len hb
  obtain ⟨h1, h2, h3⟩ := h.look (n := n) (q := q) hb5 hk
  obtain ⟨e1, e2, e3⟩ := Mr.mend_fields n s q b k
  have hlg : ∀ j, (s.mend n q b k).lgood n q j = (s.writ n q b k).lgood n q j := fun j => by unfold Mr.lgood; rw [e1]
  have hother : ∀ j, j / 2 ≠ k / 2 → (s.writ n q b k).dk (j / 2) = s.dk (j / 2) := fun j hj => by unfold Mr.writ; simp only [upd1_ne _ _ hj]
  refine ⟨⟨e2.trans h1.on, fun i hi => by rw [e1]; exact h1.dk i hi⟩, ?_, fun j hj => ?_⟩
  · unfold Mr.okc
    rw [hlg, e1]
    by_cases hg : (s.writ n q b k).lgood n q k = true
    · exact .inr (.inl hg)
    by_cases hn : n ≤ adr q k
    · exact .inr (.inr (.inl hn))
    refine .inr (.inr (.inr ?_))
    have hg2 : ((s.writ n q b k).good n q k).isSome = false := by
      rw [Mr.good_on (by rw [h1.on]; rfl)]
      simpa using hg
    unfold Mr.mend
    simp only [hg2, Bool.false_eq_true, if_false]
    have e : ∀ t : Mr, (t.moved q).sick = t.sick := fun t => by unfold Mr.moved; split <;> rfl
    rw [e]
    unfold Mr.sicks
    rw [if_neg (by rintro (h | h); exact hk0 h; exact hn h)]
    simp
  · unfold Mr.okc at hj ⊢
    rw [hlg, e1]
    by_cases hjk : j / 2 = k / 2
    · rw [hjk] at hj ⊢
      rw [h3]
      rcases hj with hj | hj | hj | hj
      · exact .inl hj
      · refine .inr (.inl ?_)
        unfold Mr.lgood at hj ⊢
        rw [hjk] at hj ⊢
        rcases h2 (adr q j) with ⟨x, _⟩ | x
        · rw [x] at hj; cases hj
        · rw [x]
          split
          · simpa using hb
          · exact hj
      · exact .inr (.inr (.inl hj))
      · exact .inr (.inr (.inr (e3 _ _ hj)))
    · rw [hother j hjk]
      rcases hj with hj | hj | hj | hj
      · exact .inl hj
      · refine .inr (.inl ?_)
        unfold Mr.lgood at hj ⊢
        rw [hother j hjk]
        exact hj
      · exact .inr (.inr (.inl hj))
      · exact .inr (.inr (.inr (e3 _ _ hj)))
theorem Mr.mends_calm (hb : fitB q b = true) : ∀ (l : List Nat) (s : Mr), s.Calm → (∀ k ∈ l, k < 4 ∧ q.a.getD k 0 ≠ 0) → (l.foldl (Mr.mend n q b) s).Calm ∧ (∀ k ∈ l, (l.foldl (Mr.mend n q b) s).okc n q k) ∧ ∀ j, s.okc n q j → (l.foldl (Mr.mend n q b) s).okc n q j
  | [], s, h, _ => ⟨h, fun _ hk => by simp at hk, fun _ h => h⟩
  | k :: l, s, h, hl => by
    obtain ⟨a, b', c⟩ := Mr.mend_calm (n := n) h hb (hl k (by simp)).1 (hl k (by simp)).2
    obtain ⟨x, y, z⟩ := Mr.mends_calm hb l _ a fun j hj => hl j (by simp [hj])
    refine ⟨x, fun j hj => ?_, fun j hj => z j (c j hj)⟩
    rcases List.mem_cons.1 hj with rfl | hj
    · exact z _ b'
    · exact y j hj
theorem Mr.run_all (n : Nat) (s : Mr) (q : Pt) (on : s.P.off = false) (l : List Nat) : ∀ t : Lo, (∀ k ∈ l, s.lgood n q k = true ∨ (s.dk (k / 2)).dead = true ∨ k ∈ (l.foldl (s.step n q) t).bad) ∧ (∀ k ∈ t.bad, k ∈ (l.foldl (s.step n q) t).bad) ∧ ∀ k ∈ (l.foldl (s.step n q) t).bad, k ∈ t.bad ∨ k ∈ l := by
  induction l with
  | nil => exact fun t => ⟨fun _ h => by simp at h, fun _ h => h, fun _ h => .inl h⟩
  | cons k l ih =>
    intro t
    rw [List.foldl_cons]
    obtain ⟨a, b, c⟩ := ih (s.step n q t k)
    have hk : (s.lgood n q k = true ∨ (s.dk (k / 2)).dead = true ∨ k ∈ (s.step n q t k).bad) ∧ (∀ j ∈ t.bad, j ∈ (s.step n q t k).bad) ∧ ∀ j ∈ (s.step n q t k).bad, j ∈ t.bad ∨ j = k := by
      unfold Mr.step
      cases hg : s.good n q k with
      | some x =>
        have : s.lgood n q k = true := by rw [← Mr.good_on on, hg]; rfl
        simp only
        split <;> exact ⟨.inl this, fun _ h => h, fun _ h => .inl h⟩
      | none =>
        simp only
        split
        · exact ⟨.inr (.inl ‹_›), fun _ h => h, fun _ h => .inl h⟩
        · refine ⟨.inr (.inr (by simp)), fun j hj => by simp [hj], fun j hj => ?_⟩
          simpa using hj
    obtain ⟨h1, h2, h3⟩ := hk
    refine ⟨fun j hj => ?_, fun j hj => b j (h2 j hj), fun j hj => ?_⟩
    · rcases List.mem_cons.1 hj with rfl | hj
      · exact h1.imp id fun h => h.imp id (b _)
      · exact a j hj
    · rcases c j hj with h | h
      · rcases h3 j h with h | h
        · exact .inl h
        · subst h; simp
      · simp [h]
/-- behind Check, all copies are good that can be -/
theorem Mr.healed (h : s.Calm) (hm : mayP q = true) (h0 : (s.heal n q true).2.2 = 0) : ∀ k ∈ cseq q.a 4, (s.heal n q true).1.okc n q k := by
  have hon : s.P.off = false := by rw [h.on]; rfl
  have hfit := Mr.heal_fit n s q true hm h0
  unfold Mr.heal at h0 hfit ⊢
  rw [hm, if_pos rfl] at h0 hfit ⊢
  simp only at h0 hfit ⊢
  have hlk : s.lks n q true = cseq q.a 4 := rfl
  rw [hlk] at h0 hfit ⊢
  obtain ⟨r1, r2, r3⟩ := Mr.run_all n s q hon (cseq q.a 4) ⟨s.found, none, []⟩
  rw [show (cseq q.a 4).foldl (s.step n q) ⟨s.found, none, []⟩ = s.run n q (cseq q.a 4) from rfl] at r1 r2 r3
  cases hb : (s.run n q (cseq q.a 4)).blk with
  | none => rw [hb] at h0; cases h0
  | some b =>
    rw [hb] at hfit
    simp only at hfit ⊢
    have hc : ({ s with found := (s.run n q (cseq q.a 4)).F } : Mr).Calm := ⟨h.on, h.dk⟩
    obtain ⟨x, y, z⟩ := Mr.mends_calm (n := n) hfit (s.run n q (cseq q.a 4)).bad _ hc fun k hk => by
      rcases r3 k hk with h | h
      · simp at h
      · exact cseq_lt h
    intro k hk
    rcases r1 k hk with h | h | h
    · exact z k (.inr (.inl h))
    · exact z k (.inl h)
    · exact y k h
end
end Go.Proofs.YtppilgkgnofkpaaGreatDoor
