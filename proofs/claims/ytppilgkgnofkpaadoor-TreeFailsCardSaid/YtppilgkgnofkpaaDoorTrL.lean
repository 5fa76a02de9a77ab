/- A shelf of blocks, and the tree on it as a map, in plain Lean. No condition but that the values are of their types. -/
import Derived.Test.YtppilgkgnofkpaaDoorShaF
import Derived.Test.YtppilgkgnofkpaaDoorPtG
import Derived.Test.YtppilgkgnofkpaaDoorTrH
set_option linter.unusedSimpArgs false
set_option linter.unusedVariables false

/- A pointer's digest, and what is sealed and fits by it (digest, Seal, Fits), walked. Conditions: the variable sha.constants holds what the text lays; sizes. -/
namespace Go.Proofs.YtppilgkgnofkpaaDoor
open Go.RowKit Go.Kin

theorem Hsh.ch {w w' : World} {g : Nat} {m : List UInt8} (h : Hsh w g m) (hc : Ch Nw w w') : Hsh w' g m := by
  obtain ⟨s, v, on, h1, h2, h3⟩ := h
  exact ⟨s, v, on, hc.hp h1 id, h2.ch hc fun _ _ e => e, h3⟩
theorem Lk.lt {w : World} (h : Lk w) : 2 < w.heap.size := by
  unfold Lk at h
  exact World.block_lt_of_cell? w _ (h 0 (by decide))
/-- the digest of a tag and a block -/
def digS (p : Pt) (b : List UInt8) : List UInt8 := shaS ((putP p).take 16 ++ b)
theorem digS_length (p : Pt) (b : List UInt8) : (digS p b).length = 32 := shaS_length _
theorem digest_any (p : Pt) (v : Value) (b : List UInt8) (w : World) (ok : PtOk p) (hs : Sl w v b.length (bvs b)) (hv : ∀ k, v.ownBlock = some k → k < w.heap.size) (hlen : b.length ≤ 900000) (hk : Lk w) :
    Ret Tryd.prog 70 #[.agg (pt p), v] w fun v' w' => v' = .agg (bvs (digS p b)).toArray ∧ Ch Nw w w' := by
  refine v_enter Tryd.func70 Tryd.ntmps70 rfl (by simp) fun R' hR => ?_
  obtain ⟨Z, hZ⟩ : ∃ z, (bvs (zb 32)).toArray = z := ⟨_, rfl⟩
  have hzc : zc Tryd.prog 25 = Z := by rw [← hZ]; kernel_rfl
  have hzz : (Tryd.prog.info? 25).map (fun i => i.zero.isSome) = some true := by kernel_rfl
  have hZs : Z.size = 32 := by rw [← hZ]; simp [bvs_length, zb_length]
  have hpl := putP_length ok
  simp [go_sem, hzc, hzz]
  have c1 := ((Ch.refl Nw w).alloc (.cells (pt p) 28)).alloc (.cells Z 25)
  have b0 := ((Ch.refl Nw (w.alloc (.cells (pt p) 28))).alloc (.cells Z 25)).hp (hp_alloc w (.cells (pt p) 28)) id
  have b4 := hp_alloc (w.alloc (.cells (pt p) 28)) (.cells Z 25)
  rw [show (w.alloc (.cells (pt p) 28)).heap.size = w.heap.size + 1 by simp] at b4
  revert c1 b0 b4
  generalize (w.alloc (.cells (pt p) 28)).alloc (.cells Z 25) = w1
  generalize hq0 : w.heap.size = q0 at *
  intro c1 b0 b4
  refine (newsha_any w1).mono ?_
  rintro _ w2 ⟨rfl, hH, c2⟩
  have hg1 : q0 + 1 < w1.heap.size := lt_of_block b4
  generalize w1.heap.size = g at *
  have b0' := c2.hp b0 id
  have hps := pt_size ok
  have hpa := pt_all ok
  simp [go_sem, b0', hps, hpa]
  refine (pput_any (.slice none 0 0) 0 [] p w2 ok (by decide) rfl (World.ownsRow_nil _ _ _ _)).mono ?_
  rintro s1 w3 ⟨h1, h2, h3⟩
  have c3 : Ch Nw w2 w3 := h2.mono fun k _ e => by simp [Value.ownBlock] at e
  have hH3 := hH.ch c3
  have hs1 := Sl.of_own h1
  rw [List.nil_append, Nat.zero_add] at hs1
  have hgl2 : g < w2.heap.size := by obtain ⟨_, _, _, h, _⟩ := hH; exact lt_of_block h
  have hs1o : s1.ownBlock ≠ some g := by
    rcases h3 with h3 | h3
    · rw [h3]; simp [Value.ownBlock]
    · intro h
      have := h3 g h
      omega
  obtain ⟨s2, hs2, ho2, _, hr2, _⟩ := hs1.cut tyB (by simp [bvs_length, hpl]) 0 16 (by decide) (by decide)
  replace hr2 : ∀ w', (Instr.sliceAt 29 s1 none (some (.int .i64 16)) none).run Tryd.prog w' = .ok s2 w' := hr2 rfl
  have hl16 : ((putP p).take 16).length = 16 := by rw [List.length_take]; omega
  have hs2 : Sl w3 s2 ((putP p).take 16).length (bvs ((putP p).take 16)) := by
    rw [hl16, bvs, List.map_take]
    simpa [bvs] using hs2
  have c13 := (c1.trans c2).trans c3
  have hgk : g ≠ 2 := by have := hk.lt; omega
  simp [go_sem, hr2]
  refine (write_any g [] s2 ((putP p).take 16) w3 hH3 hs2 (by rw [ho2]; exact hs1o) (by rw [hl16]; decide) (hk.ch c13 id) hgk).mono ?_
  rintro _ w4 ⟨rfl, hH4, c4⟩
  rw [List.nil_append] at hH4
  have hvg : ∀ k, v.ownBlock = some k → ¬ only g k := fun k hk' e => by
    have := hv k hk'
    simp only [only] at e
    omega
  have c14 : Ch Nw w w4 := c13.trans' c4 fun j hj e => by simp only [only] at e; omega
  simp [go_sem]
  refine (write_any g _ v b w4 hH4 ((hs.ch c14 fun _ _ e => e)) (fun h => hvg g h rfl) (by rw [hl16]; omega) (hk.ch c14 id) hgk).mono ?_
  rintro _ w5 ⟨rfl, hH5, c5⟩
  have c15 : Ch Nw w w5 := c14.trans' c5 fun j hj e => by simp only [only] at e; omega
  simp [go_sem]
  refine (sum_any g _ w5 hH5 (by rw [List.length_append, hl16]; omega) (hk.ch c15 id) hgk).mono ?_
  rintro _ w6 ⟨rfl, c6⟩
  have hb4 := c6.hp (c5.hp (c4.hp (c3.hp (c2.hp b4 id) id) (by simp only [only]; omega)) (by simp only [only]; omega)) id
  rw [show shaS ((putP p).take 16 ++ b) = digS p b from rfl]
  obtain ⟨Y, hY⟩ : ∃ z, (bvs (digS p b)).toArray = z := ⟨_, rfl⟩
  have hYs : Y.size = 32 := by rw [← hY]; simp [bvs_length, digS_length]
  have hYo : ones Y = true := by rw [← hY]; exact ones_bvs _
  have hYa : Y.extract 0 32 = Y := by rw [show (32 : Nat) = Y.size from hYs.symm]; simp
  rw [hY] at hR ⊢
  have b9 : (w6.setRow (q0 + 1) Y).heap[q0 + 1]? = some (.cells Y 25 (0, 0)) := by rw [hp_setRow, hb4]; rfl
  simp [go_sem, hb4, hYs, hYa, hZs, hYo, blit_whole, b9]
  exact hR _ _ ⟨rfl, (c15.trans c6).setRow (g := q0 + 1) (.inr (by omega)) _⟩
/-- the pointer that a block fits -/
def sealP (p : Pt) (b : List UInt8) : Pt := { p with h := digS p b }
theorem sealP_ok {p : Pt} (ok : PtOk p) (b : List UInt8) : PtOk (sealP p b) := ⟨ok.k, ok.l, ok.o, ok.f, ok.b, digS_length p b, ok.a, ok.at'⟩
theorem fits_any (p : Pt) (v : Value) (b : List UInt8) (w : World) (ok : PtOk p) (hs : Sl w v b.length (bvs b)) (hv : ∀ k, v.ownBlock = some k → k < w.heap.size) (hlen : b.length ≤ 900000) (hk : Lk w) :
    Ret Tryd.prog 42 #[.agg (pt p), v] w fun v' w' => v' = .bool (decide (b.length = 512) && decide (digS p b = p.h)) ∧ Ch Nw w w' := by
  refine v_enter Tryd.func42 Tryd.ntmps42 rfl (by simp) fun R' hR => ?_
  have hps := pt_size ok
  have hpa := pt_all ok
  have hln := hs.len Tryd.underlying29 3
  have c1 := (Ch.refl Nw w).alloc (.cells (pt p) 28)
  have b0 := hp_alloc w (.cells (pt p) 28)
  simp [go_sem, hps, hpa]
  revert c1 b0
  generalize w.alloc (.cells (pt p) 28) = w1
  generalize hq0 : w.heap.size = q0 at *
  intro c1 b0
  refine v_draw' [(0, none), (1, none), (2, none), (3, none), (4, none), (5, none), (7, none), (8, none), (6, some [7, 8]), (9, none), (10, none), (11, none)] (by kernel_rfl) (by kernel_rfl) ?_
  have b0d : w1.drew.heap[q0]? = some (.cells (pt p) 28 (0, 0)) := b0
  have hph := pt_h ok
  by_cases h5 : b.length = 512
  · have h5' : ((b.length : Int) == 512) = true := by rw [h5]; rfl
    simp [go_sem, hln, h5', b0, b0d, hps, hpa, hph]
    have hv1 : ∀ k, v.ownBlock = some k → k < w1.heap.size := fun k h => by have := hv k h; have := c1.size; omega
    refine (digest_any p v b w1.drew ok (hs.ch c1.drew fun _ _ e => e) hv1 hlen (hk.ch c1.drew id)).mono ?_
    rintro _ w2 ⟨rfl, c2⟩
    have b2 := c2.hp b0d id
    have heq : ∀ w, (Op.equalIn 10000 25 (.agg (bvs (digS p b)).toArray) (.agg (bvs p.h).toArray)).run Tryd.prog w = .ok (decide (digS p b = p.h)) w := fun w => run_equalIn_bvs w 9998 _ _ 32 Tryd.underlying25 Tryd.underlying5 Tryd.sizeOf5 Tryd.isAgg5 _ _ (digS_length p b) ok.h
    simp [go_sem, b2, hps, hph, heq, h5]
    exact hR _ _ ⟨by simp [h5], c1.drew.trans c2⟩
  · have h5' : ((b.length : Int) == 512) = false := beq_false_of_ne (by omega)
    simp [go_sem, hln, h5', h5]
    exact hR _ _ ⟨by simp [h5], c1.drew⟩
end Go.Proofs.YtppilgkgnofkpaaDoor

namespace Go.Proofs.YtppilgkgnofkpaaDoor
open Go.RowKit Go.Kin

/-- a shelf: blocks, addresses that aren't read, what was made, what is old, the room, what was asked -/
structure Shf where
  bl : List (List UInt8)
  bad : List Nat
  made : List Pt
  gone : List Pt
  room : Int
  red : List Pt
def Shf.more (s : Shf) (l : List Pt) : Shf := { s with red := s.red ++ l }
def shRd (s : Shf) (p : Pt) : Shf × List UInt8 × Int :=
  if s.bad.contains (p.a.getD 0 0) then (s.more [p], [], 21)
  else if p.a.getD 0 0 = 0 ∨ s.bl.length < p.a.getD 0 0 then (s.more [p], [], 6)
  else (s.more [p], s.bl.getD (p.a.getD 0 0 - 1) [], 0)
def shq (n : Nat) (p : Pt) : Pt := { p with b := n, a := [n, 0, 0, 0] }
def shp (n : Nat) (p : Pt) (b : List UInt8) : Pt := { shq n p with h := digS (shq n p) b }
def shNw (s : Shf) (p : Pt) (b : List UInt8) : Shf × Pt × Int :=
  if s.room = 0 ∨ 30000 ≤ s.bl.length then (s, ptz, 30)
  else ({ s with room := max (s.room - 1) (-1), bl := s.bl ++ [b], made := s.made ++ [shp (s.bl.length + 1) p b] }, shp (s.bl.length + 1) p b, 0)
def shOd (s : Shf) (p : Pt) : Shf := { s with gone := s.gone ++ [p] }
@[simp] theorem Shf.more_nil (s : Shf) : s.more [] = s := by simp [Shf.more]
@[simp] theorem Shf.more_more (s : Shf) (a b : List Pt) : (s.more a).more b = s.more (a ++ b) := by simp [Shf.more]
@[simp] theorem Shf.more_bl (s : Shf) (a : List Pt) : (s.more a).bl = s.bl := rfl
@[simp] theorem Shf.more_bad (s : Shf) (a : List Pt) : (s.more a).bad = s.bad := rfl
@[simp] theorem Shf.more_made (s : Shf) (a : List Pt) : (s.more a).made = s.made := rfl
@[simp] theorem Shf.more_gone (s : Shf) (a : List Pt) : (s.more a).gone = s.gone := rfl
@[simp] theorem Shf.more_room (s : Shf) (a : List Pt) : (s.more a).room = s.room := rfl
@[simp] theorem Shf.more_red (s : Shf) (a : List Pt) : (s.more a).red = s.red ++ a := rfl

/-- what a pointer's block says -/
structure RsT (bl : List (List UInt8)) (p : Pt) (n : List Pt) : Prop where
  okn : NdOk n
  all : n.all okP = true
  okp : PtOk p
  at' : (p = ptz ∧ n = ndz) ∨ (p ≠ ptz ∧ n ≠ ndz ∧ ∃ i, p.a.getD 0 0 = i + 1 ∧ bl[i]? = some (bytesN n))
theorem RsT.z (bl : List (List UInt8)) : RsT bl ptz ndz := ⟨ndz_ok, by decide, ptz_ok, .inl ⟨rfl, rfl⟩⟩
theorem RsT.iff {bl : List (List UInt8)} {p : Pt} {n : List Pt} (h : RsT bl p n) : p = ptz ↔ n = ndz := by
  rcases h.at' with ⟨h1, h2⟩ | ⟨h1, h2, _⟩
  · exact ⟨fun _ => h2, fun _ => h1⟩
  · exact ⟨fun e => absurd e h1, fun e => absurd e h2⟩
theorem RsT.ext {bl bl' : List (List UInt8)} {p : Pt} {n : List Pt} (h : RsT bl p n) (he : ∃ l, bl' = bl ++ l) : RsT bl' p n := by
  obtain ⟨l, rfl⟩ := he
  refine ⟨h.okn, h.all, h.okp, h.at'.imp id ?_⟩
  rintro ⟨h1, h2, i, h3, h4⟩
  refine ⟨h1, h2, i, h3, ?_⟩
  rw [List.getElem?_append_left (List.getElem?_eq_some_iff.1 h4).1]
  exact h4
theorem RsT.read {s : Shf} {p : Pt} {n : List Pt} (h : RsT s.bl p n) (hb : s.bad.contains (p.a.getD 0 0) = false) : tread shRd s p = (s.more (if p = ptz then [] else [p]), n, 0) := by
  unfold tread
  rcases h.at' with ⟨rfl, rfl⟩ | ⟨h1, h2, i, h3, h4⟩
  · simp
  · have hlt := (List.getElem?_eq_some_iff.1 h4).1
    have e : shRd s p = (s.more [p], bytesN n, 0) := by
      unfold shRd
      rw [hb, if_neg (by decide), if_neg (by rw [h3]; omega), h3, Nat.add_sub_cancel, List.getD_eq_getElem?_getD, h4]
      rfl
    rw [if_neg h1, e]
    simp [nd8_put h.okn h.all, h1]
/-- the pointers of eight leaves -/
def slT (g : Nat) (h : List Pt) : List Pt := (h.drop (8 * g)).take 8
theorem slT_get {g k : Nat} {h : List Pt} (hk : k < 8) : (slT g h).getD k ptz = h.getD (8 * g + k) ptz := by
  unfold slT
  rw [List.getD_eq_getElem?_getD, List.getElem?_take, if_pos hk, List.getElem?_drop, ← List.getD_eq_getElem?_getD]
theorem slT_len {g : Nat} {h : List Pt} (hl : h.length = 64) (hg : g < 8) : (slT g h).length = 8 := by
  unfold slT
  simp [hl]
  omega
structure GpT (bl : List (List UInt8)) (g : Nat) (p : Pt) (n : List Pt) : Prop where
  rs : RsT bl p n
  tag : p ≠ ptz → p.k = 3 ∧ p.l = 1 ∧ p.f = g
  bb : p.b ≤ bl.length
  ok : okP p = true
theorem GpT.ext {bl bl' : List (List UInt8)} {g : Nat} {p : Pt} {n : List Pt} (h : GpT bl g p n) (he : ∃ l, bl' = bl ++ l) : GpT bl' g p n := by
  refine ⟨h.rs.ext he, h.tag, ?_, h.ok⟩
  obtain ⟨l, rfl⟩ := he
  have := h.bb
  rw [List.length_append]
  omega
/-- a tree tells a map -/
structure TreeP (bl : List (List UInt8)) (root : Pt) (top h : List Pt) : Prop where
  rs : RsT bl root top
  tag : root ≠ ptz → root.k = 3 ∧ root.l = 2
  bb : root.b ≤ bl.length
  may : mayT root = true
  gr : ∀ g, g < 8 → GpT bl g (top.getD g ptz) (slT g h)
  hl : h.length = 64
  lf : ∀ x ∈ h, x = ptz ∨ x.k = 1
theorem TreeP.ext {bl bl' : List (List UInt8)} {root : Pt} {top h : List Pt} (t : TreeP bl root top h) (he : ∃ l, bl' = bl ++ l) : TreeP bl' root top h := by
  refine ⟨t.rs.ext he, t.tag, ?_, t.may, fun g hg => (t.gr g hg).ext he, t.hl, t.lf⟩
  obtain ⟨l, rfl⟩ := he
  have := t.bb
  rw [List.length_append]
  omega
theorem ndz_get (g : Nat) : ndz.getD g ptz = ptz := by
  unfold ndz
  rw [List.getD_eq_getElem?_getD, List.getElem?_replicate]
  split <;> rfl
theorem TreeP.z (bl : List (List UInt8)) : TreeP bl ptz ndz (List.replicate 64 ptz) := by
  refine ⟨RsT.z bl, fun h => absurd rfl h, Nat.zero_le _, by decide, fun g hg => ?_, List.length_replicate, fun x hx => .inl (List.mem_replicate.1 hx).2⟩
  have e : slT g (List.replicate 64 ptz) = ndz := by
    unfold slT ndz
    rw [List.drop_replicate, List.take_replicate, Nat.min_eq_left (by omega)]
  rw [ndz_get, e]
  exact ⟨RsT.z bl, fun h => absurd rfl h, Nat.zero_le _, rfl⟩
/-- a leaf of a tree -/
theorem TreeP.get {s : Shf} {root : Pt} {top h : List Pt} (t : TreeP s.bl root top h) (hb : s.bad = []) {off : Nat} (ho : off < 64) : ∃ l, l.length ≤ 2 ∧ tget shRd s root off = (s.more l, h.getD off ptz, 0) := by
  have hb' : ∀ a, s.bad.contains a = false := fun a => by rw [hb]; rfl
  unfold tget
  rw [t.may, decide_eq_true ho]
  simp only [Bool.and_self, if_true]
  have e1 := t.rs.read (hb' _)
  have g := t.gr (off / 8) (by omega)
  have e2 := RsT.read (s := s.more (if root = ptz then [] else [root])) g.rs (hb' _)
  refine ⟨(if root = ptz then [] else [root]) ++ (if top.getD (off / 8) ptz = ptz then [] else [top.getD (off / 8) ptz]), by split <;> split <;> simp, ?_⟩
  unfold tgo
  rw [e1]
  simp only [ne_eq, not_true_eq_false, if_false, if_true]
  unfold tgo
  rw [e2]
  simp only [ne_eq, not_true_eq_false, if_false, show ¬ (0 = 1) by decide]
  unfold tgo
  rw [slT_get (by omega), show 8 * (off / 8) + off % 8 = off by omega, Shf.more_more]
/-- the leaves of a map, the nodes of a tree -/
def lvsOf (h : List Pt) (k : Nat) : List (Nat × Pt) := (List.range k).filterMap fun off => if h.getD off ptz = ptz then none else some (off, h.getD off ptz)
def nodesOf (root : Pt) (top : List Pt) : List Pt := if root = ptz then [] else root :: top.filter (fun p => decide (p ≠ ptz))
theorem lvsOf_step (h : List Pt) (k : Nat) : lvsOf h (k + 1) = lvsOf h k ++ if h.getD k ptz = ptz then [] else [(k, h.getD k ptz)] := by
  unfold lvsOf
  rw [List.range_succ, List.filterMap_append]
  congr 1
  simp only [List.filterMap_cons, List.filterMap_nil]
  by_cases h : h.getD k ptz = ptz
  · simp only [if_pos h]
  · simp only [if_neg h]
theorem filterMap_cg {α β : Type} {f g : α → Option β} : ∀ {l : List α}, (∀ x ∈ l, f x = g x) → l.filterMap f = l.filterMap g
  | [], _ => rfl
  | x :: l, h => by
    rw [List.filterMap_cons, List.filterMap_cons, h x (by simp), filterMap_cg fun y hy => h y (by simp [hy])]
theorem lvsOf_grp (h : List Pt) : lvsOf h 64 = (List.range 8).flatMap fun g => tlvs g (slT g h) := by
  have e : List.range 64 = (List.range 8).flatMap fun g => (List.range 8).map (8 * g + ·) := by decide
  unfold lvsOf
  rw [e, List.filterMap_flatMap]
  congr 1
  funext g
  unfold tlvs
  rw [List.filterMap_map]
  apply filterMap_cg
  intro k hk
  have hk := List.mem_range.1 hk
  simp only [Function.comp_apply]
  rw [slT_get hk]
theorem lvsOf_len (h : List Pt) (k : Nat) : (lvsOf h k).length ≤ k := Nat.le_trans (List.length_filterMap_le _ _) (by simp)
theorem lvsOf_pre (h : List Pt) (k m : Nat) : ∃ l, lvsOf h (k + m) = lvsOf h k ++ l := by
  induction m with
  | zero => exact ⟨[], by simp⟩
  | succ m ih =>
    obtain ⟨l, hl⟩ := ih
    exact ⟨l ++ if h.getD (k + m) ptz = ptz then [] else [(k + m, h.getD (k + m) ptz)], by rw [← Nat.add_assoc, lvsOf_step, hl, List.append_assoc]⟩
theorem lvsOf_at {h : List Pt} {k n : Nat} (hk : k < n) (hz : h.getD k ptz ≠ ptz) : (lvsOf h n)[(lvsOf h k).length]? = some (k, h.getD k ptz) := by
  obtain ⟨l, hl⟩ := lvsOf_pre h (k + 1) (n - (k + 1))
  rw [show k + 1 + (n - (k + 1)) = n by omega, lvsOf_step, if_neg hz] at hl
  rw [hl, List.append_assoc, List.getElem?_append_right (Nat.le_refl _), Nat.sub_self]
  rfl
theorem TreeP.ok {bl : List (List UInt8)} {root : Pt} {top h : List Pt} (t : TreeP bl root top h) : ∀ p ∈ h, PtOk p := fun p hp => by
  obtain ⟨o, ho⟩ := List.mem_iff_getElem?.1 hp
  have hlt := (List.getElem?_eq_some_iff.1 ho).1
  rw [t.hl] at hlt
  have g := t.gr (o / 8) (by omega)
  have e := slT_get (g := o / 8) (h := h) (show o % 8 < 8 by omega)
  rw [show 8 * (o / 8) + o % 8 = o by omega, List.getD_eq_getElem?_getD, List.getD_eq_getElem?_getD, ho, List.getElem?_eq_getElem (by rw [slT_len t.hl (by omega)]; omega)] at e
  have e : (slT (o / 8) h)[o % 8]'(by rw [slT_len t.hl (by omega)]; omega) = p := e
  rw [← e]
  exact g.rs.okn.all _ (List.getElem_mem _)
theorem top_list {top : List Pt} (h : top.length = 8) : top = (List.range 8).map fun g => top.getD g ptz := by
  apply List.ext_getElem?
  intro i
  rw [List.getElem?_map]
  by_cases hi : i < 8
  · rw [List.getElem?_range hi, List.getElem?_eq_getElem (by omega)]
    simp [List.getElem?_eq_getElem (show i < top.length by omega)]
  · rw [List.getElem?_eq_none (by omega), List.getElem?_eq_none (by simp; omega)]
    rfl
theorem TreeP.all {s : Shf} {root : Pt} {top h : List Pt} (t : TreeP s.bl root top h) (hb : s.bad = []) : ∃ l, l.length ≤ 9 ∧ tall shRd s root = (s.more l, lvsOf h 64, nodesOf root top, 0) := by
  have hb' : ∀ a, s.bad.contains a = false := fun a => by rw [hb]; rfl
  have key : ∀ (L : List Nat), (∀ g ∈ L, g < 8) → ∀ (m : List Pt) (ls : List (Nat × Pt)) (ns : List Pt), ∃ l, l.length ≤ m.length + L.length ∧ twk shRd top L (s.more m) ls ns = (s.more l, ls ++ L.flatMap (fun g => tlvs g (slT g h)), ns ++ (L.map fun g => top.getD g ptz).filter (fun p => decide (p ≠ ptz)), 0) := by
    intro L
    induction L with
    | nil => intro _ m ls ns; exact ⟨m, by simp, by simp [twk]⟩
    | cons g L ih =>
      intro hL m ls ns
      have hg := hL g (by simp)
      have gp := t.gr g hg
      by_cases hp : top.getD g ptz = ptz
      · obtain ⟨l, hll, hl⟩ := ih (fun x hx => hL x (by simp [hx])) m ls ns
        refine ⟨l, by rw [List.length_cons]; omega, ?_⟩
        have e0 : slT g h = ndz := gp.rs.iff.1 hp
        unfold twk
        rw [if_pos hp, hl, List.flatMap_cons, e0, List.map_cons, List.filter_cons, hp]
        have e1 : tlvs g ndz = [] := by
          unfold tlvs
          rw [List.filterMap_eq_nil_iff]
          intro k _
          rw [ndz_get, if_pos rfl]
        rw [e1]
        simp
      · have e := RsT.read (s := s.more m) gp.rs (hb' _)
        rw [if_neg hp] at e
        obtain ⟨l, hll, hl⟩ := ih (fun x hx => hL x (by simp [hx])) (m ++ [top.getD g ptz]) (ls ++ tlvs g (slT g h)) (ns ++ [top.getD g ptz])
        refine ⟨l, by rw [List.length_append, List.length_singleton] at hll; rw [List.length_cons]; omega, ?_⟩
        unfold twk
        rw [if_neg hp, e]
        simp only [ne_eq, not_true_eq_false, if_false, Shf.more_more]
        rw [hl, List.flatMap_cons, List.map_cons, List.filter_cons, if_pos (decide_eq_true hp)]
        simp only [List.append_assoc, List.singleton_append]
  unfold tall
  rw [t.may]
  simp only [if_true]
  unfold twalk nodesOf
  by_cases hr : root = ptz
  · have ht := t.rs.iff.1 hr
    refine ⟨[], by simp, ?_⟩
    rw [if_pos hr, if_pos hr, lvsOf_grp]
    have e0 : (List.range 8).flatMap (fun g => tlvs g (slT g h)) = [] := by
      rw [List.flatMap_eq_nil_iff]
      intro g hg
      have gp := t.gr g (List.mem_range.1 hg)
      rw [ht, ndz_get] at gp
      rw [gp.rs.iff.1 rfl]
      unfold tlvs
      rw [List.filterMap_eq_nil_iff]
      intro k _
      rw [ndz_get, if_pos rfl]
    rw [e0]
    simp
  · have e1 := t.rs.read (hb' _)
    rw [if_neg hr] at e1
    obtain ⟨l, hll, hl⟩ := key (List.range 8) (fun g hg => List.mem_range.1 hg) [root] [] [root]
    refine ⟨l, by simpa using hll, ?_⟩
    rw [if_neg hr, if_neg hr, e1]
    simp only [ne_eq, not_true_eq_false, if_false]
    rw [hl]
    simp only [ne_eq, not_true_eq_false, if_false, List.nil_append, List.singleton_append]
    rw [lvsOf_grp, ← top_list t.rs.okn.len]
end Go.Proofs.YtppilgkgnofkpaaDoor
