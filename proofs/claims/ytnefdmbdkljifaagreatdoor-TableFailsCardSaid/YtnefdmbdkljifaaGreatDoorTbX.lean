/- TableMaps: what is kept while it runs. Conditions: the variables ptr.wide and tree.hole hold what the text lays. -/
import Derived.Test.YtnefdmbdkljifaaGreatDoorTbW
set_option linter.unusedSimpArgs false
set_option linter.unusedVariables false

namespace Go.Kin
open Go Go.RowKit
/-- blocks that are kept, changed by their owner -/
theorem Keep.mine {H : HP} {W w0 w w' : World} {K S : Nat → Prop} (h : Keep W w0 w K H) (hH : HOk H) (hc : Ch S w w') (hS : ∀ k, S k → K k ∧ W.heap.size ≤ k) : Keep W w' w' K H := by
  obtain ⟨O, a, b, c⟩ := h.ex
  exact ⟨⟨O, hH.ch a hc fun k hk e => c k (hS k e).1 hk, b, c⟩, fun k hk => Nat.lt_of_lt_of_le (h.lt k hk) (Nat.le_trans h.ck.size hc.size), Ch.refl _ _, h.ch.trans' hc fun k hk e => by have := (hS k e).2; omega⟩
end Go.Kin
namespace Go.Proofs.YtnefdmbdkljifaaGreatDoor
open Go.RowKit Go.Kin

theorem made256 : madeCells (ino inz) (256 * 44) = rowsOf ino (List.replicate 256 inz) := by
  have hz : ∀ p ∈ List.replicate 256 inz, (ino p).size = 44 := fun p hp => by rw [(List.mem_replicate.1 hp).2]; exact ino_size inz_ok
  have hs := rows_size (f := ino) (n := 44) hz
  rw [List.length_replicate] at hs
  have hzs := ino_size inz_ok
  apply Array.ext_getElem?
  intro i
  by_cases h : i < 256 * 44
  · have hk : i / 44 < 256 := by omega
    have hx : (List.replicate 256 inz)[i / 44]? = some inz := by rw [List.getElem?_replicate, if_pos hk]
    have hm : i % 44 < (ino inz).size := by rw [hzs]; omega
    have h2 : (ino inz).toList[i % 44]? = some ((ino inz)[i % 44]'hm) := by
      rw [Array.getElem?_toList, Array.getElem?_eq_getElem hm]
    have := rowsL_at (en := ino) hz hx h2
    rw [show i / 44 * 44 + i % 44 = i by omega] at this
    have e : (rowsOf ino (List.replicate 256 inz))[i]? = (rowsL ino (List.replicate 256 inz))[i]? := by
      rw [← Array.getElem?_toList]
      rfl
    rw [e, this]
    unfold madeCells
    rw [Array.getElem?_map, Array.getElem?_range, if_pos h, hzs]
    show some ((ino inz)[i % 44]!) = _
    rw [getElem!_pos (ino inz) (i % 44) hm]
  · rw [Array.getElem?_eq_none (by rw [size_madeCells]; omega), Array.getElem?_eq_none (by omega)]
def hv0 : List In := List.replicate 256 inz
theorem mk256 (w : World) : (Instr.makeSlice 38 (.int .i64 256) (.int .i64 256)).run Tryz.prog w = .ok (.slice (some ⟨w.heap.size, 0, none⟩) 256 256) (w.alloc (.cells (rowsOf ino hv0) 50)) := by
  have h1 : (Tryz.prog.info? 50).isSome = true := by kernel_rfl
  obtain ⟨i, hi⟩ := Option.isSome_iff_exists.1 h1
  have h2 : (Tryz.prog.info? 50).map (·.size) = some 44 := by kernel_rfl
  have h3 : (Tryz.prog.info? 50).map (·.bytes) = some 64 := by kernel_rfl
  have h4 : (Tryz.prog.info? 50).bind (·.zero) = some (.agg (ino inz)) := by kernel_rfl
  rw [hi] at h2 h3 h4
  simp at h2 h3 h4
  have := run_makeSlice (P := Tryz.prog) w 38 50 i _ Tryz.underlying38 hi h4 .i64 .i64 256 256 (by omega) (Int.le_refl _) (by rw [h2]; decide) (by rw [h3]; decide) (by omega)
  have e : madeCells (Value.agg (ino inz)).cells (Int.toNat 256 * 44) = rowsOf ino (List.replicate 256 inz) := made256
  rw [this, h2, e]
  rfl
theorem hv0_ok : ∀ p ∈ hv0, InOk p := fun p hp => by rw [(List.mem_replicate.1 hp).2]; exact inz_ok
/-- a row's place is set -/
theorem InLst.put {w : World} {b off c : Nat} {cs : Array Value} {T : TypeId} {l : List In} (h : InLst w (.slice (some ⟨b, off, none⟩) l.length c) l) (hin : ∀ p ∈ l, InOk p) (hb : w.heap[b]? = some (.cells cs T (0, 0))) {i : Nat} (hi : i < l.length) {p : In} (ok : InOk p) :
    off + i * 44 + 44 ≤ cs.size ∧ InLst (w.setRow b (blit cs (off + i * 44) (ino p))) (.slice (some ⟨b, off, none⟩) (l.set i p).length c) (l.set i p) := by
  have hps := ino_size ok
  have helm : ∀ (j : Nat) (q : In), l[j]? = some q → cs.extract (off + j * 44) (off + j * 44 + 44) = ino q ∧ off + j * 44 + 44 ≤ cs.size := fun j q hj => by
    obtain ⟨b', off', c', cs', T', fr', h1, h2, h3, h4⟩ := h.elem (by decide) (fun q hq => ino_size (hin q hq)) hj
    injection h1 with h1a _ _
    injection h1a with h1a
    injection h1a with h1b h1c
    subst h1b h1c
    rw [hb] at h2
    injection h2 with h2
    injection h2 with h2a
    subst h2a
    exact ⟨h3, h4⟩
  have hsz := (helm i l[i] (List.getElem?_eq_getElem hi)).2
  refine ⟨hsz, ?_⟩
  obtain ⟨A, c', e, h1, h2, h3⟩ := id h
  injection e with e1 _ e3
  subst e3
  refine ⟨_, c, rfl, by rw [List.length_set]; exact h1, h2, fun hp => ⟨b, off, rfl, ?_, fun j a k u hj hu => ?_⟩⟩
  · have := lt_of_block hb
    simpa using this
  · have hk : k < 44 := by
      have := (List.getElem?_eq_some_iff.1 hu).1
      rw [Array.length_toList] at this
      have ha : InOk a := by
        rcases List.mem_or_eq_of_mem_set (List.mem_of_getElem? hj) with hm | rfl
        · exact hin a hm
        · exact ok
      rw [ino_size ha] at this
      exact this
    have hbb : (w.setRow b (blit cs (off + i * 44) (ino p))).heap[b]? = some (.cells (blit cs (off + i * 44) (ino p)) T (0, 0)) := by rw [hp_setRow, hb]; rfl
    rw [cell_blk hbb]
    have hbl : (blit cs (off + i * 44) (ino p)).toList = cs.toList.take (off + i * 44) ++ ((ino p).toList ++ cs.toList.drop (off + i * 44 + 44)) := by
      unfold blit
      simp [hps]
    have e2 : (blit cs (off + i * 44) (ino p))[off + j * 44 + k]? = (blit cs (off + i * 44) (ino p)).toList[off + j * 44 + k]? := by simp
    rw [e2, hbl]
    have hcl : cs.toList.length = cs.size := Array.length_toList
    have hpl : (ino p).toList.length = 44 := by rw [Array.length_toList, hps]
    by_cases hij : i = j
    · subst hij
      rw [List.getElem?_set_self (by omega)] at hj
      cases hj
      rw [List.getElem?_append_right (by simp; omega), List.getElem?_append_left (by simp [hps]; omega)]
      rw [List.length_take, hcl, Nat.min_eq_left (by omega), show off + i * 44 + k - (off + i * 44) = k by omega]
      exact hu
    · rw [List.getElem?_set_ne hij] at hj
      obtain ⟨hx, hz⟩ := helm j a hj
      have hold : cs.toList[off + j * 44 + k]? = some u := by
        have := congrArg (fun x => x[k]?) hx
        simp only [Array.getElem?_extract] at this
        rw [if_pos (by omega)] at this
        rw [← hu]
        simpa using this
      rcases Nat.lt_or_gt_of_ne hij with hlt | hgt
      · rw [List.getElem?_append_right (by simp; omega), List.getElem?_append_right (by simp [hps]; omega), List.length_take, hcl, Nat.min_eq_left (by omega), hpl, List.getElem?_drop,
          show off + i * 44 + 44 + (off + j * 44 + k - (off + i * 44) - 44) = off + j * 44 + k by omega]
        exact hold
      · rw [List.getElem?_append_left (by simp; omega), List.getElem?_take, if_pos (by omega)]
        exact hold
theorem ShH.noMade {g : Nat} {W0 : World} {Bk : Nat → Prop} {s : Shf} {w : World} {O : Nat → Prop} (h : ShH g W0 Bk s w O) : ShH g W0 Bk { s with made := [] } (w.setCell ⟨g, 2, none⟩ (.slice none 0 0)) O ∧ Ch O w (w.setCell ⟨g, 2, none⟩ (.slice none 0 0)) := by
  obtain ⟨vB, vD, vM, vG, vR, lB, hgd, hlB, hS⟩ := h
  have sz : (w.setCell ⟨g, 2, none⟩ (.slice none 0 0)).heap.size = w.heap.size := by simp
  have hlO := hS.lt
  obtain ⟨h1, _⟩ := hS.move (i := 2) (w' := w) (H' := PtR (.slice none 0 0) []) (shL_ok _ _ _ _ _ _ _ _ _ _) rfl fun O1 h1 _ => ⟨⟨World.ownsRow_nil _ _ _ _, fun k hk => by simp [Value.ownBlock] at hk, Gr.lt h1.2.2 (Nat.le_refl _)⟩, Ch.refl _ _⟩
  have ok1 : ∀ H ∈ (shL g s vB vD vM vG vR lB W0 Bk).set 2 (PtR (.slice none 0 0) []), HOk H := fun H hH => by
    rcases List.mem_or_eq_of_mem_set hH with h | rfl
    · exact shL_ok _ _ _ _ _ _ _ _ _ _ H h
    · exact RowH.ok _ _ _ _ _
  have h1 := (SepL.ok ok1).weak h1 (fun k hk => Gr.refl hk) hlO
  obtain ⟨h3, k3⟩ := h1.move (i := 0) ok1 rfl fun O1 h1 _ => Blk.set h1 2 (.slice none 0 0)
  refine ⟨⟨vB, vD, .slice none 0 0, vG, vR, lB, ⟨fun p hp => (by cases hp), hgd.gone, hgd.red, hgd.bl, hgd.bln, hgd.r0, hgd.r1, hgd.badl⟩, hlB, ?_⟩, k3⟩
  exact (SepL.ok (shL_ok g { s with made := [] } vB vD (.slice none 0 0) vG vR lB W0 Bk)).weak h3 (fun k hk => hk.elim id fun e => by omega) fun k hk => by rw [sz]; exact hlO k hk
/-- maps, each read -/
def RoQ (K : Nat → Prop) (mv : List Value) (hs : List (List In)) (w : World) : Prop := ∀ (i : Nat) (v : Value) (h : List In), mv[i]? = some v → hs[i]? = some h → InLst w v h ∧ ∀ k, v.ownBlock = some k → K k
theorem RoQ.ch {K : Nat → Prop} {mv : List Value} {hs : List (List In)} {w w' : World} (h : RoQ K mv hs w) (hc : Ch (fun k => ¬ K k) w w') : RoQ K mv hs w' := fun i v l hv hl => ⟨(h i v l hv hl).1.ch hc fun b _ hb e => e ((h i v l hv hl).2 b hb), (h i v l hv hl).2⟩
theorem RoQ.mono {K K' : Nat → Prop} {mv : List Value} {hs : List (List In)} {w : World} (h : RoQ K mv hs w) (hK : ∀ k, K k → K' k) : RoQ K' mv hs w := fun i v l hv hl => ⟨(h i v l hv hl).1, fun k hk => hK k ((h i v l hv hl).2 k hk)⟩
theorem RoQ.push {K : Nat → Prop} {mv : List Value} {hs : List (List In)} {w : World} (h : RoQ K mv hs w) (hl : mv.length = hs.length) {v : Value} {l : List In} (hv : InLst w v l) (hK : ∀ k, v.ownBlock = some k → K k) : RoQ K (mv ++ [v]) (hs ++ [l]) w := fun i u m hu hm => by
  by_cases hi : i < mv.length
  · rw [List.getElem?_append_left hi] at hu
    rw [List.getElem?_append_left (by omega)] at hm
    exact h i u m hu hm
  · have e : i = mv.length := by
      have := (List.getElem?_eq_some_iff.1 hu).1
      simp at this
      omega
    subst e
    rw [List.getElem?_append_right (Nat.le_refl _), Nat.sub_self] at hu
    rw [hl, List.getElem?_append_right (Nat.le_refl _), Nat.sub_self] at hm
    cases hu
    cases hm
    exact ⟨hv, hK⟩
theorem tyIs : Ty1 Tryz.prog 39 38 (.slice none 0 0) 24 := ⟨Tryz.underlying39, by kernel_rfl, rfl⟩
def MqH (g gr : Nat) (W : World) (s : Shf) (root : Pt) (roots : List Pt) (vro : Value) (mv : List Value) (vma : Value) : HP :=
  SepL [ShH g W (fun _ => False) s, Blk gr (pt root) 37, PtR vro roots, RowH 38 1 vma mv.length mv]
theorem MqH.ok' (g gr : Nat) (W : World) (s : Shf) (root : Pt) (roots : List Pt) (vro : Value) (mv : List Value) (vma : Value) : ∀ H ∈ [ShH g W (fun _ => False) s, Blk gr (pt root) 37, PtR vro roots, RowH 38 1 vma mv.length mv], HOk H := fun H hH => by
  simp only [List.mem_cons, List.not_mem_nil, or_false] at hH
  rcases hH with rfl | rfl | rfl | rfl
  · exact ShH.ok _ _ _ _
  · exact Blk.ok _ _ _
  · exact RowH.ok _ _ _ _ _
  · exact RowH.ok _ _ _ _ _
theorem MqH.ok (g gr : Nat) (W : World) (s : Shf) (root : Pt) (roots : List Pt) (vro : Value) (mv : List Value) (vma : Value) : HOk (MqH g gr W s root roots vro mv vma) := SepL.ok (MqH.ok' g gr W s root roots vro mv vma)
section
variable {g gr : Nat} {W : World} {s : Shf} {root : Pt} {roots : List Pt} {vro : Value} {mv : List Value} {vma : Value} {w w0 : World} {K : Nat → Prop}
/-- a step of the shelf alone -/
theorem MqH.sh {f : FuncId} {args : Array Value} {R : Value → World → Prop} {s' : Shf} (h : Keep W w0 w K (MqH g gr W s root roots vro mv vma)) (hf : ∀ O, ShH g W (fun _ => False) s w O → (∀ k, O k → W.heap.size ≤ k) → (∀ k, K k → ¬ O k) → Ret Tryz.prog f args w fun v w' => R v w' ∧ ShH g W (fun _ => False) s' w' (Gr O w w') ∧ Ch O w w') :
    Ret Tryz.prog f args w fun v w' => R v w' ∧ Keep W w0 w' K (MqH g gr W s' root roots vro mv vma) :=
  h.step fun O hS hW hK => SepL.step (i := 0) hS (MqH.ok' g gr W s root roots vro mv vma) rfl (ShH.ok _ _ _ _) fun O1 h1 hO => hf O1 h1 (fun k hk => hW k (hO k hk)) fun k hk e => hK k hk (hO k e)
theorem MqH.get0 (h : Keep W w0 w K (MqH g gr W s root roots vro mv vma)) : ∃ O, ShH g W (fun _ => False) s w O ∧ (∀ k, O k → W.heap.size ≤ k) ∧ (∀ k, K k → ¬ O k) := by
  obtain ⟨O, a, b, c⟩ := h.ex
  obtain ⟨O1, h1, i1⟩ := SepL.get (i := 0) a rfl
  exact ⟨O1, h1, fun k hk => b k (i1 k hk), fun k hk e => c k hk (i1 k e)⟩
theorem MqH.rootB (h : Keep W w0 w K (MqH g gr W s root roots vro mv vma)) : w.heap[gr]? = some (.cells (pt root) 37 (0, 0)) ∧ ¬ K gr ∧ W.heap.size ≤ gr := by
  obtain ⟨O, a, b, c⟩ := h.ex
  obtain ⟨O1, h1, i1⟩ := SepL.get (i := 1) a rfl
  exact ⟨h1.1, fun e => c gr e (i1 gr h1.2.1), b gr (i1 gr h1.2.1)⟩
theorem MqH.rows (h : Keep W w0 w K (MqH g gr W s root roots vro mv vma)) : w.ownsRow 0 37 41 vro roots.length (rowsL pt roots) ∧ w.ownsRow 0 38 1 vma mv.length mv := by
  obtain ⟨O, a, b, c⟩ := h.ex
  obtain ⟨O1, h1, _⟩ := SepL.get (i := 2) a rfl
  obtain ⟨O2, h2, _⟩ := SepL.get (i := 3) a rfl
  exact ⟨h1.1, h2.1⟩
theorem MqH.setRoot (h : Keep W w0 w K (MqH g gr W s root roots vro mv vma)) (p : Pt) : Keep W w0 (w.setRow gr (pt p)) K (MqH g gr W s p roots vro mv vma) :=
  h.move fun O hS hW hK => SepL.move (i := 1) hS (MqH.ok' g gr W s root roots vro mv vma) rfl fun O1 h1 _ => by
    have c : Ch O1 w (w.setRow gr (pt p)) := (Ch.refl O1 w).setRow (.inl h1.2.1) _
    exact ⟨⟨by rw [hp_setRow, h1.1]; rfl, .inl h1.2.1, Gr.lt h1.2.2 c.size⟩, c⟩
theorem MqH.pushRoot {w' : World} {p : Pt} {v' : Value} (h : Keep W w0 w K (MqH g gr W s root roots vro mv vma)) (own : w'.ownsRow 0 37 41 v' (roots.length + 1) (rowsL pt roots ++ (pt p).toList)) (cl : Ch (fun k => vro.ownBlock = some k) w w') (ff : v'.ownBlock = vro.ownBlock ∨ Fresh w.heap.size v') :
    Keep W w0 w' K (MqH g gr W s root (roots ++ [p]) v' mv vma) :=
  h.move fun O hS hW hK => SepL.move (i := 2) hS (MqH.ok' g gr W s root roots vro mv vma) rfl fun O1 h1 _ => RowH.grown h1 (by rw [rows_one, List.length_append]; exact own) cl ff
theorem MqH.pushMap {w' : World} {v v' : Value} (h : Keep W w0 w K (MqH g gr W s root roots vro mv vma)) (own : w'.ownsRow 0 38 1 v' (mv.length + 1) (mv ++ [v])) (cl : Ch (fun k => vma.ownBlock = some k) w w') (ff : v'.ownBlock = vma.ownBlock ∨ Fresh w.heap.size v') :
    Keep W w0 w' K (MqH g gr W s root roots vro (mv ++ [v]) v') :=
  h.move fun O hS hW hK => SepL.move (i := 3) hS (MqH.ok' g gr W s root roots vro mv vma) rfl fun O1 h1 _ => RowH.grown h1 (by rw [List.length_append]; exact own) cl ff
theorem MqH.noMade (h : Keep W w0 w K (MqH g gr W s root roots vro mv vma)) : Keep W w0 (w.setCell ⟨g, 2, none⟩ (.slice none 0 0)) K (MqH g gr W { s with made := [] } root roots vro mv vma) :=
  h.move fun O hS hW hK => SepL.move (i := 0) hS (MqH.ok' g gr W s root roots vro mv vma) rfl fun O1 h1 _ => by
    obtain ⟨a, b⟩ := h1.noMade
    exact ⟨(ShH.ok _ _ _ _).weak a (fun k hk => .inl hk) (Gr.lt ((ShH.ok _ _ _ _).lt h1) b.size), b⟩
/-- steps of the law's shelf -/
theorem MqH.set (h : Keep W w0 w K (MqH g gr W s root roots vro mv vma)) (envW : TEnv W) (hm : 9000 ≤ shM s) (p : Pt) (ok : PtOk p) (lv : Value) (l : List (Nat × In)) (hl : Lst w lv itL 45 l) (hin : ∀ x ∈ l, ItOk x) (hlK : ∀ j, lv.ownBlock = some j → K j) (hll : l.length ≤ 1000) :
    Ret Tryz.prog 8 #[shV g, .agg (pt p), lv] w fun v' w' => (v' = .tuple #[.agg (pt (btset shRd shNw shOd s p l).2.1), .int .i64 (btset shRd shNw shOd s p l).2.2] ∧ PtOk (btset shRd shNw shOd s p l).2.1) ∧ Keep W w0 w' K (MqH g gr W (btset shRd shNw shOd s p l).1 root roots vro mv vma) :=
  MqH.sh (R := fun v' _ => v' = .tuple #[.agg (pt (btset shRd shNw shOd s p l).2.1), .int .i64 (btset shRd shNw shOd s p l).2.2] ∧ PtOk (btset shRd shNw shOd s p l).2.1) h fun O hS hW hK => (btset_any (shSnk g W fun _ => False) hm (ShH.ok _ _ _) hS p ok lv l hl hin (fun j hj => ⟨hK j (hlK j hj), Nat.lt_of_lt_of_le (h.lt j (hlK j hj)) h.ck.size⟩) hll (envW.ch h.ch fun _ _ e => e) (kept_gl envW hW)).mono fun v' w' ⟨h1, h2, h3, h4⟩ => ⟨⟨h1, h2⟩, h3, h4⟩
theorem MqH.tells (h : Keep W w0 w K (MqH g gr W s root roots vro mv vma)) (envW : TEnv W) {r : Pt} {top c : List Pt} {v : List In} (tp : TabP s.bl r top c v) (hb : s.bad = []) (hm : 10000 ≤ shM s) (vv : Value) (hl : InLst w vv v) (hv : ∀ k, vv.ownBlock = some k → K k) :
    Ret Tryz.prog 11 #[.pointer (some ⟨g, 0, none⟩), .agg (pt r), vv] w fun v' w' => ∃ l, v' = .tuple #[.int .i64 (blkN v : Nat), .bool true] ∧ l.length ≤ 900 ∧ Keep W w0 w' K (MqH g gr W (s.more l) root roots vro mv vma) := by
  have h2 := h.stepO (R := fun v' w' O' => ∃ l, v' = .tuple #[.int .i64 (blkN v : Nat), .bool true] ∧ l.length ≤ 900 ∧ MqH g gr W (s.more l) root roots vro mv vma w' O' ∧ (∀ k, O' k → W.heap.size ≤ k) ∧ (∀ k, K k → ¬ O' k)) (H' := fun _ _ => True) fun O hS hW hK => by
    obtain ⟨O1, O2, a, b, d, u, lt⟩ := hS
    have env := envW.ch h.ch fun _ _ e => e
    have hW1 : ∀ k, O1 k → W.heap.size ≤ k := fun k hk => hW k (u k (.inl hk))
    have hs0 := h.ch.size
    refine (ktells_gl a tp hb hm vv hl (fun j hj => ⟨fun e => hK j (hv j hj) (u j (.inl e)), Nat.lt_of_lt_of_le (h.lt j (hv j hj)) h.ck.size⟩) env (kept_gl envW hW1)).mono ?_
    rintro v' w' ⟨l, h1, h2, h3, h4⟩
    have hs := h3.size
    have hb2 := (SepL.ok (fun H hH => MqH.ok' g gr W s root roots vro mv vma H (by simp [hH]))).ch b h3 fun k hk e => d k e hk
    refine ⟨Gr O w w', ⟨l, h1, h4, ⟨_, O2, h2, hb2, fun k hk hk2 => ?_, fun k hk => ?_, Gr.lt lt hs⟩, fun k hk => hk.elim (hW k) fun e => by omega, fun k hk e => e.elim (hK k hk) fun e => by have := h.lt k hk; have := h.ck.size; omega⟩, trivial, fun _ hk => hk, h3.mono fun k _ hk => u k (.inl hk)⟩
    · rcases hk with hk | hk
      · exact d k hk hk2
      · have := lt k (u k (.inr hk2)); omega
    · rcases hk with (hk | hk) | hk
      · exact .inl (u k (.inl hk))
      · exact .inr hk
      · exact .inl (u k (.inr hk))
  refine h2.mono ?_
  rintro v' w' ⟨O', ⟨l, h1, h3, h4, h5, h6⟩, h7, h8, h9⟩
  exact ⟨l, h1, h3, ⟨O', h4, h5, h6⟩, h.lt, h9, (h7 (fun _ => False) fun _ e => e.elim).ch⟩
end
/-- an act's cells in a list -/
theorem tq_cells {W u : World} {va : Value} {L : List Tq} (ha : Lst W va tqL 1 L) (hc : Ch Nw W u) {i : Nat} {a : Tq} (hi : L[i]? = some a) : ∃ b off c, va = .slice (some ⟨b, off, none⟩) L.length c ∧ u.cell? ⟨b, off + i, none⟩ = some a.v := by
  obtain ⟨A, c, rfl, _, _, h3⟩ := ha
  obtain ⟨b, off, rfl, _, hr⟩ := h3 (by have := (List.getElem?_eq_some_iff.1 hi).1; omega)
  have := hr i a 0 _ hi rfl
  rw [Nat.mul_one, Nat.add_zero] at this
  exact ⟨b, off, c, rfl, hc.cell this id⟩
theorem btset_m {σ : Type} {H : σ → HP} {m : σ → Nat} {rd : Src σ} {nw : σ → Pt → List UInt8 → σ × Pt × Int} {od : σ → Pt → σ} {sv : Value} (hs : SnkOk H m rd nw od sv) (s : σ) (p : Pt) (l : List (Nat × In)) : m s ≤ m (btset rd nw od s p l).1 + 8400 := by
  have h1 := btgs_m hs p l (offsL l) s []
  have h2 := offsL_len l
  have h3 := btgs_len (rd := rd) (nw := nw) p l (offsL l) s []
  have h4 := tset_m hs 0 (btgs rd nw p l (offsL l) s []).1 p (btgs rd nw p l (offsL l) s []).2.1
  rw [List.length_nil] at h3
  unfold btset
  split
  · split
    · simp only; omega
    · omega
  · simp only; omega
theorem tyRin : TyS Tryz.prog 38 50 (.agg (ino inz)) 44 64 := ⟨Tryz.underlying38, by kernel_rfl, rfl, by decide⟩
theorem hz_lit : (Tryz.prog.info? 52).map (fun i => i.zero.isSome) = some true := by kernel_rfl
theorem zc_lit : zc Tryz.prog 52 = itv (0, inz) := by kernel_rfl
theorem setsG_mem {α : Type} {P : α → Prop} : ∀ (l : List (Nat × α)) (c : List α), (∀ x ∈ l, P x.2) → (∀ x ∈ c, P x) → ∀ x ∈ setsG c l, P x
  | [], c, _, h => h
  | y :: l, c, hl, h => setsG_mem l _ (fun x hx => hl x (by simp [hx])) fun x hx => by
    rcases List.mem_or_eq_of_mem_set hx with h1 | rfl
    · exact h x h1
    · exact hl y (by simp)
end Go.Proofs.YtnefdmbdkljifaaGreatDoor
