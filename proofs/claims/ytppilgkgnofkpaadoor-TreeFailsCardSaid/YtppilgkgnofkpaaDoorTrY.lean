/- TreeMaps, walked. Conditions: the variables ptr.wide and tree.hole hold what the text lays; the arguments lie in the world. -/
import Derived.Test.YtppilgkgnofkpaaDoorTrX
set_option linter.unusedSimpArgs false
set_option linter.unusedVariables false

namespace Go.Proofs.YtppilgkgnofkpaaDoor
open Go.RowKit Go.Kin

theorem made64 : madeCells (pt ptz) (64 * 41) = rowsOf pt (List.replicate 64 ptz) := by
  have hz : ∀ p ∈ List.replicate 64 ptz, (pt p).size = 41 := fun p hp => by rw [(List.mem_replicate.1 hp).2]; exact pt_size ptz_ok
  have hs := rows_size (f := pt) (n := 41) hz
  rw [List.length_replicate] at hs
  have hzs := pt_size ptz_ok
  apply Array.ext_getElem?
  intro i
  by_cases h : i < 64 * 41
  · have hk : i / 41 < 64 := by omega
    have hx : (List.replicate 64 ptz)[i / 41]? = some ptz := by rw [List.getElem?_replicate, if_pos hk]
    have hm : i % 41 < (pt ptz).size := by rw [hzs]; omega
    have h2 : (pt ptz).toList[i % 41]? = some ((pt ptz)[i % 41]'hm) := by
      rw [Array.getElem?_toList, Array.getElem?_eq_getElem hm]
    have := rowsL_at (en := pt) hz hx h2
    rw [show i / 41 * 41 + i % 41 = i by omega] at this
    have e : (rowsOf pt (List.replicate 64 ptz))[i]? = (rowsL pt (List.replicate 64 ptz))[i]? := by
      rw [← Array.getElem?_toList]
      rfl
    rw [e, this]
    unfold madeCells
    rw [Array.getElem?_map, Array.getElem?_range, if_pos h, hzs]
    show some ((pt ptz)[i % 41]!) = _
    rw [getElem!_pos (pt ptz) (i % 41) hm]
  · rw [Array.getElem?_eq_none (by rw [size_madeCells]; omega), Array.getElem?_eq_none (by omega)]
def hs0 : List Pt := List.replicate 64 ptz
theorem mk64 (w : World) : (Instr.makeSlice 48 (.int .i64 64) (.int .i64 64)).run Tryd.prog w = .ok (.slice (some ⟨w.heap.size, 0, none⟩) 64 64) (w.alloc (.cells (rowsOf pt hs0) 28)) := by
  have h1 : (Tryd.prog.info? 28).isSome = true := by kernel_rfl
  obtain ⟨i, hi⟩ := Option.isSome_iff_exists.1 h1
  have h2 : (Tryd.prog.info? 28).map (·.size) = some 41 := by kernel_rfl
  have h3 : (Tryd.prog.info? 28).map (·.bytes) = some 56 := by kernel_rfl
  have h4 : (Tryd.prog.info? 28).bind (·.zero) = some (.agg (pt ptz)) := by kernel_rfl
  rw [hi] at h2 h3 h4
  simp at h2 h3 h4
  have := run_makeSlice (P := Tryd.prog) w 48 28 i _ Tryd.underlying48 hi h4 .i64 .i64 64 64 (by omega) (Int.le_refl _) (by rw [h2]; decide) (by rw [h3]; decide) (by omega)
  have e : madeCells (Value.agg (pt ptz)).cells (Int.toNat 64 * 41) = rowsOf pt (List.replicate 64 ptz) := made64
  rw [this, h2, e]
  rfl
theorem hs0_ok : ∀ p ∈ hs0, PtOk p := fun p hp => by rw [(List.mem_replicate.1 hp).2]; exact ptz_ok
/-- a row's place is set -/
theorem PtLst.put {w : World} {b off c : Nat} {cs : Array Value} {T : TypeId} {l : List Pt} (h : PtLst w (.slice (some ⟨b, off, none⟩) l.length c) l) (hin : ∀ p ∈ l, PtOk p) (hb : w.heap[b]? = some (.cells cs T (0, 0))) {i : Nat} (hi : i < l.length) {p : Pt} (ok : PtOk p) :
    off + i * 41 + 41 ≤ cs.size ∧ PtLst (w.setRow b (blit cs (off + i * 41) (pt p))) (.slice (some ⟨b, off, none⟩) (l.set i p).length c) (l.set i p) := by
  have hps := pt_size ok
  have helm : ∀ (j : Nat) (q : Pt), l[j]? = some q → cs.extract (off + j * 41) (off + j * 41 + 41) = pt q ∧ off + j * 41 + 41 ≤ cs.size := fun j q hj => by
    obtain ⟨b', off', c', cs', T', fr', h1, h2, h3, h4⟩ := h.elem (by decide) (fun q hq => pt_size (hin q hq)) hj
    injection h1 with h1a _ _
    injection h1a with h1a
    injection h1a with h1b h1c
    subst h1b h1c
    rw [hb] at h2
    injection h2 with h2
    injection h2 with h2a
    subst h2a
    exact ⟨h3, h4⟩
  have hsz := (helm i l[i] (List.getElem?_eq_getElem hi)).2
  refine ⟨hsz, ?_⟩
  obtain ⟨A, c', e, h1, h2, h3⟩ := id h
  injection e with e1 _ e3
  subst e3
  refine ⟨_, c, rfl, by rw [List.length_set]; exact h1, h2, fun hp => ⟨b, off, rfl, ?_, fun j a k u hj hu => ?_⟩⟩
  · have := lt_of_block hb
    simpa using this
  · have hk : k < 41 := by
      have := (List.getElem?_eq_some_iff.1 hu).1
      rw [Array.length_toList] at this
      have ha : PtOk a := by
        rcases List.mem_or_eq_of_mem_set (List.mem_of_getElem? hj) with hm | rfl
        · exact hin a hm
        · exact ok
      rw [pt_size ha] at this
      exact this
    have hbb : (w.setRow b (blit cs (off + i * 41) (pt p))).heap[b]? = some (.cells (blit cs (off + i * 41) (pt p)) T (0, 0)) := by rw [hp_setRow, hb]; rfl
    rw [cell_blk hbb]
    have hbl : (blit cs (off + i * 41) (pt p)).toList = cs.toList.take (off + i * 41) ++ ((pt p).toList ++ cs.toList.drop (off + i * 41 + 41)) := by
      unfold blit
      simp [hps]
    have e2 : (blit cs (off + i * 41) (pt p))[off + j * 41 + k]? = (blit cs (off + i * 41) (pt p)).toList[off + j * 41 + k]? := by simp
    rw [e2, hbl]
    have hcl : cs.toList.length = cs.size := Array.length_toList
    have hpl : (pt p).toList.length = 41 := by rw [Array.length_toList, hps]
    by_cases hij : i = j
    · subst hij
      rw [List.getElem?_set_self (by omega)] at hj
      cases hj
      rw [List.getElem?_append_right (by simp; omega), List.getElem?_append_left (by simp [hps]; omega)]
      rw [List.length_take, hcl, Nat.min_eq_left (by omega), show off + i * 41 + k - (off + i * 41) = k by omega]
      exact hu
    · rw [List.getElem?_set_ne hij] at hj
      obtain ⟨hx, hz⟩ := helm j a hj
      have hold : cs.toList[off + j * 41 + k]? = some u := by
        have := congrArg (fun x => x[k]?) hx
        simp only [Array.getElem?_extract] at this
        rw [if_pos (by omega)] at this
        rw [← hu]
        simpa using this
      rcases Nat.lt_or_gt_of_ne hij with hlt | hgt
      · rw [List.getElem?_append_right (by simp; omega), List.getElem?_append_right (by simp [hps]; omega), List.length_take, hcl, Nat.min_eq_left (by omega), hpl, List.getElem?_drop,
          show off + i * 41 + 41 + (off + j * 41 + k - (off + i * 41) - 41) = off + j * 41 + k by omega]
        exact hold
      · rw [List.getElem?_append_left (by simp; omega), List.getElem?_take, if_pos (by omega)]
        exact hold
/-- tells, of what is kept -/
theorem Keep.out {W w0 w : World} {K : Nat → Prop} {A : HP} {l : List HP} {v : Value} {ns : List Pt} (h : Keep W w0 w K (SepL (Star A (PtR v ns) :: l))) (hA : HOk A) : w.ownsRow 0 28 41 v ns.length (rowsL pt ns) ∧ Ch (fun k => ¬ K k) w0 w ∧ Keep W w w (fun k => K k ∨ v.ownBlock = some k) (SepL (A :: l)) := by
  obtain ⟨O, ⟨O1, O2, ⟨Oa, Ob, a, b, dab, uab, _⟩, bl, d12, u12, lt⟩, hW, hK⟩ := h.ex
  have h0 := h.ck.size
  refine ⟨b.1, h.ck, ⟨⟨fun k => Oa k ∨ O2 k, ⟨Oa, O2, a, bl, fun k hk e => d12 k (uab k (.inl hk)) e, fun _ e => e, fun k hk => ?_⟩, fun k hk => ?_, fun k hk e => ?_⟩, fun k hk => ?_, Ch.refl _ _, h.ch⟩⟩
  · rcases hk with hk | hk
    · exact hA.lt a k hk
    · exact lt k (u12 k (.inr hk))
  · rcases hk with hk | hk
    · exact hW k (u12 k (.inl (uab k (.inl hk))))
    · exact hW k (u12 k (.inr hk))
  · rcases hk with hk | hk
    · exact hK k hk (u12 k (e.imp (fun e => uab k (.inl e)) id))
    · have hb := b.2.1 k hk
      rcases e with e | e
      · exact dab k e hb
      · exact d12 k (uab k (.inr hb)) e
  · rcases hk with hk | hk
    · have := h.lt k hk; omega
    · exact b.2.2 k (b.2.1 k hk)
theorem Keep.out2 {W w0 w : World} {K : Nat → Prop} {g gr : Nat} {s : Shf} {root : Pt} {roots : List Pt} {vro : Value} {mv : List Value} {vma v : Value} {ns : List Pt}
    (h : Keep W w0 w K (SepL ((Star (ShH g W (fun _ => False) s) (PtR v ns)) :: [Blk gr (pt root) 28, PtR vro roots, RowH 48 1 vma mv.length mv]))) :
    w.ownsRow 0 28 41 v ns.length (rowsL pt ns) ∧ Ch (fun k => ¬ K k) w0 w ∧ Keep W w w (fun k => K k ∨ v.ownBlock = some k) (MpH g gr W s root roots vro mv vma) := Keep.out h (ShH.ok _ _ _ _)
section
variable {g gr : Nat} {W : World} {s : Shf} {root : Pt} {roots : List Pt} {vro : Value} {mv : List Value} {vma : Value} {w w0 : World} {K : Nat → Prop}
theorem MpH.tells (h : Keep W w w K (MpH g gr W s root roots vro mv vma)) {r : Pt} {top c : List Pt} (tp : TreeP s.bl r top c) (hb : s.bad = []) (hm : 5000 ≤ shM s) (v : Value) (hl : PtLst w v c) (hv : ∀ k, v.ownBlock = some k → K k) (envW : TEnv W) :
    Ret Tryd.prog 23 #[.pointer (some ⟨g, 0, none⟩), .agg (pt r), v] w fun v' w' => ∃ vn l, v' = .tuple #[vn, .bool true] ∧ l.length ≤ 150 ∧ w'.ownsRow 0 28 41 vn (nodesOf r top).length (rowsL pt (nodesOf r top)) ∧ Ch (fun k => ¬ K k) w w' ∧ Keep W w' w' (fun k => K k ∨ vn.ownBlock = some k) (MpH g gr W (s.more l) root roots vro mv vma) := by
  obtain ⟨O, hS, hW, hK⟩ := h.ex
  have env := envW.ch h.ch fun _ _ e => e
  obtain ⟨O1, O2, a, b, d12, u12, lt⟩ := hS
  have hgW : ∀ k, glT k → ¬ O1 k := fun k hk e => by
    have := hW k (u12 k (.inl e))
    have := envW.lt k hk
    omega
  refine (ttells_any a tp hb hm v hl (fun j hj => ⟨fun e => hK j (hv j hj) (u12 j (.inl e)), h.lt j (hv j hj)⟩) env hgW).mono ?_
  rintro _ w' ⟨vn, l, O', rfl, own, h1, h2, h3, h4, h5⟩
  have hs := h4.size
  have hs0 := h.ch.size
  refine ⟨vn, l, rfl, h5, own, ?_, ?_⟩
  · exact h4.mono fun k _ e hk => hK k hk (u12 k (.inl e))
  · have b' := (SepL.ok fun H hH => MpH.ok' g gr W s root roots vro mv vma H (List.mem_cons_of_mem _ hH)).ch b h4 fun k hk e => d12 k e hk
    refine ⟨⟨fun k => O' k ∨ O2 k, ⟨O', O2, h1, b', fun k hk e => ?_, fun _ e => e, fun k hk => ?_⟩, fun k hk => ?_, fun k hk e => ?_⟩, fun k hk => ?_, Ch.refl _ _, h.ch.trans' h4 fun k hk e => by have := hW k (u12 k (.inl e)); omega⟩
    · rcases h2 k hk with hk | hk
      · exact d12 k hk e
      · have := lt k (u12 k (.inr e)); omega
    · rcases hk with hk | hk
      · exact (ShH.ok _ _ _ _).lt h1 k hk
      · have := lt k (u12 k (.inr hk)); omega
    · rcases hk with hk | hk
      · rcases h2 k hk with hk | hk
        · exact hW k (u12 k (.inl hk))
        · omega
      · exact hW k (u12 k (.inr hk))
    · rcases hk with hk | hk
      · have hkl := h.lt k hk
        rcases e with e | e
        · rcases h2 k e with e | e
          · exact hK k hk (u12 k (.inl e))
          · omega
        · exact hK k hk (u12 k (.inr e))
      · obtain ⟨a1, a2⟩ := h3 k hk
        rcases e with e | e
        · exact a1 e
        · have := lt k (u12 k (.inr e)); omega
    · rcases hk with hk | hk
      · have := h.lt k hk; omega
      · exact own_in own k hk
end
end Go.Proofs.YtppilgkgnofkpaaDoor
