/- Mirrors are flushed, cleared; what they tell. No condition but on sizes. -/
import Derived.Test.YtppilgkgnofkpaaDoorMrH
set_option linter.unusedSimpArgs false
set_option linter.unusedVariables false

namespace Go.Proofs.YtppilgkgnofkpaaDoor
open Go.RowKit Go.Kin

theorem rowsL_len {α : Type} {f : α → Array Value} {n : Nat} (l : List α) (h : ∀ x ∈ l, (f x).size = n) : (rowsL f l).length = l.length * n := by
  have := rows_size (f := f) (n := n) (xs := l) h
  unfold rowsOf at this
  simpa using this
theorem rowsPt_one {l : List Pt} (h : ∀ q ∈ l, PtOk q) : ∀ u ∈ rowsL pt l, u.oneCell' = true := by
  intro u hu
  unfold rowsL at hu
  rw [List.mem_flatMap] at hu
  obtain ⟨x, hx, hu⟩ := hu
  have := pt_ones x
  unfold ones at this
  rw [Array.all_eq_true'] at this
  exact this u (by simpa using hu)
/-- slices.Clone at pointers: a row of the call's own. -/
theorem cloneP_any (v : Value) (l : List Pt) (w : World) (hn : l.length ≤ 1000000) (ok : ∀ q ∈ l, PtOk q) (hs : w.ownsRow 0 28 41 v l.length (rowsL pt l)) :
    Ret Tryd.prog 46 #[v] w fun v' w' => MineS 28 41 w v' l.length (rowsL pt l) w' := by
  refine v_enter Tryd.func46 Tryd.ntmps46 rfl (by simp) fun R' hR => ?_
  rcases id hs.2 with ⟨hv, h0⟩ | ⟨g, cap, cur, hv, _, hg, h1, h2, h3, h4⟩
  · subst hv
    have hb := fun w => Lib.run_eql_slice_nil (P := Tryd.prog) w 48 28 none 0 0 0 0 Tryd.underlying48
    simp [go_sem, hb]
    exact hR _ _ ⟨hs, Ch.refl _ _, fun k hk => by simp [Value.ownBlock] at hk⟩
  · subst hv
    have hb := fun w => Lib.run_eql_slice_nil (P := Tryd.prog) w 48 28 (some ⟨g, 0, none⟩) l.length cap 0 0 Tryd.underlying48
    simp [go_sem, hb]
    have hlen : (rowsL pt l).length = l.length * 41 := rowsL_len l fun x hx => pt_size (ok x hx)
    refine VB_appS tyPt (news := rowsL pt l) (World.ownsRow_made w #[] 0 (Nat.zero_le _) (Nat.zero_le _) rfl) hlen (fun j u hu => ?_) (rowsPt_one ok) (by unfold maxLen; omega) (by omega) fun v' w' k1 k2 k3 => ?_
    · have := hs.cells (g := g) rfl j u hu
      exact ((Ch.refl Nw w).alloc _).cell this id
    simp [go_sem]
    refine hR _ _ ⟨by simpa using k1, ((Ch.refl Nw w).alloc _).trans' k2 fun j hj e => ?_, ?_⟩
    · simp [Value.ownBlock] at e; omega
    · rcases k3 with k3 | k3
      · intro k hk
        rw [k3] at hk
        simp [Value.ownBlock] at hk
        omega
      · exact k3.mono (by simp)
section
variable {w w' : World} {m p n i : Nat} {z : Mz} {s : Mr} {O : Nat → Prop} {c : Nat}
theorem Mr.Fine.flush1 (h : s.Fine c) (d : Nat) : (s.flush1 d).1.Fine c := by
  unfold Mr.flush1
  refine ⟨?_, fun i hi => ?_, fun i hi => ?_, h.found, h.mended, h.moves⟩
  · show (if (s.dk d).able s.P then s.P.step else s.P).fuse ≤ _
    split
    · exact Pwr.step_fuse h.fuse (by decide)
    · exact h.fuse
  · by_cases e : i = d
    · subst e
      simp only [upd1_same]
      split
      · simp [Dk.flush]
      · exact h.cache _ hi
    · simp only [upd1_ne _ _ e]; exact h.cache _ hi
  · by_cases e : i = d
    · subst e
      simp only [upd1_same]
      split
      · rw [flush_astray]; exact h.astray _ hi
      · exact h.astray _ hi
    · simp only [upd1_ne _ _ e]; exact h.astray _ hi
theorem MrAt.dcell (h : MrAt w m p n z s O) (hi : i < 2) : w.cell? ⟨m, i, none⟩ = some (.pointer (some ⟨z.d i, 0, none⟩)) := by
  obtain ⟨mv, A, hP, _⟩ := h
  rw [cell_blk hP.blk]
  rcases lt2 hi with rfl | rfl <;> rfl
theorem mflush_any (h : MrAt w m p n z s O) (fine : s.Fine c) (hc : c ≤ 800000) :
    Ret Tryd.prog 14 #[.pointer (some ⟨m, 0, none⟩)] w fun v' w' => v' = .int .i64 s.flush.2 ∧ MrAt w' m p n z s.flush.1 (Gr O w w') ∧ Ch O w w' := by
  refine v_enter Tryd.func14 Tryd.ntmps14 rfl (by simp) fun R' hR => ?_
  have h1 := h.ch (Ch.refl Nw w).drew fun _ _ e => e
  have hl := h.lt
  simp [go_sem]
  refine v_draw' [(0, none), (1, none), (2, none), (3, none), (4, none), (6, none), (7, none), (8, none), (9, none), (10, none), (5, some [6, 7, 8, 9, 10]), (11, some []), (12, none), (13, none)] (by kernel_rfl) (by kernel_rfl) ?_
  have c0 : w.cell? ⟨m, 0, none⟩ = some (.pointer (some ⟨z.d 0, 0, none⟩)) := h.dcell (by omega)
  have c1 : w.cell? ⟨m, 1, none⟩ = some (.pointer (some ⟨z.d 1, 0, none⟩)) := h.dcell (by omega)
  simp [go_sem, c0, c1]
  obtain ⟨E0, hE0⟩ : ∃ E : Int, (if (s.dk 0).able s.P && s.P.made then 0 else 3) = E := ⟨_, rfl⟩
  obtain ⟨E1, hE1⟩ : ∃ E : Int, (if ((s.flush1 0).1.dk 1).able (s.flush1 0).1.P && (s.flush1 0).1.P.made then 0 else 3) = E := ⟨_, rfl⟩
  refine (h1.disk (i := 0) (by omega) (R := fun v' _ => v' = .int .i64 E0) fun B hB hBO => (hB.flush fine.fuse (by have := fine.cache 0 (by omega); omega)).mono fun v' w' hh => ⟨hh.1.trans (by rw [hE0]), hh.2.1, hh.2.2⟩).mono ?_
  rintro _ w2 ⟨rfl, h2, k2⟩
  have k2' : Ch O w w2 := Ch.of_drew k2
  have h2' : MrAt w2 m p n z (s.flush1 0).1 (Gr O w w2) := h2
  have f2 := fine.flush1 0
  have e0 : w2.cell? ⟨m, 1, none⟩ = some (.pointer (some ⟨z.d 1, 0, none⟩)) := h2'.dcell (by omega)
  simp [go_sem, e0]
  refine (h2'.disk (i := 1) (by omega) (R := fun v' _ => v' = .int .i64 E1) fun B hB hBO => (hB.flush f2.fuse (by have := f2.cache 1 (by omega); omega)).mono fun v' w' hh => ⟨hh.1.trans (by rw [hE1]), hh.2.1, hh.2.2⟩).mono ?_
  rintro _ w3 ⟨rfl, h3, k3⟩
  have h3' : MrAt w3 m p n z s.flush.1 (Gr (Gr O w w2) w2 w3) := h3
  have hres : s.flush.2 = if (s.flush1 0).2 || (((s.flush1 0).1).flush1 1).2 then 0 else 21 := rfl
  have hr0 : ((s.dk 0).able s.P && s.P.made) = (s.flush1 0).2 := rfl
  have hr1 : (((s.flush1 0).1.dk 1).able (s.flush1 0).1.P && (s.flush1 0).1.P.made) = (((s.flush1 0).1).flush1 1).2 := rfl
  rw [hr0] at hE0
  rw [hr1] at hE1
  have fin : R' (.int .i64 s.flush.2) w3 := hR _ _ ⟨rfl, h3'.weak (fun k hk => gr2 k2'.size k3.size hk) (Gr.lt hl (Nat.le_trans k2'.size k3.size)), k2'.trans' k3 fun j hj e => e.resolve_right (by omega)⟩
  rw [hres] at fin
  cases ha : (s.flush1 0).2 <;> cases hb : (((s.flush1 0).1).flush1 1).2 <;> (rw [ha] at hE0; rw [hb] at hE1; subst hE0 hE1; simp [go_sem, bne]; simpa [ha, hb] using fin)
theorem mclear_any (h : MrAt w m p n z s O) : Ret Tryd.prog 10 #[.pointer (some ⟨m, 0, none⟩)] w fun v' w' => v' = .tuple #[] ∧ MrAt w' m p n z { s with moves := [] } (Gr O w w') ∧ Ch O w w' := by
  refine v_enter Tryd.func10 Tryd.ntmps10 rfl (by simp) fun R' hR => ?_
  have hl := h.lt
  obtain ⟨mv, A, hP, hPO, hPl⟩ := id h
  have c7 : w.cell? ⟨m, 7, none⟩ = some mv := cell_blk hP.blk 7
  have f7 := frz_blk hP.blk 7
  simp [go_sem, c7, f7]
  have cs : Ch (one m) w (w.setCell ⟨m, 7, none⟩ (.slice none 0 0)) := (Ch.refl (one m) w).setCell (p := ⟨m, 7, none⟩) (.inl rfl) _
  have hx : MrX z m mv m := .inl rfl
  obtain ⟨n1, n2, n3, n4, n5, n6⟩ := hP.ne
  have hP2 : MrP (w.setCell ⟨m, 7, none⟩ (.slice none 0 0)) m p n z { s with moves := [] } (.slice none 0 0) A := by
    refine ⟨?_, fun i hi => ?_, cs.obj hP.sp n1, fun i hi => ?_, World.ownsRow_nil _ _ _ _, fun q hq => by simp at hq, hP.ab, hP.ne, fun k hk => ?_, fun k hk => by simp [Value.ownBlock] at hk⟩
    · rw [hp_setCell, hP.blk, setOf_cells]; rfl
    · exact (hP.sd i hi).ch cs (fun k hk e => (hP.xi hi hx).1 (by simp only [one] at e; rw [← e]; exact hk)) fun e => (hP.xi hi hx).2 e.symm
    · rcases lt2 hi with rfl | rfl
      · exact cs.obj (hP.pl 0 hi) n2
      · exact cs.obj (hP.pl 1 hi) n3
    · refine hP.nx k ?_
      rcases hk with hk | hk | hk | hk | hk
      · exact .inl hk
      · exact .inr (.inl hk)
      · exact .inr (.inr (.inl hk))
      · exact .inr (.inr (.inr (.inl hk)))
      · simp [Value.ownBlock] at hk
  refine hR _ _ ⟨rfl, ⟨_, A, hP2, fun k hk => .inl (hPO k ?_), Gr.lt hl cs.size⟩, cs.mono fun j _ e => by simp only [one] at e; subst e; exact h.own.1⟩
  rcases hk with (hk | hk | hk | hk | hk) | hk | hk | hk
  · exact .inl (.inl hk)
  · exact .inl (.inr (.inl hk))
  · exact .inl (.inr (.inr (.inl hk)))
  · exact .inl (.inr (.inr (.inr (.inl hk))))
  · simp [Value.ownBlock] at hk
  · exact .inr (.inl hk)
  · exact .inr (.inr (.inl hk))
  · exact .inr (.inr (.inr hk))
def Mr.health (s : Mr) (i : Nat) : Nat := if (s.dk i).dead then 2 else if s.found i = 0 then 0 else 1
theorem mhealth_any (h : MrAt w m p n z s O) (hi : i < 2) : Ret Tryd.prog 16 #[.pointer (some ⟨m, 0, none⟩), .int .i64 i] w fun v' w' => v' = .int .u8 (s.health i) ∧ w' = w := by
  refine v_enter Tryd.func16 Tryd.ntmps16 rfl (by simp) fun R' hR => ?_
  have cd := h.dcell hi
  have hi2 : (i : Int) < 2 := by omega
  have hi1 : ¬ (1 : Int) < i := by omega
  have hi0 : ¬ (i : Int) < 0 := by omega
  obtain ⟨mv, A, hP, hPO, hPl⟩ := id h
  have cF : w.cell? ⟨m, 3 + i * 2, none⟩ = some (.int .i64 (s.found i)) := by rw [cell_blk hP.blk]; exact mcs_at_found _ z mv hi
  simp [go_sem, hi, hi0, hi1, hi2, cd]
  refine ((hP.sd i hi).dead).mono ?_
  rintro _ _ ⟨rfl, rfl⟩
  unfold Mr.health at hR
  cases hd : (s.dk i).dead with
  | true =>
    rw [hd] at hR
    simp [go_sem]
    exact hR _ _ ⟨rfl, rfl⟩
  | false =>
    rw [hd] at hR
    simp [go_sem, hi, hi2, cF]
    by_cases hf : s.found i = 0
    · simp [go_sem, hf]
      exact hR _ _ ⟨by simp [hf], rfl⟩
    · have hf0 : 0 < s.found i := by omega
      simp [go_sem, hf0]
      exact hR _ _ ⟨by simp [hf], rfl⟩
theorem mcount_any (h : MrAt w m p n z s O) (hi : i < 2) : Ret Tryd.prog 17 #[.pointer (some ⟨m, 0, none⟩), .int .i64 i] w fun v' w' => v' = .agg #[.int .i64 (s.found i), .int .i64 (s.mended i)] ∧ Ch Nw w w' := by
  refine v_enter Tryd.func17 Tryd.ntmps17 rfl (by simp) fun R' hR => ?_
  have hi2 : (i : Int) < 2 := by omega
  have hi1 : ¬ (1 : Int) < i := by omega
  have hi0 : ¬ (i : Int) < 0 := by omega
  have ca := (Ch.refl Nw w).alloc (.cells #[.int .i64 0, .int .i64 0] 52)
  obtain ⟨mv, A, hP, hPO, hPl⟩ := h.ch ca fun _ _ e => e
  have cF := cell_blk hP.blk (3 + i * 2)
  rw [mcs_at_found _ z mv hi] at cF
  have cM := cell_blk hP.blk (3 + i * 2 + 1)
  rw [mcs_at_mended _ z mv hi] at cM
  have hlt := hP.olt m (.inl (.inl rfl))
  simp [go_sem, hi, hi0, hi1, hi2, cF, cM]
  exact hR _ _ ⟨rfl, by first | exact ca | exact (Ch.refl Nw w).alloc _⟩
theorem mmoves_any (h : MrAt w m p n z s O) (fine : s.Fine c) (hc : c ≤ 800000) : Ret Tryd.prog 15 #[.pointer (some ⟨m, 0, none⟩)] w fun v' w' => MineS 28 41 w v' s.moves.length (rowsL pt s.moves) w' := by
  refine v_enter Tryd.func15 Tryd.ntmps15 rfl (by simp) fun R' hR => ?_
  obtain ⟨mv, A, hP, hPO, hPl⟩ := id h
  have c7 : w.cell? ⟨m, 7, none⟩ = some mv := cell_blk hP.blk 7
  obtain ⟨A0, c0, hmv⟩ : ∃ A c, mv = .slice A s.moves.length c := by
    rcases hP.mo.2 with ⟨hv, h0⟩ | ⟨g, cap, cur, hv, _⟩
    · exact ⟨none, 0, by rw [hv, h0]⟩
    · exact ⟨_, _, hv⟩
  have hmo := hP.mo
  subst hmv
  simp [go_sem, c7]
  refine (cloneP_any _ s.moves w (by have := fine.moves; omega) hP.okm hmo).mono ?_
  intro v1 w1 hm
  simp [go_sem]
  exact hR _ _ hm
end
end Go.Proofs.YtppilgkgnofkpaaDoor
