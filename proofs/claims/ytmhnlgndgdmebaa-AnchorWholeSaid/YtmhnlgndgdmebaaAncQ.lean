/- AnchorWhole answers true for every input: wherever the power ends, a cell tells what was stored last, wholly. No condition. -/
import Derived.Test.YtmhnlgndgdmebaaRows
import Derived.Test.YtmhnlgndgdmebaaAncW
import Derived.Test.YtmhnlgndgdmebaaAncP
namespace Go.Proofs.Ytmhnlgndgdmebaa
open Go.ChangeShapes Go.WideShapes Go.ChangeAt Go.RowKit Go.Kin

section
variable {H : Type} {enc : TypeId × Value → H} {W : World} {base : Nat} {spare : Nat → Bool} {held : Bool} {fuel : Nat} {cs : List Value} {x : DataW H × List MemPlace}
/-- an act's cells, read -/
theorem trod_act (h : DataW.trod enc Try.prog W base spare held fuel 50 cs = some x) :
    ∃ (d : Nat) (m : Int) (g : Nat) (h : List UInt8) (a : List Nat), AncOk g h a ∧ m ≤ 9223372036854775807 ∧ cs = .int .u8 d :: .int .i64 m :: (anc g h a).toList := by
  obtain ⟨xs, m, _, _, hl, hxl, hf⟩ := DataW.trod_struct Try.underlying50 h
  have hc : Try.prog.cellsOf 50 = 39 := by kernel_rfl
  rw [hc] at hl
  match xs, hxl with
  | [y0, y1, y2], _ =>
    have f0 := hf 0 _ rfl
    have f1 := hf 1 _ rfl
    have f2 := hf 2 _ rfl
    obtain ⟨d, hd, _⟩ := trod_nat Try.underlying5 (.inr (.inr (.inr rfl))) f0
    obtain ⟨z, hz, _, hw⟩ := DataW.trod_int Try.underlying3 f1
    obtain ⟨g, h, a, ok, ha⟩ := trod_anc f2
    have c0 : Try.prog.cellsOf 5 = 1 := by kernel_rfl
    have c1 : Try.prog.cellsOf 3 = 1 := by kernel_rfl
    have c2 : Try.prog.cellsOf 27 = 37 := by kernel_rfl
    have hd : (cs.drop 0).take (Try.prog.cellsOf 5) = [.int .u8 d] := hd
    have hz : (cs.drop 1).take (Try.prog.cellsOf 3) = [.int .i64 z] := hz
    have ha : ((cs.drop 2).take (Try.prog.cellsOf 27)).toArray = anc g h a := ha
    rw [c0] at hd
    rw [c1] at hz
    rw [c2] at ha
    simp [Lit.wf, IntKind.min, IntKind.max, IntKind.signed, IntKind.bits] at hw
    refine ⟨d, z, g, h, a, ok, by omega, ?_⟩
    have e1 : cs = (cs.drop 0).take 1 ++ ((cs.drop 1).take 1 ++ (cs.drop 2).take 37) := by
      rw [List.take_of_length_le (i := 37) (by simp; omega), show cs.drop 2 = (cs.drop 1).drop 1 by rw [List.drop_drop], List.take_append_drop, List.drop_zero, List.take_append_drop]
    rw [e1, hd, hz, ← ha]
    simp
set_option maxRecDepth 100000 in
/-- an argument that is a slice of acts -/
theorem open_acts {v : Value} {d : DataW H} {p : List MemPlace} {r : Reach} {b0 : Nat} (hv : Value.okWide Try.prog W r b0 46 v) (h : DataW.Trod enc Try.prog W 0 spare held 46 v d p) :
    ∃ (n : Nat) (D : Nat → Nat) (N : Nat → Int) (G : Nat → Nat) (HH : Nat → List UInt8) (T : Nat → List Nat), Acts W v n D N G HH T := by
  obtain ⟨fuel, hf⟩ := h
  obtain ⟨a0, l0, c0, rfl⟩ := okWide_slice Try.underlying46 hv
  have hC : Try.prog.cellsOf 50 = 39 := by kernel_rfl
  rcases Go.Deep.open_slice Try.underlying46 hf with ⟨hcs, _⟩ | ⟨a, len, cap, m, n', DD, Pl, hcs, _, hl, hm, hmm, _, hi⟩
  · simp [Value.cells] at hcs
    obtain ⟨rfl, rfl, rfl⟩ := hcs
    exact ⟨0, fun _ => 0, fun _ => 0, fun _ => 0, fun _ => [], fun _ => [], none, 0, rfl, fun h => absurd h (by omega)⟩
  · simp [Value.cells] at hcs
    obtain ⟨rfl, rfl, rfl⟩ := hcs
    have hlm : l0 ≤ m := by rw [hmm]; split <;> omega
    have key : ∀ j, j < l0 → ∃ (d : Nat) (mm : Int) (g : Nat) (h : List UInt8) (t : List Nat), AncOk g h t ∧ mm ≤ 9223372036854775807 ∧ ∀ i u, (Value.int .u8 d :: .int .i64 mm :: (anc g h t).toList)[i]? = some u → W.cell? (a.add (j * 39 + i)) = some u := by
      intro j hj
      obtain ⟨cs', hc, ht'⟩ := hi j (by omega)
      rw [hC] at hc
      obtain ⟨d, mm, g, h, t, ok, hmx, rfl⟩ := trod_act ht'
      obtain ⟨_, hcl, hat⟩ := World.cells?_some hc
      refine ⟨d, mm, g, h, t, ok, hmx, fun i u hu => ?_⟩
      have hi39 : i < 39 := by
        have := (List.getElem?_eq_some_iff.1 hu).1
        omega
      have := hat i hi39
      rw [add_of_add] at this
      rw [this, hu]
    have pick : ∃ (D : Nat → Nat) (N : Nat → Int) (G : Nat → Nat) (HH : Nat → List UInt8) (T : Nat → List Nat), ∀ j, j < l0 → AncOk (G j) (HH j) (T j) ∧ N j ≤ 9223372036854775807 ∧ ∀ i u, (Value.int .u8 (D j) :: .int .i64 (N j) :: (anc (G j) (HH j) (T j)).toList)[i]? = some u → W.cell? (a.add (j * 39 + i)) = some u := by
      have : ∀ j, ∃ q : Nat × Int × Nat × List UInt8 × List Nat, j < l0 → AncOk q.2.2.1 q.2.2.2.1 q.2.2.2.2 ∧ q.2.1 ≤ 9223372036854775807 ∧ ∀ i u, (Value.int .u8 q.1 :: .int .i64 q.2.1 :: (anc q.2.2.1 q.2.2.2.1 q.2.2.2.2).toList)[i]? = some u → W.cell? (a.add (j * 39 + i)) = some u := fun j => by
        by_cases hj : j < l0
        · obtain ⟨d, mm, g, h, t, hk⟩ := key j hj
          exact ⟨(d, mm, g, h, t), fun _ => hk⟩
        · exact ⟨(0, 0, 0, [], []), fun h => absurd h hj⟩
      obtain ⟨q, hq⟩ := Classical.axiomOfChoice this
      exact ⟨fun j => (q j).1, fun j => (q j).2.1, fun j => (q j).2.2.1, fun j => (q j).2.2.2.1, fun j => (q j).2.2.2.2, hq⟩
    obtain ⟨D, N, G, HH, T, hq⟩ := pick
    refine ⟨l0, D, N, G, HH, T, some a, c0, rfl, fun h0 => ?_⟩
    -- the block
    have h00 := (hq 0 h0).2.2 0 _ rfl
    simp only [Nat.zero_mul, Nat.add_zero] at h00
    obtain ⟨b, off, spot⟩ := a
    have hsp : spot = none := by
      simp only [Addr.add, if_true, World.cell?] at h00
      split at h00
      · split at h00
        · cases h00
        · rename_i hs
          simpa using hs
      · cases h00
    subst hsp
    obtain ⟨cells, E, fr, hb⟩ : ∃ cells E fr, W.heap[b]? = some (.cells cells E fr) := by
      simp only [Addr.add, if_true, World.cell?] at h00
      split at h00
      · rename_i c E fr hb
        exact ⟨c, E, fr, hb⟩
      · cases h00
    refine ⟨b, off, cells, E, fr, rfl, lt_of_block hb, hb, fun j hj => ?_⟩
    obtain ⟨ok, hmx, hat⟩ := hq j hj
    have hsz := anc_size (n := G j) ok.hh ok.ha
    have get : ∀ i u, (Value.int .u8 (D j) :: .int .i64 (N j) :: (anc (G j) (HH j) (T j)).toList)[i]? = some u → cells[off + j * 39 + i]? = some u := fun i u hu => by
      have := hat i u hu
      rw [Addr.add_lit, cell_of_row W b _ cells E fr hb] at this
      rw [← this, Nat.add_assoc]
    have hall : ∀ i, i < 37 → cells[off + j * 39 + 2 + i]? = (anc (G j) (HH j) (T j))[i]? := fun i hi => by
      have hs : (anc (G j) (HH j) (T j))[i]? = some ((anc (G j) (HH j) (T j))[i]'(by omega)) := Array.getElem?_eq_getElem _
      rw [hs]
      have := get (i + 2) ((anc (G j) (HH j) (T j))[i]'(by omega)) (by simp)
      rw [show off + j * 39 + 2 + i = off + j * 39 + (i + 2) by omega]
      exact this
    have hfit : off + j * 39 + 39 ≤ cells.size := by
      have := hall 36 (by omega)
      have hs : (anc (G j) (HH j) (T j))[36]? = some ((anc (G j) (HH j) (T j))[36]'(by omega)) := Array.getElem?_eq_getElem _
      rw [hs] at this
      have := (Array.getElem?_eq_some_iff.1 this).1
      omega
    refine ⟨by simpa using get 0 _ rfl, get 1 _ rfl, by rw [← anc_0 (G j) (HH j) (T j)]; exact hall 0 (by omega), ?_, fun i hi => ?_, hfit, ok, hmx⟩
    · rw [← anc_h (n := G j) (a := T j) ok.hh]
      apply Array.ext_getElem?
      intro i
      by_cases hi : i < 32
      · have := hall (1 + i) (by omega)
        rw [Array.getElem?_extract, Array.getElem?_extract]
        simp only [hsz]
        rw [if_pos (by omega), if_pos (by omega), ← this]
        congr 1
        omega
      · rw [Array.getElem?_eq_none (by simp; omega), Array.getElem?_eq_none (by simp; omega)]
    · have hx : (T j)[i]? = some ((T j).getD i 0) := by
        have := ok.ha
        rw [List.getD_eq_getElem?_getD, List.getElem?_eq_getElem (by omega)]
        rfl
      have := hall (33 + i) (by omega)
      rw [anc_a_at ok.hh i _ hx] at this
      rw [← show u16v ((T j).getD i 0) = .int .u16 ((T j).getD i 0 : Nat) from rfl, ← this]
      congr 1
      omega
end

theorem whole_out (v : Value) (n : Nat) (D : Nat → Nat) (N : Nat → Int) (G : Nat → Nat) (H : Nat → List UInt8) (T : Nat → List Nat) (w : World) (hn : 100 < n) (ha : Acts w v n D N G H T) :
    Ret Try.prog 5 #[v] w fun v' w' => v' = .bool true ∧ Ch Nw w w' := by
  obtain ⟨A, c, rfl, ha⟩ := ha
  refine v_enter Try.func5 Try.ntmps5 rfl (by simp) fun R' hR => ?_
  have hn' : (100 : Int) < n := by omega
  simp [go_sem, hn']
  refine (awakes_any w).mono ?_
  rintro _ wf ⟨rfl, cf⟩
  simp [go_sem]
  exact hR _ _ ⟨rfl, cf⟩

set_option maxRecDepth 100000 in
theorem whole_lifted (os : Os) (started : os.Started) (H : Type) (enc : TypeId × Value → H) :
    ReturnsInHanded {} Try.checked os 5 .any (Rows.anchorWholeSpec.pre6 enc Try.prog Try.f5 Rows.anchorWholeRow.domain false) (Rows.anchorWholeSpec.post enc Try.prog Try.f5 false true false false) := by
  refine returnsInHanded_of_change (C := Try.checked) own started (by kernel_rfl) Try.func5
    (ChangeSpec.witness6 (enc := enc) (C := Try.checked) false ⟨#[], #[.slice none 0 0], []⟩ 8 (by kernel_rfl) (by kernel_rfl) (by kernel_rfl) (by kernel_rfl)) ?_
  intro W base args ds gs before hval0 hW hcnd _
  have hval : ∀ (j : Nat) t v, Try.f5.params[j]? = some t → args[j]? = some v → Value.okWide Try.prog W .any base t v := hval0
  have hW' := hW
  obtain ⟨p, q, hA0, hV, rfl, hfz, hnd⟩ := hW
  have hA : DataW.TrodAll enc Try.prog W 0 (fun _ => true) true Try.f5.params.toList args.toList ds p := hA0
  have hAk := hA
  rw [Try.params5] at hA hval
  obtain ⟨v0, d0, rfl, rfl, h0⟩ := trodAll_one hA
  obtain ⟨rfl, rfl⟩ := trodVars_none hV
  have o0 := hval 0 46 v0 rfl rfl
  obtain ⟨n, D, N, G, HH, T, ha⟩ := open_acts o0 h0
  have fin : Ret Try.prog 5 #[v0] W fun v' w' => v' = .bool true ∧ Ch Nw W w' := by
    by_cases hn : 100 < n
    · exact whole_out v0 n D N G HH T W hn ha
    · exact whole_any v0 n D N G HH T W (by omega) ha
  refine fin.calls.mono fun e W' ⟨v, he, hv, hc⟩ => ?_
  subst he; subst hv
  exact ⟨_, rfl, post_law laidOut hW' hAk rfl (by kernel_rfl) (by kernel_rfl) Try.underlying4 rfl rfl hc.below⟩

theorem anchorWhole_holds : Rows.AnchorWholeSaid :=
  OpenClaim.holds_of_wide 5 Try.f5 rfl rfl rfl rfl rfl rfl rfl ⟨rfl, rfl, rfl, rfl, rfl⟩ rfl rfl rfl rfl rfl (by kernel_rfl) Try.func5 (by kernel_rfl)
    (of_decide_eq_true (by kernel_rfl)) (by unfold Func.isWrapper; first | (rw [if_pos (by decide +kernel)]; kernel_rfl) | (rw [if_neg (by decide +kernel)]; exact ⟨rfl, rfl⟩))
    (fun os started H enc _ => whole_lifted os started H enc)
#print axioms anchorWhole_holds
end Go.Proofs.Ytmhnlgndgdmebaa
