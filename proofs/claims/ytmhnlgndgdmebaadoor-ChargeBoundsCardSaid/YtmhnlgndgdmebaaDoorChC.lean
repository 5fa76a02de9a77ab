/- Each object, once, and which leaves it has: package charge's each, as a contract on the call, whatever is done with them. Condition: what is done keeps off the call's own blocks. -/
import Derived.Test.YtmhnlgndgdmebaaDoorChB
namespace Go.Proofs.YtmhnlgndgdmebaaDoor
open Go.RowKit Go.Kin

def u32s (l : List Nat) : List Value := l.map fun n : Nat => Value.int .u32 (n : Int)
theorem u32s_length (l : List Nat) : (u32s l).length = l.length := List.length_map ..
/-- an object: number, kind, offsets -/
abbrev Ob := Nat × Nat × List Nat
structure ObAt (w : World) (b o : Nat) (x : Ob) : Prop where
  fit : x.1 < 65536 ∧ x.2.1 < 256 ∧ ∀ n ∈ x.2.2, n < 4294967296
  num : w.cell? ⟨b, o, none⟩ = some (.int .u16 x.1)
  kind : w.cell? ⟨b, o + 1, none⟩ = some (.int .u8 x.2.1)
  offs : ∃ A c, w.cell? ⟨b, o + 2, none⟩ = some (.slice A x.2.2.length c) ∧ Sl w (.slice A x.2.2.length c) x.2.2.length (u32s x.2.2)
def Objs (w : World) (v : Value) (l : List Ob) : Prop := ∃ A c, v = .slice A l.length c ∧ l.length ≤ c ∧ c ≤ maxLen ∧ (0 < l.length → ∃ b o, A = some ⟨b, o, none⟩ ∧ ∀ j x, l[j]? = some x → ObAt w b (o + j * 3) x)
theorem ObAt.keep {w w' : World} {b o : Nat} {x : Ob} (h : ObAt w b o x) (hk : ∀ p u, w.cell? p = some u → w'.cell? p = some u) : ObAt w' b o x := by
  obtain ⟨h1, h2, h3, A, c, h4, h5⟩ := h
  exact ⟨h1, hk _ _ h2, hk _ _ h3, A, c, hk _ _ h4, h5.keep hk⟩
theorem Objs.keep {w w' : World} {v : Value} {l : List Ob} (h : Objs w v l) (hc : Ch Nw w w') : Objs w' v l := by
  obtain ⟨A, c, rfl, h1, h2, h3⟩ := h
  refine ⟨A, c, rfl, h1, h2, fun h0 => ?_⟩
  obtain ⟨b, o, rfl, hj⟩ := h3 h0
  exact ⟨b, o, rfl, fun j x hx => (hj j x hx).keep fun p u hp => hc.cell hp id⟩

/-- which of the leaves are there -/
def hasL (offs : List Nat) : List Bool := (List.range 64).map fun i => offs.contains i
theorem hasL_length (offs : List Nat) : (hasL offs).length = 64 := by simp [hasL]
theorem hasL_get (offs : List Nat) (i : Nat) (h : i < 64) : (hasL offs)[i]? = some (offs.contains i) := by simp [hasL, h]
/-- an object that counts: number, kind, leaves -/
def fb (n : Nat) : List Bool := List.replicate n false
theorem fb_length (n : Nat) : (fb n).length = n := List.length_replicate
abbrev Ox := Nat × Nat × List Bool
def bad (seen : List Bool) (x : Ob) : Bool := decide (x.1 < 1) || decide (255 < x.1) || decide (x.2.1 < 1) || decide (3 < x.2.1) || seen.getD x.1 false
def stepO (s : List Ox × List Bool) (x : Ob) : List Ox × List Bool := if bad s.2 x then s else (s.1 ++ [(x.1, x.2.1, hasL x.2.2)], s.2.set x.1 true)
def st0 : List Ox × List Bool := ([], fb 256)
def selO (l : List Ob) : List Ox × List Bool := l.foldl stepO st0
theorem selO_snoc (l : List Ob) (k : Nat) (x : Ob) (h : l[k]? = some x) : selO (l.take (k + 1)) = stepO (selO (l.take k)) x := by
  unfold selO
  rw [List.take_add_one, h]
  simp
theorem stepO_length {s : List Ox × List Bool} (x : Ob) (h : s.2.length = 256) : (stepO s x).2.length = 256 := by
  unfold stepO
  split
  · exact h
  · simpa using h
theorem selO_length (l : List Ob) : (selO l).2.length = 256 := by
  have key : ∀ (l : List Ob) (s : List Ox × List Bool), s.2.length = 256 → (l.foldl stepO s).2.length = 256 := by
    intro l
    induction l with
    | nil => exact fun s h => h
    | cons x l ih => exact fun s h => ih _ (stepO_length x h)
  exact key l _ (fb_length 256)
theorem selO_count (l : List Ob) : (selO l).1.length ≤ l.length := by
  have key : ∀ (l : List Ob) (s : List Ox × List Bool), (l.foldl stepO s).1.length ≤ s.1.length + l.length := by
    intro l
    induction l with
    | nil => exact fun s => Nat.le_refl _
    | cons x l ih =>
      intro s
      have h1 := ih (stepO s x)
      have h2 : (stepO s x).1.length ≤ s.1.length + 1 := by unfold stepO; split <;> simp
      simp only [List.foldl_cons, List.length_cons]
      omega
  have h := key l st0
  simp only [st0, List.length_nil, Nat.zero_add] at h
  exact h
theorem zc_b256 : zc Tryd.prog 98 = (bools (fb 256)).toArray := by kernel_rfl
theorem hz_b256 : (Tryd.prog.info? 98).map (fun i => i.zero.isSome) = some true := by kernel_rfl
theorem zc_b64o : zc Tryd.prog 65 = (bools (fb 64)).toArray := by kernel_rfl
theorem hz_b64o : (Tryd.prog.info? 65).map (fun i => i.zero.isSome) = some true := by kernel_rfl
theorem bools_get {l : List Bool} {k : Nat} {b : Bool} (h : l[k]? = some b) : (bools l).toArray[k]? = some (.bool b) := by rw [List.getElem?_toArray, bools, List.getElem?_map, h]; rfl
theorem bools_set (l : List Bool) (k : Nat) (c : Bool) : (bools l).toArray.setIfInBounds k (.bool c) = (bools (l.set k c)).toArray := by
  apply Array.ext'
  simp [bools, List.map_set]
@[simp] theorem ones_bools (l : List Bool) : ones (bools l).toArray = true := ones_of (bools_one l)
@[simp] theorem take_bools (l : List Bool) (n : Nat) (h : l.length ≤ n) : (bools l).take n = bools l := List.take_of_length_le (by rw [bools_length]; exact h)
theorem ty32 : Ty1 Tryd.prog 31 49 (.int .u32 0) 4 := ⟨Tryd.underlying31, by kernel_rfl, rfl⟩
theorem u32s_get {l : List Nat} {k n : Nat} (h : l[k]? = some n) : (u32s l)[k]? = some (.int .u32 n) := by rw [u32s, List.getElem?_map, h]; rfl

theorem hasL_nil : hasL [] = fb 64 := by decide
theorem hasL_snoc (offs : List Nat) (j n : Nat) (h : offs[j]? = some n) : hasL (offs.take (j + 1)) = if n < 64 then (hasL (offs.take j)).set n true else hasL (offs.take j) := by
  rw [List.take_add_one, h]
  apply List.ext_getElem?
  intro i
  by_cases hi : i < 64
  · rw [hasL_get _ _ hi]
    split
    · by_cases hin : n = i
      · subst hin
        rw [List.getElem?_set_self (by rw [hasL_length]; exact hi)]
        simp
      · rw [List.getElem?_set_ne hin, hasL_get _ _ hi]
        simp
        exact fun h => absurd h.symm hin
    · rw [hasL_get _ _ hi]
      simp
      omega
  · rw [List.getElem?_eq_none (by rw [hasL_length]; omega)]
    split
    · rw [List.getElem?_eq_none (by rw [List.length_set, hasL_length]; omega)]
    · rw [List.getElem?_eq_none (by rw [hasL_length]; omega)]
theorem each_any (v : Value) (l : List Ob) (fc : FuncId) (caps : List Value) (w0 w : World) (I : List Ox → World → Prop) (hl : l.length ≤ 1000) (hol : ∀ x ∈ l, x.2.2.length ≤ 1000) (ho : Objs w0 v l) (h0 : Ch Nw w0 w) (hI0 : I [] w)
    (hst : ∀ s w1 w2, I s w1 → Ch (fun k => w.heap.size ≤ k) w1 w2 → I s w2)
    (hfn : ∀ (args : List Value) w1, (callFunc fc (args ++ caps).toArray).run Tryd.prog w1 = .ok (.enter fc (args ++ caps).toArray) w1)
    (hstep : ∀ s w1 (x : Ob) (sv : Value), s.length < l.length → I s w1 → Ch Nw w0 w1 → x.1 < 256 → x.2.1 < 256 → Ret Tryd.prog fc ([Value.agg #[.int .u16 x.1, .int .u8 x.2.1, sv], Value.agg (bools (hasL x.2.2)).toArray] ++ caps).toArray w1 fun v' w2 =>
      I (s ++ [(x.1, x.2.1, hasL x.2.2)]) w2 ∧ Ch (fun k => w0.heap.size ≤ k ∧ k < w.heap.size) w1 w2) :
    Ret Tryd.prog 21 #[v, .func (.func fc) #[] caps.toArray] w fun v' w' => I (selO l).1 w' ∧ Ch Nw w0 w' := by
  obtain ⟨A, c, rfl, hlc, hcm, hel⟩ := ho
  refine v_enter Tryd.func21 Tryd.ntmps21 rfl (by simp) fun R' hR => ?_
  simp [go_sem, hz_b256, zc_b256]
  have hq1 := (Ch.refl Nw w).alloc (.cells (bools (fb 256)).toArray 98)
  have hb1 := hp_alloc w (.cells (bools (fb 256)).toArray 98)
  have hI1 := hst _ _ _ hI0 (hq1.mono fun _ _ e => e.elim)
  have hc1 := h0.trans hq1
  have hw1 := h0.size
  revert hq1 hb1 hI1 hc1
  generalize w.alloc (.cells (bools (fb 256)).toArray 98) = w1
  generalize w.heap.size = B at *
  intro hq1 hb1 hI1 hc1
  refine v_loop (fun r f wr => ∃ k, k ≤ l.length ∧ r = l.length - k ∧ f 1 = .func (.func fc) #[] caps.toArray ∧ f 4 = .pointer (some ⟨B, 0, none⟩) ∧ f 10 = .slice A l.length c ∧ f 11 = .int .i64 l.length ∧ f 12 = .int .i64 k ∧
      I (selO (l.take k)).1 wr ∧ Ch Nw w0 wr ∧ wr.heap[B]? = some (.cells (bools (selO (l.take k)).2).toArray 98)) l.length
    ⟨0, by omega, rfl, by simp, by simp, by simp, by simp, by simp, hI1, hc1, by simpa [selO, st0] using hb1⟩ ?_
  clear hq1 hb1 hI1 hc1 hI0
  rintro J hJ _ f wr ⟨k, hk, rfl, h1, h4, h10, h11, h12, hI, hc, hb⟩
  by_cases hkl : k < l.length
  · obtain ⟨bb, bo, rfl, hat⟩ := hel (by omega)
    obtain ⟨x, hx⟩ : ∃ x, l[k]? = some x := ⟨_, List.getElem?_eq_getElem hkl⟩
    have hol' := hol x (List.mem_of_getElem? hx)
    obtain ⟨⟨hf1, hf2, hf3⟩, hn0, hkd0, oA, oc, hof0, hos0⟩ := hat k x hx
    have hn := hc.cell hn0 id
    have hkd := hc.cell hkd0 id
    have hof := hc.cell hof0 id
    have hsn := selO_snoc l k x hx
    have hsl := selO_length (l.take k)
    have hsc : (selO (l.take k)).1.length ≤ k := Nat.le_trans (selO_count _) (by rw [List.length_take]; omega)
    have hki : (k : Int) < l.length := by omega
    generalize selO (l.take k) = s at *
    have hwk : IntKind.i64.wrap ((k : Int) + 1) = ((k + 1 : Nat) : Int) := by simp [IntKind.wrap_i64]; omega
    obtain ⟨num, kind, offs⟩ := x
    simp only [] at hf1 hf2 hf3 hn hkd hof hos0 hol'
    have hBr : B < wr.heap.size := lt_of_block hb
    simp only [Nat.add_assoc] at hkd hof
    simp [go_sem, h10, h11, h12, hki, hn, hkd, hof, Nat.add_assoc]
    have hq2 := (Ch.refl Nw wr).alloc (.cells #[.int .u16 num, .int .u8 kind, .slice oA offs.length oc] 64)
    have hb2 := hp_alloc wr (.cells #[.int .u16 num, .int .u8 kind, .slice oA offs.length oc] 64)
    have hI2 := hst _ _ _ hI (hq2.mono fun _ _ e => e.elim)
    have hc2 := hc.trans hq2
    have hbx := hq2.hp hb id
    revert hq2 hb2 hI2 hc2 hbx
    generalize wr.alloc (.cells #[.int .u16 num, .int .u8 kind, .slice oA offs.length oc] 64) = w2
    generalize hgx : wr.heap.size = gx at *
    intro hq2 hb2 hI2 hc2 hbx
    have q0 := (cell_blk hb2 0).trans rfl
    have q1 := (cell_blk hb2 1).trans rfl
    have q2 := (cell_blk hb2 2).trans rfl
    -- an object that does not count
    have skip : ∀ f' : Nat → Value, f' 1 = .func (.func fc) #[] caps.toArray → f' 4 = .pointer (some ⟨B, 0, none⟩) → f' 10 = .slice (some ⟨bb, bo, none⟩) l.length c → f' 11 = .int .i64 l.length → f' 12 = .int .i64 (k + 1 : Nat) → bad s.2 (num, kind, offs) = true → Rnd J (l.length - k) f' w2 := by
      intro f' g1 g4 g10 g11 g12 hbd
      have e : stepO s (num, kind, offs) = s := by simp only [stepO, hbd, if_true]
      refine Rnd.intro (l.length - (k + 1)) (by omega) (hJ _ _ _ ⟨k + 1, by omega, rfl, g1, g4, g10, g11, g12, ?_, hc2, ?_⟩)
      · rw [hsn, e]; exact hI2
      · rw [hsn, e]; exact hbx
    by_cases a1 : (num : Int) < 1
    · have a1n : num < 1 := by omega
      simp [go_sem, h12, hwk, a1]
      exact skip _ (by simp [h1]) (by simp [h4]) (by simp [h10]) (by simp [h11]) (by simp) (by simp [bad, a1n])
    · by_cases a2 : (255 : Int) < num
      · have a2n : 255 < num := by omega
        simp [go_sem, h12, hwk, a1, a2, q0]
        exact skip _ (by simp [h1]) (by simp [h4]) (by simp [h10]) (by simp [h11]) (by simp) (by simp [bad, a2n])
      · by_cases a3 : (kind : Int) < 1
        · have a3n : kind < 1 := by omega
          simp [go_sem, h12, hwk, a1, a2, a3, q0, q1]
          exact skip _ (by simp [h1]) (by simp [h4]) (by simp [h10]) (by simp [h11]) (by simp) (by simp [bad, a3n])
        · by_cases a4 : (3 : Int) < kind
          · have a4n : 3 < kind := by omega
            simp [go_sem, h12, hwk, a1, a2, a3, a4, q0, q1]
            exact skip _ (by simp [h1]) (by simp [h4]) (by simp [h10]) (by simp [h11]) (by simp) (by simp [bad, a4n])
          · obtain ⟨sn, hsn5⟩ : ∃ b, s.2[num]? = some b := ⟨_, List.getElem?_eq_getElem (by omega)⟩
            have q5 := (cell_blk hbx num).trans (bools_get hsn5)
            have hn256 : (num : Int) < 256 := by omega
            have hgd : s.2.getD num false = sn := by rw [List.getD_eq_getElem?_getD, hsn5]; rfl
            cases sn
            · simp [go_sem, a1, a2, a3, a4, q0, q1, q5, h4, hn256]
              have hfz := frz_blk hbx num
              simp [go_sem, hfz, hz_b64o, zc_b64o]
              have hq3 := (Ch.refl (one B) w2).setCell (p := ⟨B, num, none⟩) (.inl rfl) (.bool true)
              have hbx3 : (w2.setCell ⟨B, num, none⟩ (.bool true)).heap[B]? = some (.cells (bools (s.2.set num true)).toArray 98) := by rw [hp_setCell, hbx, setOf_cells, bools_set]
              have hI3 := hst _ _ _ hI2 (hq3.mono fun j _ e => by simp only [one] at e; simp only [e]; exact Nat.le_refl _)
              have hc3 : Ch Nw w0 (w2.setCell ⟨B, num, none⟩ (.bool true)) := hc2.setCell (.inr (by simpa using hw1)) _
              have hb3 := hq3.hp hb2 (by simp only [one]; omega)
              have hz3 : (w2.setCell ⟨B, num, none⟩ (.bool true)).heap.size = w2.heap.size := by simp [World.setCell]
              revert hq3 hbx3 hI3 hc3 hb3 hz3
              generalize w2.setCell ⟨B, num, none⟩ (.bool true) = w3
              intro hq3 hbx3 hI3 hc3 hb3 hz3
              have hq4 := (Ch.refl Nw w3).alloc (.cells (bools (fb 64)).toArray 65)
              have hb4 := hp_alloc w3 (.cells (bools (fb 64)).toArray 65)
              have hI4 := hst _ _ _ hI3 (hq4.mono fun _ _ e => e.elim)
              have hc4 := hc3.trans hq4
              have hbx4 := hq4.hp hbx3 id
              have hb3 := hq4.hp hb3 id
              have hgx2 := lt_of_block hb2
              have hBg := lt_of_block hbx3
              revert hq4 hb4 hI4 hc4 hbx4 hb3
              generalize w3.alloc (.cells (bools (fb 64)).toArray 65) = w4
              generalize hgh : w3.heap.size = gh at *
              intro hq4 hb4 hI4 hc4 hbx4 hb3
              have hos4 := hos0.keep fun p u hp => hc4.cell hp id
              have q2' := (cell_blk hb3 2).trans rfl
              simp [go_sem, q2']
              -- its leaves
              refine v_loop (fun r f' wr => ∃ j, j ≤ offs.length ∧ r = offs.length - j ∧ f' 1 = .func (.func fc) #[] caps.toArray ∧ f' 4 = .pointer (some ⟨B, 0, none⟩) ∧ f' 6 = .pointer (some ⟨gx, 0, none⟩) ∧ f' 7 = .pointer (some ⟨gh, 0, none⟩) ∧ f' 10 = .slice (some ⟨bb, bo, none⟩) l.length c ∧ f' 11 = .int .i64 l.length ∧ f' 12 = .int .i64 k ∧
                  f' 44 = .slice oA offs.length oc ∧ f' 45 = .int .i64 offs.length ∧ f' 46 = .int .i64 j ∧ Ch (one gh) w4 wr ∧ wr.heap[gh]? = some (.cells (bools (hasL (offs.take j))).toArray 65)) offs.length
                ⟨0, by omega, rfl, by simp [h1], by simp [h4], by simp, by simp, by simp [h10], by simp [h11], by simp [h12], by simp, by simp, by simp, Ch.refl _ _, by simpa [hasL_nil] using hb4⟩ ?_
              have hJK := hJ
              clear hJ skip
              rintro J2 hJ2 _ f' w5 ⟨j, hj, rfl, g1, g4, g6, g7, g10, g11, g12, g44, g45, g46, hc5, hb5⟩
              by_cases hjl : j < offs.length
              · obtain ⟨n, hn⟩ : ∃ n, offs[j]? = some n := ⟨_, List.getElem?_eq_getElem hjl⟩
                have hos5 : Sl w5 (.slice oA offs.length oc) offs.length (u32s offs) := hos0.keep fun p u hp => hc5.cell (hc4.cell hp id) (by
                  have := World.block_lt_of_cell? _ _ hp
                  simp only [one]; omega)
                obtain ⟨ad, hat5, hcl5, _⟩ := hos5.at ty32 (u32s_length _) (u32s_get hn)
                have hnl := hf3 n (List.mem_of_getElem? hn)
                have hji : (j : Int) < offs.length := by omega
                have hwj : IntKind.i64.wrap ((j : Int) + 1) = ((j + 1 : Nat) : Int) := by simp [IntKind.wrap_i64]; omega
                have hsnoc := hasL_snoc offs j n hn
                by_cases hn64 : n < 64
                · have hni : (n : Int) < 64 := by omega
                  have q6 := (cell_blk hb5 n).trans (bools_get (hasL_get (offs.take j) n hn64))
                  have hfz5 := frz_blk hb5 n
                  rw [if_pos hn64] at hsnoc
                  simp [go_sem, g7, g44, g45, g46, hji, hat5, hcl5, hwj, hni, q6, hfz5]
                  refine Rnd.intro (offs.length - (j + 1)) (by omega) (hJ2 _ _ _ ⟨j + 1, by omega, rfl, by simp [g1], by simp [g4], by simp [g6], by simp [g7], by simp [g10], by simp [g11], by simp [g12], by simp [g44], by simp [g45], by simp, hc5.setCell (p := ⟨gh, n, none⟩) (.inl rfl) _, ?_⟩)
                  rw [hp_setCell, hb5, setOf_cells, bools_set, hsnoc]
                · have hni : ¬ (n : Int) < 64 := by omega
                  rw [if_neg hn64] at hsnoc
                  simp [go_sem, g44, g45, g46, hji, hat5, hcl5, hwj, hni]
                  exact Rnd.intro (offs.length - (j + 1)) (by omega) (hJ2 _ _ _ ⟨j + 1, by omega, rfl, by simp [g1], by simp [g4], by simp [g6], by simp [g7], by simp [g10], by simp [g11], by simp [g12], by simp [g44], by simp [g45], by simp, hc5, by rw [hsnoc]; exact hb5⟩)
              · obtain rfl : j = offs.length := by omega
                rw [List.take_length] at hb5
                have hx5 := hc5.hp hb3 (by simp only [one]; omega)
                have r0 := (cell_blk hx5 0).trans rfl
                have r1 := (cell_blk hx5 1).trans rfl
                have r2 := (cell_blk hx5 2).trans rfl
                have hI5 := hst _ _ _ hI4 (hc5.mono fun j _ e => by simp only [one] at e; omega)
                have hc45 : Ch Nw w0 w5 := hc4.trans' hc5 fun j hj e => by simp only [one] at e; omega
                simp [go_sem, g1, g6, g7, g45, g46, r0, r1, r2, hb5, bools_length, hasL_length]
                rw [VCall_closure _ _ _ _ _ _ (hfn _ _)]
                refine (hstep s.1 w5 (num, kind, offs) (.slice oA offs.length oc) (by omega) hI5 hc45 (by omega) hf2).mono ?_
                rintro v6 w6 ⟨hI6, hc6⟩
                have hbx6 := hc6.hp (hc5.hp hbx4 (by simp only [one]; omega)) (by omega)
                have hbf : bad s.2 (num, kind, offs) = false := by simp [bad]; refine ⟨⟨⟨⟨by omega, by omega⟩, by omega⟩, by omega⟩, by simpa using hgd⟩
                have e : stepO s (num, kind, offs) = (s.1 ++ [(num, kind, hasL offs)], s.2.set num true) := by simp [stepO, hbf]
                simp [go_sem, g12, hwk]
                refine Rnd.intro (l.length - (k + 1)) (by omega) (hJK _ _ _ ⟨k + 1, by omega, rfl, by simp [g1], by simp [g4], by simp [g10], by simp [g11], by simp, ?_, hc45.trans' hc6 fun j hj e => by omega, ?_⟩)
                · rw [hsn, e]; exact hI6
                · rw [hsn, e]; exact hbx6
            · simp [go_sem, h12, hwk, a1, a2, a3, a4, q0, q1, q5, h4, hn256]
              exact skip _ (by simp [h1]) (by simp [h4]) (by simp [h10]) (by simp [h11]) (by simp) (by simp only [bad, hgd, Bool.or_true])
  · obtain rfl : k = l.length := by omega
    rw [List.take_length] at hI
    simp [go_sem, h11, h12]
    exact hR _ _ ⟨hI, hc⟩
end Go.Proofs.YtmhnlgndgdmebaaDoor
