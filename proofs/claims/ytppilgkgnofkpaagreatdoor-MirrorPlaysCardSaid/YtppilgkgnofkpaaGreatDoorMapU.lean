/- Maps whose keys are numbers of 16 bits, as functions: looked up, updated, an entry deleted. They speak of no program. No condition. -/
import Derived.Test.YtppilgkgnofkpaaGreatDoorAgg
import Derived.ChangeMaps4
set_option linter.unusedSimpArgs false
set_option linter.unusedVariables false

namespace Go.Kin
open Go Go.RowKit Go.MapKept Go.ChangeMaps

def mget : List MapEntry → Nat → Option Value
  | [], _ => none
  | e :: es, a => if intOf e.key = (a : Int) then some e.val else mget es a
structure MapOk (es : List MapEntry) : Prop where
  keys : ∀ e ∈ es, ∃ k : Nat, e.key = .int .u16 k
  apart : es.Pairwise fun x y => intOf x.key ≠ intOf y.key
/-- block b is a map: F -/
def MapAt (w : World) (b : Nat) (F : Nat → Option Value) : Prop := ∃ es clock, w.heap[b]? = some (.map es clock) ∧ MapOk es.toList ∧ ∀ a, mget es.toList a = F a

theorem mget_none {a : Nat} : ∀ {l : List MapEntry}, (∀ e ∈ l, intOf e.key ≠ (a : Int)) → mget l a = none
  | [], _ => rfl
  | e :: l, h => by rw [mget, if_neg (h e (by simp))]; exact mget_none fun x hx => h x (by simp [hx])
theorem mget_some {a : Nat} {e : MapEntry} : ∀ {l : List MapEntry} {j : Nat}, l.Pairwise (fun x y => intOf x.key ≠ intOf y.key) → l[j]? = some e → intOf e.key = (a : Int) → mget l a = some e.val
  | [], _, _, h, _ => by simp at h
  | x :: l, 0, _, h, hk => by
    simp at h
    subst h
    rw [mget, if_pos hk]
  | x :: l, j + 1, hp, h, hk => by
    simp at h
    have hx := (List.pairwise_cons.1 hp).1 e (List.mem_of_getElem? h)
    rw [mget, if_neg (by rw [← hk]; exact hx)]
    exact mget_some (List.pairwise_cons.1 hp).2 h hk
theorem mget_push {a c : Nat} {e : MapEntry} (hk : intOf e.key = (c : Int)) : ∀ {l : List MapEntry}, (∀ x ∈ l, intOf x.key ≠ (c : Int)) → mget (l ++ [e]) a = if a = c then some e.val else mget l a
  | [], _ => by
    simp only [List.nil_append, mget, hk]
    by_cases h : a = c
    · simp [h]
    · simp [h]; omega
  | x :: l, h => by
    have hx := h x (by simp)
    rw [List.cons_append, mget, mget_push hk fun y hy => h y (by simp [hy])]
    by_cases hac : a = c
    · subst hac
      rw [if_neg hx, mget, if_neg hx]
    · rw [if_neg hac, mget, if_neg hac]
theorem mget_modify {a c : Nat} {e : MapEntry} (g : MapEntry → MapEntry) (hg : ∀ x, intOf x.key = (c : Int) → intOf (g x).key = (c : Int)) (hk : intOf e.key = (c : Int)) :
    ∀ {l : List MapEntry} {j : Nat}, l.Pairwise (fun x y => intOf x.key ≠ intOf y.key) → l[j]? = some e → mget (l.modify j g) a = if a = c then some (g e).val else mget l a
  | [], _, _, h => by simp at h
  | x :: l, 0, hp, h => by
    simp at h
    subst h
    simp only [List.modify_zero_cons, mget, hg x hk, hk]
    by_cases hac : a = c
    · simp [hac]
    · have : ¬ (c : Int) = (a : Int) := by omega
      simp [hac, this]
  | x :: l, j + 1, hp, h => by
    simp at h
    have hx := (List.pairwise_cons.1 hp).1 e (List.mem_of_getElem? h)
    rw [hk] at hx
    rw [List.modify_succ_cons, mget, mget_modify g hg hk (List.pairwise_cons.1 hp).2 h]
    by_cases hac : a = c
    · subst hac
      rw [if_neg hx, if_pos rfl, if_pos rfl]
    · rw [if_neg hac, if_neg hac, mget]
theorem mget_erase {a c : Nat} {e : MapEntry} (hk : intOf e.key = (c : Int)) :
    ∀ {l : List MapEntry} {j : Nat}, l.Pairwise (fun x y => intOf x.key ≠ intOf y.key) → l[j]? = some e → mget (l.eraseIdx j) a = if a = c then none else mget l a
  | [], _, _, h => by simp at h
  | x :: l, 0, hp, h => by
    simp at h
    subst h
    rw [List.eraseIdx_cons_zero]
    by_cases hac : a = c
    · subst hac
      rw [if_pos rfl]
      exact mget_none fun y hy => by
        have := (List.pairwise_cons.1 hp).1 y hy
        rw [hk] at this
        exact fun h => this h.symm
    · have : ¬ (c : Int) = (a : Int) := by omega
      rw [if_neg hac, mget, hk, if_neg this]
  | x :: l, j + 1, hp, h => by
    simp at h
    have hx := (List.pairwise_cons.1 hp).1 e (List.mem_of_getElem? h)
    rw [hk] at hx
    rw [List.eraseIdx_cons_succ, mget, mget_erase hk (List.pairwise_cons.1 hp).2 h]
    by_cases hac : a = c
    · subst hac
      rw [if_neg hx, if_pos rfl, if_pos rfl]
    · rw [if_neg hac, if_neg hac, mget]
theorem sb_get {w : World} {b : Nat} (h : b < w.heap.size) (o : Obj) : (setBlock w b o).heap[b]? = some o := by simp [ChangeMaps.setBlock, h]
def isMap (b : Nat) : Nat → Prop := fun k => k = b
theorem Ch.setBlock {S : Nat → Prop} {w w' : World} (h : Ch S w w') {b : Nat} (hb : S b ∨ w.heap.size ≤ b) (o : Obj) : Ch S w (setBlock w' b o) :=
  ⟨h.os, h.tape, h.output, by simpa [ChangeMaps.setBlock] using h.size, fun k hk hn => by
    have hne : b ≠ k := by
      rintro rfl
      rcases hb with hb | hb
      · exact hn hb
      · omega
    simp only [ChangeMaps.setBlock]
    rw [Array.getElem?_setIfInBounds_ne hne]
    exact h.block k hk hn⟩
section
variable {P : Program} {w : World} {t k e : TypeId} {b : Nat} {F : Nat → Option Value}
theorem MapAt.lt (h : MapAt w b F) : b < w.heap.size := by
  obtain ⟨es, clock, hb, _⟩ := h
  exact lt_of_block hb
theorem MapAt.ch {S : Nat → Prop} {w' : World} (h : MapAt w b F) (hc : Ch S w w') (hn : ¬ S b) : MapAt w' b F := by
  obtain ⟨es, clock, hb, h1, h2⟩ := h
  exact ⟨es, clock, hc.obj hb hn, h1, h2⟩
theorem MapAt.made (w : World) : MapAt (w.alloc (.map #[] 0)) w.heap.size (fun _ => none) := ⟨#[], 0, heap_alloc_new w _, ⟨by simp, by simp⟩, fun a => rfl⟩
theorem MapAt.congr {F' : Nat → Option Value} (h : MapAt w b F) (hf : ∀ a, F a = F' a) : MapAt w b F' := by
  obtain ⟨es, clock, hb, h1, h2⟩ := h
  exact ⟨es, clock, hb, h1, fun a => (h2 a).trans (hf a)⟩
theorem isKey_u16 (a : Int) : IsKey (.int .u16) (.int .u16 a) := rfl
/-- looked up, with the word whether it is there -/
theorem MapAt.look_ok (h : MapAt w b F) (ht : P.underlying t = some (.map k e)) (hk : P.underlying k = some (.int .u16)) {z : Value} (hz : (zeroValue e).run P w = .ok z w) (a : Nat) :
    (Instr.lookup t (.map (some b)) (.int .u16 a) true).run P w = .ok (.tuple #[(F a).getD z, .bool (F a).isSome]) w := by
  obtain ⟨es, clock, hb, h1, h2⟩ := h
  have hks : ∀ x ∈ es.toList, IsKey (.int .u16) x.key := fun x hx => by obtain ⟨q, hq⟩ := h1.keys x hx; rw [hq]; exact isKey_u16 _
  rcases findNow_spec (isKey_u16 a) es.toList 0 hks with ⟨g1, g2⟩ | ⟨j, e0, g1, g2, g3⟩
  · have hn : F a = none := by
      rw [← h2 a]
      exact mget_none fun x hx hxa => g2 x hx (by
        obtain ⟨q, hq⟩ := h1.keys x hx
        rw [hq] at hxa ⊢
        simp only [intOf] at hxa
        rw [hxa])
    rw [hn]
    simp [Instr.lookup, run_underlying ht, MapKept.run_getObj_map hb, run_checkKey hk (isKey_u16 a), run_findKey hk g1, hz, Result.andThen]
  · have hs : F a = some e0.val := by
      rw [← h2 a]
      exact mget_some h1.apart g2 (by rw [g3]; rfl)
    rw [hs]
    simp [Instr.lookup, run_underlying ht, MapKept.run_getObj_map hb, run_checkKey hk (isKey_u16 a), run_findKey hk g1, Result.andThen]
theorem MapAt.look (h : MapAt w b F) (ht : P.underlying t = some (.map k e)) (hk : P.underlying k = some (.int .u16)) {z : Value} (hz : (zeroValue e).run P w = .ok z w) (a : Nat) :
    (Instr.lookup t (.map (some b)) (.int .u16 a) false).run P w = .ok ((F a).getD z) w := by
  obtain ⟨es, clock, hb, h1, h2⟩ := h
  have hks : ∀ x ∈ es.toList, IsKey (.int .u16) x.key := fun x hx => by obtain ⟨q, hq⟩ := h1.keys x hx; rw [hq]; exact isKey_u16 _
  rcases findNow_spec (isKey_u16 a) es.toList 0 hks with ⟨g1, g2⟩ | ⟨j, e0, g1, g2, g3⟩
  · have hn : F a = none := by
      rw [← h2 a]
      exact mget_none fun x hx hxa => g2 x hx (by
        obtain ⟨q, hq⟩ := h1.keys x hx
        rw [hq] at hxa ⊢
        simp only [intOf] at hxa
        rw [hxa])
    rw [hn]
    simp [Instr.lookup, run_underlying ht, MapKept.run_getObj_map hb, run_checkKey hk (isKey_u16 a), run_findKey hk g1, hz, Result.andThen]
  · have hs : F a = some e0.val := by
      rw [← h2 a]
      exact mget_some h1.apart g2 (by rw [g3]; rfl)
    rw [hs]
    simp [Instr.lookup, run_underlying ht, MapKept.run_getObj_map hb, run_checkKey hk (isKey_u16 a), run_findKey hk g1, Result.andThen]
/-- an entry set -/
theorem MapAt.upd (h : MapAt w b F) (ht : P.underlying t = some (.map k e)) (hk : P.underlying k = some (.int .u16)) (a : Nat) (v : Value) :
    ∃ w', (Instr.mapUpdate t (.map (some b)) (.int .u16 a) v).run P w = .ok () w' ∧ MapAt w' b (fun x => if x = a then some v else F x) ∧ Ch (isMap b) w w' ∧ w'.heap.size = w.heap.size := by
  obtain ⟨es, clock, hb, h1, h2⟩ := h
  have hlt := lt_of_block hb
  have hks : ∀ x ∈ es.toList, IsKey (.int .u16) x.key := fun x hx => by obtain ⟨q, hq⟩ := h1.keys x hx; rw [hq]; exact isKey_u16 _
  rcases findNow_spec (isKey_u16 a) es.toList 0 hks with ⟨g1, g2⟩ | ⟨j, e0, g1, g2, g3⟩
  · have hne : ∀ x ∈ es.toList, intOf x.key ≠ (a : Int) := fun x hx hxa => g2 x hx (by
        obtain ⟨q, hq⟩ := h1.keys x hx
        rw [hq] at hxa ⊢
        simp only [intOf] at hxa
        rw [hxa])
    refine ⟨setBlock w b (.map (es.push ⟨.int .u16 a, v, clock⟩) (clock + 1)), ?_, ⟨_, _, sb_get hlt _, ⟨fun x hx => ?_, ?_⟩, fun x => ?_⟩, (Ch.refl (isMap b) w).setBlock (.inl rfl) _, by simp [ChangeMaps.setBlock]⟩
    · simp [Instr.mapUpdate, run_underlying ht, MapKept.run_getObj_map hb, run_checkKey hk (isKey_u16 a), run_findKey hk g1, MapKept.run_setObj_map _ hb, Result.andThen, ChangeMaps.setBlock]
    · simp only [Array.toList_push, List.mem_append, List.mem_singleton] at hx
      rcases hx with hx | rfl
      · exact h1.keys x hx
      · exact ⟨a, rfl⟩
    · rw [Array.toList_push, List.pairwise_append]
      refine ⟨h1.apart, by simp, fun x hx y hy => ?_⟩
      simp only [List.mem_singleton] at hy
      subst hy
      exact hne x hx
    · rw [Array.toList_push, mget_push (c := a) rfl hne, h2 x]
  · have hj : es[j]? = some e0 := by simpa using g2
    refine ⟨setBlock w b (.map (es.modify j (fun e' => { e' with key := .int .u16 a, val := v })) clock), ?_, ⟨_, _, sb_get hlt _, ⟨fun x hx => ?_, ?_⟩, fun x => ?_⟩, (Ch.refl (isMap b) w).setBlock (.inl rfl) _, by simp [ChangeMaps.setBlock]⟩
    · simp [Instr.mapUpdate, run_underlying ht, MapKept.run_getObj_map hb, run_checkKey hk (isKey_u16 a), run_findKey hk g1, hj, g3, run_keyThatStays (isKey_u16 a), MapKept.run_setObj_map _ hb, Result.andThen, ChangeMaps.setBlock]
    · rcases MapFrom.mem_modify hx with hx | ⟨e', _, rfl⟩
      · exact h1.keys x hx
      · exact ⟨a, rfl⟩
    · rw [Array.toList_modify]
      have hm : (es.toList.modify j (fun e' => { e' with key := .int .u16 a, val := v })).map (fun x => intOf x.key) = es.toList.map (fun x => intOf x.key) := by
        rw [modify_eq_set _ _ _ _ g2, List.map_set]
        apply List.ext_getElem?
        intro i
        by_cases hij : j = i
        · subst hij
          rw [List.getElem?_set_self (by simpa using (List.getElem?_eq_some_iff.1 g2).1)]
          simp only [List.getElem?_map, g2, Option.map_some, g3]
        · rw [List.getElem?_set_ne hij]
      have := h1.apart
      rw [← List.pairwise_map (f := fun x : MapEntry => intOf x.key) (R := fun a b => a ≠ b)] at this ⊢
      rw [hm]
      exact this
    · rw [Array.toList_modify, mget_modify (c := a) _ (fun y _ => rfl) (by rw [g3]; rfl) h1.apart g2, h2 x]
/-- an entry deleted -/
theorem MapAt.del (h : MapAt w b F) (ht : P.underlying t = some (.map k e)) (hk : P.underlying k = some (.int .u16)) (a : Nat) (ty : TypeId) :
    ∃ w', (Builtin.delete_ #[t, k] ty #[.map (some b), .int .u16 a]).run P w = .ok (.tuple #[]) w' ∧ MapAt w' b (fun x => if x = a then none else F x) ∧ Ch (isMap b) w w' ∧ w'.heap.size = w.heap.size := by
  obtain ⟨es, clock, hb, h1, h2⟩ := h
  have hlt := lt_of_block hb
  have hks : ∀ x ∈ es.toList, IsKey (.int .u16) x.key := fun x hx => by obtain ⟨q, hq⟩ := h1.keys x hx; rw [hq]; exact isKey_u16 _
  rcases findNow_spec (isKey_u16 a) es.toList 0 hks with ⟨g1, g2⟩ | ⟨j, e0, g1, g2, g3⟩
  · have hne : ∀ x ∈ es.toList, intOf x.key ≠ (a : Int) := fun x hx hxa => g2 x hx (by
        obtain ⟨q, hq⟩ := h1.keys x hx
        rw [hq] at hxa ⊢
        simp only [intOf] at hxa
        rw [hxa])
    refine ⟨setBlock w b (.map es clock), ?_, ⟨_, _, sb_get hlt _, h1, fun x => ?_⟩, (Ch.refl (isMap b) w).setBlock (.inl rfl) _, by simp [ChangeMaps.setBlock]⟩
    · simp [Builtin.delete_, run_underlying ht, MapKept.run_getObj_map hb, run_checkKey hk (isKey_u16 a), run_findKey hk g1, MapKept.run_setObj_map _ hb, Result.andThen, ChangeMaps.setBlock]
    · show _ = if x = a then none else F x
      by_cases hx : x = a
      · subst hx; rw [if_pos rfl]; exact mget_none hne
      · rw [if_neg hx]; exact h2 x
  · have hjl : j < es.toList.length := (List.getElem?_eq_some_iff.1 g2).1
    have hjs : j < es.size := by simpa using hjl
    have hsub : (es.eraseIdxIfInBounds j).toList = es.toList.eraseIdx j := by
      unfold Array.eraseIdxIfInBounds
      rw [dif_pos hjs]
      simp
    refine ⟨setBlock w b (.map (es.eraseIdxIfInBounds j) clock), ?_, ⟨_, _, sb_get hlt _, ⟨fun x hx => ?_, ?_⟩, fun x => ?_⟩, (Ch.refl (isMap b) w).setBlock (.inl rfl) _, by simp [ChangeMaps.setBlock]⟩
    · simp [Builtin.delete_, run_underlying ht, MapKept.run_getObj_map hb, run_checkKey hk (isKey_u16 a), run_findKey hk g1, MapKept.run_setObj_map _ hb, Result.andThen, ChangeMaps.setBlock]
    · rw [hsub] at hx
      exact h1.keys x ((List.eraseIdx_sublist _ _).subset hx)
    · rw [hsub]
      exact h1.apart.sublist (List.eraseIdx_sublist _ _)
    · rw [hsub, mget_erase (c := a) (by rw [g3]; rfl) h1.apart g2, h2 x]
end
end Go.Kin
