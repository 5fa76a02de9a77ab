/- The table law's own small functions: of, items, great, wrong, blocks. Conditions: the arguments lie in the world. -/
import Derived.Test.YtnefdmbdkljifaaGreatDoorSoN
import Derived.Laws.Externs
import Derived.Test.YtnefdmbdkljifaaGreatDoorTbL
import Derived.Test.YtnefdmbdkljifaaGreatDoorTbM
import Derived.Test.YtnefdmbdkljifaaGreatDoorTrL
set_option linter.unusedSimpArgs false
set_option linter.unusedVariables false

/- Maps with keys of any kind: their number of entries, cleared, copied. They speak of no program. No condition. -/
namespace Go.Kin
open Go Go.RowKit Go.Maps
open Go.WideElems (Fit rd rg pl rd_key rd_val rg_of)

section
variable {P : Program} {k : TypeId} {κ : Type} {kv : κ → Value} {w w' : World} {t e : TypeId} {b n : Nat} {F : κ → Option Value}
/-- all keys that it has, each once; so many entries it has -/
theorem MapV.count (h : MapV w P k kv b n F) (K : Kys P k kv) (ht : P.underlying t = some (.map k e)) (ty : TypeId) :
    ∃ xs : List κ, xs.Nodup ∧ (∀ a, a ∈ xs ↔ (F a).isSome = true) ∧ xs.length ≤ n ∧ (Builtin.len_ #[t] ty #[.map (some b)]).run P w = .ok (.int .i64 xs.length) w := by
  obtain ⟨D, h, h2⟩ := h
  have hlen := h.len ht ty
  have hcs := fun a => own_cases h (kyl P k (kv a))
  obtain ⟨es, clock, hb, Fi, hs, rfl⟩ := h
  have key : ∀ x : MapEntry, x ∈ es.toList → ∃ a, (rg P k Rv x).1 = kyl P k (kv a) := fun x hx => by
    obtain ⟨y, hy⟩ := Fi.reads x hx
    obtain ⟨a, ha⟩ := K.inv _ _ (rd_key hy)
    refine ⟨a, ?_⟩
    rw [rg_of hy]
    have := rd_key hy
    rw [ha, K.at a] at this
    exact (Option.some.inj this).symm
  have pick : ∀ l : List MapEntry, (∀ x ∈ l, x ∈ es.toList) → ∃ xs : List κ, xs.map (fun a => kyl P k (kv a)) = l.map fun x => (rg P k Rv x).1 := by
    intro l
    induction l with
    | nil => exact fun _ => ⟨[], rfl⟩
    | cons x l ih =>
      intro hl
      obtain ⟨xs, hxs⟩ := ih fun y hy => hl y (by simp [hy])
      obtain ⟨a, ha⟩ := key x (hl x (by simp))
      exact ⟨a :: xs, by simp only [List.map_cons, hxs, ha]⟩
  obtain ⟨xs, hxs⟩ := pick es.toList fun _ h => h
  have hl : xs.length = es.size := by
    have := congrArg List.length hxs
    simpa using this
  have hsz : Maps.size (DataW.map ((es.toList.map (rg P k Rv)).foldr DataW.insert [])) = es.size := by simp [Maps.size, length_sorted]
  refine ⟨xs, ?_, fun a => ?_, by omega, by rw [hlen, hsz, hl]⟩
  · have hp := Maps.fit_apart K.law Fi
    rw [List.pairwise_map] at hp
    have hp2 : (es.toList.map fun x => (rg P k Rv x).1).Pairwise (· ≠ ·) := by
      rw [List.pairwise_map]
      exact hp
    rw [← hxs, List.pairwise_map] at hp2
    exact hp2.imp fun h e => h (by rw [e])
  · have hm : a ∈ xs ↔ Maps.has (DataW.map ((es.toList.map (rg P k Rv)).foldr DataW.insert [])) (kyl P k (kv a)) = true := by
      rw [Maps.has_eq, List.any_eq_true]
      constructor
      · intro ha
        have : kyl P k (kv a) ∈ es.toList.map fun x => (rg P k Rv x).1 := by
          rw [← hxs]
          exact List.mem_map_of_mem ha
        obtain ⟨x, hx, he⟩ := List.mem_map.1 this
        refine ⟨rg P k Rv x, mem_sorted.2 (List.mem_map_of_mem hx), ?_⟩
        rw [he]
        exact WideAt.sameKey_self (K.lit a)
      · rintro ⟨p, hp, hs⟩
        obtain ⟨x, hx, rfl⟩ := List.mem_map.1 (mem_sorted.1 hp)
        have he := WideAt.sameKey_eq hs
        have : kyl P k (kv a) ∈ xs.map fun a => kyl P k (kv a) := by
          rw [hxs, ← he]
          exact List.mem_map_of_mem (f := fun x => (rg P k Rv x).1) hx
        obtain ⟨c, hc, he2⟩ := List.mem_map.1 this
        by_cases hca : c = a
        · rw [← hca]; exact hc
        · exact absurd he2 (K.ne hca)
    rw [hm, ← h2 a]
    rcases hcs a with ⟨h3, h4, _⟩ | ⟨v, h3, h4, _⟩ <;> rw [h3, h4] <;> simp
theorem MapV.clear (h : MapV w P k kv b n F) (ht : P.underlying t = some (.map k e)) (ty : TypeId) :
    ∃ w', (Builtin.clear_ #[t] ty #[.map (some b)]).run P w = .ok (.tuple #[]) w' ∧ MapV w' P k kv b 0 (fun _ => none) ∧ Ch (Kin.one b) w w' ∧ w'.heap.size = w.heap.size := by
  obtain ⟨D, h, h2⟩ := h
  obtain ⟨es, clock, hb, Fi, hs, rfl⟩ := h
  have hlt := lt_of_block hb
  refine ⟨ChangeMaps.setBlock w b (.map #[] clock), ?_, ⟨.map [], ⟨#[], clock, ?_, ⟨by simp, MapKept.stamped_empty clock, by simp⟩, Nat.le_refl _, rfl⟩, fun a => rfl⟩, ⟨rfl, rfl, rfl, by simp [ChangeMaps.setBlock], fun j _ hj => ?_⟩, by simp [ChangeMaps.setBlock]⟩
  · have hlt2 : b < w.heap.size := hlt
    have hset : (setObj b (.map #[] clock)).run P w = .ok () (ChangeMaps.setBlock w b (.map #[] clock)) := MapKept.run_setObj_map _ hb
    simp [Builtin.clear_, run_underlying ht, MapKept.run_getObj_map hb, hset, Result.andThen]
  · simp [ChangeMaps.setBlock, hlt]
  · have : b ≠ j := fun e => hj e.symm
    simp only [ChangeMaps.setBlock, Array.getElem?_setIfInBounds_ne this]
/-- a copy of a map's block -/
theorem MapV.clone (h : MapV w P k kv b n F) (t : TypeId) :
    ∃ o : Obj, (Extern.MapsClone.clone #[.iface t (.map (some b))]).run P w = .ok (.iface t (.map (some w.heap.size))) (w.alloc o) ∧ MapV (w.alloc o) P k kv w.heap.size n F := by
  obtain ⟨D, h, h2⟩ := h
  obtain ⟨es, clock, hb, Fi, hs, hD⟩ := h
  refine ⟨.map es clock, ?_, D, ⟨es, clock, (MapKept.heap_alloc w _).1, Fi, hs, hD⟩, h2⟩
  have e : Extern.MapsClone.clone #[.iface t (.map (some b))] = (getObj b >>= fun o => match o with
      | .map entries clock => (newObj (.map entries clock) >>= fun n => pure (.iface t (.map (some n))))
      | _ => stuck "maps.clone: a map expected") := rfl
  rw [e]
  simp [MapKept.run_getObj_map hb, Result.andThen, go_sem]
theorem eql_map_nil (w : World) (t k e : TypeId) (p : Option Nat) (h : P.underlying t = some (.map k e)) : (binOp .eql t (.map p) (.map none)).run P w = .ok (.bool p.isNone) w := by
  have h1 : ∀ d, (Op.equalIn (d + 1) t (.map p) (.map none)).run P w = .ok p.isNone w := fun d => by cases p <;> simp [Op.equalIn, run_underlying h]
  simp only [binOp]
  simp [show Op.equal t (.map p) (.map none) = Op.equalIn (9999 + 1) t (.map p) (.map none) from rfl, h1 9999]
theorem VCall_value {f : FuncId} {args : List Value} {v : Value} {w' : World} {K : Value → World → Prop} (h : (callFunc f args.toArray).run P w = .ok (.value v) w') (hk : K v w') : VCall P (.func (.func f) #[] #[]) args w K := by
  unfold VCall
  simp [Deferred.ofValue, invoke, h]
  exact hk
theorem run_assert_map (t xT k e : TypeId) (v : Value) (w : World) (h : P.underlying t = some (.map k e)) : (Instr.typeAssert (.iface t v) xT t false).run P w = .ok v w := by
  simp [Instr.typeAssert, run_underlying h, go_sem, Result.andThen]
theorem VX_assert {ρ : Operand → Value} {d : Option Tmp} {x : Operand} {a b ty : TypeId} {ok : Bool} {pos : String} {aft : Array Edge} {g : Option (Nat × Bool)} {v : Value} {w' : World} {K : Value → World → Prop} (h : (Instr.typeAssert (ρ x) a b ok).run P w = .ok v w') (hk : K v w') : VX P ρ ⟨d, .typeAssert x a b ok, ty, pos, aft, g⟩ w K := by
  refine VX_of_run (w' := w') (v := v) ?_ hk
  simp [execOp, h]
end
end Go.Kin

/- Tables: the items of each leaf, gathered in a map. No condition but that the values are of their types. -/
namespace Go.Proofs.YtnefdmbdkljifaaGreatDoor
open Go.RowKit Go.Kin Go.Maps

/-- what a map has for a leaf -/
def gv (F : Off → Option Value) (o : Off) : Value := (F o).getD (.slice none 0 0)
/-- a map holds the groups of the items l, each in a block of its own from B on -/
structure Grp (B b : Nat) (F : Off → Option Value) (l : List (Nat × In)) (w : World) : Prop where
  map : MapV w Tryz.prog 32 kO b l.length F
  own : ∀ o : Off, w.ownsRow 0 76 45 (gv F o) (btgrp l o.val).length (rowsL itv (btgrp l o.val))
  is : ∀ o : Off, (F o).isSome = true ↔ btgrp l o.val ≠ []
  fr : ∀ (o : Off) k, (gv F o).ownBlock = some k → B ≤ k ∧ k ≠ b
  inj : ∀ (o o' : Off) k, (gv F o).ownBlock = some k → (gv F o').ownBlock = some k → o = o'
theorem gv_lit {w : World} {e n : Nat} {v : Value} {xs : List Value} (h : w.ownsRow 0 e 45 v n xs) : ∃ A c, v = .slice A n c := by
  rcases h.2 with ⟨rfl, h0⟩ | ⟨g, cap, cur, rfl, _⟩
  · exact ⟨none, 0, by rw [h0]⟩
  · exact ⟨_, _, rfl⟩
section
variable {B b : Nat} {F : Off → Option Value} {l : List (Nat × In)} {w w' : World}
theorem Grp.ch {S : Nat → Prop} (h : Grp B b F l w) (hc : Ch S w w') (hb : ¬ S b) (hn : ∀ (o : Off) k, (gv F o).ownBlock = some k → ¬ S k) : Grp B b F l w' :=
  ⟨h.map.ch hc hb, fun o => own_ch (h.own o) hc fun k hk => hn o k hk, h.is, h.fr, h.inj⟩
theorem Grp.begin (w : World) (B : Nat) : Grp B w.heap.size (fun _ => none) [] (w.alloc (.map #[] 0)) :=
  ⟨MapV.made w _ _ _, fun o => World.ownsRow_nil _ _ _ _, fun o => by simp [btgrp], fun o k hk => by simp [gv, Value.ownBlock] at hk, fun o o' k hk => by simp [gv, Value.ownBlock] at hk⟩
set_option maxRecDepth 100000 in
set_option maxHeartbeats 2000000 in
theorem gather_any {q : Nat} (h : Grp B b F l w) (hq : w.heap[q]? = some (.cells #[.map (some b)] 79 (0, 0))) (hqB : q < B) (hbB : b < B) (hqb : q ≠ b) (hB : B ≤ w.heap.size) {x : Nat × In} (ok : ItOk x) (hn : l.length ≤ 1000000) :
    Ret Tryz.prog 23 #[.agg (itv x), .pointer (some ⟨q, 0, none⟩)] w fun _ w' => ∃ F', Grp B b F' (l ++ [x]) w' ∧ Ch (fun k => k = b ∨ B ≤ k) w w' := by
  refine v_enter Tryz.func23 Tryz.ntmps23 rfl (by simp) fun R' hR => ?_
  have hxs := itv_size ok
  have hxa := itv_all ok
  have hx0 := itv_0 (x := x)
  have ca := (Ch.refl Nw w).alloc (.cells (itv x) 76)
  have ba := hp_alloc w (.cells (itv x) 76)
  obtain ⟨g, hg⟩ : ∃ g, w.heap.size = g := ⟨_, rfl⟩
  have sa : (w.alloc (.cells (itv x) 76)).heap.size = g + 1 := by rw [← hg]; simp
  obtain ⟨w1, hw1⟩ : ∃ w1, w.alloc (.cells (itv x) 76) = w1 := ⟨_, rfl⟩
  rw [hw1] at ca ba sa
  rw [hg] at ba
  have c0 := (cell_blk ba 0).trans hx0
  simp [go_sem, hxs, hxa, hw1, hg, c0]
  clear hw1
  refine (tbleaf_any x.1 ok.n w1).mono ?_
  rintro _ w2 ⟨rfl, hw2⟩
  subst w2
  obtain ⟨o, ho⟩ : ∃ o : Off, o.val = x.1 / 4 := ⟨⟨x.1 / 4, by have := ok.n; omega⟩, rfl⟩
  rw [← ho]
  simp [go_sem]
  refine v_draw' [(0, none), (1, none), (2, none), (3, none), (4, none), (5, none), (6, some [0, 1, 2, 3, 4]), (7, some [0, 1]), (8, some [])] (by kernel_rfl) (by kernel_rfl) ?_
  have ca' := ca.drew
  have ba' : w1.drew.heap[g]? = some (.cells (itv x) 76 (0, 0)) := ba
  have sa' : w1.drew.heap.size = g + 1 := sa
  clear ca ba sa c0
  obtain ⟨w3, hw3⟩ : ∃ w3, w1.drew = w3 := ⟨_, rfl⟩
  rw [hw3] at ca' ba' sa' ⊢
  clear hw3
  have h1 := h.ch ca' id fun _ _ _ e => e
  have q1 := ca'.obj hq id
  have cq1 := cell_blk q1 0
  obtain ⟨A, c, hv⟩ := gv_lit (h1.own o)
  have hlk := h1.map.look kysO Tryz.underlying79 (z := .slice none 0 0) (by kernel_rfl) o
  have hlk : (Instr.lookup 79 (.map (some b)) (.int .u32 o.val) false).run Tryz.prog w3 = .ok (.slice A (btgrp l o.val).length c) w3 := by rw [← hv]; exact hlk
  have c2 := (Ch.refl Nw w3).alloc (.cells (itv x) 76)
  have s2 : (w3.alloc (.cells (itv x) 76)).heap.size = g + 2 := by simp [sa']
  have h2 := h1.ch c2 id fun _ _ _ e => e
  have q2 := c2.obj q1 id
  have cq2 := cell_blk q2 0
  have hlk2 := h2.map.look kysO Tryz.underlying79 (z := .slice none 0 0) (by kernel_rfl) o
  have hlk2 : (Instr.lookup 79 (.map (some b)) (.int .u32 o.val) false).run Tryz.prog (w3.alloc (.cells (itv x) 76)) = .ok (.slice A (btgrp l o.val).length c) (w3.alloc (.cells (itv x) 76)) := by rw [← hv]; exact hlk2
  have own1 := h1.own o
  have fr1 := h1.fr o
  have inj1 := h1.inj o
  rw [hv] at own1 fr1
  simp [↓VX_bsl1, go_sem, cq1, hlk, ba', hxs, hxa]
  refine VBs_run (bsl_it ok _) ?_
  simp [go_sem, cq1, cq2, hlk2]
  have hbl : (btgrp l o.val).length ≤ 1000000 := Nat.le_trans (btgrp_len l o.val) hn
  refine VB_app1S (us := itL x) tyIt own1 (itL_len ok) (ones_mem (itv_ones (x := x))) (by unfold maxLen; omega) (by omega) fun v8 w8 k1 k2 k3 => ?_
  have hs8 := k2.size
  have n8 : ∀ k, (Value.slice A (btgrp l o.val).length c).ownBlock = some k → B ≤ k ∧ k ≠ b := fr1
  have q8 := k2.obj q1 fun e => by have := (n8 q e).1; omega
  have cq8 := cell_blk q8 0
  have m8 := h1.map.ch k2 fun e => (n8 b e).2 rfl
  obtain ⟨w9, hup, m9, c9, s9⟩ := m8.put kysO Tryz.underlying79 (by unfold maxLen; omega) o v8
  have hup : (Instr.mapUpdate 79 (.map (some b)) (.int .u32 o.val) v8).run Tryz.prog w8 = .ok () w9 := hup
  simp [go_sem, cq8, hup]
  have hb8 : b < w8.heap.size := m8.lt
  have f8 : ∀ k, v8.ownBlock = some k → B ≤ k ∧ k ≠ b := fun k hk => by
    rcases k3 with e | e
    · rw [e] at hk
      exact n8 k hk
    · have := e k hk
      omega
  have eL : rowsL itv (btgrp (l ++ [x]) o.val) = rowsL itv (btgrp l o.val) ++ itL x ∧ (btgrp (l ++ [x]) o.val).length = (btgrp l o.val).length + 1 := by
    rw [btgrp_snoc, if_pos ho.symm, rowsL_append, rowsL_one]
    exact ⟨rfl, by simp⟩
  have old : ∀ o' : Off, o' ≠ o → gv (fun a => if a = o then some v8 else F a) o' = gv F o' ∧ btgrp (l ++ [x]) o'.val = btgrp l o'.val := fun o' hne => by
    refine ⟨by unfold gv; simp only; rw [if_neg hne], ?_⟩
    rw [btgrp_snoc, if_neg (fun e => hne (Fin.ext (by omega))), List.append_nil]
  have new : gv (fun a => if a = o then some v8 else F a) o = v8 := by unfold gv; simp
  have nb : ∀ k, v8.ownBlock = some k → ¬ Kin.one b k := fun k hk e => (f8 k hk).2 e
  refine hR _ _ ⟨fun a => if a = o then some v8 else F a, ⟨?_, fun o' => ?_, fun o' => ?_, fun o' k hk => ?_, fun o1 o2 k h1k h2k => ?_⟩, ?_⟩
  · rw [List.length_append]
    exact m9
  · by_cases e : o' = o
    · subst e
      rw [new, eL.1, eL.2]
      exact own_ch k1 c9 nb
    · rw [(old o' e).1, (old o' e).2]
      refine own_ch (own_ch (h1.own o') k2 fun k hk e2 => ?_) c9 fun k hk e2 => (h.fr o' k hk).2 e2
      rw [← hv] at e2
      exact e (h.inj _ _ _ hk e2)
  · by_cases e : o' = o
    · subst e
      rw [if_pos rfl]
      simp only [Option.isSome_some, true_iff]
      intro e3
      have := eL.2
      rw [e3] at this
      simp at this
    · rw [if_neg e, (old o' e).2]
      exact h.is o'
  · by_cases e : o' = o
    · subst e
      rw [new] at hk
      exact f8 k hk
    · rw [(old o' e).1] at hk
      exact h.fr o' k hk
  · have key : ∀ o' : Off, o' ≠ o → ∀ k, (gv F o').ownBlock = some k → v8.ownBlock ≠ some k := fun o' hne k hk e2 => by
      rcases k3 with e3 | e3
      · rw [e3, ← hv] at e2
        exact hne (h.inj _ _ _ hk e2)
      · have h4 := e3 k e2
        have h5 := own_in (h1.own o') k hk
        omega
    by_cases e1 : o1 = o
    · by_cases e2 : o2 = o
      · rw [e1, e2]
      · rw [e1, new] at h1k
        rw [(old o2 e2).1] at h2k
        exact absurd h1k (key o2 e2 k h2k)
    · rw [(old o1 e1).1] at h1k
      by_cases e2 : o2 = o
      · rw [e2, new] at h2k
        exact absurd h2k (key o1 e1 k h1k)
      · rw [(old o2 e2).1] at h2k
        exact h.inj _ _ _ h1k h2k
  · exact ((ca'.mono (S' := fun k => k = b ∨ B ≤ k) fun _ _ e => e.elim).trans' k2 fun j hj e => .inr (n8 j e).1).trans' c9 fun j hj e => .inl e
end
/-- the number ahead of place i -/
def prevI (l : List (Nat × In)) (i : Nat) : Option Nat := if i = 0 then none else (l[i - 1]?).map (·.1)
/-- an element's number and inode, in a list of items -/
theorem it_at {w : World} {v : Value} {l : List (Nat × In)} (hl : Lst w v itL 45 l) (hin : ∀ x ∈ l, ItOk x) {i : Nat} {x : Nat × In} (hx : l[i]? = some x) :
    ∃ b off c cs T fr, v = .slice (some ⟨b, off, none⟩) l.length c ∧ w.heap[b]? = some (.cells cs T fr) ∧ w.cell? ⟨b, off + i * 45, none⟩ = some (.int .u16 x.1) ∧ cs.extract (off + i * 45 + 1) (off + i * 45 + 1 + 44) = ino x.2 ∧ off + i * 45 + 1 + 44 ≤ cs.size ∧ cs.extract (off + i * 45) (off + i * 45 + 45) = itv x := by
  have hl' : Lst w v (fun a => (itv a).toList) 45 l := hl
  obtain ⟨b, off, c, cs, T, fr, hv, hb, he, hc⟩ := hl'.elem (by decide) (fun a ha => itv_size (hin a ha)) hx
  have okx := hin x (List.mem_of_getElem? hx)
  refine ⟨b, off, c, cs, T, fr, hv, hb, ?_, ?_, by omega, he⟩
  · rw [cell_blk hb]
    have h0 := itv_0 (x := x)
    rw [← he, Array.getElem?_extract, if_pos (by omega)] at h0
    exact h0
  · have h1 := itv_i okx
    rw [← he] at h1
    rw [← h1]
    simp [Array.extract_extract]
end Go.Proofs.YtnefdmbdkljifaaGreatDoor

namespace Go.Proofs.YtnefdmbdkljifaaGreatDoor
open Go.RowKit Go.Kin

theorem lawof_any (x : In) (w : World) (ok : InOk x) : Ret Tryz.prog 15 #[.agg (ino x)] w fun v' w' => v' = .agg (ino x) ∧ Ch Nw w w' := by
  refine v_enter Tryz.func15 Tryz.ntmps15 rfl (by simp) fun R' hR => ?_
  have hs := ino_size ok
  have ha := ino_all ok
  have hz := ino_size inz_ok
  have hr := ino_r ok
  simp [go_sem, hz_ino, zc_ino, ino_k, ino_n, ino_s]
  have b0 := al2_0 w (.cells (ino x) 50) (.cells (ino inz) 56)
  have b1 := al2_1 w (.cells (ino x) 50) (.cells (ino inz) 56)
  have c1 := ((Ch.refl Nw w).alloc (.cells (ino x) 50)).alloc (.cells (ino inz) 56)
  revert b0 b1 c1
  generalize (w.alloc (.cells (ino x) 50)).alloc (.cells (ino inz) 56) = w1
  generalize hg : w.heap.size = g
  intro b0 b1 c1
  have e0 := (cell_blk b0 0).trans ino_k
  have e1 := (cell_blk b0 1).trans ino_n
  have e2 := (cell_blk b0 2).trans ino_s
  have b3 : (w1.setRow (g + 1) (ino x)).heap[g + 1]? = some (.cells (ino x) 56 (0, 0)) := by rw [hp_setRow, b1]; rfl
  simp [go_sem, e0, e1, e2, b0, b1, hs, hz, hr, bld_ino4 x ok, blit_whole, b3, ha]
  exact hR _ _ ⟨rfl, c1.setRow (g := g + 1) (.inr (by omega)) _⟩
/-- an act: a Set's items -/
structure Tq where
  v : Value
  l : List (Nat × In)
def tqL (a : Tq) : List Value := [a.v]
structure Tq.In (w : World) (a : Tq) : Prop where
  sl : Lst w a.v itL 45 a.l
  ok : ∀ x ∈ a.l, ItOk x
theorem Tq.In.ch {w w' : World} {a : Tq} (h : a.In w) (hc : Ch Nw w w') : a.In w' := ⟨h.sl.ch hc fun _ _ _ e => e, h.ok⟩
theorem tqgreat_any (v : Value) (L : List Tq) (w : World) (hL : Lst w v tqL 1 L) (hin : ∀ a ∈ L, a.In w) :
    Ret Tryz.prog 6 #[v] w fun v' w' => ∃ g, v' = .bool g ∧ (g = false → L.length ≤ 30 ∧ ∀ a ∈ L, a.l.length ≤ 30) ∧ w' = w := by
  refine v_enter Tryz.func6 Tryz.ntmps6 rfl (by simp) fun R' hR => ?_
  have hlen := hL.len Tryz.underlying22 3
  by_cases h60 : (30 : Int) < (L.length : Int)
  · simp [go_sem, hlen, h60]
    exact hR _ _ ⟨true, rfl, by simp, rfl⟩
  simp [go_sem, hlen, h60]
  obtain ⟨A0, c0, rfl, _, _, hrd⟩ := id hL
  refine v_loop (fun r f u => ∃ (i : Nat), r = L.length - i ∧ i ≤ L.length ∧ f 0 = .slice A0 L.length c0 ∧ f 3 = .int .i64 i ∧ (∀ j a, j < i → L[j]? = some a → a.l.length ≤ 30) ∧ u = w) L.length
    ⟨0, rfl, by omega, by simp, by simp, fun j a h => absurd h (by omega), rfl⟩ ?_
  rintro J hJ _ f u ⟨i, rfl, hi, f0, f3, hall, rfl⟩
  by_cases hlt : i < L.length
  · obtain ⟨a, ha⟩ : ∃ a, L[i]? = some a := ⟨_, List.getElem?_eq_getElem hlt⟩
    obtain ⟨b, off, rfl, hblt, hrd⟩ := hrd (by omega)
    have hai := hin a (List.mem_of_getElem? ha)
    have q0 : u.cell? ⟨b, off + i * 1, none⟩ = some a.v := hrd i a 0 _ ha rfl
    rw [Nat.mul_one] at q0
    obtain ⟨A1, c1, hav, _⟩ := id hai.sl
    rw [hav] at q0
    have hii : (i : Int) < L.length := by omega
    have hwi : IntKind.i64.wrap ((i : Int) + 1) = ((i + 1 : Nat) : Int) := by rw [IntKind.wrap_i64]; omega
    by_cases h6 : (30 : Int) < (a.l.length : Int)
    · simp [go_sem, f0, f3, hii, hlt, q0, h6]
      exact hR _ _ ⟨true, rfl, by simp, rfl⟩
    · simp [go_sem, f0, f3, hii, hlt, q0, h6, hwi]
      refine Rnd.intro (L.length - (i + 1)) (by omega) (hJ _ _ _ ⟨i + 1, rfl, by omega, by simp [f0], by simp, fun j a' hj ha' => ?_, rfl⟩)
      by_cases hji : j = i
      · subst hji
        rw [ha] at ha'
        cases ha'
        omega
      · exact hall j a' (by omega) ha'
  · obtain rfl : i = L.length := by omega
    simp [go_sem, f0, f3]
    refine hR _ _ ⟨false, rfl, fun _ => ⟨by omega, fun a ha => ?_⟩, rfl⟩
    obtain ⟨j, hj⟩ := List.mem_iff_getElem?.1 ha
    exact hall j a (List.getElem?_eq_some_iff.1 hj).1 hj
set_option maxRecDepth 100000 in
theorem items_any (v : Value) (l : List (Nat × In)) (w : World) (hl : Lst w v itL 45 l) (hin : ∀ x ∈ l, ItOk x) (hn : l.length ≤ 1000) :
    Ret Tryz.prog 9 #[v] w fun v' w' => MineS 76 45 w v' l.length (rowsL itv l) w' := by
  refine v_enter Tryz.func9 Tryz.ntmps9 rfl (by simp) fun R' hR => ?_
  have hlen := hl.len Tryz.underlying45 3
  simp [go_sem]
  refine v_loop (fun r f u => ∃ (i : Nat), r = l.length - i ∧ i ≤ l.length ∧ f 0 = v ∧ f 4 = .int .i64 i ∧ MineS 76 45 w (f 3) i (rowsL itv (l.take i)) u) l.length
    ⟨0, rfl, by omega, by simp, by simp, by simpa [rowsL] using MineS.nil _ _ (Ch.refl _ _)⟩ ?_
  rintro J hJ _ f u ⟨i, rfl, hi, f0, f4, hm⟩
  by_cases hlt : i < l.length
  · obtain ⟨x, hx⟩ : ∃ x, l[i]? = some x := ⟨_, List.getElem?_eq_getElem hlt⟩
    have okx := hin x (List.mem_of_getElem? hx)
    have hii : (i : Int) < l.length := by omega
    have hwi : IntKind.i64.wrap ((i : Int) + 1) = ((i + 1 : Nat) : Int) := by rw [IntKind.wrap_i64]; omega
    obtain ⟨b, off, c, cs, T, fr, hv, hb, h0, h1, h2, _⟩ := it_at (hl.ch hm.ch fun _ _ _ e => e) hin hx
    have hlen' : ∀ w', (Builtin.len_ #[45] 3 #[.slice (some ⟨b, off, none⟩) l.length c]).run Tryz.prog w' = .ok (.int .i64 l.length) w' := fun w' => by rw [← hv]; exact hlen w'
    obtain ⟨A3, c3, h3⟩ := show ∃ A c, f 3 = .slice A i c from by
      rcases hm.own.2 with ⟨e, e2⟩ | ⟨g, cap, cur, e, _⟩
      · exact ⟨_, _, by rw [e, e2]⟩
      · exact ⟨_, _, e⟩
    rw [h3] at hm
    rw [hv] at f0
    simp [go_sem, f0, f4, hlen', hii]
    refine v_draw' [(0, none), (1, none), (2, none), (3, none), (4, none), (5, none), (6, none), (7, none), (8, none), (9, none), (10, none), (11, some [0, 1, 2, 3, 4, 5]), (12, none), (13, some [0]), (14, some []), (15, none)] (by kernel_rfl) (by kernel_rfl) ?_
    simp [go_sem, f0, f4, h3, hlt, h0, hb, h1, h2]
    refine (lawof_any x.2 u.drew okx.i).mono ?_
    rintro _ u2 ⟨rfl, c2⟩
    have hm2 := hm.drew.step c2
    have h02 : u2.cell? ⟨b, off + i * 45, none⟩ = some (.int .u16 x.1) := c2.cell (w := u.drew) h0 id
    simp [↓VX_bsl1, go_sem, f0, f4, h3, hlt, h02, bld_it x okx]
    refine VBs_run (bsl_it okx _) ?_
    simp [go_sem, f0, f4, h3]
    refine VB_app1S (us := itL x) tyIt hm2.own (itL_len okx) (ones_mem (itv_ones (x := x))) (by unfold maxLen; omega) (by omega) fun v8 w8 k1 k2 k3 => ?_
    have hm3 := hm2.grow k1 k2 k3
    have e : rowsL itv (l.take (i + 1)) = rowsL itv (l.take i) ++ itL x := by
      rw [List.take_add_one, hx, Option.toList_some, rowsL_append, rowsL_one]
      rfl
    simp [go_sem, f0, f4, hwi]
    exact Rnd.intro (l.length - (i + 1)) (by omega) (hJ _ _ _ ⟨i + 1, rfl, by omega, by simp [f0, hv], by simp, by rw [e]; simpa using hm3⟩)
  · obtain rfl : i = l.length := by omega
    rw [List.take_of_length_le (Nat.le_refl _)] at hm
    simp [go_sem, f0, f4, hlen]
    exact hR _ _ hm
set_option maxRecDepth 100000 in
set_option maxHeartbeats 4000000 in
theorem wrong_any (v : Value) (l : List (Nat × In)) (w : World) (hl : Lst w v itL 45 l) (hin : ∀ x ∈ l, ItOk x) (hn : l.length ≤ 1000) :
    Ret Tryz.prog 10 #[v] w fun v' w' => v' = .bool (!btOk none l) ∧ Ch Nw w w' := by
  refine v_enter Tryz.func10 Tryz.ntmps10 rfl (by simp) fun R' hR => ?_
  have hlen := hl.len Tryz.underlying45 3
  simp [go_sem]
  refine v_loop (fun r f u => ∃ (i : Nat), r = l.length - i ∧ i ≤ l.length ∧ f 0 = v ∧ f 3 = .int .i64 i ∧ btOk none l = btOk (prevI l i) (l.drop i) ∧ Ch Nw w u) l.length
    ⟨0, rfl, by omega, by simp, by simp, rfl, Ch.refl _ _⟩ ?_
  rintro J hJ _ f u ⟨i, rfl, hi, f0, f3, hok, cu⟩
  by_cases hlt : i < l.length
  · obtain ⟨x, hx⟩ : ∃ x, l[i]? = some x := ⟨_, List.getElem?_eq_getElem hlt⟩
    have okx := hin x (List.mem_of_getElem? hx)
    have hii : (i : Int) < l.length := by omega
    have hwi : IntKind.i64.wrap ((i : Int) + 1) = ((i + 1 : Nat) : Int) := by rw [IntKind.wrap_i64]; omega
    obtain ⟨b, off, c, cs, T, fr, hv, hb, h0, h1, h2, _⟩ := it_at (hl.ch cu fun _ _ _ e => e) hin hx
    have hbd : u.drew.heap[b]? = some (.cells cs T fr) := hb
    have h0d : u.drew.cell? ⟨b, off + i * 45, none⟩ = some (.int .u16 x.1) := h0
    have hlen' : ∀ w', (Builtin.len_ #[45] 3 #[.slice (some ⟨b, off, none⟩) l.length c]).run Tryz.prog w' = .ok (.int .i64 l.length) w' := fun w' => by rw [← hv]; exact hlen w'
    have hstep := btOk_at l hx
    rw [show (if i = 0 then none else (l[i - 1]?).map (·.1)) = prevI l i from rfl, show (if i + 1 = 0 then none else (l[i + 1 - 1]?).map (·.1)) = prevI l (i + 1) from rfl] at hstep
    rw [hstep] at hok
    have hone : btOne l i x = (decide (1 ≤ x.1 ∧ x.1 ≤ 255) && mayI x.2 && (match prevI l i with | none => true | some z => decide (z < x.1))) := rfl
    have bad : ∀ {W : World}, btOne l i x = false → Ch Nw u W → R' (.bool true) W := fun {W} e c => hR _ _ ⟨by rw [hok, e]; rfl, cu.trans c⟩
    have cd : Ch Nw u u.drew := (Ch.refl _ _).drew
    rw [hv] at f0
    simp [go_sem, f0, f3, hlen', hii]
    refine v_draw' [(0, none), (1, none), (2, none), (3, none), (4, none), (5, none), (6, none), (7, none), (8, none), (9, none), (10, none), (11, none), (12, none), (13, none), (14, none), (15, none), (16, none), (17, none), (18, none), (19, none), (20, none), (21, none), (22, none), (23, none), (24, none), (25, none), (26, none), (27, none), (28, none), (29, none), (30, none), (31, none), (32, none), (33, none), (34, none), (35, none), (36, none), (37, none), (38, some []), (39, none), (40, none)] (by kernel_rfl) (by kernel_rfl) ?_
    by_cases g1 : 1 ≤ x.1
    case neg =>
      have g1' : (x.1 : Int) < 1 := by omega
      simp [go_sem, f0, f3, hlt, h0, h0d, g1']
      exact bad (by rw [hone, decide_eq_false (fun e => g1 e.1)]; rfl) cd
    have g1' : ¬ (x.1 : Int) < 1 := by omega
    by_cases g2 : x.1 ≤ 255
    case neg =>
      have g2' : (255 : Int) < x.1 := by omega
      simp [go_sem, f0, f3, hlt, h0, h0d, g1', g2']
      exact bad (by rw [hone, decide_eq_false (fun e => g2 e.2)]; rfl) cd
    have g2' : ¬ (255 : Int) < x.1 := by omega
    rw [decide_eq_true (show 1 ≤ x.1 ∧ x.1 ≤ 255 from ⟨g1, g2⟩), Bool.true_and] at hone
    have hpr : prevI l i = none ∧ i = 0 ∨ ∃ y, 0 < i ∧ l[i - 1]? = some y ∧ prevI l i = some y.1 := by
      by_cases h0 : i = 0
      · exact .inl ⟨by unfold prevI; rw [if_pos h0], h0⟩
      · obtain ⟨y, hy⟩ : ∃ y, l[i - 1]? = some y := ⟨_, List.getElem?_eq_getElem (by omega)⟩
        exact .inr ⟨y, by omega, hy, by unfold prevI; rw [if_neg h0, hy]; rfl⟩
    rcases hpr with ⟨hp0, hk0⟩ | ⟨y, hk0, hy, hpy⟩
    case' inl =>
      rw [hp0] at hone
      have hone : btOne l i x = mayI x.2 := by rw [hone]; simp
      have hk0i : ¬ (0 : Int) < i := by omega
      have hk0n : ¬ 0 < i := by omega
      simp [go_sem, f0, f3, hlt, h0, h0d, g1', g2', hk0i, hk0n, hb, hbd, h1, h2]
    case' inr =>
      rw [hpy] at hone
      have hone : btOne l i x = (mayI x.2 && decide (y.1 < x.1)) := hone
      have hk0i : (0 : Int) < i := by omega
      have hk1l : i - 1 < l.length := by omega
      have hwk1 : IntKind.i64.wrap ((i : Int) - 1) = ((i - 1 : Nat) : Int) := by rw [IntKind.wrap_i64]; omega
      obtain ⟨b2, off2, c2, cs2, T2, fr2, hv2, hb2, h02, _⟩ := it_at (hl.ch cu fun _ _ _ e => e) hin hy
      rw [hv] at hv2
      injection hv2 with hA0 _ _
      injection hA0 with hA0
      injection hA0 with hA1 hA2
      subst hA1 hA2
      have h02d : u.drew.cell? ⟨b, off + (i - 1) * 45, none⟩ = some (.int .u16 y.1) := h02
      by_cases hyx : y.1 < x.1
      case' neg =>
        have hyi : (x.1 : Int) ≤ y.1 := by omega
        simp [go_sem, f0, f3, hlt, h0, h0d, g1', g2', hk0, hk0i, hwk1, hk1l, h02, h02d, hyi]
        exact bad (by rw [hone, decide_eq_false hyx, Bool.and_false]) cd
      have hyi : ¬ (x.1 : Int) ≤ y.1 := by omega
      rw [decide_eq_true hyx, Bool.and_true] at hone
      simp [go_sem, f0, f3, hlt, h0, h0d, g1', g2', hk0, hk0i, hwk1, hk1l, h02, h02d, hyi, hb, hbd, h1, h2]
    all_goals
      refine (rimay_any x.2 _ okx.i).mono ?_
      rintro _ w6 ⟨rfl, c6⟩
      cases hgd : mayI x.2 with
      | false =>
        simp [go_sem]
        exact bad (by rw [hone, hgd]) (cd.trans c6)
      | true =>
        simp [go_sem, f3, hwi]
        refine Rnd.intro (l.length - (i + 1)) (by omega) (hJ _ _ _ ⟨i + 1, rfl, by omega, by simp [f0, hv], by simp, ?_, cu.trans (cd.trans c6)⟩)
        rw [hok, hone, hgd]
        rfl
  · obtain rfl : i = l.length := by omega
    simp [go_sem, f0, f3, hlen]
    refine hR _ _ ⟨?_, cu⟩
    rw [hok, List.drop_of_length_le (Nat.le_refl _)]
    rfl
end Go.Proofs.YtnefdmbdkljifaaGreatDoor
