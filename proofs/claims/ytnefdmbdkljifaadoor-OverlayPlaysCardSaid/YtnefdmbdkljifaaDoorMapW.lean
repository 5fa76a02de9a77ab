/- Maps with keys of any kind: their number of entries, cleared, copied. They speak of no program. No condition. -/
import Derived.Test.YtnefdmbdkljifaaDoorMapV
import Derived.Laws.Externs
set_option linter.unusedSimpArgs false
set_option linter.unusedVariables false

namespace Go.Kin
open Go Go.RowKit Go.Maps
open Go.WideElems (Fit rd rg pl rd_key rd_val rg_of)

section
variable {P : Program} {k : TypeId} {κ : Type} {kv : κ → Value} {w w' : World} {t e : TypeId} {b n : Nat} {F : κ → Option Value}
/-- all keys that it has, each once; so many entries it has -/
theorem MapV.count (h : MapV w P k kv b n F) (K : Kys P k kv) (ht : P.underlying t = some (.map k e)) (ty : TypeId) :
    ∃ xs : List κ, xs.Nodup ∧ (∀ a, a ∈ xs ↔ (F a).isSome = true) ∧ xs.length ≤ n ∧ (Builtin.len_ #[t] ty #[.map (some b)]).run P w = .ok (.int .i64 xs.length) w := by
  obtain ⟨D, h, h2⟩ := h
  have hlen := h.len ht ty
  have hcs := fun a => own_cases h (kyl P k (kv a))
  obtain ⟨es, clock, hb, Fi, hs, rfl⟩ := h
  have key : ∀ x : MapEntry, x ∈ es.toList → ∃ a, (rg P k Rv x).1 = kyl P k (kv a) := fun x hx => by
    obtain ⟨y, hy⟩ := Fi.reads x hx
    obtain ⟨a, ha⟩ := K.inv _ _ (rd_key hy)
    refine ⟨a, ?_⟩
    rw [rg_of hy]
    have := rd_key hy
    rw [ha, K.at a] at this
    exact (Option.some.inj this).symm
  have pick : ∀ l : List MapEntry, (∀ x ∈ l, x ∈ es.toList) → ∃ xs : List κ, xs.map (fun a => kyl P k (kv a)) = l.map fun x => (rg P k Rv x).1 := by
    intro l
    induction l with
    | nil => exact fun _ => ⟨[], rfl⟩
    | cons x l ih =>
      intro hl
      obtain ⟨xs, hxs⟩ := ih fun y hy => hl y (by simp [hy])
      obtain ⟨a, ha⟩ := key x (hl x (by simp))
      exact ⟨a :: xs, by simp only [List.map_cons, hxs, ha]⟩
  obtain ⟨xs, hxs⟩ := pick es.toList fun _ h => h
  have hl : xs.length = es.size := by
    have := congrArg List.length hxs
    simpa using this
  have hsz : Maps.size (DataW.map ((es.toList.map (rg P k Rv)).foldr DataW.insert [])) = es.size := by simp [Maps.size, length_sorted]
  refine ⟨xs, ?_, fun a => ?_, by omega, by rw [hlen, hsz, hl]⟩
  · have hp := Maps.fit_apart K.law Fi
    rw [List.pairwise_map] at hp
    have hp2 : (es.toList.map fun x => (rg P k Rv x).1).Pairwise (· ≠ ·) := by
      rw [List.pairwise_map]
      exact hp
    rw [← hxs, List.pairwise_map] at hp2
    exact hp2.imp fun h e => h (by rw [e])
  · have hm : a ∈ xs ↔ Maps.has (DataW.map ((es.toList.map (rg P k Rv)).foldr DataW.insert [])) (kyl P k (kv a)) = true := by
      rw [Maps.has_eq, List.any_eq_true]
      constructor
      · intro ha
        have : kyl P k (kv a) ∈ es.toList.map fun x => (rg P k Rv x).1 := by
          rw [← hxs]
          exact List.mem_map_of_mem ha
        obtain ⟨x, hx, he⟩ := List.mem_map.1 this
        refine ⟨rg P k Rv x, mem_sorted.2 (List.mem_map_of_mem hx), ?_⟩
        rw [he]
        exact WideAt.sameKey_self (K.lit a)
      · rintro ⟨p, hp, hs⟩
        obtain ⟨x, hx, rfl⟩ := List.mem_map.1 (mem_sorted.1 hp)
        have he := WideAt.sameKey_eq hs
        have : kyl P k (kv a) ∈ xs.map fun a => kyl P k (kv a) := by
          rw [hxs, ← he]
          exact List.mem_map_of_mem (f := fun x => (rg P k Rv x).1) hx
        obtain ⟨c, hc, he2⟩ := List.mem_map.1 this
        by_cases hca : c = a
        · rw [← hca]; exact hc
        · exact absurd he2 (K.ne hca)
    rw [hm, ← h2 a]
    rcases hcs a with ⟨h3, h4, _⟩ | ⟨v, h3, h4, _⟩ <;> rw [h3, h4] <;> simp
theorem MapV.clear (h : MapV w P k kv b n F) (ht : P.underlying t = some (.map k e)) (ty : TypeId) :
    ∃ w', (Builtin.clear_ #[t] ty #[.map (some b)]).run P w = .ok (.tuple #[]) w' ∧ MapV w' P k kv b 0 (fun _ => none) ∧ Ch (Kin.one b) w w' ∧ w'.heap.size = w.heap.size := by
  obtain ⟨D, h, h2⟩ := h
  obtain ⟨es, clock, hb, Fi, hs, rfl⟩ := h
  have hlt := lt_of_block hb
  refine ⟨ChangeMaps.setBlock w b (.map #[] clock), ?_, ⟨.map [], ⟨#[], clock, ?_, ⟨by simp, MapKept.stamped_empty clock, by simp⟩, Nat.le_refl _, rfl⟩, fun a => rfl⟩, ⟨rfl, rfl, rfl, by simp [ChangeMaps.setBlock], fun j _ hj => ?_⟩, by simp [ChangeMaps.setBlock]⟩
  · have hlt2 : b < w.heap.size := hlt
    have hset : (setObj b (.map #[] clock)).run P w = .ok () (ChangeMaps.setBlock w b (.map #[] clock)) := MapKept.run_setObj_map _ hb
    simp [Builtin.clear_, run_underlying ht, MapKept.run_getObj_map hb, hset, Result.andThen]
  · simp [ChangeMaps.setBlock, hlt]
  · have : b ≠ j := fun e => hj e.symm
    simp only [ChangeMaps.setBlock, Array.getElem?_setIfInBounds_ne this]
/-- a copy of a map's block -/
theorem MapV.clone (h : MapV w P k kv b n F) (t : TypeId) :
    ∃ o : Obj, (Extern.MapsClone.clone #[.iface t (.map (some b))]).run P w = .ok (.iface t (.map (some w.heap.size))) (w.alloc o) ∧ MapV (w.alloc o) P k kv w.heap.size n F := by
  obtain ⟨D, h, h2⟩ := h
  obtain ⟨es, clock, hb, Fi, hs, hD⟩ := h
  refine ⟨.map es clock, ?_, D, ⟨es, clock, (MapKept.heap_alloc w _).1, Fi, hs, hD⟩, h2⟩
  have e : Extern.MapsClone.clone #[.iface t (.map (some b))] = (getObj b >>= fun o => match o with
      | .map entries clock => (newObj (.map entries clock) >>= fun n => pure (.iface t (.map (some n))))
      | _ => stuck "maps.clone: a map expected") := rfl
  rw [e]
  simp [MapKept.run_getObj_map hb, Result.andThen, go_sem]
theorem eql_map_nil (w : World) (t k e : TypeId) (p : Option Nat) (h : P.underlying t = some (.map k e)) : (binOp .eql t (.map p) (.map none)).run P w = .ok (.bool p.isNone) w := by
  have h1 : ∀ d, (Op.equalIn (d + 1) t (.map p) (.map none)).run P w = .ok p.isNone w := fun d => by cases p <;> simp [Op.equalIn, run_underlying h]
  simp only [binOp]
  simp [show Op.equal t (.map p) (.map none) = Op.equalIn (9999 + 1) t (.map p) (.map none) from rfl, h1 9999]
theorem VCall_value {f : FuncId} {args : List Value} {v : Value} {w' : World} {K : Value → World → Prop} (h : (callFunc f args.toArray).run P w = .ok (.value v) w') (hk : K v w') : VCall P (.func (.func f) #[] #[]) args w K := by
  unfold VCall
  simp [Deferred.ofValue, invoke, h]
  exact hk
theorem run_assert_map (t xT k e : TypeId) (v : Value) (w : World) (h : P.underlying t = some (.map k e)) : (Instr.typeAssert (.iface t v) xT t false).run P w = .ok v w := by
  simp [Instr.typeAssert, run_underlying h, go_sem, Result.andThen]
theorem VX_assert {ρ : Operand → Value} {d : Option Tmp} {x : Operand} {a b ty : TypeId} {ok : Bool} {pos : String} {aft : Array Edge} {g : Option (Nat × Bool)} {v : Value} {w' : World} {K : Value → World → Prop} (h : (Instr.typeAssert (ρ x) a b ok).run P w = .ok v w') (hk : K v w') : VX P ρ ⟨d, .typeAssert x a b ok, ty, pos, aft, g⟩ w K := by
  refine VX_of_run (w' := w') (v := v) ?_ hk
  simp [execOp, h]
end
end Go.Kin
