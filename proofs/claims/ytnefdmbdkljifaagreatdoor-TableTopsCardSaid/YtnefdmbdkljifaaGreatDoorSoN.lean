/- Keys of maps that are whole numbers of 16 and 32 bits. No condition. -/
import Derived.Test.YtnefdmbdkljifaaGreatDoorVee
import Derived.Test.YtnefdmbdkljifaaGreatDoorAgg
import Derived.Maps.RangeWalk
import Derived.Maps.OwnSet
import Derived.Maps.Views
import Derived.Test.YtnefdmbdkljifaaGreatDoorChecked
set_option linter.unusedSimpArgs false
set_option linter.unusedVariables false

/- The walk's rules at ranges over maps and at calls through an interface. They speak of no program. No condition. -/
namespace Go.Kin
open Go Go.RowKit

section
variable (P : Program) (ρ : Operand → Value) (w : World) (K : Value → World → Prop) (d : Option Tmp) (ty : TypeId) (pos : String) (aft : Array Edge) (g : Option (Nat × Bool))
@[simp] theorem VX_range (t : TypeId) (x : Operand) : VX P ρ ⟨d, .range t x, ty, pos, aft, g⟩ w K = VR ((Instr.range t (ρ x)).run P w) K := VX_s rfl
@[simp] theorem VX_next (x : Operand) (s : Bool) : VX P ρ ⟨d, .next x s, ty, pos, aft, g⟩ w K = VR ((Instr.next (ρ x) s ty).run P w) K := VX_s rfl
@[simp] theorem VX_entry (x : Operand) : VX P ρ ⟨d, .entry x, ty, pos, aft, g⟩ w K = VR ((Instr.entry (ρ x)).run P w) K := VX_s rfl
/-- a call through an interface -/
def VInv (P : Program) (recv : Value) (name : String) (args : List Value) (w : World) (K : Value → World → Prop) : Prop :=
  match (callMethod recv name args.toArray : Sem Go.Next).run P w with
  | .ok (.value v) w' => K v w'
  | .ok .skip w' => K undef w'
  | .ok (.enter g args) w' => Ret P g args w' K
  | .ok (.round l g tmps x y) w' => VRound P l g tmps x y w' K
  | _ => False
@[simp] theorem VX_invoke (x : Operand) (name : String) (l : List Operand) (ts : Array TypeId) : VX P ρ ⟨d, .call ⟨.invoke x name, l.toArray, ts⟩, ty, pos, aft, g⟩ w K = VInv P (ρ x) name (l.map ρ) w K := by
  unfold VX VInv
  simp [execOp, resolve, invoke]
  rw [List.take_of_length_le (by simp)]
  exact Iff.rfl
theorem VInv_to {recv : Value} {name : String} {args : List Value} {f : FuncId} {ars : Array Value} {P : Program} {w : World} {K : Value → World → Prop} (h : (callMethod recv name args.toArray).run P w = .ok (.enter f ars) w) : VInv P recv name args w K = Ret P f ars w K := by
  unfold VInv
  rw [h]
end
end Go.Kin

/- Maps with keys of any kind that Go's maps have a law for, as functions: looked up, updated, ranged over, deleted from in a range. They speak of no program. No condition. -/
namespace Go.Kin
open Go Go.RowKit Go.Maps
open Go.WideElems (Fit rd rg pl rd_key rd_val rg_of)

/-- an element, held whole -/
def Rv (v : Value) : Option (DataW Value × List MemPlace) := some (.held v, [])
def vAt (D : DataW Value) (l : Lit) : Option Value := match D.atKey l .nil with
  | .held v => some v
  | _ => none
section
variable {P : Program} {w w' : World} {k t e : TypeId} {b n : Nat} {D : DataW Value}
theorem own_cases (h : w.ownsMap P k Rv b n D) (l : Lit) : (Maps.has D l = false ∧ vAt D l = none ∧ ∀ zd, D.atKey l zd = zd) ∨ ∃ v, Maps.has D l = true ∧ vAt D l = some v ∧ ∀ zd, D.atKey l zd = .held v := by
  obtain ⟨es, clock, hb, F, hs, rfl⟩ := h
  unfold vAt
  simp only [Maps.has_eq, DataW.atKey]
  cases hf : ((es.toList.map (rg P k Rv)).foldr DataW.insert []).find? (fun p => p.1.sameKey l) with
  | none =>
    refine .inl ⟨?_, rfl, fun _ => rfl⟩
    rw [List.any_eq_false]
    exact List.find?_eq_none.1 hf
  | some p =>
    have hm := mem_sorted.1 (List.mem_of_find?_eq_some hf)
    obtain ⟨x, hx, rfl⟩ := List.mem_map.1 hm
    obtain ⟨y, hy⟩ := F.reads x hx
    obtain ⟨z, hz, hd⟩ := rd_val hy
    have e1 : (rg P k Rv x).2 = .held x.val := by
      rw [rg_of hy, hd]
      unfold Rv at hz
      cases hz
      rfl
    refine .inr ⟨x.val, ?_, by simp only [e1], fun _ => e1⟩
    rw [List.any_eq_true]
    exact ⟨_, List.mem_of_find?_eq_some hf, by have := List.find?_some hf; simpa using this⟩
end
/-- keys: their type's law, their values -/
structure Kys (P : Program) (k : TypeId) {κ : Type} (kv : κ → Value) : Prop where
  law : Keyed P k
  of : ∀ a, ∃ l, keyOf P k (kv a) = some l
  inv : ∀ v l, keyOf P k v = some l → ∃ a, v = kv a
  inj : ∀ a b, kv a = kv b → a = b
def kyl (P : Program) (k : TypeId) (v : Value) : Lit := (keyOf P k v).getD (.bool false)
section
variable {P : Program} {k : TypeId} {κ : Type} {kv : κ → Value}
theorem Kys.at (K : Kys P k kv) (a : κ) : keyOf P k (kv a) = some (kyl P k (kv a)) := by
  obtain ⟨l, hl⟩ := K.of a
  unfold kyl
  rw [hl]
  rfl
theorem Kys.ne (K : Kys P k kv) {a c : κ} (h : a ≠ c) : kyl P k (kv a) ≠ kyl P k (kv c) := fun e => h (K.inj _ _ (K.law.inj (K.at a) (by rw [e]; exact K.at c)))
theorem Kys.lit (K : Kys P k kv) (a : κ) : WideAt.IsKeyLit (kyl P k (kv a)) := K.law.key (K.at a)
/-- block b is a map of at most n entries: F -/
def MapV (w : World) (P : Program) (k : TypeId) (kv : κ → Value) (b n : Nat) (F : κ → Option Value) : Prop := ∃ D, w.ownsMap P k Rv b n D ∧ ∀ a, vAt D (kyl P k (kv a)) = F a
/-- and block r ranges over it; what is left to come, at most cnt of them -/
def RngV (w : World) (P : Program) (k : TypeId) (kv : κ → Value) (b r n : Nat) (F : κ → Option Value) (left : κ → Bool) (cnt : Nat) : Prop := ∃ D lf, w.ranges P k Rv b r n D lf cnt ∧ (∀ a, vAt D (kyl P k (kv a)) = F a) ∧ ∀ a, lf (kyl P k (kv a)) = left a
variable {w w' : World} {t e : TypeId} {b r n cnt : Nat} {F : κ → Option Value} {left : κ → Bool}
theorem MapV.lt (h : MapV w P k kv b n F) : b < w.heap.size := by
  obtain ⟨D, h, _⟩ := h
  exact h.lt
theorem MapV.mono (h : MapV w P k kv b n F) {m : Nat} (hm : n ≤ m) : MapV w P k kv b m F := by
  obtain ⟨D, h, h2⟩ := h
  exact ⟨D, h.mono hm, h2⟩
theorem MapV.ch {S : Nat → Prop} (h : MapV w P k kv b n F) (hc : Ch S w w') (hn : ¬ S b) : MapV w' P k kv b n F := by
  obtain ⟨D, h, h2⟩ := h
  have hl := h.lt
  obtain ⟨es, clock, hb, rest⟩ := h
  exact ⟨D, ⟨es, clock, hc.obj hb hn, rest⟩, h2⟩
theorem MapV.made (w : World) (P : Program) (k : TypeId) (kv : κ → Value) : MapV (w.alloc (.map #[] 0)) P k kv w.heap.size 0 (fun _ => none) := ⟨_, World.ownsMap_made w P k Rv, fun a => rfl⟩
theorem MapV.look_ok (h : MapV w P k kv b n F) (K : Kys P k kv) (ht : P.underlying t = some (.map k e)) {z : Value} (hz : (zeroValue e).run P w = .ok z w) (a : κ) :
    (Instr.lookup t (.map (some b)) (kv a) true).run P w = .ok (.tuple #[(F a).getD z, .bool (F a).isSome]) w := by
  obtain ⟨D, h, h2⟩ := h
  obtain ⟨v, ps, hr, hv⟩ := h.look_ok K.law ht hz (zd := .held z) (zp := []) rfl (K.at a)
  rw [← h2 a, hr]
  unfold Rv at hv
  rcases own_cases h (kyl P k (kv a)) with ⟨h3, h4, h5⟩ | ⟨x, h3, h4, h5⟩
  · rw [h5] at hv
    cases hv
    rw [h3, h4]
    rfl
  · rw [h5] at hv
    cases hv
    rw [h3, h4]
    rfl
theorem MapV.look (h : MapV w P k kv b n F) (K : Kys P k kv) (ht : P.underlying t = some (.map k e)) {z : Value} (hz : (zeroValue e).run P w = .ok z w) (a : κ) :
    (Instr.lookup t (.map (some b)) (kv a) false).run P w = .ok ((F a).getD z) w := by
  obtain ⟨D, h, h2⟩ := h
  obtain ⟨v, ps, hr, hv⟩ := h.lookup K.law ht hz (zd := .held z) (zp := []) rfl (K.at a)
  rw [← h2 a, hr]
  unfold Rv at hv
  rcases own_cases h (kyl P k (kv a)) with ⟨h3, h4, h5⟩ | ⟨x, h3, h4, h5⟩
  · rw [h5] at hv
    cases hv
    rw [h4]
    rfl
  · rw [h5] at hv
    cases hv
    rw [h4]
    rfl
theorem vAt_put [DecidableEq κ] {D : DataW Value} (K : Kys P k kv) (hD : Maps.IsMap D) (a c : κ) (v : Value) : vAt (D.put (kyl P k (kv a)) (.held v)) (kyl P k (kv c)) = if c = a then some v else vAt D (kyl P k (kv c)) := by
  unfold vAt
  by_cases hc : c = a
  · subst hc
    rw [Maps.atKey_put_same hD (K.lit c), if_pos rfl]
  · rw [Maps.atKey_put_other (K.ne hc), if_neg hc]
theorem vAt_del [DecidableEq κ] {D : DataW Value} (K : Kys P k kv) (a c : κ) : vAt (D.del (kyl P k (kv a))) (kyl P k (kv c)) = if c = a then none else vAt D (kyl P k (kv c)) := by
  unfold vAt
  by_cases hc : c = a
  · subst hc
    rw [Maps.atKey_del_same, if_pos rfl]
  · rw [Maps.atKey_del_other (K.ne hc), if_neg hc]
theorem Ch.of_row {w w' : World} {row : Option Nat} (h : w.grownBy w' row) {b : Nat} (hb : ∀ j, row = some j → j = b) : Ch (Kin.one b) w w' := (Ch.of_grown h).mono fun k _ e => hb k e
theorem Ch.of_turned {w w' : World} {b : Nat} (h : w.mapTurned w' b) : Ch (Kin.one b) w w' ∧ w'.heap.size = w.heap.size := by
  obtain ⟨es, clock, es', clock', hb, rfl⟩ := h
  refine ⟨⟨rfl, rfl, rfl, by simp [ChangeMaps.setBlock], fun j _ hj => ?_⟩, by simp [ChangeMaps.setBlock]⟩
  have : b ≠ j := fun e => hj e.symm
  simp only [ChangeMaps.setBlock, Array.getElem?_setIfInBounds_ne this]
theorem MapV.put [DecidableEq κ] (h : MapV w P k kv b n F) (K : Kys P k kv) (ht : P.underlying t = some (.map k e)) (hn : n < maxLen) (a : κ) (v : Value) :
    ∃ w', (Instr.mapUpdate t (.map (some b)) (kv a) v).run P w = .ok () w' ∧ MapV w' P k kv b (n + 1) (fun x => if x = a then some v else F x) ∧ Ch (Kin.one b) w w' ∧ w'.heap.size = w.heap.size := by
  obtain ⟨D, h, h2⟩ := h
  obtain ⟨w', h3, h4, h5⟩ := h.store K.law ht hn (d := .held v) (ps := []) (K.at a) rfl
  obtain ⟨h6, h7⟩ := Ch.of_turned h5
  exact ⟨w', h3, ⟨_, h4, fun c => by rw [vAt_put K h.isMap, h2 c]⟩, h6, h7⟩
theorem MapV.range (h : MapV w P k kv b n F) (K : Kys P k kv) (ht : P.underlying t = some (.map k e)) :
    ∃ w' cnt, (Instr.range t (.map (some b))).run P w = .ok (.pointer (some ⟨w.heap.size, 0, none⟩)) w' ∧ RngV w' P k kv b w.heap.size n F (fun a => (F a).isSome) cnt ∧ cnt ≤ n ∧ Ch Nw w w' ∧ w'.heap.size = w.heap.size + 1 := by
  obtain ⟨D, h, h2⟩ := h
  obtain ⟨w', h3, h4, h5, h6⟩ := h.range K.law ht
  refine ⟨w', _, h3, ⟨D, _, h4, h2, fun a => ?_⟩, h.size_le, (Ch.of_grown h5).mono (fun k _ e => by cases e), h6⟩
  show Maps.has D (kyl P k (kv a)) = (F a).isSome
  rw [← h2 a]
  rcases own_cases h (kyl P k (kv a)) with ⟨h3, h4, _⟩ | ⟨x, h3, h4, _⟩ <;> rw [h3, h4] <;> rfl
theorem RngV.map (h : RngV w P k kv b r n F left cnt) : MapV w P k kv b n F := by
  obtain ⟨D, lf, h, h2, _⟩ := h
  exact ⟨D, h.owns, h2⟩
theorem RngV.ne (h : RngV w P k kv b r n F left cnt) : r ≠ b := by
  obtain ⟨D, lf, h, _⟩ := h
  exact h.ne
theorem RngV.lt (h : RngV w P k kv b r n F left cnt) : r < w.heap.size := by
  obtain ⟨D, lf, h, _⟩ := h
  exact h.lt
theorem RngV.ch {S : Nat → Prop} (h : RngV w P k kv b r n F left cnt) (hc : Ch S w w') (hb : ¬ S b) (hr : ¬ S r) : RngV w' P k kv b r n F left cnt := by
  obtain ⟨D, lf, h, h2⟩ := h
  obtain ⟨es, clock, since, seen, c0, g1, g2, g3, g4, g5, g6⟩ := h
  exact ⟨D, lf, ⟨es, clock, since, seen, c0, hc.obj g1 hb, g2, g3, g4, hc.obj g5 hr, g6⟩, h2⟩
theorem strike_at [DecidableEq κ] (K : Kys P k kv) (lf : Lit → Bool) (a c : κ) : (lf (kyl P k (kv c)) && !(kyl P k (kv c)).sameKey (kyl P k (kv a))) = (lf (kyl P k (kv c)) && decide (c ≠ a)) := by
  by_cases hc : c = a
  · subst hc
    rw [WideAt.sameKey_self (K.lit c)]
    simp
  · rw [Maps.sameKey_ne (K.ne hc)]
    simp [hc]
theorem RngV.next [DecidableEq κ] (h : RngV w P k kv b r n F left cnt) (K : Kys P k kv) (ty : TypeId) :
    ((∀ a, left a = false) ∧ (Instr.next (.pointer (some ⟨r, 0, none⟩)) false ty).run P w = .ok (.tuple #[.bool false]) w) ∨
    ∃ a v w' cnt', left a = true ∧ F a = some v ∧ (Instr.next (.pointer (some ⟨r, 0, none⟩)) false ty).run P w = .ok (.tuple #[.bool true, kv a, v]) w' ∧ RngV w' P k kv b r n F (fun c => left c && decide (c ≠ a)) cnt' ∧ cnt' < cnt ∧ Ch (Kin.one r) w w' ∧ w'.heap.size = w.heap.size ∧
      (Instr.entry (.pointer (some ⟨r, 0, none⟩))).run P w' = .ok (.tuple #[kv a, v]) w' := by
  obtain ⟨D, lf, h, h2, h3⟩ := h
  rcases h.next K.law ty with ⟨_, g2, g3⟩ | ⟨key, v, kl, y, w', cnt', g1, g2, g3, g4, g5, g6, g7, g8, g9, g10⟩
  · exact .inl ⟨fun a => by rw [← h3 a]; exact g2 _, g3⟩
  · obtain ⟨a, rfl⟩ := K.inv key kl g1
    have e1 : kl = kyl P k (kv a) := Option.some.inj (g1.symm.trans (K.at a))
    subst e1
    unfold Rv at g3
    cases g3
    refine .inr ⟨a, v, w', cnt', by rw [← h3 a]; exact g2, ?_, g5, ⟨D, _, g6, h2, fun c => ?_⟩, g7, Ch.of_row g8 fun j e => (Option.some.inj e).symm, g9, g10⟩
    · rw [← h2 a]
      unfold vAt
      rw [g4]
    · rw [strike_at K, h3 c]
theorem RngV.del [DecidableEq κ] (h : RngV w P k kv b r n F left cnt) (K : Kys P k kv) (ht : P.underlying t = some (.map k e)) (a : κ) (ty : TypeId) :
    ∃ w' cnt', (Builtin.delete_ #[t, k] ty #[.map (some b), kv a]).run P w = .ok (.tuple #[]) w' ∧ RngV w' P k kv b r n (fun c => if c = a then none else F c) (fun c => left c && decide (c ≠ a)) cnt' ∧ cnt' ≤ cnt ∧ Ch (Kin.one b) w w' ∧ w'.heap.size = w.heap.size := by
  obtain ⟨D, lf, h, h2, h3⟩ := h
  obtain ⟨w', cnt', g1, g2, g3, g4⟩ := h.drop K.law ht (K.at a) ty
  obtain ⟨g5, g6⟩ := Ch.of_turned g4
  exact ⟨w', cnt', g1, ⟨_, _, g2, fun c => by rw [vAt_del K, h2 c], fun c => by rw [strike_at K, h3 c]⟩, g3, g5, g6⟩
end
end Go.Kin

namespace Go.Proofs.YtnefdmbdkljifaaGreatDoor
open Go.RowKit Go.Kin Go.Maps

abbrev Num := Fin 65536
abbrev Off := Fin 4294967296
def kU (a : Num) : Value := .int .u16 a.val
def kO (a : Off) : Value := .int .u32 a.val
theorem wf16 (a : Num) : (Lit.int .u16 a.val).wf = true := by
  have := a.isLt
  simp [Lit.wf, IntKind.min, IntKind.max, IntKind.signed, IntKind.bits]
  omega
theorem wf32 (a : Off) : (Lit.int .u32 a.val).wf = true := by
  have := a.isLt
  simp [Lit.wf, IntKind.min, IntKind.max, IntKind.signed, IntKind.bits]
  omega
theorem of16 {x : Int} (h : (Lit.int .u16 x).wf = true) : ∃ a : Num, x = a.val := by
  simp [Lit.wf, IntKind.min, IntKind.max, IntKind.signed, IntKind.bits] at h
  exact ⟨⟨x.toNat, by omega⟩, by simp only; omega⟩
theorem of32 {x : Int} (h : (Lit.int .u32 x).wf = true) : ∃ a : Off, x = a.val := by
  simp [Lit.wf, IntKind.min, IntKind.max, IntKind.signed, IntKind.bits] at h
  exact ⟨⟨x.toNat, by omega⟩, by simp only; omega⟩
theorem kysU : Kys Tryz.prog 31 kU := by
  refine ⟨int_keyed Tryz.underlying31, fun a => ⟨_, keyOf_int_mk Tryz.underlying31 (wf16 a)⟩, fun v l h => ?_, fun a b h => ?_⟩
  · obtain ⟨x, rfl, _, hw⟩ := keyOf_int_inv Tryz.underlying31 h
    obtain ⟨a, rfl⟩ := of16 hw
    exact ⟨a, rfl⟩
  · unfold kU at h
    injection h with _ h
    exact Fin.ext (by omega)
theorem kysO : Kys Tryz.prog 32 kO := by
  refine ⟨int_keyed Tryz.underlying32, fun a => ⟨_, keyOf_int_mk Tryz.underlying32 (wf32 a)⟩, fun v l h => ?_, fun a b h => ?_⟩
  · obtain ⟨x, rfl, _, hw⟩ := keyOf_int_inv Tryz.underlying32 h
    obtain ⟨a, rfl⟩ := of32 hw
    exact ⟨a, rfl⟩
  · unfold kO at h
    injection h with _ h
    exact Fin.ext (by omega)
end Go.Proofs.YtnefdmbdkljifaaGreatDoor
