/- Behind a crash: each byte stood there, or was written. Plain law. No condition. -/
import Derived.Test.YtmhnlgndgdmebaaDkQ
namespace Go.Proofs.Ytmhnlgndgdmebaa
open Go.RowKit Go.Kin

theorem u16_any {a : Nat} (ha : a < 65536) : IntKind.u16.wrap (a : Int) = a := by simp [IntKind.wrap, IntKind.bits, IntKind.signed]; omega
/-- what was written to one address -/
def wr (c : List (Nat × Byts)) (x : Nat) : List Byts := (c.filter fun e => e.1 == x).map (·.2)
theorem wr_append (c : List (Nat × Byts)) (a : Nat) (b : Byts) (x : Nat) : wr (c ++ [(a, b)]) x = if a = x then wr c x ++ [b] else wr c x := by
  unfold wr
  by_cases h : a = x
  · simp [h]
  · simp [h]
theorem wr_mem {c : List (Nat × Byts)} {e : Nat × Byts} (h : e ∈ c) : e.2 ∈ wr c e.1 := List.mem_map.2 ⟨e, List.mem_filter.2 ⟨h, by simp⟩, rfl⟩
theorem wr_of {c : List (Nat × Byts)} {x : Nat} {b : Byts} (h : b ∈ wr c x) : (x, b) ∈ c := by
  obtain ⟨e, he, rfl⟩ := List.mem_map.1 h
  obtain ⟨h1, h2⟩ := List.mem_filter.1 he
  have h3 : e.1 = x := by simpa using h2
  subst h3
  exact h1
/-- bytes of which each is one of some others' at its place -/
structure Fits (l : List Byts) (b : Byts) : Prop where
  len : ∀ x ∈ l, x.length = 512
  one : l.length = 1 → l = [b]
  each : ∀ k, k < 512 → ∃ x ∈ l, x[k]? = b[k]?
theorem Fits.self {b : Byts} (h : b.length = 512) : Fits [b] b := ⟨by simp [h], fun _ => rfl, fun k _ => ⟨b, by simp, rfl⟩⟩
structure Near (base : Nat → Byts) (c : List (Nat × Byts)) (d : Dk) : Prop where
  len : ∀ x, (blockM d.m x).length = 512
  same : ∀ x, wr c x = [] → blockM d.m x = base x
  each : ∀ x k, k < 512 → ∃ b ∈ base x :: wr c x, b[k]? = (blockM d.m x)[k]?
theorem Near.comes {base : Nat → Byts} {c : List (Nat × Byts)} {d : Dk} (h : Near base c d) {e : Nat × Byts} (he : e ∈ c) (hl : e.2.length = 512) (kk : Nat) (hk : kk ≤ 512) : Near base c (d.comes e kk) := by
  have key : ∀ x, blockM (d.comes e kk).m x = if x = e.1 then e.2.take kk ++ (blockM d.m e.1).drop kk else blockM d.m x := fun x => by
    unfold Dk.comes blockM
    by_cases hx : x = e.1
    · simp [hx]
    · simp [hx]
  have hlen := h.len e.1
  refine ⟨fun x => ?_, fun x hx => ?_, fun x k hk2 => ?_⟩
  · rw [key]
    split
    · simp; omega
    · exact h.len x
  · rw [key, if_neg]
    · exact h.same x hx
    · rintro rfl
      have := wr_mem he
      rw [hx] at this
      cases this
  · rw [key]
    by_cases hx : x = e.1
    · subst hx
      rw [if_pos rfl]
      by_cases h1 : k < kk
      · refine ⟨e.2, List.mem_cons_of_mem _ (wr_mem he), ?_⟩
        rw [List.getElem?_append_left (by simp; omega), List.getElem?_take_of_lt h1]
      · obtain ⟨b, hb, hb2⟩ := h.each e.1 k hk2
        refine ⟨b, hb, ?_⟩
        rw [hb2, List.getElem?_append_right (by simp; omega), List.getElem?_drop]
        congr 1
        simp
        omega
    · rw [if_neg hx]
      exact h.each x k hk2
theorem Near.picks {base : Nat → Byts} {c : List (Nat × Byts)} (hc : ∀ e ∈ c, e.2.length = 512) : ∀ (l : List ((Nat × Byts) × Int)) (d : Dk), (∀ e ∈ l, e.1 ∈ c) → Near base c d → Near base c (d.picks l)
  | [], _, _, h => h
  | (e, k) :: l, d, hl, h => by
    have he : e ∈ c := hl (e, k) (by simp)
    refine Near.picks hc l _ (fun e he => hl e (by simp [he])) ?_
    unfold pick1
    split
    · exact h.comes he (hc e he) 512 (by omega)
    · split
      · exact h.comes he (hc e he) _ (by omega)
      · exact h
theorem crash_fits {n : Nat} {D : Dk} (h : D.Ok n) (hd : D.dead = false) (ps : List Int) (x : Nat) : Fits (blockM D.m x :: wr D.cache x) (blockM (D.crash ps).m x) := by
  have h0 : Near (blockM D.m) D.cache D := ⟨h.block, fun _ _ => rfl, fun x k _ => ⟨_, by simp, rfl⟩⟩
  have h1 := Near.picks (fun e he => (h.cache e he).1) (D.cache.zip ps) D (fun e he => (List.of_mem_zip (show (e.1, e.2) ∈ _ from he)).1) h0
  have e : (D.crash ps).m = (D.picks (D.cache.zip ps)).m := by
    unfold Dk.crash
    rw [hd]
    rfl
  rw [e]
  refine ⟨fun b hb => ?_, fun hl => ?_, h1.each x⟩
  · rcases List.mem_cons.1 hb with rfl | hb
    · exact h.block x
    · exact (h.cache _ (wr_of hb)).1
  · have hw : wr D.cache x = [] := List.eq_nil_of_length_eq_zero (by simpa using hl)
    rw [hw, h1.same x hw]
theorem picks_quiet (l : List ((Nat × Byts) × Int)) (D : Dk) : (D.picks l).dead = D.dead ∧ (D.picks l).stuck = D.stuck ∧ ((∀ x, D.bad x = false) → ∀ x, (D.picks l).bad x = false) := by
  induction l generalizing D with
  | nil => exact ⟨rfl, rfl, id⟩
  | cons e l ih =>
    obtain ⟨e, k⟩ := e
    have hq : (pick1 D e k).dead = D.dead ∧ (pick1 D e k).stuck = D.stuck ∧ ((∀ x, D.bad x = false) → ∀ x, (pick1 D e k).bad x = false) := by
      unfold pick1
      have hc : ∀ kk, ((∀ x, D.bad x = false) → ∀ x, (D.comes e kk).bad x = false) := fun kk h x => by
        unfold Dk.comes
        simp [h]
      split
      · exact ⟨rfl, rfl, hc _⟩
      · split
        · exact ⟨rfl, rfl, hc _⟩
        · exact ⟨rfl, rfl, id⟩
    obtain ⟨a, b, c⟩ := ih (pick1 D e k)
    exact ⟨a.trans hq.1, b.trans hq.2.1, fun h => c (hq.2.2 h)⟩
theorem Ql.crash {D : Dk} {k : Nat} (h : Ql D k) (ps : List Int) : Ql (D.crash ps) 0 := by
  obtain ⟨a, b, c⟩ := picks_quiet (D.cache.zip ps) D
  unfold Dk.crash
  rw [h.dead, if_neg (by decide)]
  exact ⟨a.trans h.dead, rfl, rfl, rfl, c h.bad, fun x => by rw [show ∀ d : Dk, ({ d with cache := [], lose := false, astray := none } : Dk).stuck = d.stuck from fun _ => rfl, b]; exact h.stuck x⟩
theorem Ql.crash_none {D : Dk} (h : Ql D 0) (ps : List Int) : (D.crash ps).m = D.m := by
  have hc : D.cache = [] := List.eq_nil_of_length_eq_zero h.len
  unfold Dk.crash
  rw [h.dead, if_neg (by decide), hc]
  rfl
theorem Ql.flushed {D : Dk} {k : Nat} (h : Ql D k) : Ql (flushed D) 0 := ⟨h.dead, h.lose, h.astray, rfl, fun x => by unfold Go.Proofs.Ytmhnlgndgdmebaa.flushed; simp [h.bad], h.stuck⟩
theorem Ql.flushed_none {D : Dk} (h : Ql D 0) : (Go.Proofs.Ytmhnlgndgdmebaa.flushed D).m = D.m := by
  have hc : D.cache = [] := List.eq_nil_of_length_eq_zero h.len
  unfold Go.Proofs.Ytmhnlgndgdmebaa.flushed
  rw [hc]
  funext x
  simp [lastC]
/-- what a disk without faults tells -/
theorem Ql.look {D : Dk} {k : Nat} (h : Ql D k) {n a : Nat} (ha : a < n) : D.look n a = some ((lastC D.cache a).getD (blockM D.m a)) := by
  unfold Dk.look Dk.tells
  rw [h.dead, h.stuck, h.bad, if_neg (by simp; omega)]
  cases lastC D.cache a <;> simp
theorem Ql.look0 {D : Dk} (h : Ql D 0) {n a : Nat} (ha : a < n) : D.look n a = some (blockM D.m a) := by
  rw [h.look ha, List.eq_nil_of_length_eq_zero h.len]
  rfl
/-- a write to a disk without faults, its power on -/
theorem Ql.put {D : Dk} {k : Nat} (h : Ql D k) (n a : Nat) (b : Byts) : D.writes n Pwr.on a b = (if a < n ∧ b.length = 512 then .ok else .arg) ∧ D.wpow n Pwr.on a b = Pwr.on ∧ Ql (D.write n Pwr.on a b) (if a < n ∧ b.length = 512 then k + 1 else k) ∧ (D.write n Pwr.on a b).m = D.m ∧ (D.write n Pwr.on a b).cache = if a < n ∧ b.length = 512 then D.cache ++ [(a, b)] else D.cache := by
  have hw : D.writes n Pwr.on a b = (if a < n ∧ b.length = 512 then .ok else .arg) := by
    unfold Dk.writes Dk.able
    rw [h.dead, if_neg (by decide)]
    by_cases hc : a < n ∧ b.length = 512
    · rw [if_neg (by omega), if_pos hc, if_pos (by decide)]
    · rw [if_pos (by omega), if_neg hc]
  refine ⟨hw, ?_, ?_⟩
  · unfold Dk.wpow Dk.able
    rw [h.dead, if_neg (by decide)]
    split
    · rfl
    · exact on_step
  · unfold Dk.write
    rw [hw]
    by_cases hc : a < n ∧ b.length = 512
    · rw [if_pos hc, if_pos hc, if_pos hc, if_pos rfl]
      unfold Dk.put
      rw [h.lose, h.astray]
      simp only [Bool.false_eq_true, if_false, Option.getD_none, hc.1, if_true]
      exact ⟨⟨h.dead, rfl, rfl, by simp [h.len], h.bad, h.stuck⟩, trivial, trivial⟩
    · rw [if_neg hc, if_neg hc, if_neg hc, if_neg (by decide)]
      exact ⟨h, rfl, rfl⟩
end Go.Proofs.Ytmhnlgndgdmebaa
