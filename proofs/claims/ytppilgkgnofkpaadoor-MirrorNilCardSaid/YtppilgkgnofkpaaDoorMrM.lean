/- What mirrors heal, in plain Lean. No condition. -/
import Derived.Test.YtppilgkgnofkpaaDoorMrL
set_option linter.unusedSimpArgs false
set_option linter.unusedVariables false

namespace Go.Proofs.YtppilgkgnofkpaaDoor
open Go.RowKit Go.Kin

/-- a copy that fits, as a look tells it -/
def Mr.lgood (n : Nat) (s : Mr) (q : Pt) (k : Nat) : Bool := ((s.dk (k / 2)).look n (adr q k)).any (fitB q)
theorem Mr.good_on {n : Nat} {s : Mr} {q : Pt} {k : Nat} (h : s.P.off = false) : (s.good n q k).isSome = s.lgood n q k := by
  unfold Mr.good Mr.lgood Dk.able
  rw [h]
  cases hd : (s.dk (k / 2)).dead with
  | true => simp [Dk.look, hd]
  | false =>
    simp only [Bool.not_false, Bool.and_self, if_true]
    cases (s.dk (k / 2)).look n (adr q k) with
    | none => rfl
    | some b => cases hf : fitB q b <;> simp [Option.filter, hf]
theorem Mr.good_off {n : Nat} {s : Mr} {q : Pt} {k : Nat} (h : s.P.off = true) : s.good n q k = none := by
  unfold Mr.good Dk.able
  rw [h]
  simp
theorem Mr.good_fit {n : Nat} {s : Mr} {q : Pt} {k : Nat} {b : Byts} (h : s.good n q k = some b) : fitB q b = true := by
  unfold Mr.good at h
  split at h
  · exact (Option.filter_eq_some_iff.1 h).2
  · cases h
theorem Mr.run_blk (n : Nat) (s : Mr) (q : Pt) (l : List Nat) : ∀ t : Lo, (l.foldl (s.step n q) t).blk = t.blk.or (l.findSome? (s.good n q)) := by
  induction l with
  | nil => intro t; simp
  | cons k l ih =>
    intro t
    rw [List.foldl_cons, ih, List.findSome?_cons]
    unfold Mr.step
    cases hg : s.good n q k with
    | some x =>
      simp only
      cases hb : t.blk <;> simp [hb]
    | none =>
      simp only
      split <;> rfl
theorem Mr.cut_blk (n : Nat) (s : Mr) (q : Pt) (l : List Nat) : (s.cut n q l).findSome? (s.good n q) = l.findSome? (s.good n q) := by
  induction l with
  | nil => rfl
  | cons k l ih =>
    rw [Mr.cut]
    cases hg : s.good n q k with
    | some x => simp [hg]
    | none => simp [hg, ih]
theorem Mr.lks_blk (n : Nat) (s : Mr) (q : Pt) (all : Bool) : (s.run n q (s.lks n q all)).blk = (cseq q.a 4).findSome? (s.good n q) := by
  unfold Mr.run
  rw [Mr.run_blk]
  unfold Mr.lks
  cases all with
  | true => simp
  | false => simp [Mr.cut_blk]
/-- how many copies fit -/
def Mr.fits (n : Nat) (s : Mr) (q : Pt) : Nat := ((cseq q.a 4).filter (s.lgood n q)).length
theorem Mr.heal_says (n : Nat) (s : Mr) (q : Pt) (all : Bool) (h : mayP q = true) : (s.heal n q all).2.2 = if (s.fits n q ≠ 0) ∧ s.P.off = false then 0 else 21 := by
  unfold Mr.heal
  rw [h, if_pos rfl]
  simp only
  rw [Mr.lks_blk]
  have key : ((cseq q.a 4).findSome? (s.good n q)).isSome = decide ((s.fits n q ≠ 0) ∧ s.P.off = false) := by
    cases ho : s.P.off with
    | true =>
      rw [List.findSome?_eq_none_iff.2 fun k _ => Mr.good_off ho]
      simp
    | false =>
      unfold Mr.fits
      rw [Bool.eq_iff_iff, List.findSome?_isSome_iff]
      simp [Mr.good_on ho, List.length_eq_zero_iff, List.filter_eq_nil_iff]
  cases hf : (cseq q.a 4).findSome? (s.good n q) with
  | none =>
    rw [hf] at key
    have : ¬ ((s.fits n q ≠ 0) ∧ s.P.off = false) := by simpa using key.symm
    rw [if_neg this]
  | some b =>
    rw [hf] at key
    have : (s.fits n q ≠ 0) ∧ s.P.off = false := by simpa using key.symm
    rw [if_pos this]
theorem Mr.heal_fit (n : Nat) (s : Mr) (q : Pt) (all : Bool) (h : mayP q = true) (h0 : (s.heal n q all).2.2 = 0) : fitB q (s.heal n q all).2.1 = true := by
  unfold Mr.heal at h0 ⊢
  rw [h, if_pos rfl] at h0 ⊢
  simp only at h0 ⊢
  rw [Mr.lks_blk] at h0 ⊢
  cases hf : (cseq q.a 4).findSome? (s.good n q) with
  | none => rw [hf] at h0; cases h0
  | some b =>
    simp only
    obtain ⟨k, _, hk⟩ := List.exists_of_findSome?_eq_some hf
    exact Mr.good_fit hk
theorem Mr.heal_may (n : Nat) (s : Mr) (q : Pt) (all : Bool) (h : mayP q = false) : (s.heal n q all).2.2 = 1 := by
  unfold Mr.heal
  rw [h]
  rfl
/-- power that is on, disks of which nothing is armed -/
structure Mr.Calm (s : Mr) : Prop where
  on : s.P = Pwr.on
  dk : ∀ i, i < 2 → (s.dk i).dead = true ∨ ((s.dk i).lose = false ∧ (s.dk i).astray = none)
/-- a copy is good, or can't be -/
def Mr.okc (n : Nat) (s : Mr) (q : Pt) (k : Nat) : Prop := (s.dk (k / 2)).dead = true ∨ s.lgood n q k = true ∨ n ≤ adr q k ∨ s.sick (k / 2) (adr q k) = true
section
variable {n : Nat} {s : Mr} {q : Pt} {b : Byts}
theorem Mr.Calm.look (h : s.Calm) (hb : b.length = 512) {k : Nat} (hk : k < 4) : (s.writ n q b k).Calm ∧
    (∀ x, (s.dk (k / 2)).look n x = none ∧ ((s.writ n q b k).dk (k / 2)).look n x = none ∨ ((s.writ n q b k).dk (k / 2)).look n x = if x = adr q k ∧ adr q k < n ∧ (s.dk (k / 2)).dead = false ∧ (s.dk (k / 2)).stuck x = false then some b else (s.dk (k / 2)).look n x) ∧ ((s.writ n q b k).dk (k / 2)).dead = (s.dk (k / 2)).dead := by
  have hi : k / 2 < 2 := by omega
  obtain ⟨i, hki⟩ : ∃ i, k / 2 = i := ⟨_, rfl⟩
  obtain ⟨a, ha⟩ : ∃ a, adr q k = a := ⟨_, rfl⟩
  unfold Mr.writ
  rw [hki] at hi ⊢
  rw [ha]
  simp only [upd1_same]
  have hP := h.on
  cases hd : (s.dk i).dead with
  | true =>
    have e1 : (s.dk i).write n s.P a b = s.dk i := by unfold Dk.write Dk.writes Dk.able; simp [hd]
    have e2 : (s.dk i).wpow n s.P a b = s.P := by unfold Dk.wpow Dk.able; simp [hd]
    rw [e1, e2]
    refine ⟨⟨hP, fun j hj => ?_⟩, fun x => .inr ?_, hd⟩
    · by_cases hji : j = i
      · subst hji; simp only [upd1_same]; exact .inl hd
      · simp only [upd1_ne _ _ hji]; exact h.dk j hj
    · simp
  | false =>
    obtain ⟨hl, has⟩ := (h.dk i hi).resolve_left (by rw [hd]; simp)
    have e2 : (s.dk i).wpow n s.P a b = Pwr.on := by unfold Dk.wpow Dk.able; rw [hP, hd]; simp [Pwr.on, Pwr.step]
    rw [e2]
    by_cases han : a < n
    · have e1 : (s.dk i).write n s.P a b = { s.dk i with astray := none, cache := (s.dk i).cache ++ [(a, b)] } := by
        unfold Dk.write Dk.writes Dk.able Dk.put
        rw [hP, hd, hl, has]
        simp [Pwr.on, Pwr.made, han, hb, hd, hl, show ¬ n ≤ a by omega]
      rw [e1]
      refine ⟨⟨rfl, fun j hj => ?_⟩, fun x => .inr ?_, hd⟩
      · by_cases hji : j = i
        · subst hji; simp only [upd1_same]; exact .inr (by simpa using hl)
        · simp only [upd1_ne _ _ hji]; exact h.dk j hj
      · unfold Dk.look Dk.tells
        simp only [hd, lastC_append]
        by_cases hx : x = a
        · subst hx
          cases hst : (s.dk i).stuck x <;> simp [han, hd, hst, show ¬ n ≤ x by omega]
        · rw [if_neg fun e : a = x => hx e.symm]
          simp [hx, hd]
    · have e1 : (s.dk i).write n s.P a b = s.dk i := by
        unfold Dk.write Dk.writes Dk.able
        rw [hP, hd]
        simp [Pwr.on, show n ≤ a by omega]
      rw [e1]
      refine ⟨⟨rfl, fun j hj => ?_⟩, fun x => .inr ?_, hd⟩
      · by_cases hji : j = i
        · subst hji; simp only [upd1_same]; exact h.dk _ hj
        · simp only [upd1_ne _ _ hji]; exact h.dk j hj
      · simp [han]
theorem Mr.mend_fields (n : Nat) (s : Mr) (q : Pt) (b : Byts) (k : Nat) : (s.mend n q b k).dk = (s.writ n q b k).dk ∧ (s.mend n q b k).P = (s.writ n q b k).P ∧ ∀ i a, s.sick i a = true → (s.mend n q b k).sick i a = true := by
  unfold Mr.mend
  simp only
  split
  · exact ⟨rfl, rfl, fun _ _ h => h⟩
  · have e : ∀ t : Mr, (t.moved q).dk = t.dk ∧ (t.moved q).P = t.P ∧ (t.moved q).sick = t.sick := fun t => by unfold Mr.moved; split <;> exact ⟨rfl, rfl, rfl⟩
    obtain ⟨e1, e2, e3⟩ := e ((s.writ n q b k).sicks n (k / 2) (adr q k))
    rw [e1, e2, e3]
    unfold Mr.sicks
    split
    · exact ⟨rfl, rfl, fun _ _ h => h⟩
    · refine ⟨rfl, rfl, fun i a h => ?_⟩
      show upd1 s.sick (k / 2) (upd1 (s.sick (k / 2)) (adr q k) true) i a = true
      unfold upd1
      split
      · show (if a = adr q k then true else s.sick (k / 2) a) = true
        split
        · rfl
        · subst ‹i = k / 2›; exact h
      · exact h
theorem Mr.mend_calm (h : s.Calm) (hb : fitB q b = true) {k : Nat} (hk : k < 4) (hk0 : q.a.getD k 0 ≠ 0) : (s.mend n q b k).Calm ∧ (s.mend n q b k).okc n q k ∧ ∀ j, s.okc n q j → (s.mend n q b k).okc n q j := by
  have hb5 := fitB_len hb
  obtain ⟨h1, h2, h3⟩ := h.look (n := n) (q := q) hb5 hk
  obtain ⟨e1, e2, e3⟩ := Mr.mend_fields n s q b k
  have hlg : ∀ j, (s.mend n q b k).lgood n q j = (s.writ n q b k).lgood n q j := fun j => by unfold Mr.lgood; rw [e1]
  have hother : ∀ j, j / 2 ≠ k / 2 → (s.writ n q b k).dk (j / 2) = s.dk (j / 2) := fun j hj => by unfold Mr.writ; simp only [upd1_ne _ _ hj]
  refine ⟨⟨e2.trans h1.on, fun i hi => by rw [e1]; exact h1.dk i hi⟩, ?_, fun j hj => ?_⟩
  · unfold Mr.okc
    rw [hlg, e1]
    by_cases hg : (s.writ n q b k).lgood n q k = true
    · exact .inr (.inl hg)
    by_cases hn : n ≤ adr q k
    · exact .inr (.inr (.inl hn))
    refine .inr (.inr (.inr ?_))
    have hg2 : ((s.writ n q b k).good n q k).isSome = false := by
      rw [Mr.good_on (by rw [h1.on]; rfl)]
      simpa using hg
    unfold Mr.mend
    simp only [hg2, Bool.false_eq_true, if_false]
    have e : ∀ t : Mr, (t.moved q).sick = t.sick := fun t => by unfold Mr.moved; split <;> rfl
    rw [e]
    unfold Mr.sicks
    rw [if_neg (by rintro (h | h); exact hk0 h; exact hn h)]
    simp
  · unfold Mr.okc at hj ⊢
    rw [hlg, e1]
    by_cases hjk : j / 2 = k / 2
    · rw [hjk] at hj ⊢
      rw [h3]
      rcases hj with hj | hj | hj | hj
      · exact .inl hj
      · refine .inr (.inl ?_)
        unfold Mr.lgood at hj ⊢
        rw [hjk] at hj ⊢
        rcases h2 (adr q j) with ⟨x, _⟩ | x
        · rw [x] at hj; cases hj
        · rw [x]
          split
          · simpa using hb
          · exact hj
      · exact .inr (.inr (.inl hj))
      · exact .inr (.inr (.inr (e3 _ _ hj)))
    · rw [hother j hjk]
      rcases hj with hj | hj | hj | hj
      · exact .inl hj
      · refine .inr (.inl ?_)
        unfold Mr.lgood at hj ⊢
        rw [hother j hjk]
        exact hj
      · exact .inr (.inr (.inl hj))
      · exact .inr (.inr (.inr (e3 _ _ hj)))
theorem Mr.mends_calm (hb : fitB q b = true) : ∀ (l : List Nat) (s : Mr), s.Calm → (∀ k ∈ l, k < 4 ∧ q.a.getD k 0 ≠ 0) → (l.foldl (Mr.mend n q b) s).Calm ∧ (∀ k ∈ l, (l.foldl (Mr.mend n q b) s).okc n q k) ∧ ∀ j, s.okc n q j → (l.foldl (Mr.mend n q b) s).okc n q j
  | [], s, h, _ => ⟨h, fun _ hk => by simp at hk, fun _ h => h⟩
  | k :: l, s, h, hl => by
    obtain ⟨a, b', c⟩ := Mr.mend_calm (n := n) h hb (hl k (by simp)).1 (hl k (by simp)).2
    obtain ⟨x, y, z⟩ := Mr.mends_calm hb l _ a fun j hj => hl j (by simp [hj])
    refine ⟨x, fun j hj => ?_, fun j hj => z j (c j hj)⟩
    rcases List.mem_cons.1 hj with rfl | hj
    · exact z _ b'
    · exact y j hj
theorem Mr.run_all (n : Nat) (s : Mr) (q : Pt) (on : s.P.off = false) (l : List Nat) : ∀ t : Lo, (∀ k ∈ l, s.lgood n q k = true ∨ (s.dk (k / 2)).dead = true ∨ k ∈ (l.foldl (s.step n q) t).bad) ∧ (∀ k ∈ t.bad, k ∈ (l.foldl (s.step n q) t).bad) ∧ ∀ k ∈ (l.foldl (s.step n q) t).bad, k ∈ t.bad ∨ k ∈ l := by
  induction l with
  | nil => exact fun t => ⟨fun _ h => by simp at h, fun _ h => h, fun _ h => .inl h⟩
  | cons k l ih =>
    intro t
    rw [List.foldl_cons]
    obtain ⟨a, b, c⟩ := ih (s.step n q t k)
    have hk : (s.lgood n q k = true ∨ (s.dk (k / 2)).dead = true ∨ k ∈ (s.step n q t k).bad) ∧ (∀ j ∈ t.bad, j ∈ (s.step n q t k).bad) ∧ ∀ j ∈ (s.step n q t k).bad, j ∈ t.bad ∨ j = k := by
      unfold Mr.step
      cases hg : s.good n q k with
      | some x =>
        have : s.lgood n q k = true := by rw [← Mr.good_on on, hg]; rfl
        simp only
        split <;> exact ⟨.inl this, fun _ h => h, fun _ h => .inl h⟩
      | none =>
        simp only
        split
        · exact ⟨.inr (.inl ‹_›), fun _ h => h, fun _ h => .inl h⟩
        · refine ⟨.inr (.inr (by simp)), fun j hj => by simp [hj], fun j hj => ?_⟩
          simpa using hj
    obtain ⟨h1, h2, h3⟩ := hk
    refine ⟨fun j hj => ?_, fun j hj => b j (h2 j hj), fun j hj => ?_⟩
    · rcases List.mem_cons.1 hj with rfl | hj
      · exact h1.imp id fun h => h.imp id (b _)
      · exact a j hj
    · rcases c j hj with h | h
      · rcases h3 j h with h | h
        · exact .inl h
        · subst h; simp
      · simp [h]
/-- behind Check, all copies are good that can be -/
theorem Mr.healed (h : s.Calm) (hm : mayP q = true) (h0 : (s.heal n q true).2.2 = 0) : ∀ k ∈ cseq q.a 4, (s.heal n q true).1.okc n q k := by
  have hon : s.P.off = false := by rw [h.on]; rfl
  have hfit := Mr.heal_fit n s q true hm h0
  unfold Mr.heal at h0 hfit ⊢
  rw [hm, if_pos rfl] at h0 hfit ⊢
  simp only at h0 hfit ⊢
  have hlk : s.lks n q true = cseq q.a 4 := rfl
  rw [hlk] at h0 hfit ⊢
  obtain ⟨r1, r2, r3⟩ := Mr.run_all n s q hon (cseq q.a 4) ⟨s.found, none, []⟩
  rw [show (cseq q.a 4).foldl (s.step n q) ⟨s.found, none, []⟩ = s.run n q (cseq q.a 4) from rfl] at r1 r2 r3
  cases hb : (s.run n q (cseq q.a 4)).blk with
  | none => rw [hb] at h0; cases h0
  | some b =>
    rw [hb] at hfit
    simp only at hfit ⊢
    have hc : ({ s with found := (s.run n q (cseq q.a 4)).F } : Mr).Calm := ⟨h.on, h.dk⟩
    obtain ⟨x, y, z⟩ := Mr.mends_calm (n := n) hfit (s.run n q (cseq q.a 4)).bad _ hc fun k hk => by
      rcases r3 k hk with h | h
      · simp at h
      · exact cseq_lt h
    intro k hk
    rcases r1 k hk with h | h | h
    · exact z k (.inr (.inl h))
    · exact z k (.inl h)
    · exact y k h
end
end Go.Proofs.YtppilgkgnofkpaaDoor
