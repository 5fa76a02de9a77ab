/- The law's helpers for charge: of, great; what is known of charge (wakes). Condition: the variable inode.leaves holds what the text lays. -/
import Derived.Test.YtmhnlgndgdmebaaDoorChE
namespace Go.Proofs.YtmhnlgndgdmebaaDoor
open Go.RowKit Go.Kin

theorem tyOb : TyS Tryd.prog 35 64 (.agg #[.int .u16 0, .int .u8 0, .slice none 0 0]) 3 32 := ⟨Tryd.underlying35, by kernel_rfl, rfl, by decide⟩
theorem objs_len {w w' : World} {v : Value} {l : List Ob} (h : Objs w v l) {t e : TypeId} (ht : Tryd.prog.underlying t = some (.slice e)) (ty : TypeId) : (Builtin.len_ #[t] ty #[v]).run Tryd.prog w' = .ok (.int .i64 l.length) w' := by
  obtain ⟨A, c, rfl, _⟩ := h
  simp [Builtin.len_, run_underlying ht, goInt]

/-- three cells an object -/
def ObL (w : World) : List Value → List Ob → Prop
  | a :: b :: s :: r, x :: l => a = .int .u16 x.1 ∧ b = .int .u8 x.2.1 ∧ (∃ A c, s = .slice A x.2.2.length c) ∧ Sl w s x.2.2.length (u32s x.2.2) ∧ (x.1 < 65536 ∧ x.2.1 < 256 ∧ ∀ n ∈ x.2.2, n < 4294967296) ∧ ObL w r l
  | [], [] => True
  | _, _ => False
theorem ObL.len {w : World} : ∀ {cs : List Value} {l : List Ob}, ObL w cs l → cs.length = l.length * 3
  | [], [], _ => rfl
  | a :: b :: s :: r, x :: l, h => by have := ObL.len h.2.2.2.2.2; simp; omega
  | [], _ :: _, h => h.elim
  | [_], _, h => by unfold ObL at h; exact h.elim
  | [_, _], _, h => by unfold ObL at h; exact h.elim
  | _ :: _ :: _ :: _, [], h => h.elim
theorem ObL.keep {w w' : World} (hk : ∀ p u, w.cell? p = some u → w'.cell? p = some u) : ∀ {cs : List Value} {l : List Ob}, ObL w cs l → ObL w' cs l
  | [], [], _ => trivial
  | a :: b :: s :: r, x :: l, h => ⟨h.1, h.2.1, h.2.2.1, h.2.2.2.1.keep hk, h.2.2.2.2.1, ObL.keep hk h.2.2.2.2.2⟩
  | [], _ :: _, h => h.elim
  | [_], _, h => by unfold ObL at h; exact h.elim
  | [_, _], _, h => by unfold ObL at h; exact h.elim
  | _ :: _ :: _ :: _, [], h => h.elim
theorem ObL.app {w : World} : ∀ {cs cs' : List Value} {l l' : List Ob}, ObL w cs l → ObL w cs' l' → ObL w (cs ++ cs') (l ++ l')
  | [], _, [], _, _, h' => h'
  | a :: b :: s :: r, _, x :: l, _, h, h' => ⟨h.1, h.2.1, h.2.2.1, h.2.2.2.1, h.2.2.2.2.1, ObL.app h.2.2.2.2.2 h'⟩
  | [], _, _ :: _, _, h, _ => h.elim
  | [_], _, _, _, h, _ => by unfold ObL at h; exact h.elim
  | [_, _], _, _, _, h, _ => by unfold ObL at h; exact h.elim
  | _ :: _ :: _ :: _, _, [], _, h, _ => h.elim
theorem ObL.get {w : World} : ∀ {cs : List Value} {l : List Ob} (j : Nat) (x : Ob), ObL w cs l → l[j]? = some x → cs[j * 3]? = some (.int .u16 x.1) ∧ cs[j * 3 + 1]? = some (.int .u8 x.2.1) ∧ (∃ A c, cs[j * 3 + 2]? = some (.slice A x.2.2.length c) ∧ Sl w (.slice A x.2.2.length c) x.2.2.length (u32s x.2.2)) ∧ x.1 < 65536 ∧ x.2.1 < 256 ∧ ∀ n ∈ x.2.2, n < 4294967296
  | a :: b :: s :: r, y :: l, 0, x, h, hx => by
    simp at hx
    subst hx
    obtain ⟨rfl, rfl, ⟨A, c, rfl⟩, h4, h5, _⟩ := h
    exact ⟨rfl, rfl, ⟨A, c, rfl, h4⟩, h5⟩
  | a :: b :: s :: r, y :: l, j + 1, x, h, hx => by
    have := ObL.get j x h.2.2.2.2.2 (by simpa using hx)
    simpa [Nat.add_mul, Nat.add_assoc] using this
  | [], [], j, x, h, hx => by simp at hx
  | [], _ :: _, _, _, h, _ => h.elim
  | [_], _, _, _, h, _ => by unfold ObL at h; exact h.elim
  | [_, _], _, _, _, h, _ => by unfold ObL at h; exact h.elim
  | _ :: _ :: _ :: _, [], _, _, h, _ => h.elim
/-- objects in a row of the call's own -/
theorem objs_of_own {w : World} {v : Value} {l : List Ob} {cs : List Value} {e : Nat} (h : w.ownsRow 0 e 3 v l.length cs) (ho : ObL w cs l) : Objs w v l := by
  by_cases h0 : 0 < l.length
  · obtain ⟨g, cap, cur, rfl, h1, h2, hb, h3, hc⟩ := ownS_blk h h0
    refine ⟨_, cap, rfl, h1, h2, fun _ => ⟨g, 0, rfl, fun j x hx => ?_⟩⟩
    obtain ⟨g0, g1, ⟨A, c, g2, g3⟩, g4⟩ := ho.get j x hx
    exact ⟨g4, by rw [Nat.zero_add]; exact hc _ _ g0, by rw [Nat.zero_add]; exact hc _ _ g1, A, c, by rw [Nat.zero_add]; exact hc _ _ g2, g3⟩
  · have hl : l = [] := List.eq_nil_of_length_eq_zero (by omega)
    subst hl
    rcases h.2 with ⟨rfl, _⟩ | ⟨g, cap, cur, rfl, _, _, h1, h2, _⟩
    · exact ⟨none, 0, rfl, Nat.le_refl _, Nat.zero_le _, fun h => absurd h (by simp)⟩
    · exact ⟨_, cap, rfl, h1, h2, fun h => absurd h (by simp)⟩

/-- where the offsets that v's objects name lie, told of another world -/
def ObjQ (wq w : World) (v : Value) (l : List Ob) : Prop := ∀ bb bo n c, v = .slice (some ⟨bb, bo, none⟩) n c → ∀ j x, l[j]? = some x → ∀ s, w.cell? ⟨bb, bo + (j * 3 + 2), none⟩ = some s → Sl wq s x.2.2.length (u32s x.2.2)
theorem ObjQ.own {w : World} {v : Value} {l : List Ob} (h : Objs w v l) : ObjQ w w v l := by
  obtain ⟨A, c, rfl, h1, h2, h3⟩ := h
  intro bb bo n c' hv j x hx s hs
  simp at hv
  obtain ⟨rfl, -, -⟩ := hv
  have h0 : 0 < l.length := Nat.lt_of_le_of_lt (Nat.zero_le _) (List.getElem?_eq_some_iff.1 hx).1
  obtain ⟨b, o, hbo, hj⟩ := h3 h0
  simp at hbo
  obtain ⟨rfl, rfl⟩ := hbo
  obtain ⟨_, _, _, A, c, h4, h5⟩ := hj j x hx
  rw [Nat.add_assoc] at h4
  rw [h4] at hs
  cases hs
  exact h5
theorem of_law' (v : Value) (l : List Ob) (w : World) (hl : l.length ≤ 1000) (ho : Objs w v l) :
    Ret Tryd.prog 11 #[v] w fun v' w' => ∃ cs, MineS 64 3 w v' l.length cs w' ∧ ∀ wq, ObjQ wq w v l → ObL wq cs l := by
  obtain ⟨A, c, rfl, hlc, hcm, hel⟩ := ho
  refine v_enter Tryd.func11 Tryd.ntmps11 rfl (by simp) fun R' hR => ?_
  simp [go_sem]
  refine v_loop (fun r f wr => ∃ k cs, k ≤ l.length ∧ r = l.length - k ∧ f 0 = .slice A l.length c ∧ f 4 = .int .i64 k ∧ MineS 64 3 w (f 3) k cs wr ∧ ∀ wq, ObjQ wq w (.slice A l.length c) l → ObL wq cs (l.take k)) l.length
    ⟨0, [], by omega, rfl, by simp, by simp, by simpa using MineS.nil _ _ (Ch.refl Nw w), fun _ _ => trivial⟩ ?_
  rintro J hJ _ f wr ⟨k, cs, hk, rfl, h0, h4, hm, hob⟩
  by_cases hkl : k < l.length
  · obtain ⟨bb, bo, rfl, hat⟩ := hel (by omega)
    obtain ⟨x, hx⟩ : ∃ x, l[k]? = some x := ⟨_, List.getElem?_eq_getElem hkl⟩
    obtain ⟨hfit, hn0, hkd0, oA, oc, hof0, hos⟩ := hat k x hx
    have hn := hm.ch.cell hn0 id
    have hkd := hm.ch.cell hkd0 id
    have hof := hm.ch.cell hof0 id
    have hki : (k : Int) < l.length := by omega
    have hwk : IntKind.i64.wrap ((k : Int) + 1) = ((k + 1 : Nat) : Int) := by simp [IntKind.wrap_i64]; omega
    simp only [Nat.add_assoc] at hkd hof
    have hbz : bb < wr.heap.size := World.block_lt_of_cell? _ _ hn
    simp [go_sem, h0, h4, hki]
    refine v_draw' [(0, none), (1, none), (2, none), (3, none), (4, none), (5, none), (6, none), (7, none), (8, none), (9, none), (10, none), (11, none), (12, none), (13, none), (14, none), (15, none), (16, none), (17, some [0]), (18, some []), (19, none)] (by kernel_rfl) (by kernel_rfl) ?_
    simp [go_sem, h0, h4, hki, hn, hkd, hof, Nat.add_assoc]
    refine VB_app1S (us := [.int .u16 x.1, .int .u8 x.2.1, .slice oA x.2.2.length oc]) tyOb hm.drew.own rfl (by simp [Value.oneCell']) (by unfold maxLen; omega) (by omega) fun v' w' k1 k2 k3 => ?_
    have hm' := hm.drew.grow k1 k2 k3
    simp [go_sem, h4, hwk]
    refine Rnd.intro (l.length - (k + 1)) (by omega) (hJ _ _ _ ⟨k + 1, _, by omega, rfl, by simp [h0], by simp, by simpa using hm', fun wq hq => ?_⟩)
    rw [List.take_add_one, hx]
    exact (hob wq hq).app ⟨rfl, rfl, ⟨oA, oc, rfl⟩, hq _ _ _ _ rfl k x hx _ (by rw [← Nat.add_assoc]; exact hof0), hfit, trivial⟩
  · obtain rfl : k = l.length := by omega
    rw [List.take_length] at hob
    simp [go_sem, h0, h4]
    exact hR _ _ ⟨cs, hm, hob⟩
theorem of_law (v : Value) (l : List Ob) (w : World) (hl : l.length ≤ 1000) (ho : Objs w v l) :
    Ret Tryd.prog 11 #[v] w fun v' w' => ∃ cs, MineS 64 3 w v' l.length cs w' ∧ ObL w' cs l := by
  refine (of_law' v l w hl ho).mono ?_
  rintro v' w' ⟨cs, hm, hq⟩
  exact ⟨cs, hm, (hq w (.own ho)).keep fun p u hp => hm.ch.cell hp id⟩
end Go.Proofs.YtmhnlgndgdmebaaDoor
