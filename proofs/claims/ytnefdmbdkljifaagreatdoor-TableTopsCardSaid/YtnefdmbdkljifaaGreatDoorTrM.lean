/- What a Set on a shelf makes, and tells to be old, in plain Lean. No condition but that the values are of their types. -/
import Derived.Test.YtnefdmbdkljifaaGreatDoorTrL
set_option linter.unusedSimpArgs false
set_option linter.unusedVariables false

namespace Go.Proofs.YtnefdmbdkljifaaGreatDoor
open Go.RowKit Go.Kin

/- counting -/
theorem countP_flip {p q : Nat → Bool} {i : Nat} (h : ∀ j, j ≠ i → q j = p j) (hp : p i = false) (hq : q i = true) : ∀ n, i < n → (List.range n).countP q = (List.range n).countP p + 1
  | 0, hi => by omega
  | n + 1, hi => by
    rw [List.range_succ, List.countP_append, List.countP_append]
    by_cases hn : i = n
    · subst hn
      have e : (List.range i).countP q = (List.range i).countP p := List.countP_congr fun j hj => by
        rw [h j (by have := List.mem_range.1 hj; omega)]
      simp [e, hp, hq]
    · have := countP_flip h hp hq n (by omega)
      have e2 : q n = p n := h n (by omega)
      simp only [List.countP_singleton, this, e2]
      omega
theorem countP_same {p q : Nat → Bool} {n : Nat} (h : ∀ j, j < n → q j = p j) : (List.range n).countP q = (List.range n).countP p :=
  List.countP_congr fun j hj => by rw [h j (List.mem_range.1 hj)]
theorem range64 {g : Nat} (hg : g < 8) : List.range 64 = List.range (8 * g) ++ ((List.range 8).map (8 * g + ·) ++ (List.range (56 - 8 * g)).map (8 * g + 8 + ·)) := by
  have : g = 0 ∨ g = 1 ∨ g = 2 ∨ g = 3 ∨ g = 4 ∨ g = 5 ∨ g = 6 ∨ g = 7 := by omega
  rcases this with rfl | rfl | rfl | rfl | rfl | rfl | rfl | rfl <;> decide
theorem countP_grp {p q : Nat → Bool} {g : Nat} (hg : g < 8) (h : ∀ o, o / 8 ≠ g → q o = p o) (hp : ∀ o, o / 8 = g → p o = false) : (List.range 64).countP q = (List.range 64).countP p + (List.range 8).countP fun k => q (8 * g + k) := by
  rw [range64 hg]
  simp only [List.countP_append, List.countP_map]
  have e1 : (List.range (8 * g)).countP q = (List.range (8 * g)).countP p := countP_same fun j hj => h j (by omega)
  have e2 : (List.range 8).countP (p ∘ fun x => 8 * g + x) = 0 := by
    rw [List.countP_eq_zero]
    intro k hk
    have := List.mem_range.1 hk
    simp [hp (8 * g + k) (by omega)]
  have e3 : (List.range (56 - 8 * g)).countP (q ∘ fun x => 8 * g + 8 + x) = (List.range (56 - 8 * g)).countP (p ∘ fun x => 8 * g + 8 + x) := countP_same fun j hj => h _ (by simp only; omega)
  rw [e1, e2, e3]
  have e4 : (List.range 8).countP (q ∘ fun x => 8 * g + x) = (List.range 8).countP fun k => q (8 * g + k) := rfl
  omega
/- places -/
theorem getD_set {α : Type} (l : List α) (i j : Nat) (v d : α) : (l.set i v).getD j d = if i = j ∧ i < l.length then v else l.getD j d := by
  rw [List.getD_eq_getElem?_getD, List.getD_eq_getElem?_getD, List.getElem?_set]
  by_cases h : i = j
  · subst h
    by_cases h2 : i < l.length
    · simp [h2]
    · simp [h2, List.getElem?_eq_none (Nat.not_lt.1 h2)]
  · simp [h]
theorem getD_set_self {α : Type} {l : List α} {i : Nat} {v d : α} (h : i < l.length) : (l.set i v).getD i d = v := by rw [getD_set, if_pos ⟨rfl, h⟩]
theorem getD_set_ne {α : Type} {l : List α} {i j : Nat} {v d : α} (h : i ≠ j) : (l.set i v).getD j d = l.getD j d := by rw [getD_set, if_neg fun e => h e.1]
theorem ext_getD {a b : List Pt} (hl : a.length = b.length) (h : ∀ i, i < a.length → a.getD i ptz = b.getD i ptz) : a = b := by
  apply List.ext_getElem hl
  intro i h1 h2
  have := h i h1
  rwa [List.getD_eq_getElem?_getD, List.getD_eq_getElem?_getD, List.getElem?_eq_getElem h1, List.getElem?_eq_getElem h2] at this
def setlT (n : List Pt) (l : List (Nat × Pt)) : List Pt := l.foldl (fun n x => n.set (x.1 % 8) x.2) n
def nxtT (c : List Pt) (l : List (Nat × Pt)) : List Pt := l.foldl (fun c x => c.set x.1 x.2) c
theorem nxtT_len : ∀ (l : List (Nat × Pt)) (c : List Pt), (nxtT c l).length = c.length
  | [], c => rfl
  | x :: l, c => by
    show (nxtT (c.set x.1 x.2) l).length = _
    rw [nxtT_len l, List.length_set]
theorem nxtT_app (c : List Pt) (a b : List (Nat × Pt)) : nxtT c (a ++ b) = nxtT (nxtT c a) b := List.foldl_append
theorem slT_set {g k : Nat} {c : List Pt} {v : Pt} : slT g (c.set (8 * g + k) v) = (slT g c).set k v := by
  unfold slT
  rw [List.drop_set, if_neg (by omega), List.take_set, show 8 * g + k - 8 * g = k by omega]
theorem slT_set_ne {g i : Nat} {c : List Pt} {v : Pt} (h : i / 8 ≠ g) : slT g (c.set i v) = slT g c := by
  unfold slT
  rw [List.drop_set]
  split
  · rfl
  · rw [List.take_set, List.set_eq_of_length_le]
    simp
    omega
theorem slT_nxt {g : Nat} : ∀ (l : List (Nat × Pt)) (c : List Pt), (∀ x ∈ l, x.1 / 8 = g) → slT g (nxtT c l) = setlT (slT g c) l
  | [], c, _ => rfl
  | x :: l, c, h => by
    have hx := h x (by simp)
    show slT g (nxtT (c.set x.1 x.2) l) = setlT ((slT g c).set (x.1 % 8) x.2) l
    rw [slT_nxt l _ fun y hy => h y (by simp [hy]), ← slT_set, show 8 * g + x.1 % 8 = x.1 by omega]
theorem slT_nxt_ne {g g' : Nat} (hne : g ≠ g') : ∀ (l : List (Nat × Pt)) (c : List Pt), (∀ x ∈ l, x.1 / 8 = g) → slT g' (nxtT c l) = slT g' c
  | [], c, _ => rfl
  | x :: l, c, h => by
    have hx := h x (by simp)
    show slT g' (nxtT (c.set x.1 x.2) l) = _
    rw [slT_nxt_ne hne l _ fun y hy => h y (by simp [hy]), slT_set_ne (by omega)]
theorem nxtT_get_ne {g : Nat} : ∀ (l : List (Nat × Pt)) (c : List Pt), (∀ x ∈ l, x.1 / 8 = g) → ∀ o, o / 8 ≠ g → (nxtT c l).getD o ptz = c.getD o ptz
  | [], c, _, o, _ => rfl
  | x :: l, c, h, o, ho => by
    have hx := h x (by simp)
    show (nxtT (c.set x.1 x.2) l).getD o ptz = _
    rw [nxtT_get_ne l _ (fun y hy => h y (by simp [hy])) o ho, getD_set_ne (by rintro rfl; exact ho hx)]
theorem nxtT_mem {P : Pt → Prop} : ∀ (l : List (Nat × Pt)) (c : List Pt), (∀ x ∈ l, P x.2) → (∀ x ∈ c, P x) → ∀ x ∈ nxtT c l, P x
  | [], c, _, h => h
  | y :: l, c, hl, h => nxtT_mem l _ (fun x hx => hl x (by simp [hx])) fun x hx => by
    rcases List.mem_or_eq_of_mem_set hx with h1 | rfl
    · exact h x h1
    · exact hl y (by simp)
theorem setlT_ok : ∀ (l : List (Nat × Pt)) (n : List Pt), NdOk n → n.all okP = true → (∀ x ∈ l, PtOk x.2 ∧ okP x.2 = true) → NdOk (setlT n l) ∧ (setlT n l).all okP = true
  | [], n, h, h2, _ => ⟨h, h2⟩
  | x :: l, n, h, h2, hl => setlT_ok l _ (h.set _ (hl x (by simp)).1) (by
      rw [List.all_eq_true] at *
      intro y hy
      rcases List.mem_or_eq_of_mem_set hy with h1 | rfl
      · exact h2 y h1
      · exact (hl x (by simp)).2) fun y hy => hl y (by simp [hy])
/-- what is no more, of eight -/
def dfT (n0 n : List Pt) (k : Nat) : Bool := decide (n.getD k ptz ≠ n0.getD k ptz ∧ n0.getD k ptz ≠ ptz)
/-- leaves of one group are put -/
theorem tputs_sh {g : Nat} {n0 : List Pt} : ∀ (l : List (Nat × Pt)) (s : Shf) (n : List Pt), n.length = 8 → (∀ x ∈ l, x.1 / 8 = g) → l.Pairwise (fun x y => x.1 < y.1) → (∀ x ∈ l, n.getD (x.1 % 8) ptz = n0.getD (x.1 % 8) ptz) →
    ∃ os, l.foldl (tput shOd) (s, n) = ({ s with gone := s.gone ++ os }, setlT n l) ∧ os.length + (List.range 8).countP (dfT n0 n) = (List.range 8).countP (dfT n0 (setlT n l)) ∧
      ∀ x, (x ∈ os ∨ ∃ k, k < 8 ∧ x = n0.getD k ptz ∧ dfT n0 n k = true) ↔ ∃ k, k < 8 ∧ x = n0.getD k ptz ∧ dfT n0 (setlT n l) k = true
  | [], s, n, _, _, _, _ => ⟨[], by simp [setlT], by simp [setlT], fun x => by simp [setlT]⟩
  | x :: l, s, n, hn, hg, hp, h0 => by
    have hx := hg x (by simp)
    have hx0 := h0 x (by simp)
    obtain ⟨k, hk⟩ : ∃ k, x.1 % 8 = k := ⟨_, rfl⟩
    have hk8 : k < 8 := by omega
    rw [hk] at hx0
    have hp1 := List.pairwise_cons.1 hp
    obtain ⟨os, e1, e2, e3⟩ := tputs_sh (g := g) (n0 := n0) l (tput shOd (s, n) x).1 (n.set k x.2) (by simp [hn]) (fun y hy => hg y (by simp [hy])) hp1.2 fun y hy => by
      have h1 := hp1.1 y hy
      have h2 := hg y (by simp [hy])
      rw [getD_set_ne (by omega)]
      exact h0 y (by simp [hy])
    have hs : setlT n (x :: l) = setlT (n.set k x.2) l := by rw [← hk]; rfl
    have hf : (x :: l).foldl (tput shOd) (s, n) = l.foldl (tput shOd) ((tput shOd (s, n) x).1, n.set k x.2) := by rw [← hk]; rfl
    have hold : dfT n0 n k = false := by unfold dfT; rw [hx0]; simp
    have hoth : ∀ j, j ≠ k → dfT n0 (n.set k x.2) j = dfT n0 n j := fun j hj => by unfold dfT; rw [getD_set_ne (Ne.symm hj)]
    have hnew : dfT n0 (n.set k x.2) k = decide (x.2 ≠ n0.getD k ptz ∧ n0.getD k ptz ≠ ptz) := by unfold dfT; rw [getD_set_self (by omega)]
    have ht : (tput shOd (s, n) x).1 = if n0.getD k ptz ≠ x.2 ∧ n0.getD k ptz ≠ ptz then shOd s (n0.getD k ptz) else s := by unfold tput; rw [hk, hx0]
    rw [hs, hf]
    by_cases hc : n0.getD k ptz ≠ x.2 ∧ n0.getD k ptz ≠ ptz
    · rw [if_pos hc] at ht
      have hn1 : dfT n0 (n.set k x.2) k = true := by rw [hnew]; exact decide_eq_true ⟨Ne.symm hc.1, hc.2⟩
      rw [countP_flip hoth hold hn1 8 hk8] at e2
      refine ⟨n0.getD k ptz :: os, ?_, by rw [List.length_cons]; omega, fun y => ?_⟩
      · rw [e1, ht]
        simp [shOd]
      · rw [← e3 y]
        constructor
        · rintro (h | ⟨j, h1, h2, h3⟩)
          · rcases List.mem_cons.1 h with h | h
            · exact .inr ⟨k, hk8, h, hn1⟩
            · exact .inl h
          · by_cases hj : j = k
            · subst hj; rw [hold] at h3; cases h3
            · exact .inr ⟨j, h1, h2, by rw [hoth j hj]; exact h3⟩
        · rintro (h | ⟨j, h1, h2, h3⟩)
          · exact .inl (by simp [h])
          · by_cases hj : j = k
            · subst hj; exact .inl (by simp [h2])
            · exact .inr ⟨j, h1, h2, by rw [← hoth j hj]; exact h3⟩
    · rw [if_neg hc] at ht
      have hn1 : dfT n0 (n.set k x.2) k = false := by
        rw [hnew]
        exact decide_eq_false fun e => hc ⟨Ne.symm e.1, e.2⟩
      have hall : ∀ j, dfT n0 (n.set k x.2) j = dfT n0 n j := fun j => by
        by_cases hj : j = k
        · subst hj; rw [hn1, hold]
        · exact hoth j hj
      have hfe : dfT n0 (n.set k x.2) = dfT n0 n := funext hall
      rw [hfe] at e2 e3
      exact ⟨os, by rw [e1, ht], e2, e3⟩
/-- a Set under way: b0 blocks there were, the tree's groups t, its map h; now the groups n, the map c -/
structure MidT (b0 : Nat) (t h : List Pt) (s : Shf) (n c : List Pt) : Prop where
  nl : n.length = 8
  cl : c.length = 64
  bad : s.bad = []
  room : s.room = -1
  bl : s.bl.length = b0 + s.made.length
  madeL : s.made.length = (List.range 8).countP fun g => decide (n.getD g ptz ≠ t.getD g ptz ∧ n.getD g ptz ≠ ptz)
  madeE : ∀ x, x ∈ s.made ↔ ∃ g, g < 8 ∧ x = n.getD g ptz ∧ n.getD g ptz ≠ t.getD g ptz ∧ n.getD g ptz ≠ ptz
  goneL : s.gone.length = (List.range 8).countP (dfT t n) + (List.range 64).countP (dfT h c)
  goneE : ∀ x, x ∈ s.gone ↔ (∃ g, g < 8 ∧ x = t.getD g ptz ∧ dfT t n g = true) ∨ ∃ o, o < 64 ∧ x = h.getD o ptz ∧ dfT h c o = true
  gr : ∀ g, g < 8 → GpT s.bl g (n.getD g ptz) (slT g c)
  new : ∀ g, g < 8 → n.getD g ptz ≠ t.getD g ptz → n.getD g ptz ≠ ptz → b0 < (n.getD g ptz).b
  kp : ∀ g, g < 8 → (n.getD g ptz = t.getD g ptz ↔ slT g c = slT g h)
  lf : ∀ x ∈ c, x = ptz ∨ x.k ≠ 3
theorem shp_may {n obj off lev : Nat} (h0 : 0 < n) (hl : lev = 1 ∨ lev = 2) (b : List UInt8) : mayP (shp n (nwp lev obj off) b) = true := by
  rw [mayP_eq (p := shp n (nwp lev obj off) b) (a0 := n) (a1 := 0) (a2 := 0) (a3 := 0) (n := 2) rfl rfl]
  have hn : ¬ n = 0 := by omega
  have e : levB (shp n (nwp lev obj off) b) = true := by
    show (if (3 : Nat) = 3 then (lev == 1 || lev == 2) else lev == 0) = true
    rcases hl with rfl | rfl <;> rfl
  rw [e]
  simp [badP, shp, shq, hn]
theorem shp_ok {n obj off lev : Nat} (hn : n < 65536) (ho : obj < 65536) (hf : off < 4294967296) (hl : lev < 256) (b : List UInt8) : PtOk (shp n (nwp lev obj off) b) :=
  ⟨by show 3 < 256; omega, hl, ho, hf, by show n < _; omega, digS_length _ _, rfl, by intro x hx; simp [shp, shq] at hx; omega⟩
theorem dfT_self (t : List Pt) (k : Nat) : dfT t t k = false := by unfold dfT; simp
theorem MidT.begin {s : Shf} {root : Pt} {t h : List Pt} (tp : TreeP s.bl root t h) (hb : s.bad = []) (hr : s.room = -1) (hm : s.made = []) (hg : s.gone = []) : MidT s.bl.length t h s t h := by
  refine ⟨tp.rs.okn.len, tp.hl, hb, hr, by simp [hm], ?_, ?_, ?_, ?_, tp.gr, fun g _ h => absurd rfl h, fun g _ => ⟨fun _ => rfl, fun _ => rfl⟩, tp.lf⟩
  · rw [hm]; simp
  · intro x; rw [hm]; simp
  · have e1 : dfT t t = fun _ => false := funext (dfT_self t)
    have e2 : dfT h h = fun _ => false := funext (dfT_self h)
    rw [hg, e1, e2]; simp
  · intro x
    rw [hg]
    simp [dfT_self]
/-- a group is made anew -/
theorem MidT.low {b0 : Nat} {t h : List Pt} {s : Shf} {n c : List Pt} (M : MidT b0 t h s n c) (tb : ∀ g, g < 8 → (t.getD g ptz).b ≤ b0) {g : Nat} {l : List (Nat × Pt)} (hg : g < 8) (hh : h.length = 64) (hun : slT g c = slT g h) (hl : ∀ x ∈ l, x.1 / 8 = g) (hp : l.Pairwise fun x y => x.1 < y.1)
    (hok : ∀ x ∈ l, (PtOk x.2 ∧ okP x.2 = true) ∧ (x.2 = ptz ∨ x.2.k ≠ 3)) (hlen : s.bl.length < 30000) {obj : Nat} (hobj : obj < 65536) :
    ∃ s' q, tlow shRd shNw shOd obj s (n.getD g ptz) g l = (s', q, 0) ∧ MidT b0 t h s' (n.set g q) (nxtT c l) ∧ ∃ e, s'.bl = s.bl ++ e := by
  obtain ⟨p, hpe⟩ : ∃ p, n.getD g ptz = p := ⟨_, rfl⟩
  obtain ⟨N, hN⟩ : ∃ N, slT g c = N := ⟨_, rfl⟩
  have gp := M.gr g hg
  rw [hpe, hN] at gp
  have hpt : p = t.getD g ptz := by rw [← hpe]; exact (M.kp g hg).2 hun
  have hNh : N = slT g h := by rw [← hN]; exact hun
  have e1 := gp.rs.read (s := s) (by rw [M.bad]; rfl)
  obtain ⟨m, hm⟩ : ∃ m, (if p = ptz then [] else [p]) = m := ⟨_, rfl⟩
  rw [hm] at e1
  obtain ⟨os, e2, e3, e4⟩ := tputs_sh (g := g) (n0 := N) l (s.more m) N gp.rs.okn.len hl hp fun _ _ => rfl
  have hz8 : (List.range 8).countP (dfT N N) = 0 := by
    rw [List.countP_eq_zero]
    intro k _
    simp [dfT_self]
  rw [hz8, Nat.add_zero] at e3
  have e4' : ∀ x, x ∈ os ↔ ∃ k, k < 8 ∧ x = N.getD k ptz ∧ dfT N (setlT N l) k = true := fun x => by
    rw [← e4 x]
    simp [dfT_self]
  have hNs : slT g (nxtT c l) = setlT N l := by rw [slT_nxt l c hl, hN]
  obtain ⟨okN, allN⟩ := setlT_ok l N gp.rs.okn gp.rs.all fun x hx => (hok x hx).1
  obtain ⟨N', hN'⟩ : ∃ N', setlT N l = N' := ⟨_, rfl⟩
  rw [hN'] at e2 e3 e4' hNs okN allN
  have hcl : (nxtT c l).length = 64 := by rw [nxtT_len, M.cl]
  have hlf : ∀ x ∈ nxtT c l, x = ptz ∨ x.k ≠ 3 := nxtT_mem l c (fun x hx => (hok x hx).2) M.lf
  -- the leaves that are no more
  have hcnt : (List.range 64).countP (dfT h (nxtT c l)) = (List.range 64).countP (dfT h c) + os.length := by
    rw [e3, countP_grp (p := dfT h c) (q := dfT h (nxtT c l)) hg (fun o ho => by unfold dfT; rw [nxtT_get_ne l c hl o ho]) (fun o ho => by
      have e : c.getD o ptz = h.getD o ptz := by
        have h1 := slT_get (g := g) (h := c) (show o % 8 < 8 by omega)
        have h2 := slT_get (g := g) (h := h) (show o % 8 < 8 by omega)
        rw [show 8 * g + o % 8 = o by omega] at h1 h2
        rw [← h1, ← h2, hun]
      unfold dfT
      rw [e]
      simp)]
    congr 1
    apply countP_same
    intro k hk
    unfold dfT
    rw [← slT_get (g := g) (h := nxtT c l) hk, ← slT_get (g := g) (h := h) hk, hNs, ← hNh]
  have hmem : ∀ x, (∃ o, o < 64 ∧ x = h.getD o ptz ∧ dfT h (nxtT c l) o = true) ↔ (∃ o, o < 64 ∧ x = h.getD o ptz ∧ dfT h c o = true) ∨ x ∈ os := fun x => by
    rw [e4']
    have hd : ∀ k, k < 8 → dfT N N' k = dfT h (nxtT c l) (8 * g + k) := fun k hk => by
      unfold dfT
      rw [← slT_get (g := g) (h := nxtT c l) hk, ← slT_get (g := g) (h := h) hk, hNs, ← hNh]
    have hd2 : ∀ o, o / 8 ≠ g → dfT h (nxtT c l) o = dfT h c o := fun o ho => by unfold dfT; rw [nxtT_get_ne l c hl o ho]
    have hd3 : ∀ o, o / 8 = g → dfT h c o = false := fun o ho => by
      have e : c.getD o ptz = h.getD o ptz := by
        have h1 := slT_get (g := g) (h := c) (show o % 8 < 8 by omega)
        have h2 := slT_get (g := g) (h := h) (show o % 8 < 8 by omega)
        rw [show 8 * g + o % 8 = o by omega] at h1 h2
        rw [← h1, ← h2, hun]
      unfold dfT
      rw [e]
      simp
    constructor
    · rintro ⟨o, h1, h2, h3⟩
      by_cases ho : o / 8 = g
      · refine .inr ⟨o % 8, by omega, ?_, ?_⟩
        · rw [h2, hNh, slT_get (by omega), show 8 * g + o % 8 = o by omega]
        · rw [hd _ (by omega), show 8 * g + o % 8 = o by omega]; exact h3
      · exact .inl ⟨o, h1, h2, by rw [← hd2 o ho]; exact h3⟩
    · rintro (⟨o, h1, h2, h3⟩ | ⟨k, h1, h2, h3⟩)
      · by_cases ho : o / 8 = g
        · rw [hd3 o ho] at h3; cases h3
        · exact ⟨o, h1, h2, by rw [hd2 o ho]; exact h3⟩
      · refine ⟨8 * g + k, by omega, ?_, ?_⟩
        · rw [h2, hNh, slT_get h1]
        · rw [← hd k h1]; exact h3
  have ht : tlow shRd shNw shOd obj s p g l = tmade shNw shOd { s.more m with gone := s.gone ++ os } p N N' 1 obj g := by
    unfold tlow
    rw [e1]
    simp only [ne_eq, not_true_eq_false, if_false]
    rw [e2]
    rfl
  have hgn : ∀ q, (n.set g q).getD g ptz = q := fun q => getD_set_self (by rw [M.nl]; exact hg)
  have hgo : ∀ q j, j ≠ g → (n.set g q).getD j ptz = n.getD j ptz := fun q j hj => getD_set_ne (Ne.symm hj)
  have hso : ∀ j, j ≠ g → slT j (nxtT c l) = slT j c := fun j hj => slT_nxt_ne (Ne.symm hj) l c hl
  have hng : n.getD g ptz = t.getD g ptz := by rw [hpe, hpt]
  -- the end, in all ways
  have fin : ∀ (s' : Shf) (q : Pt) (mk : List Pt), s'.bad = [] → s'.room = -1 → s'.made = s.made ++ mk → s'.gone = s.gone ++ os ++ (if q ≠ p ∧ p ≠ ptz then [p] else []) → (∃ e, s'.bl = s.bl ++ e ∧ e.length = mk.length) → mk = (if q ≠ p ∧ q ≠ ptz then [q] else []) →
      GpT s'.bl g q N' → (q ≠ p → q ≠ ptz → b0 < q.b) → (q = p ↔ N' = N) → MidT b0 t h s' (n.set g q) (nxtT c l) ∧ ∃ e, s'.bl = s.bl ++ e := by
    intro s' q mk hb hr hmd hgn' hbl hmk hgp hnew hq
    obtain ⟨e, he, hel⟩ := hbl
    have hdf : dfT t (n.set g q) g = decide (q ≠ p ∧ p ≠ ptz) := by unfold dfT; rw [hgn, hpt]
    have hdf0 : dfT t n g = false := by unfold dfT; rw [hng]; simp
    have hdfo : ∀ j, j ≠ g → dfT t (n.set g q) j = dfT t n j := fun j hj => by unfold dfT; rw [hgo q j hj]
    refine ⟨⟨by simp [M.nl], hcl, hb, hr, ?_, ?_, ?_, ?_, ?_, ?_, ?_, ?_, hlf⟩, e, he⟩
    · rw [he, hmd, List.length_append, List.length_append, M.bl, hel]; omega
    · rw [hmd, List.length_append, M.madeL, hmk]
      by_cases hc : q ≠ p ∧ q ≠ ptz
      · rw [if_pos hc]
        have e := countP_flip (i := g) (p := fun j => decide (n.getD j ptz ≠ t.getD j ptz ∧ n.getD j ptz ≠ ptz)) (q := fun j => decide ((n.set g q).getD j ptz ≠ t.getD j ptz ∧ (n.set g q).getD j ptz ≠ ptz)) (fun j hj => by simp only [hgo q j hj]) (by simp only [hng]; exact decide_eq_false fun e => e.1 rfl) (by simp only [hgn]; rw [← hpt]; exact decide_eq_true hc) 8 hg
        rw [e]
        rfl
      · rw [if_neg hc]
        simp only [List.length_nil, Nat.add_zero]
        apply countP_same
        intro j _
        by_cases hj : j = g
        · subst hj
          simp only [hgn, hng]
          rw [← hpt, decide_eq_false hc]
          simp
        · simp only [hgo q j hj]
    · intro x
      rw [hmd, List.mem_append, M.madeE, hmk]
      constructor
      · rintro (⟨j, h1, h2, h3, h4⟩ | h1)
        · have hj : j ≠ g := by rintro rfl; exact h3 hng
          exact ⟨j, h1, by rw [hgo q j hj]; exact h2, by rw [hgo q j hj]; exact h3, by rw [hgo q j hj]; exact h4⟩
        · by_cases hc : q ≠ p ∧ q ≠ ptz
          · rw [if_pos hc] at h1
            simp at h1
            exact ⟨g, hg, by rw [hgn]; exact h1, by rw [hgn, ← hpt]; exact hc.1, by rw [hgn]; exact hc.2⟩
          · rw [if_neg hc] at h1; cases h1
      · rintro ⟨j, h1, h2, h3, h4⟩
        by_cases hj : j = g
        · subst hj
          rw [hgn] at h2 h3 h4
          rw [← hpt] at h3
          rw [if_pos ⟨h3, h4⟩, h2]
          simp
        · rw [hgo q j hj] at h2 h3 h4
          exact .inl ⟨j, h1, h2, h3, h4⟩
    · rw [hgn', List.length_append, List.length_append, M.goneL, hcnt]
      by_cases hc : q ≠ p ∧ p ≠ ptz
      · rw [if_pos hc, countP_flip (i := g) hdfo hdf0 (by rw [hdf]; exact decide_eq_true hc) 8 hg]
        simp
        omega
      · rw [if_neg hc]
        have e : (List.range 8).countP (dfT t (n.set g q)) = (List.range 8).countP (dfT t n) := countP_same fun j _ => by
          by_cases hj : j = g
          · subst hj; rw [hdf, hdf0]; exact decide_eq_false hc
          · exact hdfo j hj
        rw [e]
        simp
        omega
    · intro x
      rw [hgn', List.mem_append, List.mem_append, M.goneE, hmem]
      constructor
      · rintro (((⟨j, h1, h2, h3⟩ | h1) | h1) | h1)
        · have hj : j ≠ g := by rintro rfl; rw [hdf0] at h3; cases h3
          exact .inl ⟨j, h1, h2, by rw [hdfo j hj]; exact h3⟩
        · exact .inr (.inl h1)
        · exact .inr (.inr h1)
        · by_cases hc : q ≠ p ∧ p ≠ ptz
          · rw [if_pos hc] at h1
            simp at h1
            exact .inl ⟨g, hg, by rw [h1, hpt], by rw [hdf]; exact decide_eq_true hc⟩
          · rw [if_neg hc] at h1; cases h1
      · rintro (⟨j, h1, h2, h3⟩ | h1 | h1)
        · by_cases hj : j = g
          · subst hj
            rw [hdf] at h3
            have hc := of_decide_eq_true h3
            rw [if_pos hc, h2, ← hpt]
            simp
          · exact .inl (.inl (.inl ⟨j, h1, h2, by rw [← hdfo j hj]; exact h3⟩))
        · exact .inl (.inl (.inr h1))
        · exact .inl (.inr h1)
    · intro j hj8
      by_cases hj : j = g
      · subst hj
        rw [hgn, hNs]
        exact hgp
      · rw [hgo q j hj, hso j hj]
        exact (M.gr j hj8).ext ⟨e, he⟩
    · intro j hj8 h1 h2
      by_cases hj : j = g
      · subst hj
        rw [hgn] at h1 h2 ⊢
        exact hnew (by rw [hpt]; exact h1) h2
      · rw [hgo q j hj] at h1 h2 ⊢
        exact M.new j hj8 h1 h2
    · intro j hj8
      by_cases hj : j = g
      · subst hj
        rw [hgn, hNs, ← hpt, ← hNh]
        exact hq
      · rw [hgo q j hj, hso j hj]
        exact M.kp j hj8
  rw [hpe, ht]
  unfold tmade
  by_cases h1 : N' = N
  · rw [if_pos h1]
    refine ⟨_, p, rfl, fin _ p [] M.bad M.room (by simp) (by simp) ⟨[], by simp, rfl⟩ (by simp) ⟨?_, gp.tag, gp.bb, gp.ok⟩ (fun h => absurd rfl h) ⟨fun _ => h1, fun _ => rfl⟩⟩
    rw [h1]; exact gp.rs
  · rw [if_neg h1]
    obtain ⟨s2, hs2⟩ : ∃ s2 : Shf, (if p = ptz then { s.more m with gone := s.gone ++ os } else shOd { s.more m with gone := s.gone ++ os } p) = s2 := ⟨_, rfl⟩
    have hs2g : s2.gone = s.gone ++ os ++ (if p ≠ ptz then [p] else []) ∧ s2.bl = s.bl ∧ s2.made = s.made ∧ s2.bad = [] ∧ s2.room = -1 := by
      rw [← hs2]
      by_cases hz : p = ptz
      · rw [if_pos hz, if_neg (by simp [hz])]
        exact ⟨by simp, rfl, rfl, M.bad, M.room⟩
      · rw [if_neg hz, if_pos hz]
        exact ⟨by simp [shOd], rfl, rfl, M.bad, M.room⟩
    obtain ⟨g1, g2, g3, g4, g5⟩ := hs2g
    rw [hs2]
    by_cases h2 : N' = ndz
    · rw [if_pos h2]
      have hpz : p ≠ ptz := fun e => h1 (by rw [h2, gp.rs.iff.1 e])
      refine ⟨s2, ptz, rfl, fin _ ptz [] g4 g5 (by rw [g3]; simp) ?_ ⟨[], by rw [g2]; simp, rfl⟩ (by simp) ⟨?_, fun h => absurd rfl h, Nat.zero_le _, rfl⟩ (fun _ h => absurd rfl h) ⟨fun e => absurd e.symm hpz, fun e => absurd e h1⟩⟩
      · rw [g1, if_pos hpz, if_pos ⟨Ne.symm hpz, hpz⟩]
      · rw [h2]; exact RsT.z _
    · rw [if_neg h2, if_neg (by rw [allN]; simp)]
      have hsz : s2.bl.length = s.bl.length := by rw [g2]
      unfold shNw
      rw [if_neg (by rw [g5, hsz]; omega)]
      obtain ⟨q, hq⟩ : ∃ q, shp (s2.bl.length + 1) (nwp 1 obj g) (bytesN N') = q := ⟨_, rfl⟩
      rw [hq]
      have hqb : q.b = s.bl.length + 1 := by rw [← hq, hsz]; rfl
      have hqm : mayP q = true := by rw [← hq]; exact shp_may (by omega) (.inl rfl) _
      have hqz : q ≠ ptz := by
        intro e
        rw [e] at hqb
        cases hqb
      have hqp : q ≠ p := by
        intro e
        have := gp.bb
        rw [← e, hqb] at this
        omega
      have hbb := M.bl
      refine ⟨_, q, rfl, fin _ q [q] g4 (by simp only [g5]; decide) (by simp [g3]) ?_ ⟨[bytesN N'], by simp [g2], rfl⟩ (by rw [if_pos ⟨hqp, hqz⟩]) ⟨⟨okN, allN, ?_, .inr ⟨hqz, h2, s.bl.length, ?_, ?_⟩⟩, fun _ => ?_, ?_, okP_iff.2 (.inr hqm)⟩ (fun _ _ => by omega) ⟨fun e => absurd e hqp, fun e => absurd e h1⟩⟩
      · simp only
        rw [g1]
        by_cases hz : p = ptz
        · rw [if_neg (by simp [hz]), if_neg (by simp [hz])]
        · rw [if_pos hz, if_pos ⟨hqp, hz⟩]
      · rw [← hq]; exact shp_ok (by omega) hobj (by omega) (by decide) _
      · rw [← hq, hsz]; rfl
      · simp [g2]
      · rw [← hq]; exact ⟨rfl, rfl, rfl⟩
      · simp [hqb, g2]
end Go.Proofs.YtnefdmbdkljifaaGreatDoor
