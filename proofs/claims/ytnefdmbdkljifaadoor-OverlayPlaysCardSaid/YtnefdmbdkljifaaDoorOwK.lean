/- Overlays one over another, what was done to each of them, in rows. No condition. -/
import Derived.Test.YtnefdmbdkljifaaDoorOwJ
import Derived.Test.YtnefdmbdkljifaaDoorBsl
set_option linter.unusedSimpArgs false
set_option linter.unusedVariables false

namespace Go.Proofs.YtnefdmbdkljifaaDoor
open Go.RowKit Go.Kin Go.Maps

theorem tyDd : TyS Tryd.prog 56 47 (.agg (dv ⟨0, 0, 0, inz, []⟩).toArray) 48 96 := ⟨Tryd.underlying56, by kernel_rfl, by decide, by decide⟩
theorem tyOv : Ty1 Tryd.prog 33 29 (.pointer none) 8 := ⟨Tryd.underlying33, by kernel_rfl, rfl⟩
theorem tyDs : Ty1 Tryd.prog 34 56 (.slice none 0 0) 24 := ⟨Tryd.underlying34, by kernel_rfl, rfl⟩
theorem hz_act : (Tryd.prog.info? 43).map (fun i => i.zero.isSome) = some true := by kernel_rfl
theorem zc_act : zc Tryd.prog 43 = (acv ⟨0, 0, 0, inz, 0, 0⟩).toArray := by kernel_rfl
theorem hz_dd : (Tryd.prog.info? 47).map (fun i => i.zero.isSome) = some true := by kernel_rfl
theorem zc_dd : zc Tryd.prog 47 = (dv ⟨0, 0, 0, inz, []⟩).toArray := by kernel_rfl
theorem blit_dd3 (d : Nat) (num : Num) (off : Off) : blit (blit (blit (dv ⟨0, 0, 0, inz, []⟩).toArray 0 #[.int .i64 d]) 1 #[.int .u16 num.val]) 2 #[.int .u32 off.val] = (dv ⟨d, num, off, inz, []⟩).toArray := by simp [blit, dv]
theorem blit_ddI (d : Nat) (num : Num) (off : Off) (x : In) (ok : InOk x) : blit (dv ⟨d, num, off, inz, []⟩).toArray 3 (ino x) = (dv ⟨d, num, off, x, []⟩).toArray := by
  have h1 := ino_size ok
  have h2 := ino_size inz_ok
  apply Array.ext'
  simp [blit, dv, h1, h2]
theorem blit_ddB (d : Nat) (num : Num) (off : Off) (x : In) (ok : InOk x) (b : Byts) : blit (dv ⟨d, num, off, x, []⟩).toArray 47 #[.string ⟨b.toArray⟩] = (dv ⟨d, num, off, x, b⟩).toArray := by
  have h1 := ino_size ok
  apply Array.ext'
  simp [blit, dv, h1, str, List.take_append, List.drop_append]
theorem bld_dd (x : Dd) (ok : InOk x.i) {w : World} {K : Value → World → Prop} : VBld Tryd.prog 47 [(0, .int .i64 x.d), (1, .int .u16 x.num.val), (2, .int .u32 x.off.val), (3, .agg (ino x.i)), (4, .string ⟨x.b.toArray⟩)] w K = K (.agg (dv x).toArray) w := by
  refine VBld_struct Tryd.underlying47 hz_dd (places := #[(0, 1), (1, 1), (2, 1), (3, 44), (47, 1)]) (by simp [go_sem]) ?_
  have hz := dv_size (x := ⟨0, 0, 0, inz, []⟩) inz_ok
  have h3 := dv_size (x := ⟨x.d, x.num, x.off, inz, []⟩) inz_ok
  have h4 := dv_size (x := ⟨x.d, x.num, x.off, x.i, []⟩) ok
  have hi := ino_size ok
  simp [fillB, zc_dd, Value.cells, hz, blit_size, blit_dd3, blit_ddI, blit_ddB, ok, hi, h3, h4]
section
variable {P : Program} {w : World} {t e ty : TypeId} {z : Value} {size bytes : Nat} {K : Value → World → Prop}
/-- append(v, y...), y a row -/
theorem VB_appO (T : TyS P t e z size bytes) {v y : Value} {n m : Nat} {xs news : List Value} (hown : w.ownsRow 0 e size v n xs) (hy : w.ownsRow 0 e size y m news) (h1 : ∀ u ∈ news, u.oneCell' = true)
    (h63 : n + m ≤ maxLen) (hbytes : (n + m) * bytes ≤ 140737488355328)
    (h : ∀ v' w', w'.ownsRow 0 e size v' (n + m) (xs ++ news) → Ch (fun k => v.ownBlock = some k) w w' → (v'.ownBlock = v.ownBlock ∨ Fresh w.heap.size v') → K v' w') :
    VB P .append #[t, t] ty #[v, y] w K := by
  rcases id hy.2 with ⟨rfl, rfl⟩ | ⟨g, cap, cur, rfl, _, hb, _⟩
  · obtain ⟨i, hi, hz, hsz, hby⟩ := info_parts T.info
    have hn : news = [] := List.eq_nil_of_length_eq_zero (by have := hy.1; simpa using this)
    subst hn
    refine VB_append (v := v) (w' := w) ?_ (h v w (by simpa using hown) (Ch.refl _ _) (.inl rfl))
    rcases hown.2 with ⟨rfl, rfl⟩ | ⟨g, cap, cur, rfl, _, _, hnc, _⟩
    · simp [Builtin.append_, run_underlying T.und, sizeOf, typeInfo, hi, Builtin.lenOf, Builtin.firstCells]
    · simp [Builtin.append_, run_underlying T.und, sizeOf, typeInfo, hi, Builtin.lenOf, Builtin.firstCells, hnc, storeCells]
  · exact VB_appS T hown hy.1 (fun j u hu => hy.cells (g := g) rfl j u hu) h1 h63 hbytes h
end
/-- a row cut short -/
theorem own_cut {w : World} {g n m cap : Nat} {e : TypeId} {xs : List Value} (h : w.ownsRow 0 e 1 (.slice (some ⟨g, 0, none⟩) n cap) n xs) (hm : m ≤ n) : w.ownsRow 0 e 1 (.slice (some ⟨g, 0, none⟩) m cap) m (xs.take m) := by
  obtain ⟨hlen, h⟩ := h
  rcases h with ⟨h0, _⟩ | ⟨g', cap', cur, hv, hg0, hb, hc, hmx, hsz, ht⟩
  · cases h0
  · cases hv
    refine ⟨by rw [List.length_take]; omega, .inr ⟨g, cap, cur, rfl, hg0, hb, by omega, hmx, hsz, ?_⟩⟩
    rw [← ht, List.take_take]
    congr 1
    omega
theorem run_cut {P : Program} {t e : TypeId} {z : Value} {bytes : Nat} (T : Ty1 P t e z bytes) {g n m cap : Nat} (hm : m ≤ n) (hn : n ≤ cap) (w : World) : (Instr.sliceAt t (.slice (some ⟨g, 0, none⟩) n cap) none (some (.int .i64 m)) none).run P w = .ok (.slice (some ⟨g, 0, none⟩) m cap) w := by
  obtain ⟨i, hi, _, hsz, _⟩ := info_parts T.info
  have hc : ¬ cap < m := by omega
  simp [Instr.sliceAt, Instr.slice, Instr.sliceBounds, Instr.sliceBound, asIntOf, run_underlying T.und, sizeOf, typeInfo, hi, hc, hsz, Addr.add]
theorem own_setH {w : World} {g cap n : Nat} {e : TypeId} {xs : List Value} (h : w.ownsRow 0 e 1 (.slice (some ⟨g, 0, none⟩) n cap) n xs) (i : Nat) (x : Value) :
    (w.setCell ⟨g, i, none⟩ x).ownsRow 0 e 1 (.slice (some ⟨g, 0, none⟩) n cap) n (xs.set i x) := by
  obtain ⟨hlen, h⟩ := h
  rcases h with ⟨h0, _⟩ | ⟨g', cap', cur, hv, hg0, hb, hc, hm, hsz, ht⟩
  · cases h0
  · cases hv
    refine ⟨by simpa using hlen, .inr ⟨g, cap, cur.set! i x, rfl, hg0, ?_, hc, hm, by simpa using hsz, ?_⟩⟩
    · simp [World.setCell, Array.getElem?_modify, hb]
    · rw [← ht]
      simp [List.take_set]
theorem flat_get {α : Type} {en : α → List Value} {k : Nat} : ∀ (l : List α), (∀ x ∈ l, (en x).length = k) → ∀ (j : Nat) (a : α) (i : Nat) (u : Value), l[j]? = some a → (en a)[i]? = some u → (l.flatMap en)[j * k + i]? = some u := by
  intro l
  induction l with
  | nil => intro _ j a i u hj; simp at hj
  | cons x l ih =>
    intro hl j a i u hj hi
    rw [List.flatMap_cons]
    have hx := hl x (by simp)
    cases j with
    | zero =>
      simp at hj
      subst hj
      have := (List.getElem?_eq_some_iff.1 hi).1
      rw [Nat.zero_mul, Nat.zero_add, List.getElem?_append_left this]
      exact hi
    | succ j =>
      have hj : l[j]? = some a := by simpa using hj
      have hlt : (j + 1) * k + i = (en x).length + (j * k + i) := by rw [hx, Nat.succ_mul]; omega
      rw [hlt, List.getElem?_append_right (by omega), Nat.add_sub_cancel_left]
      exact ih (fun y hy => hl y (by simp [hy])) j a i u hj hi
theorem lst_own {α : Type} {w : World} {v : Value} {en : α → List Value} {k n : Nat} {l : List α} {e : TypeId} (hl : ∀ x ∈ l, (en x).length = k) (hn : n = l.length) (h : w.ownsRow 0 e k v n (l.flatMap en)) : Lst w v en k l := by
  subst hn
  rcases id h.2 with ⟨rfl, h0⟩ | ⟨g, cap, cur, rfl, _, hb, h1, h2, _⟩
  · exact ⟨none, 0, by rw [h0], by omega, Nat.zero_le _, fun hp => by omega⟩
  · refine ⟨_, cap, rfl, h1, h2, fun _ => ⟨g, 0, rfl, lt_of_block hb, fun j a i u hj hi => ?_⟩⟩
    have := h.cells (g := g) rfl _ _ (flat_get l hl j a i u hj hi)
    rw [Addr.add_lit] at this
    rw [Nat.zero_add] at this ⊢
    exact this
theorem dv_ones {x : Dd} (ok : InOk x.i) : ∀ u ∈ dv x, u.oneCell' = true := by
  intro u hu
  unfold dv at hu
  simp only [List.mem_cons, List.mem_append, List.not_mem_nil, or_false] at hu
  rcases hu with rfl | rfl | rfl | hu | rfl
  · rfl
  · rfl
  · rfl
  · have h2 := pt_ones x.i.r
    unfold ones at h2
    rw [Array.all_eq_true'] at h2
    unfold ino at hu
    simp only [List.mem_cons] at hu
    rcases hu with rfl | rfl | rfl | hu
    · rfl
    · rfl
    · rfl
    · exact h2 u (by simpa using hu)
  · rfl
theorem dv_onesA {x : Dd} (ok : InOk x.i) : ones (dv x).toArray = true := ones_of (dv_ones ok)
theorem acv_ones (x : Ac) : ones (acv x).toArray = true := ones_of (by
  intro u hu
  unfold acv at hu
  simp only [List.mem_cons, List.mem_append, List.not_mem_nil, or_false] at hu
  rcases hu with rfl | rfl | rfl | hu | rfl | rfl
  · rfl
  · rfl
  · rfl
  · have h2 := ino_ones x.i
    unfold ones at h2
    rw [Array.all_eq_true'] at h2
    exact h2 u (by simpa using hu)
  · rfl
  · rfl)
theorem dds_ones {l : List Dd} (ok : InsOk l) : ∀ u ∈ l.flatMap dv, u.oneCell' = true := fun u hu => by
  obtain ⟨x, hx, h⟩ := List.mem_flatMap.1 hu
  exact dv_ones (ok x hx) u h
theorem ovD_two (l r : List Dd) (h : DdsOk r) : ovD (l ++ r) = (ovD l).merge (ovD r) := by
  have := ovD_app l r.reverse fun x hx => h x (by simpa using hx)
  simpa using this

/-- an overlay, and what was done to it -/
structure Ly where
  o : Nat
  n : Nat
  D : Ov
  l : List Dd
  v : Value
  X : Nat → Prop
  Y : Nat → Prop
  z : Oz
def lyB (g : Nat) : List Ly → Value
  | [] => gV g
  | b :: _ => oV b.o
def lyF : List Ly → Value
  | [] => .pointer none
  | b :: _ => oP b.o
def lyT (bad : Nat) : List Ly → Tl
  | [] => gT bad
  | a :: r => ovT a.D (lyT bad r)
def lyP : List Ly → Nat
  | [] => 0
  | a :: r => a.n * 2 ^ r.length + lyP r
def lyN : List Ly → Nat
  | [] => 0
  | a :: r => a.l.length + lyN r
def lyL : List Ly → List Dd
  | [] => []
  | a :: r => lyL r ++ a.l
structure L1 (u : World) (g : Nat) (col : Nat → Nat) (a : Ly) (r : List Ly) : Prop where
  ov : OvP u a.o (lyB g r) (lyF r) a.n a.D a.X a.Y a.z
  own : u.ownsRow 0 47 48 a.v a.l.length (a.l.flatMap dv)
  cx : ∀ k, a.X k ∨ a.Y k → col k = 2 * r.length + 3
  cv : ∀ k, a.v.ownBlock = some k → col k = 2 * r.length + 4
def Lay (u : World) (g : Nat) (col : Nat → Nat) : List Ly → Prop
  | [] => True
  | a :: r => L1 u g col a r ∧ Lay u g col r
section
variable {u u' : World} {g bad : Nat} {col col' : Nat → Nat} {a : Ly} {r ls : List Ly} {S : Nat → Prop}
theorem L1.ch (h : L1 u g col a r) (hc : Ch S u u') (hS : ∀ k, k < u.heap.size → S k → col k < 2 * r.length + 3 ∨ 2 * r.length + 4 < col k) (he : ∀ k, k < u.heap.size → col k < 2 * r.length + 5 → col' k = col k) : L1 u' g col' a r := by
  refine ⟨h.ov.ch hc (fun k hk e => ?_) (fun k hk e => ?_), own_ch h.own hc fun k hk e => ?_, fun k hk => ?_, fun k hk => ?_⟩
  · have := hS k (h.ov.lt k (.inl hk)) e; have := h.cx k (.inl hk); omega
  · have := hS k (h.ov.lt k (.inr hk)) e; have := h.cx k (.inr hk); omega
  · have := hS k (own_blt h.own k hk) e; have := h.cv k hk; omega
  · have := h.cx k hk; rw [he k (h.ov.lt k hk) (by omega)]; exact this
  · have := h.cv k hk; rw [he k (own_blt h.own k hk) (by omega)]; exact this
theorem Lay.ch (hc : Ch S u u') : ∀ {ls : List Ly}, Lay u g col ls → (∀ k, k < u.heap.size → S k → col k < 3 ∨ 2 * ls.length + 3 ≤ col k) → (∀ k, k < u.heap.size → col k < 2 * ls.length + 3 → col' k = col k) → Lay u' g col' ls
  | [], _, _, _ => trivial
  | a :: r, h, hS, he => by
    refine ⟨h.1.ch hc (fun k hk e => ?_) fun k hk e => he k hk (by simp only [List.length_cons]; omega), Lay.ch hc h.2 (fun k hk e => ?_) fun k hk e => he k hk (by simp only [List.length_cons]; omega)⟩
    · have := hS k hk e
      simp only [List.length_cons] at this
      omega
    · have := hS k hk e
      simp only [List.length_cons] at this
      omega
theorem Lay.drop : ∀ {p s : List Ly}, Lay u g col (p ++ s) → Lay u g col s
  | [], _, h => h
  | _ :: _, _, h => Lay.drop h.2
theorem lyB_iface (g : Nat) (r : List Ly) : ∃ bt bv, lyB g r = .iface bt bv := by
  cases r with
  | nil => exact ⟨_, _, rfl⟩
  | cons b r => exact ⟨_, _, rfl⟩
theorem Lay.tl : ∀ {ls : List Ly}, Lay u g col ls → TlAt u g bad (fun k => 3 ≤ col k) ls.length (lyB g ls) (lyT bad ls)
  | [], _ => ⟨rfl, rfl⟩
  | a :: r, h => by
    obtain ⟨bt, bv, hb⟩ := lyB_iface g r
    have ho := h.1.ov
    have ht := Lay.tl h.2
    rw [hb] at ho ht
    exact ⟨a.o, bt, bv, _, _, a.D, a.X, a.Y, a.z, _, rfl, ho, ht, rfl, fun k hk => by have := h.1.cx k hk; omega⟩
/-- each overlay has what was done to it -/
def LyOk (ls : List Ly) : Prop := ∀ a ∈ ls, a.D = ovD a.l ∧ DdsOk a.l ∧ InsOk a.l
theorem LyOk.tl : ∀ {ls : List Ly}, LyOk ls → ls ≠ [] → lyT bad ls = ovT (ovD (lyL ls)) (gT bad)
  | [], _, hn => absurd rfl hn
  | [a], h, _ => by
    show ovT a.D (gT bad) = ovT (ovD ([] ++ a.l)) (gT bad)
    rw [(h a (by simp)).1, List.nil_append]
  | a :: b :: r, h, _ => by
    have ih := LyOk.tl (ls := b :: r) (fun x hx => h x (by simp at hx; simp [hx])) (by simp)
    obtain ⟨h1, h2, _⟩ := h a (by simp)
    show ovT a.D (lyT bad (b :: r)) = ovT (ovD (lyL (b :: r) ++ a.l)) (gT bad)
    rw [ih, ovD_two _ _ h2, merge_tells, h1]
theorem LyOk.all : ∀ {ls : List Ly}, LyOk ls → DdsOk (lyL ls) ∧ InsOk (lyL ls)
  | [], _ => ⟨fun x hx => (by cases hx), fun x hx => (by cases hx)⟩
  | a :: r, h => by
    have ih := LyOk.all (ls := r) fun x hx => h x (by simp [hx])
    obtain ⟨_, h2, h3⟩ := h a (by simp)
    exact ⟨fun x hx => (List.mem_append.1 hx).elim (ih.1 x) (h2 x), fun x hx => (List.mem_append.1 hx).elim (ih.2 x) (h3 x)⟩
theorem lyL_len : ∀ ls : List Ly, (lyL ls).length = lyN ls
  | [] => rfl
  | a :: r => by
    show (lyL r ++ a.l).length = a.l.length + lyN r
    rw [List.length_append, lyL_len r]
    omega
theorem lyN_app (p s : List Ly) : lyN (p ++ s) = lyN p + lyN s := by
  induction p with
  | nil => simp [lyN]
  | cons a r ih => show a.l.length + lyN (r ++ s) = a.l.length + lyN r + lyN s; omega
theorem lyN_mem {ls : List Ly} (h : a ∈ ls) : a.l.length ≤ lyN ls := by
  induction ls with
  | nil => cases h
  | cons b r ih =>
    show _ ≤ b.l.length + lyN r
    rcases List.mem_cons.1 h with rfl | h
    · omega
    · have := ih h; omega
theorem lyP_mem {ls : List Ly} (h : a ∈ ls) : a.n ≤ lyP ls := by
  induction ls with
  | nil => cases h
  | cons b r ih =>
    show _ ≤ b.n * 2 ^ r.length + lyP r
    rcases List.mem_cons.1 h with rfl | h
    · have := Nat.le_mul_of_pos_right a.n (Nat.two_pow_pos r.length); omega
    · have := ih h; omega
end
theorem top_get {α : Type} (f : Ly → α) (a : Ly) (r : List Ly) : ((a :: r).reverse.map f)[r.length]? = some (f a) := by simp
theorem top_len {α : Type} (f : Ly → α) (a : Ly) (r : List Ly) : ((a :: r).reverse.map f).length = r.length + 1 := by simp
/-- blocks that are new have the colour c -/
def recol (u : World) (col : Nat → Nat) (c : Nat) : Nat → Nat := fun k => if k < u.heap.size then col k else c
theorem recol_lt {u : World} {col : Nat → Nat} {c k : Nat} (h : k < u.heap.size) : recol u col c k = col k := if_pos h
theorem recol_ge {u : World} {col : Nat → Nat} {c k : Nat} (h : u.heap.size ≤ k) : recol u col c k = c := if_neg (by omega)
/-- the whole of it: the overlays' row holds ro, the rows' row ds -/
structure Sb (W u : World) (g bad : Nat) (col : Nat → Nat) (ls : List Ly) (rv : Value) (ro : List Value) (dd : Value) (ds : List Value) : Prop where
  lay : Lay u g col ls
  row : u.ownsRow 0 29 1 rv ro.length ro
  dds : u.ownsRow 0 56 1 dd ds.length ds
  rc : ∀ k, rv.ownBlock = some k → col k = 1
  dc : ∀ k, dd.ownBlock = some k → col k = 2
  gr : GrAt u g bad
  cg : col g = 0
  ch : Ch Nw W u
  cw : ∀ k, k < W.heap.size → col k = 0
  gw : W.heap.size ≤ g
section
variable {W u u' : World} {g bad : Nat} {col : Nat → Nat} {a t : Ly} {r ls : List Ly} {S : Nat → Prop} {rv dd : Value} {ro ds : List Value}
theorem Sb.gl (h : Sb W u g bad col ls rv ro dd ds) : g < u.heap.size := by
  obtain ⟨x, hx⟩ := h.gr
  exact lt_of_block hx
theorem Sb.wl (h : Sb W u g bad col ls rv ro dd ds) : W.heap.size ≤ u.heap.size := h.ch.size
/-- what is done above -/
theorem Sb.chg (h : Sb W u g bad col ls rv ro dd ds) (hc : Ch S u u') (hS : ∀ k, k < u.heap.size → S k → 2 * ls.length + 3 ≤ col k) : Sb W u' g bad col ls rv ro dd ds := by
  have hgl := h.gl
  have hwl := h.wl
  refine ⟨Lay.ch hc h.lay (fun k hk e => .inr (hS k hk e)) fun _ _ _ => rfl, own_ch h.row hc fun k hk e => ?_, own_ch h.dds hc fun k hk e => ?_, h.rc, h.dc, h.gr.ch hc fun e => ?_, h.cg, h.ch.trans' hc fun k hk e => ?_, h.cw, h.gw⟩
  · have := hS k (own_blt h.row k hk) e; have := h.rc k hk; omega
  · have := hS k (own_blt h.dds k hk) e; have := h.dc k hk; omega
  · have := hS g hgl e; have := h.cg; omega
  · have := hS k (by omega) e; have := h.cw k hk; omega
theorem Sb.nw (h : Sb W u g bad col ls rv ro dd ds) (hc : Ch Nw u u') : Sb W u' g bad col ls rv ro dd ds := h.chg hc fun _ _ e => e.elim
theorem Sb.ask (h : Sb W u g bad col ls rv ro dd ds) (hc : Ch (Kin.one g) u u') (hg : GrAt u' g bad) : Sb W u' g bad col ls rv ro dd ds := by
  have hcg := h.cg
  refine ⟨Lay.ch hc h.lay (fun k hk e => ?_) fun _ _ _ => rfl, own_ch h.row hc fun k hk e => ?_, own_ch h.dds hc fun k hk e => ?_, h.rc, h.dc, hg, h.cg, h.ch.trans' hc fun k hk e => ?_, h.cw, h.gw⟩
  · simp only [Kin.one] at e; subst e; omega
  · simp only [Kin.one] at e; subst e; have := h.rc k hk; omega
  · simp only [Kin.one] at e; subst e; have := h.dc k hk; omega
  · simp only [Kin.one] at e; have := h.gw; omega
/-- the topmost is changed -/
theorem Sb.top (h : Sb W u g bad col (a :: r) rv ro dd ds) {m : Nat} {D' : Ov} {Y' : Nat → Prop} (hc : Ch a.X u u') (hov : OvP u' a.o (lyB g r) (lyF r) m D' a.X Y' a.z) (hY : ∀ k, Y' k → a.Y k ∨ u.heap.size ≤ k) : ∃ col', Sb W u' g bad col' ({ a with n := m, D := D', Y := Y' } :: r) rv ro dd ds ∧ ∀ k, k < u.heap.size → col' k = col k := by
  have hgl := h.gl
  have hwl := h.wl
  have hX : ∀ k, a.X k → col k = 2 * r.length + 3 := fun k hk => h.lay.1.cx k (.inl hk)
  refine ⟨recol u col (2 * r.length + 3), ⟨⟨⟨hov, own_ch h.lay.1.own hc fun k hk e => ?_, fun k hk => ?_, fun k hk => ?_⟩, Lay.ch hc h.lay.2 (fun k hk e => ?_) fun k hk _ => recol_lt hk⟩, own_ch h.row hc fun k hk e => ?_, own_ch h.dds hc fun k hk e => ?_, fun k hk => ?_, fun k hk => ?_, h.gr.ch hc fun e => ?_, ?_, h.ch.trans' hc fun k hk e => ?_, fun k hk => ?_, h.gw⟩, fun k hk => recol_lt hk⟩
  · have := hX k e; have := h.lay.1.cv k hk; omega
  · rcases hk with hk | hk
    · rw [recol_lt (h.lay.1.ov.lt k (.inl hk))]; exact hX k hk
    · rcases hY k hk with hk | hk
      · rw [recol_lt (h.lay.1.ov.lt k (.inr hk))]; exact h.lay.1.cx k (.inr hk)
      · exact recol_ge hk
  · rw [recol_lt (own_blt h.lay.1.own k hk)]; exact h.lay.1.cv k hk
  · exact .inr (by have := hX k e; omega)
  · have := hX k e; have := h.rc k hk; omega
  · have := hX k e; have := h.dc k hk; omega
  · rw [recol_lt (own_blt h.row k hk)]; exact h.rc k hk
  · rw [recol_lt (own_blt h.dds k hk)]; exact h.dc k hk
  · have := hX g e; have := h.cg; omega
  · rw [recol_lt hgl]; exact h.cg
  · have := hX k e; have := h.cw k hk; omega
  · rw [recol_lt (by omega)]; exact h.cw k hk
/-- blocks that are new get the colour c -/
theorem Sb.mark (h : Sb W u g bad col ls rv ro dd ds) (hc : Ch Nw u u') (c : Nat) : Sb W u' g bad (recol u col c) ls rv ro dd ds := by
  have hgl := h.gl
  have hwl := h.wl
  have h' := h.nw hc
  refine ⟨Lay.ch hc h.lay (fun k hk e => e.elim) fun k hk _ => recol_lt hk, h'.row, h'.dds, fun k hk => ?_, fun k hk => ?_, h'.gr, ?_, h'.ch, fun k hk => ?_, h.gw⟩
  · rw [recol_lt (own_blt h.row k hk)]; exact h.rc k hk
  · rw [recol_lt (own_blt h.dds k hk)]; exact h.dc k hk
  · rw [recol_lt hgl]; exact h.cg
  · rw [recol_lt (by omega)]; exact h.cw k hk
/-- what was done to the topmost is in another row -/
theorem Sb.dput (h : Sb W u g bad col (a :: r) rv ro dd ds) {l' : List Dd} {v' : Value} (hc : Ch (fun k => a.v.ownBlock = some k) u u') (hv : u'.ownsRow 0 47 48 v' l'.length (l'.flatMap dv)) (hf : v'.ownBlock = a.v.ownBlock ∨ Fresh u.heap.size v') : ∃ col', Sb W u' g bad col' ({ a with l := l', v := v' } :: r) rv ro dd ds := by
  have hgl := h.gl
  have hwl := h.wl
  have hX : ∀ k, a.v.ownBlock = some k → col k = 2 * r.length + 4 := h.lay.1.cv
  have hlt := own_blt h.lay.1.own
  refine ⟨recol u col (2 * r.length + 4), ⟨⟨h.lay.1.ov.ch hc (fun k hk e => ?_) (fun k hk e => ?_), hv, fun k hk => ?_, fun k hk => ?_⟩, Lay.ch hc h.lay.2 (fun k hk e => ?_) fun k hk _ => recol_lt hk⟩, own_ch h.row hc fun k hk e => ?_, own_ch h.dds hc fun k hk e => ?_, fun k hk => ?_, fun k hk => ?_, h.gr.ch hc fun e => ?_, ?_, h.ch.trans' hc fun k hk e => ?_, fun k hk => ?_, h.gw⟩
  · have := hX k e; have := h.lay.1.cx k (.inl hk); omega
  · have := hX k e; have := h.lay.1.cx k (.inr hk); omega
  · rw [recol_lt (h.lay.1.ov.lt k hk)]; exact h.lay.1.cx k hk
  · rcases hf with hf | hf
    · have hk' : a.v.ownBlock = some k := by rw [← hf]; exact hk
      rw [recol_lt (hlt k hk')]; exact hX k hk'
    · exact recol_ge (hf k hk)
  · exact .inr (by have := hX k e; omega)
  · have := hX k e; have := h.rc k hk; omega
  · have := hX k e; have := h.dc k hk; omega
  · rw [recol_lt (own_blt h.row k hk)]; exact h.rc k hk
  · rw [recol_lt (own_blt h.dds k hk)]; exact h.dc k hk
  · have := hX g e; have := h.cg; omega
  · rw [recol_lt hgl]; exact h.cg
  · have := hX k e; have := h.cw k hk; omega
  · rw [recol_lt (by omega)]; exact h.cw k hk
/-- the rows' row is set -/
theorem Sb.dset {gd n cd : Nat} (h : Sb W u g bad col ls rv ro (.slice (some ⟨gd, 0, none⟩) n cd) ds) (hn : n = ds.length) (i : Nat) (x : Value) : Sb W (u.setCell ⟨gd, i, none⟩ x) g bad col ls rv ro (.slice (some ⟨gd, 0, none⟩) n cd) (ds.set i x) := by
  have hwl := h.wl
  have hd : col gd = 2 := h.dc gd rfl
  have hc : Ch (Kin.one gd) u (u.setCell ⟨gd, i, none⟩ x) := (Ch.refl (Kin.one gd) u).setCell (p := ⟨gd, i, none⟩) (.inl rfl) _
  have hds := own_setH (n := n) (by rw [hn]; exact hn ▸ h.dds) i x
  refine ⟨Lay.ch hc h.lay (fun k hk e => ?_) fun _ _ _ => rfl, own_ch h.row hc fun k hk e => ?_, by rw [List.length_set, ← hn]; exact hds, h.rc, h.dc, h.gr.ch hc fun e => ?_, h.cg, h.ch.trans' hc fun k hk e => ?_, h.cw, h.gw⟩
  · simp only [Kin.one] at e; subst e; omega
  · simp only [Kin.one] at e; subst e; have := h.rc k hk; omega
  · simp only [Kin.one] at e; subst e; have := h.cg; omega
  · simp only [Kin.one] at e; subst e; have := h.cw k hk; omega
/-- a new one above -/
theorem Sb.beg (h : Sb W u g bad col r rv ro dd ds) {o : Nat} {z : Oz} (hov : OvP u' o (lyB g r) (lyF r) 0 Ov.new (fun k => u.heap.size ≤ k ∧ k < u'.heap.size) (fun _ => False) z) (hc : Ch Nw u u') :
    ∃ col', Sb W u' g bad col' (⟨o, 0, Ov.new, [], .slice none 0 0, fun k => u.heap.size ≤ k ∧ k < u'.heap.size, fun _ => False, z⟩ :: r) rv ro dd ds := by
  have hgl := h.gl
  have hwl := h.wl
  have h' := h.nw hc
  refine ⟨recol u col (2 * r.length + 3), ⟨⟨hov, World.ownsRow_nil _ _ _ _, fun k hk => hk.elim (fun e => recol_ge e.1) fun e => e.elim, fun k hk => by simp [Value.ownBlock] at hk⟩, Lay.ch hc h.lay (fun k hk e => e.elim) fun k hk _ => recol_lt hk⟩, h'.row, h'.dds, fun k hk => ?_, fun k hk => ?_, h'.gr, ?_, h'.ch, fun k hk => ?_, h.gw⟩
  · rw [recol_lt (own_blt h.row k hk)]; exact h.rc k hk
  · rw [recol_lt (own_blt h.dds k hk)]; exact h.dc k hk
  · rw [recol_lt hgl]; exact h.cg
  · rw [recol_lt (by omega)]; exact h.cw k hk
/-- one more in the row -/
theorem Sb.rapp (h : Sb W u g bad col ls rv ro dd ds) {v' : Value} {ro' : List Value} (hc : Ch (fun k => rv.ownBlock = some k) u u') (hv : u'.ownsRow 0 29 1 v' ro'.length ro') (hf : v'.ownBlock = rv.ownBlock ∨ Fresh u.heap.size v') : ∃ col', Sb W u' g bad col' ls v' ro' dd ds := by
  have hgl := h.gl
  have hwl := h.wl
  have hX := h.rc
  refine ⟨recol u col 1, Lay.ch hc h.lay (fun k hk e => ?_) fun k hk _ => recol_lt hk, hv, own_ch h.dds hc fun k hk e => ?_, fun k hk => ?_, fun k hk => ?_, h.gr.ch hc fun e => ?_, ?_, h.ch.trans' hc fun k hk e => ?_, fun k hk => ?_, h.gw⟩
  · have := hX k e; omega
  · have := hX k e; have := h.dc k hk; omega
  · rcases hf with hf | hf
    · have hk' : rv.ownBlock = some k := by rw [← hf]; exact hk
      rw [recol_lt (own_blt h.row k hk')]; exact hX k hk'
    · exact recol_ge (hf k hk)
  · rw [recol_lt (own_blt h.dds k hk)]; exact h.dc k hk
  · have := hX g e; have := h.cg; omega
  · rw [recol_lt hgl]; exact h.cg
  · have := hX k e; have := h.cw k hk; omega
  · rw [recol_lt (by omega)]; exact h.cw k hk
theorem Sb.dapp (h : Sb W u g bad col ls rv ro dd ds) {v' : Value} {ds' : List Value} (hc : Ch (fun k => dd.ownBlock = some k) u u') (hv : u'.ownsRow 0 56 1 v' ds'.length ds') (hf : v'.ownBlock = dd.ownBlock ∨ Fresh u.heap.size v') : ∃ col', Sb W u' g bad col' ls rv ro v' ds' := by
  have hgl := h.gl
  have hwl := h.wl
  have hX := h.dc
  refine ⟨recol u col 2, Lay.ch hc h.lay (fun k hk e => ?_) fun k hk _ => recol_lt hk, own_ch h.row hc fun k hk e => ?_, hv, fun k hk => ?_, fun k hk => ?_, h.gr.ch hc fun e => ?_, ?_, h.ch.trans' hc fun k hk e => ?_, fun k hk => ?_, h.gw⟩
  · have := hX k e; omega
  · have := hX k e; have := h.rc k hk; omega
  · rw [recol_lt (own_blt h.row k hk)]; exact h.rc k hk
  · rcases hf with hf | hf
    · have hk' : dd.ownBlock = some k := by rw [← hf]; exact hk
      rw [recol_lt (own_blt h.dds k hk')]; exact hX k hk'
    · exact recol_ge (hf k hk)
  · have := hX g e; have := h.cg; omega
  · rw [recol_lt hgl]; exact h.cg
  · have := hX k e; have := h.cw k hk; omega
  · rw [recol_lt (by omega)]; exact h.cw k hk
/-- both rows are cut short -/
theorem Sb.cut {g1 g2 n c1 c2 : Nat} (h : Sb W u g bad col ls (.slice (some ⟨g1, 0, none⟩) n c1) ro (.slice (some ⟨g2, 0, none⟩) n c2) ds) (h1 : ro.length = n) (h2 : ds.length = n) {m : Nat} (hm : m ≤ n) : Sb W u g bad col ls (.slice (some ⟨g1, 0, none⟩) m c1) (ro.take m) (.slice (some ⟨g2, 0, none⟩) m c2) (ds.take m) := by
  have hr := h.row
  have hd := h.dds
  rw [h1] at hr
  rw [h2] at hd
  have e1 : (ro.take m).length = m := by rw [List.length_take]; omega
  have e2 : (ds.take m).length = m := by rw [List.length_take]; omega
  exact ⟨h.lay, by rw [e1]; exact own_cut hr hm, by rw [e2]; exact own_cut hd hm, h.rc, h.dc, h.gr, h.cg, h.ch, h.cw, h.gw⟩
theorem Sb.pop (h : Sb W u g bad col (a :: r) rv ro dd ds) : Sb W u g bad col r rv ro dd ds := ⟨h.lay.2, h.row, h.dds, h.rc, h.dc, h.gr, h.cg, h.ch, h.cw, h.gw⟩
open Classical in
/-- the topmost goes into the one below it -/
theorem Sb.fin (h : Sb W u g bad col (t :: a :: r) rv ro dd ds) {m : Nat} {D' : Ov} (hc : Ch (fun k => a.X k ∨ k = t.o) u u') (hov : OvP u' a.o (lyB g r) (lyF r) m D' a.X (fun k => a.Y k ∨ t.Y k) a.z) :
    ∃ col', Sb W u' g bad col' ({ a with n := m, D := D', Y := fun k => a.Y k ∨ t.Y k } :: r) rv ro dd ds ∧ (∀ k, t.X k → col' k = 2 * r.length + 5) ∧ u'.ownsRow 0 47 48 t.v t.l.length (t.l.flatMap dv) ∧ ∀ k, t.v.ownBlock = some k → col' k = 2 * r.length + 6 := by
  have hgl := h.gl
  have hwl := h.wl
  have ht := h.lay.1
  have ha := h.lay.2.1
  have hto : t.X t.o := ht.ov.x _ (.inl rfl)
  have tX : ∀ k, t.X k → col k = 2 * r.length + 5 := fun k hk => ht.cx k (.inl hk)
  have tY : ∀ k, t.Y k → col k = 2 * r.length + 5 := fun k hk => ht.cx k (.inr hk)
  have tV : ∀ k, t.v.ownBlock = some k → col k = 2 * r.length + 6 := ht.cv
  have hX : ∀ k, (a.X k ∨ k = t.o) → col k = 2 * r.length + 3 ∨ col k = 2 * r.length + 5 := fun k hk => hk.elim (fun e => .inl (ha.cx k (.inl e))) fun e => by subst e; exact .inr (tX _ hto)
  have hno : ∀ k, col k ≠ 2 * r.length + 5 → (if t.Y k then 2 * r.length + 3 else col k) = col k := fun k hk => if_neg fun e => hk (tY k e)
  refine ⟨fun k => if t.Y k then 2 * r.length + 3 else col k, ⟨⟨⟨hov, own_ch ha.own hc fun k hk e => ?_, fun k hk => ?_, fun k hk => ?_⟩, Lay.ch hc h.lay.2.2 (fun k hk e => ?_) fun k hk e => hno k (by omega)⟩, own_ch h.row hc fun k hk e => ?_, own_ch h.dds hc fun k hk e => ?_, fun k hk => ?_, fun k hk => ?_, h.gr.ch hc fun e => ?_, ?_, h.ch.trans' hc fun k hk e => ?_, fun k hk => ?_, h.gw⟩, fun k hk => ?_, own_ch ht.own hc fun k hk e => ?_, fun k hk => ?_⟩
  · have := hX k e; have := ha.cv k hk; omega
  · show (if t.Y k then 2 * r.length + 3 else col k) = 2 * r.length + 3
    by_cases hy : t.Y k
    · rw [if_pos hy]
    · rw [if_neg hy]
      rcases hk with hk | hk | hk
      · exact ha.cx k (.inl hk)
      · exact ha.cx k (.inr hk)
      · exact absurd hk hy
  · have := ha.cv k hk
    show (if t.Y k then 2 * r.length + 3 else col k) = 2 * r.length + 4
    rw [hno k (by omega)]
    exact this
  · have := hX k e; omega
  · have := hX k e; have := h.rc k hk; omega
  · have := hX k e; have := h.dc k hk; omega
  · have := h.rc k hk
    show (if t.Y k then 2 * r.length + 3 else col k) = 1
    rw [hno k (by omega)]
    exact this
  · have := h.dc k hk
    show (if t.Y k then 2 * r.length + 3 else col k) = 2
    rw [hno k (by omega)]
    exact this
  · have := hX g e; have := h.cg; omega
  · have := h.cg
    show (if t.Y g then 2 * r.length + 3 else col g) = 0
    rw [hno g (by omega)]
    exact this
  · have := hX k e; have := h.cw k hk; omega
  · have := h.cw k hk
    show (if t.Y k then 2 * r.length + 3 else col k) = 0
    rw [hno k (by omega)]
    exact this
  · show (if t.Y k then 2 * r.length + 3 else col k) = 2 * r.length + 5
    rw [if_neg fun e => ht.ov.yx k e hk]
    exact tX k hk
  · have := hX k e; have := tV k hk; omega
  · have := tV k hk
    show (if t.Y k then 2 * r.length + 3 else col k) = 2 * r.length + 6
    rw [hno k (by omega)]
    exact this
theorem one_lit (w : World) (x : Value) (e : TypeId) : (w.alloc (.cells #[x] e)).ownsRow 0 e 1 (.slice (some ⟨w.heap.size, 0, none⟩) 1 1) 1 [x] := by
  have := World.ownsRow_lit (size := 1) (e := e) w #[x] 1 (base := 0) (Nat.zero_le _) (by decide) (by simp)
  simpa using this
theorem Sb.base0 (hg : GrAt u g bad) (hc : Ch Nw W u) (hgw : W.heap.size ≤ g) : Sb W u g bad (fun _ => 0) [] (.slice none 0 0) [] (.slice none 0 0) [] :=
  ⟨trivial, World.ownsRow_nil _ _ _ _, World.ownsRow_nil _ _ _ _, fun k hk => by simp [Value.ownBlock] at hk, fun k hk => by simp [Value.ownBlock] at hk, hg, rfl, hc, fun _ _ => rfl, hgw⟩
theorem Sb.row1 (h : Sb W u g bad col ls (.slice none 0 0) [] dd ds) (x : Value) : ∃ col', Sb W (u.alloc (.cells #[x] 29)) g bad col' ls (.slice (some ⟨u.heap.size, 0, none⟩) 1 1) [x] dd ds :=
  h.rapp (((Ch.refl Nw u).alloc _).mono fun _ _ e => e.elim) (one_lit u x _) (.inr fun k hk => by simp [Value.ownBlock] at hk; omega)
theorem Sb.dds1 (h : Sb W u g bad col ls rv ro (.slice none 0 0) []) (x : Value) : ∃ col', Sb W (u.alloc (.cells #[x] 56)) g bad col' ls rv ro (.slice (some ⟨u.heap.size, 0, none⟩) 1 1) [x] :=
  h.dapp (((Ch.refl Nw u).alloc _).mono fun _ _ e => e.elim) (one_lit u x _) (.inr fun k hk => by simp [Value.ownBlock] at hk; omega)
/-- what the walk holds -/
structure St (W u : World) (g bad o0 : Nat) (col : Nat → Nat) (ls : List Ly) (rv dd : Value) (i : Nat) : Prop where
  sb : Sb W u g bad col ls rv (ls.reverse.map fun a => oP a.o) dd (ls.reverse.map fun a => a.v)
  ok : LyOk ls
  ne : ls ≠ []
  len : ls.length ≤ 7
  bot : (ls.getLast?.map fun a => a.o) = some o0
  pot : lyP ls ≤ 64 * i
  num : lyN ls ≤ i
end
/-- what the frame holds in an act's time -/
structure Fq (v1 : Value) (num : Num) (off : Off) (g o : Nat) (rv dd : Value) (i q T x : Nat) (f : Nat → Value) : Prop where
  f1 : f 1 = v1
  f2 : f 2 = .int .u16 num.val
  f3 : f 3 = .int .u32 off.val
  f9 : f 9 = oP g
  f10 : f 10 = oP o
  f12 : f 12 = rv
  f13 : f 13 = dd
  f14 : f 14 = .int .i64 i
  f15 : f 15 = .pointer (some ⟨q, 0, none⟩)
  f16 : f 16 = .int .i64 T
  f17 : f 17 = oP x
def dOf (x : Ac) : Dd := ⟨x.d, x.num, x.off, x.i, x.block⟩
theorem good0 {x : Dd} (h : x.d = 0) : x.good = (okN x.num 0 && mayI x.i) := by
  unfold Dd.good
  simp [h]
theorem good1 {x : Dd} (h : x.d = 1) : x.good = (okN x.num x.off && (decide (x.b.length = 0) || decide (x.b.length = 512))) := by
  unfold Dd.good
  simp [h]
theorem good2 {x : Dd} (h : x.d = 2) : x.good = okN x.num 0 := by
  unfold Dd.good
  simp [h]
theorem step0 (D : Ov) {x : Dd} (h : x.d = 0) : D.setI x.num x.i = D.step x := by
  unfold Ov.step
  rw [if_pos h]
theorem step1 (D : Ov) {x : Dd} (h : x.d = 1) : D.setL x.num x.off x.b = D.step x := by
  unfold Ov.step
  rw [if_neg (by omega), if_pos h]
theorem step2 (D : Ov) {x : Dd} (h : x.d = 2) : D.wipe x.num = D.step x := by
  unfold Ov.step
  rw [if_neg (by omega), if_neg (by omega)]
theorem step_no (D : Ov) {x : Dd} (hd : x.d < 3) (h : x.good = false) : D.step x = D := by
  have h3 : x.d = 0 ∨ x.d = 1 ∨ x.d = 2 := by omega
  rcases h3 with h3 | h3 | h3
  · rw [← step0 D h3]
    rw [good0 h3] at h
    unfold Ov.setI
    rw [h]
    rfl
  · rw [← step1 D h3]
    rw [good1 h3] at h
    unfold Ov.setL
    rw [h]
    rfl
  · rw [← step2 D h3]
    rw [good2 h3] at h
    unfold Ov.wipe
    rw [h]
    rfl
theorem step_says {D : Ov} {l : List Dd} {x : Dd} (hD : D = ovD l) (hd : x.d < 3) : if x.good then ((if x.good then 0 else 1 : Int) = 0 ∧ D.step x = ovD (l ++ [x])) else ((if x.good then 0 else 1 : Int) = 1 ∧ D.step x = D) := by
  cases h : x.good with
  | true => simp [ovD_snoc, hD]
  | false => simp [step_no D hd h]
theorem own_lenO {w : World} {e s n : Nat} {v : Value} {xs : List Value} (h : w.ownsRow 0 e s v n xs) {t e' : TypeId} (ht : Tryd.prog.underlying t = some (.slice e')) (ty : TypeId) (w' : World) : (Builtin.len_ #[t] ty #[v]).run Tryd.prog w' = .ok (.int .i64 n) w' := by
  rcases h.2 with ⟨rfl, rfl⟩ | ⟨g, cap, cur, rfl, _⟩ <;> simp [Builtin.len_, run_underlying ht, goInt]
theorem own_cellO {w : World} {e g n m cap : Nat} {xs : List Value} {j : Nat} {u : Value} (h : w.ownsRow 0 e 1 (.slice (some ⟨g, 0, none⟩) n cap) m xs) (hx : xs[j]? = some u) : w.cell? ⟨g, j, none⟩ = some u := by
  have := h.cells (g := g) rfl j u hx
  rwa [Addr.add_lit, Nat.zero_add] at this
theorem own_frz {w : World} {e g n m cap : Nat} {xs : List Value} (j : Nat) (h : w.ownsRow 0 e 1 (.slice (some ⟨g, 0, none⟩) n cap) m xs) : w.frozen? ⟨g, j, none⟩ = false := by
  rcases h.2 with ⟨h0, _⟩ | ⟨g', cap', cur, hv, _, hb, _⟩
  · cases h0
  · cases hv
    exact frz_blk hb j
theorem set_top (f : Ly → Value) (c : Ly) (r : List Ly) (x : Value) : ((c :: r).reverse.map f).set r.length x = r.reverse.map f ++ [x] := by
  rw [List.reverse_cons, List.map_append, List.set_append_right _ _ (by simp)]
  simp
theorem bot_eq {c c' : Ly} {r : List Ly} (h : c'.o = c.o) : (c' :: r).getLast?.map (fun a => a.o) = (c :: r).getLast?.map fun a => a.o := by
  cases r with
  | nil => simp [h]
  | cons d r => rw [List.getLast?_cons_cons, List.getLast?_cons_cons]
theorem pot_end {a c z p i : Nat} (h : a * (z * 2) + (c * z + p) ≤ 64 * i) : (c + a + a) * z + p ≤ 64 * (i + 1) := by
  have h1 : (c + a + a) * z = c * z + a * z + a * z := by rw [Nat.add_mul, Nat.add_mul]
  have h2 : a * (z * 2) = a * z + a * z := by rw [← Nat.mul_assoc, Nat.mul_two]
  omega
theorem own_slice {w : World} {e s n : Nat} {v : Value} {xs : List Value} (h : w.ownsRow 0 e s v n xs) : ∃ A m c, v = .slice A m c := by
  rcases h.2 with ⟨rfl, _⟩ | ⟨g, cap, cur, rfl, _⟩ <;> exact ⟨_, _, _, rfl⟩
theorem mid_get {α : Type} (f : Ly → α) (p : List Ly) (a : Ly) (r : List Ly) : ((p ++ a :: r).reverse.map f)[r.length]? = some (f a) := by
  rw [List.reverse_append, List.map_append, List.getElem?_append_left (by simp)]
  exact top_get f a r
theorem snoc_or {α : Type} (l : List α) : l = [] ∨ ∃ p a, l = p ++ [a] := by
  rcases h : l.reverse with _ | ⟨a, t⟩
  · exact .inl (List.reverse_eq_nil_iff.1 h)
  · refine .inr ⟨t.reverse, a, ?_⟩
    have := congrArg List.reverse h
    simpa using this
theorem em_eq {β : Type} (h : Ly → β) {a : Ly} {r : List Ly} (y : Ly) (e : h y = h a) : (y :: r).reverse.map h = (a :: r).reverse.map h := by
  rw [List.reverse_cons, List.map_append, List.reverse_cons, List.map_append]
  simp [e]
theorem bsl_dd {x : Dd} (ok : InOk x.i) (w : World) : (Instr.buildSlice 56 1 #[(0, .agg (dv x).toArray)]).run Tryd.prog w = .ok (.slice (some ⟨w.heap.size, 0, none⟩) 1 1) (w.alloc (.cells (dv x).toArray 47)) :=
  run_buildSlice1 (size := 48) (z := .agg (dv ⟨0, 0, 0, inz, []⟩).toArray) Tryd.underlying56 (fun w => by simp [go_sem]) (by kernel_rfl) (dv_size ok) (by decide) (by decide) w
end Go.Proofs.YtnefdmbdkljifaaDoor
