/- All that an overlay tells, as a text. No condition. -/
import Derived.Test.YtmhnlgndgdmebaaDoorOvE
namespace Go.Proofs.YtmhnlgndgdmebaaDoor
open Go.RowKit Go.Kin Go.Maps

def b8 (e : Int) : UInt8 := UInt8.ofNat (e % 256).toNat
theorem b8_v (e : Int) : Value.int .u8 (IntKind.u8.wrap e) = bv (b8 e) := by
  unfold bv b8
  rw [UInt8.toNat_ofNat_of_lt' (by simp [UInt8.size]; omega)]
  congr 1
  simp [IntKind.wrap, IntKind.bits, IntKind.signed]
  omega
def nm (k : Nat) : Num := Fin.ofNat 65536 k
theorem nm_val {k : Nat} (h : k < 65536) : (nm k).val = k := Nat.mod_eq_of_lt h
def of' (k : Nat) : Off := Fin.ofNat 4294967296 k
theorem of_val {k : Nat} (h : k < 65536) : (of' k).val = k := Nat.mod_eq_of_lt (by omega)
def headT (tl : Tl) (num : Num) : Byts := [b8 (tl.ino num).2, b8 (tl.ino num).1.k, b8 (tl.ino num).1.n, b8 (tl.ino num).1.s]
def offT (tl : Tl) (num : Num) (off : Off) : Byts := [b8 (tl.lf num off).2, b8 (tl.lf num off).2, b8 ((tl.lf num off).1.length / 2 : Nat)] ++ (tl.lf num off).1.take 1
def tOff (tl : Tl) (num : Num) : Nat → Byts
  | 0 => []
  | j + 1 => tOff tl num j ++ offT tl num (of' j)
def tNum (tl : Tl) : Nat → Byts
  | 0 => []
  | k + 1 => tNum tl k ++ (headT tl (nm (k + 1)) ++ tOff tl (nm (k + 1)) 6)
theorem offT_len (tl : Tl) (num : Num) (off : Off) : (offT tl num off).length ≤ 4 := by
  unfold offT
  simp
  omega
theorem tOff_len (tl : Tl) (num : Num) (j : Nat) : (tOff tl num j).length ≤ 4 * j := by
  induction j with
  | zero => simp [tOff]
  | succ j ih =>
    have := offT_len tl num (of' j)
    rw [tOff, List.length_append]
    omega
theorem tNum_len (tl : Tl) (k : Nat) : (tNum tl k).length ≤ 28 * k := by
  induction k with
  | zero => simp [tNum]
  | succ k ih =>
    have := tOff_len tl (nm (k + 1)) 6
    rw [tNum, List.length_append, List.length_append]
    simp [headT]
    omega
def Bnd (tl : Tl) : Prop := ∀ num off, (tl.lf num off).1.length ≤ 512
section
variable {w : World} {g bad d o : Nat} {Z : Nat → Prop} {tl : Tl}
set_option maxRecDepth 100000 in
theorem t_ino (h : TlAt w g bad Z (d + 1) (.iface 41 (.pointer (some ⟨o, 0, none⟩))) tl) (hg : GrAt w g bad) (hZ : ¬ Z g) (num : Num) : Ret Tryd.prog 33 #[.pointer (some ⟨o, 0, none⟩), .int .u16 num.val] w (InR g bad (tl.ino num) w) := by
  obtain ⟨o', bt, bv, of, n, D, X, Y, z, tl', h1, h2, h3, rfl, h5⟩ := h
  cases h1
  exact oino_any h2 hg num h3.ok fun w1 c1 {K} hk => ask_ino hZ num d w1 _ _ (TlAt.ch c1 (fun _ _ e => e) d _ _ h3) (hg.ch c1 id) hk
set_option maxRecDepth 100000 in
theorem t_leaf (h : TlAt w g bad Z (d + 1) (.iface 41 (.pointer (some ⟨o, 0, none⟩))) tl) (hg : GrAt w g bad) (hZ : ¬ Z g) (num : Num) (off : Off) : Ret Tryd.prog 27 #[.pointer (some ⟨o, 0, none⟩), .int .u16 num.val, .int .u32 off.val] w fun v' w' => LfR w (tl.lf num off) v' w' ∧ GrAt w' g bad ∧ Ch (one g) w w' := by
  obtain ⟨o', bt, bv, of, n, D, X, Y, z, tl', h1, h2, h3, rfl, h5⟩ := h
  cases h1
  exact oleaf_any h2 hg num off fun w1 c1 {K} hk => ask_leaf hZ num off d w1 _ _ (TlAt.ch c1 (fun _ _ e => e) d _ _ h3) (hg.ch c1 id) hk
set_option maxRecDepth 100000 in
theorem t_map (h : TlAt w g bad Z (d + 1) (.iface 41 (.pointer (some ⟨o, 0, none⟩))) tl) (hg : GrAt w g bad) (hZ : ¬ Z g) (num : Num) (off : Off) : Ret Tryd.prog 34 #[.pointer (some ⟨o, 0, none⟩), .int .u16 num.val, .int .u32 off.val] w fun v' w' => v' = .tuple #[.bool (decide ((tl.lf num off).1 ≠ [])), .int .i64 (tl.lf num off).2] ∧ GrAt w' g bad ∧ Ch (one g) w w' := by
  obtain ⟨o', bt, bv, of, n, D, X, Y, z, tl', h1, h2, h3, rfl, h5⟩ := h
  cases h1
  exact omap_any h2 hg num off fun w1 c1 {K} hk => ask_map hZ num off d w1 _ _ (TlAt.ch c1 (fun _ _ e => e) d _ _ h3) (hg.ch c1 id) hk
end
structure TdI (W : World) (g bad o : Nat) (pre : Byts) (f : Nat → Value) (u : World) : Prop where
  f0 : f 0 = .pointer (some ⟨o, 0, none⟩)
  own : u.ownsRow 0 5 1 (f 3) pre.length (bvs pre)
  fr : Fresh W.heap.size (f 3)
  ch : Ch (one g) W u
  gr : GrAt u g bad
theorem own_blt {w : World} {e s n : Nat} {v : Value} {xs : List Value} (h : w.ownsRow 0 e s v n xs) : ∀ k, v.ownBlock = some k → k < w.heap.size := fun k hk => by
  rcases h.2 with ⟨hv, _⟩ | ⟨g, cap, cur, hv, _, hg, _⟩
  · rw [hv] at hk; simp [Value.ownBlock] at hk
  · rw [hv] at hk
    simp [Value.ownBlock] at hk
    rw [← hk]; exact lt_of_block hg
theorem own_app {w1 : World} {v v' : Value} {B : Nat} (hf : Fresh B v) (h : v'.ownBlock = v.ownBlock ∨ Fresh w1.heap.size v') (hs : B ≤ w1.heap.size) : Fresh B v' := by
  rcases h with h | h
  · intro k hk; exact hf k (by rw [← h]; exact hk)
  · exact h.mono hs
theorem VB_lits {w : World} {v : Value} {l cs : Byts} {n m ad : Nat} {ty : TypeId} {arr : Array Value} {K : Value → World → Prop} (ho : w.ownsRow 0 5 1 v n (bvs l)) (hn : n ≤ 100000) (ha : arr = (bvs cs).toArray) (hm : cs.length = m) (hm2 : m ≤ 1000) (had : ad = w.heap.size)
    (hk : ∀ v' w', w'.ownsRow 0 5 1 v' (n + m) (bvs (l ++ cs)) → Ch (fun k => v.ownBlock = some k) w w' → (v'.ownBlock = v.ownBlock ∨ Fresh w.heap.size v') → K v' w') :
    VB Tryd.prog .append #[73, 73] ty #[v, .slice (some ⟨ad, 0, none⟩) m m] (w.alloc (.cells arr 5)) K := by
  subst had ha
  have hs := Sl.of_own (Sl.lit w 5 cs m hm (by unfold maxLen; omega))
  refine VB_appn tyB (ho.alloc _) hs (by rw [bvs_length]; exact hm) (bvs_one cs) (by unfold maxLen; omega) (by omega) fun v' w' k1 k2 k3 => hk v' w' (by rw [bvs_append]; exact k1) (((Ch.refl _ w).alloc _).trans k2) (k3.imp id fun e => e.mono (by simp))
set_option maxRecDepth 100000 in
set_option maxHeartbeats 2000000 in
theorem told_any {W : World} {g bad d o : Nat} {Z : Nat → Prop} {tl : Tl} (h : TlAt W g bad Z (d + 1) (.iface 41 (.pointer (some ⟨o, 0, none⟩))) tl) (hg : GrAt W g bad) (hZ : ¬ Z g) (hb : Bnd tl) :
    Ret Tryd.prog 17 #[.pointer (some ⟨o, 0, none⟩)] W fun v' w' => v' = .string ⟨(tNum tl 12).toArray⟩ ∧ GrAt w' g bad ∧ Ch (one g) W w' := by
  refine v_enter Tryd.func17 Tryd.ntmps17 rfl (by simp) fun R' hR => ?_
  have hgl : g < W.heap.size := by
    obtain ⟨x, hg⟩ := hg
    exact lt_of_block hg
  have cz := (Ch.refl Nw W).alloc (.cells #[] 5)
  simp [go_sem]
  refine v_loop (fun r f u => ∃ k, r = 12 - k ∧ k ≤ 12 ∧ f 4 = .int .u16 ((k + 1 : Nat) : Int) ∧ TdI W g bad o (tNum tl k) f u) 12
    ⟨0, rfl, by omega, by simp, by simp, by simpa [tNum, bvs] using World.ownsRow_made W #[] 0 (Nat.zero_le _) (Nat.zero_le _) rfl, by simp [Fresh, Value.ownBlock], cz.mono (fun _ _ e => e.elim), hg.ch cz id⟩ ?_
  rintro J hJ _ f u ⟨k, rfl, hk, f4, f0, ho, hfr, cu, hgu⟩
  by_cases hlt : k < 12
  · obtain ⟨m, hm⟩ : ∃ m, k + 1 = m := ⟨_, rfl⟩
    rw [hm] at f4
    have hmm : (m : Int) < 13 := by omega
    have hwm : IntKind.u16.wrap ((m : Int) + 1) = ((m + 1 : Nat) : Int) := by simp [IntKind.wrap, IntKind.bits, IntKind.signed]; omega
    have hnv : (nm m).val = m := nm_val (by omega)
    have hu := TlAt.ch cu (fun x hx e => by simp only [one] at e; subst e; exact hZ hx) _ _ _ h
    have hino := t_ino hu hgu hZ (nm m)
    have hno := hu.ok (nm m)
    rw [hnv] at hino
    simp [go_sem, f0, f4, hmm]
    refine hino.mono ?_
    rintro _ w1 ⟨rfl, hg1, c1⟩
    obtain ⟨y, hy⟩ : ∃ y, (tl.ino (nm m)).1 = y := ⟨_, rfl⟩
    rw [hy] at hno
    have hsz := ino_size hno
    have b1 := hp_alloc w1 (.cells (ino y) 85)
    have ca := (Ch.refl Nw w1).alloc (.cells (ino y) 85)
    have hs0 := ino_size inz_ok
    have cu1 : Ch (one g) W w1 := cu.trans c1
    have o1 := own_ch (own_ch ho c1 fun x hx e => by simp only [one] at e; have := hfr x hx; omega) ca fun _ _ e => e
    rw [hy]
    simp [go_sem, VAl_big, hz_ino, zc_ino, hs0, hsz, blit_whole]
    have cu2 := cu1.alloc (.cells (ino y) 85)
    have hg2 := hg1.ch ca id
    have hfs : W.heap.size ≤ w1.heap.size := cu1.size
    have hs1 : (w1.alloc (.cells (ino y) 85)).heap.size = w1.heap.size + 1 := by simp
    have hpl := tNum_len tl k
    have wk : IntKind.u8.wrap (y.k : Int) = y.k := by have := hno.k; simp [IntKind.wrap, IntKind.bits, IntKind.signed]; omega
    have harr : #[Value.int .u8 (IntKind.u8.wrap (tl.ino (nm m)).2), .int .u8 y.k, .int .u8 (IntKind.u8.wrap (y.n : Int)), .int .u8 (IntKind.u8.wrap (y.s : Int))] = (bvs (headT tl (nm m))).toArray := by
      unfold headT bvs
      rw [hy]
      simp only [List.map_cons, List.map_nil, ← b8_v, wk]
    generalize w1.alloc (.cells (ino y) 85) = w2 at *
    refine VB_lits (cs := headT tl (nm m)) o1 (by omega) harr rfl (by decide) hs1.symm fun v3 w3 j1 j2 j3 => ?_
    have f3 := own_app (B := W.heap.size) hfr j3 (by omega)
    have cu3 : Ch (one g) W w3 := cu2.trans' j2 fun x hx e => by have := hfr x e; omega
    have hg3 := hg2.ch j2 fun e => by have := hfr g e; omega
    obtain ⟨pre, hpre⟩ : ∃ pre, tNum tl k ++ headT tl (nm m) = pre := ⟨_, rfl⟩
    have hprl : pre.length = (tNum tl k).length + 4 := by rw [← hpre, List.length_append]; rfl
    simp [go_sem]
    rw [hpre] at j1
    have j1 : w3.ownsRow 0 5 1 v3 pre.length (bvs pre) := by rw [hprl]; exact j1
    refine v_loop (fun r f u => ∃ j, r = 6 - j ∧ j ≤ 6 ∧ f 7 = .int .u32 j ∧ f 4 = .int .u16 m ∧ TdI W g bad o (pre ++ tOff tl (nm m) j) f u) 6
      ⟨0, rfl, by omega, by simp, by simp [f4], by simp [f0], by simpa [tOff] using j1, by simpa using f3, cu3, hg3⟩ ?_
    rintro J2 hJ2 _ f u ⟨j, rfl, hj, f7, f4, f0, ho, hfr, cu, hgu⟩
    by_cases hlj : j < 6
    · have hjj : (j : Int) < 6 := by omega
      have hwj : IntKind.u32.wrap ((j : Int) + 1) = ((j + 1 : Nat) : Int) := by simp [IntKind.wrap, IntKind.bits, IntKind.signed]; omega
      have hov : (of' j).val = j := of_val (by omega)
      have hu := TlAt.ch cu (fun x hx e => by simp only [one] at e; subst e; exact hZ hx) _ _ _ h
      have hlf := t_leaf hu hgu hZ (nm m) (of' j)
      rw [hnv, hov] at hlf
      simp [go_sem, f0, f4, f7, hjj]
      refine hlf.mono ?_
      rintro _ w5 ⟨⟨x, rfl, hx, frx⟩, hg5, c5⟩
      have hu5 := TlAt.ch (cu.trans c5) (fun x hx e => by simp only [one] at e; subst e; exact hZ hx) _ _ _ h
      have hmp := t_map hu5 hg5 hZ (nm m) (of' j)
      rw [hnv, hov] at hmp
      simp [go_sem, f0, f4, f7]
      refine hmp.mono ?_
      rintro _ w6 ⟨rfl, hg6, c6⟩
      have hgu' : g < u.heap.size := by have := cu.size; omega
      have hx6 := hx.ch c6 fun z hz e => by simp only [one] at e; have := frx z hz; omega
      have hlx := hx6.len Tryd.underlying73 3
      obtain ⟨bs, hbs⟩ : ∃ bs, (tl.lf (nm m) (of' j)).1 = bs := ⟨_, rfl⟩
      have hbl := hb (nm m) (of' j)
      rw [hbs] at hx6 hlx hbl
      rw [hbs]
      have c56 := c5.trans c6
      have o6 := own_ch ho c56 fun x hx e => by simp only [one] at e; have := hfr x hx; omega
      have cu6 := cu.trans c56
      have hs6 := c56.size
      have hpl6 := tOff_len tl (nm m) j
      have hpl7 := tNum_len tl k
      obtain ⟨q, hq⟩ : ∃ q, bs.length / 2 = q := ⟨_, rfl⟩
      have harr2 : #[Value.int .u8 (IntKind.u8.wrap (tl.lf (nm m) (of' j)).2), .int .u8 (IntKind.u8.wrap (tl.lf (nm m) (of' j)).2), .int .u8 (IntKind.u8.wrap (q : Int))] = (bvs [b8 (tl.lf (nm m) (of' j)).2, b8 (tl.lf (nm m) (of' j)).2, b8 (q : Int)]).toArray := by
        unfold bvs
        simp only [List.map_cons, List.map_nil, ← b8_v]
      have hdiv : IntKind.i64.wrap ((bs.length : Int) / 2) = (q : Int) := by rw [IntKind.wrap_i64]; omega
      have hno : offT tl (nm m) (of' j) = [b8 (tl.lf (nm m) (of' j)).2, b8 (tl.lf (nm m) (of' j)).2, b8 (q : Int)] ++ bs.take 1 := by unfold offT; rw [hbs, hq]
      have hppl : (pre ++ tOff tl (nm m) j).length ≤ 1000 := by rw [List.length_append]; omega
      simp [go_sem, hlx, hdiv]
      refine VB_lits (cs := [b8 (tl.lf (nm m) (of' j)).2, b8 (tl.lf (nm m) (of' j)).2, b8 (q : Int)]) o6 (by omega) harr2 rfl (by decide) rfl fun v7 w7 i1 i2 i3 => ?_
      have f7' := own_app (B := W.heap.size) hfr i3 (by have := cu6.size; omega)
      have cu7 : Ch (one g) W w7 := cu6.trans' i2 fun x hx e => by have := hfr x e; omega
      have hg7 := hg6.ch i2 fun e => by have := hfr g e; omega
      have o5 := own_blt ho
      have hx7 := hx6.ch i2 fun z hz e => by have := frx z hz; have := o5 z e; omega
      have hlx7 := hx7.len Tryd.underlying73 3
      by_cases hb0 : bs = []
      · have hl0 : (bs.length : Int) = 0 := by rw [hb0]; rfl
        rw [hb0, List.take_nil, List.append_nil] at hno
        simp [go_sem, hlx7, hb0, f7, hwj]
        have own7 : w7.ownsRow 0 5 1 v7 (pre ++ tOff tl (nm m) (j + 1)).length (bvs (pre ++ tOff tl (nm m) (j + 1))) := by
          rw [tOff, ← List.append_assoc, hno, List.length_append]
          exact i1
        exact Rnd.intro (6 - (j + 1)) (by omega) (hJ2 _ _ _ ⟨j + 1, rfl, by omega, by simp, by simp [f4], by simp [f0], by simpa using own7, by simpa using f7', cu7, hg7⟩)
      · have hl0 : (0 : Int) < bs.length := by have := List.length_pos_iff.2 hb0; omega
        have hl0n := List.length_pos_iff.2 hb0
        obtain ⟨b0, hb1⟩ : ∃ b0, bs[0]? = some b0 := ⟨_, List.getElem?_eq_getElem (List.length_pos_iff.2 hb0)⟩
        obtain ⟨ad, hat, hcl, _⟩ := hx7.at tyB (bvs_length bs) (show (bvs bs)[0]? = some (bv b0) by unfold bvs; rw [List.getElem?_map, hb1]; rfl)
        have hcl : w7.cell? ad = some (.int .u8 b0.toNat) := hcl
        have htk : bs.take 1 = [b0] := by
          match bs, hb1 with
          | c :: t, h => simp at h; rw [h]; rfl
        rw [htk] at hno
        have hat0 : ∀ w', (Instr.indexAt 73 x (.int .i64 0)).run Tryd.prog w' = .ok (.pointer (some ad)) w' := hat
        simp [go_sem, hlx7, hl0n, hat0, hcl]
        refine VB_lits (cs := [b0]) (m := 1) i1 (by omega) rfl rfl (by omega) rfl fun v8 w8 l1 l2 l3 => ?_
        have f8' := own_app (B := W.heap.size) f7' l3 (by have := cu7.size; omega)
        have cu8 : Ch (one g) W w8 := cu7.trans' l2 fun x hx e => by have := f7' x e; omega
        have hg8 := hg7.ch l2 fun e => by have := f7' g e; omega
        simp [go_sem, hlx7, hl0n, hb0, f7, hwj]
        have own8 : w8.ownsRow 0 5 1 v8 (pre ++ tOff tl (nm m) (j + 1)).length (bvs (pre ++ tOff tl (nm m) (j + 1))) := by
          rw [tOff, ← List.append_assoc, hno, ← List.append_assoc, List.length_append, List.length_append]
          exact l1
        exact Rnd.intro (6 - (j + 1)) (by omega) (hJ2 _ _ _ ⟨j + 1, rfl, by omega, by simp, by simp [f4], by simp [f0], by simpa using own8, by simpa using f8', cu8, hg8⟩)
    · obtain rfl : j = 6 := by omega
      simp [go_sem, f4, f7, hwm]
      refine Rnd.intro (12 - (k + 1)) (by omega) (hJ _ _ _ ⟨k + 1, rfl, by omega, by rw [hm]; simp, by simp [f0], ?_, by simpa using hfr, cu, hgu⟩)
      rw [tNum, hm, ← List.append_assoc, hpre]
      simpa using ho
  · obtain rfl : k = 12 := by omega
    have hst := (Sl.of_own ho).str (P := Tryd.prog) rfl Tryd.underlying73 Tryd.underlying5 Tryd.underlying9
    simp at f4
    simp [go_sem, f4, hst]
    exact hR _ _ ⟨rfl, hgu, cu⟩
end Go.Proofs.YtmhnlgndgdmebaaDoor
