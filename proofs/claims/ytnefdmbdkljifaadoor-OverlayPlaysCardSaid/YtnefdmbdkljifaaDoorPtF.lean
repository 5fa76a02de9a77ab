/- The pointer that bytes tell of, in plain Lean; a pointer's cells, compared, built and stored. No condition but that the values are of their types. -/
import Derived.Test.YtnefdmbdkljifaaDoorWireF
import Derived.Test.YtnefdmbdkljifaaDoorWireC
set_option linter.unusedSimpArgs false
set_option linter.unusedVariables false

namespace Go.Proofs.YtnefdmbdkljifaaDoor
open Go.RowKit Go.Kin

def zb (n : Nat) : List UInt8 := List.replicate n 0
theorem zb_length (n : Nat) : (zb n).length = n := List.length_replicate
theorem le_fromLe (l : List UInt8) : le (fromLe l) l.length = l := by
  induction l with
  | nil => rfl
  | cons c l ih =>
    simp only [fromLe, List.length_cons, le]
    have hc : c.toNat < 256 := c.toNat_lt
    rw [show (c.toNat + 256 * fromLe l) / 256 = fromLe l by omega, ih]
    congr 1
    apply UInt8.toNat_inj.1
    rw [UInt8.toNat_ofNat']
    omega
theorem fromLe_of_le (n k : Nat) : fromLe (le n k) = n % 256 ^ k := by
  induction k generalizing n with
  | zero => simp [le, fromLe, Nat.mod_one]
  | succ k ih =>
    simp only [le, fromLe, ih, UInt8.toNat_ofNat']
    rw [show 256 ^ (k + 1) = 256 * 256 ^ k by rw [Nat.pow_succ, Nat.mul_comm], Nat.mod_mul]
/-- the hole -/
def ptz : Pt := ⟨0, 0, 0, 0, 0, zb 32, [0, 0, 0, 0]⟩
theorem ptz_ok : PtOk ptz := ⟨by decide, by decide, by decide, by decide, by decide, rfl, rfl, by simp [ptz]⟩
/-- the pointer that 64 bytes tell of -/
def atOf (b : List UInt8) : List Nat := [fromLe ((b.drop 48).take 2), fromLe ((b.drop 50).take 2), fromLe ((b.drop 52).take 2), fromLe ((b.drop 54).take 2)]
def ptOf (b : List UInt8) : Pt := ⟨fromLe (b.take 1), fromLe ((b.drop 1).take 1), fromLe ((b.drop 2).take 2), fromLe ((b.drop 4).take 4), fromLe ((b.drop 8).take 8), (b.drop 16).take 32, atOf b⟩
theorem cut_lt {b : List UInt8} (hb : b.length = 64) (k m : Nat) (h : k + m ≤ 64) : fromLe ((b.drop k).take m) < 256 ^ m := by
  have := fromLe_lt ((b.drop k).take m)
  rwa [List.length_take, List.length_drop, hb, show min m (64 - k) = m by omega] at this
theorem ptOf_ok {b : List UInt8} (hb : b.length = 64) : PtOk (ptOf b) := by
  refine ⟨by simpa [ptOf] using cut_lt hb 0 1 (by omega), cut_lt hb 1 1 (by omega), cut_lt hb 2 2 (by omega), cut_lt hb 4 4 (by omega), cut_lt hb 8 8 (by omega), by simp [ptOf, hb], rfl, ?_⟩
  have h2 := fun k hk => cut_lt hb k 2 hk
  simp only [ptOf, atOf, List.mem_cons, List.not_mem_nil, or_false]
  rintro x (rfl | rfl | rfl | rfl)
  · exact h2 48 (by omega)
  · exact h2 50 (by omega)
  · exact h2 52 (by omega)
  · exact h2 54 (by omega)
theorem putP_eq (p : Pt) : putP p = le p.k 1 ++ (le p.l 1 ++ (le p.o 2 ++ (le p.f 4 ++ (le p.b 8 ++ (p.h ++ (p.a.flatMap (fun x => le x 2) ++ zb 8)))))) := rfl
theorem putP_length {p : Pt} (ok : PtOk p) : (putP p).length = 64 := by
  obtain ⟨a0, a1, a2, a3, ha, _⟩ := a4 ok
  rw [putP_eq, ha]
  simp [le_length, ok.h, zb_length]
theorem put_ptOf {b : List UInt8} (hb : b.length = 64) : putP (ptOf b) = b.take 56 ++ zb 8 := by
  have e : ∀ k m, k + m ≤ 64 → le (fromLe ((b.drop k).take m)) m = (b.drop k).take m := fun k m hk => by
    have := le_fromLe ((b.drop k).take m)
    rwa [List.length_take, List.length_drop, hb, show min m (64 - k) = m by omega] at this
  have e0 : le (fromLe (b.take 1)) 1 = b.take 1 := by simpa using e 0 1 (by omega)
  have s : ∀ i j, (b.drop i).take j ++ (b.drop (i + j)).take (56 - (i + j)) = (b.drop i).take (j + (56 - (i + j))) := fun i j => by
    rw [List.take_add, List.drop_drop]
  have h56 : b.take 56 = b.take 1 ++ ((b.drop 1).take 1 ++ ((b.drop 2).take 2 ++ ((b.drop 4).take 4 ++ ((b.drop 8).take 8 ++ ((b.drop 16).take 32 ++ ((b.drop 48).take 2 ++ ((b.drop 50).take 2 ++ ((b.drop 52).take 2 ++ (b.drop 54).take 2)))))))) := by
    rw [s 52 2, s 50 2, s 48 2, s 16 32, s 8 8, s 4 4, s 2 2, s 1 1, show b.take 1 = (b.drop 0).take 1 by simp, s 0 1]
    simp
  rw [putP_eq]
  simp only [ptOf, atOf, e0, List.flatMap_cons, List.flatMap_nil, e 1 1 (by omega), e 2 2 (by omega), e 4 4 (by omega), e 8 8 (by omega), e 48 2 (by omega), e 50 2 (by omega), e 52 2 (by omega), e 54 2 (by omega), h56, List.append_assoc, List.append_nil, List.nil_append]
theorem ptOf_put {p : Pt} (ok : PtOk p) : ptOf (putP p) = p := by
  obtain ⟨a0, a1, a2, a3, ha, l0, l1, l2, l3⟩ := a4 ok
  obtain ⟨k, l, o, f, b, h, a⟩ := p
  simp only at ha
  subst ha
  have dd : ∀ (u : List UInt8) m r, u.length = m → (u ++ r).drop m = r := fun u m r hu => List.drop_left' hu
  have tt : ∀ (u : List UInt8) m r, u.length = m → (u ++ r).take m = u := fun u m r hu => List.take_left' hu
  have hk := ok.k
  have hl := ok.l
  have ho := ok.o
  have hf := ok.f
  have hb := ok.b
  have hh := ok.h
  simp only at hk hl ho hf hb hh
  rw [putP_eq]
  simp only [List.flatMap_cons, List.flatMap_nil, List.append_nil, List.append_assoc]
  generalize hz : le k 1 ++ (le l 1 ++ (le o 2 ++ (le f 4 ++ (le b 8 ++ (h ++ (le a0 2 ++ (le a1 2 ++ (le a2 2 ++ (le a3 2 ++ zb 8))))))))) = z
  have q1 : z.drop 1 = le l 1 ++ (le o 2 ++ (le f 4 ++ (le b 8 ++ (h ++ (le a0 2 ++ (le a1 2 ++ (le a2 2 ++ (le a3 2 ++ zb 8)))))))) := by rw [← hz, dd _ 1 _ (le_length k 1)]
  have q2 : z.drop 2 = le o 2 ++ (le f 4 ++ (le b 8 ++ (h ++ (le a0 2 ++ (le a1 2 ++ (le a2 2 ++ (le a3 2 ++ zb 8))))))) := by rw [show 2 = 1 + 1 by rfl, ← List.drop_drop, q1, dd _ 1 _ (le_length l 1)]
  have q4 : z.drop 4 = le f 4 ++ (le b 8 ++ (h ++ (le a0 2 ++ (le a1 2 ++ (le a2 2 ++ (le a3 2 ++ zb 8)))))) := by rw [show 4 = 2 + 2 by rfl, ← List.drop_drop, q2, dd _ 2 _ (le_length o 2)]
  have q8 : z.drop 8 = le b 8 ++ (h ++ (le a0 2 ++ (le a1 2 ++ (le a2 2 ++ (le a3 2 ++ zb 8))))) := by rw [show 8 = 4 + 4 by rfl, ← List.drop_drop, q4, dd _ 4 _ (le_length f 4)]
  have q16 : z.drop 16 = h ++ (le a0 2 ++ (le a1 2 ++ (le a2 2 ++ (le a3 2 ++ zb 8)))) := by rw [show 16 = 8 + 8 by rfl, ← List.drop_drop, q8, dd _ 8 _ (le_length b 8)]
  have q48 : z.drop 48 = le a0 2 ++ (le a1 2 ++ (le a2 2 ++ (le a3 2 ++ zb 8))) := by rw [show 48 = 16 + 32 by rfl, ← List.drop_drop, q16, dd _ 32 _ hh]
  have q50 : z.drop 50 = le a1 2 ++ (le a2 2 ++ (le a3 2 ++ zb 8)) := by rw [show 50 = 48 + 2 by rfl, ← List.drop_drop, q48, dd _ 2 _ (le_length a0 2)]
  have q52 : z.drop 52 = le a2 2 ++ (le a3 2 ++ zb 8) := by rw [show 52 = 50 + 2 by rfl, ← List.drop_drop, q50, dd _ 2 _ (le_length a1 2)]
  have q54 : z.drop 54 = le a3 2 ++ zb 8 := by rw [show 54 = 52 + 2 by rfl, ← List.drop_drop, q52, dd _ 2 _ (le_length a2 2)]
  have q0 : z.take 1 = le k 1 := by rw [← hz, tt _ 1 _ (le_length k 1)]
  simp only [ptOf, atOf, q0, q1, q2, q4, q8, q16, q48, q50, q52, q54, tt _ 1 _ (le_length l 1), tt _ 2 _ (le_length o 2), tt _ 4 _ (le_length f 4), tt _ 8 _ (le_length b 8), tt _ 32 _ hh, tt _ 2 _ (le_length a0 2), tt _ 2 _ (le_length a1 2), tt _ 2 _ (le_length a2 2), tt _ 2 _ (le_length a3 2), fromLe_of_le]
  simp
  omega
theorem nz_zb (l : List UInt8) : nz l = false ↔ l = zb l.length := by
  unfold nz zb
  rw [List.any_eq_false, List.eq_replicate_iff]
  simp
theorem put_ptOf_iff {b : List UInt8} (hb : b.length = 64) : putP (ptOf b) = b ↔ nz (b.drop 56) = false := by
  rw [put_ptOf hb, nz_zb, List.length_drop, hb]
  constructor
  · intro h
    have := congrArg (List.drop 56) h
    rw [List.drop_left' (by simp [hb])] at this
    exact this.symm
  · intro h
    have := List.take_append_drop 56 b
    rw [h] at this
    exact this
/-- do 64 bytes tell of a pointer that may be, or of the hole? -/
def tkOk (b : List UInt8) : Bool := !nz (b.drop 56) && (decide (ptOf b = ptz) || mayP (ptOf b))
/-- what Take answers, and what is left -/
def ptS (l : List UInt8) (e : Int) : Pt × List UInt8 × Int :=
  if (rawS l e 64).1.length < 64 then (ptz, (rawS l e 64).2) else if tkOk (rawS l e 64).1 then (ptOf (rawS l e 64).1, (rawS l e 64).2) else (ptz, [], 5)
theorem tk_put {p : Pt} (ok : PtOk p) (h : p = ptz ∨ mayP p = true) : tkOk (putP p) = true := by
  have h1 := (put_ptOf_iff (putP_length ok)).1 (by rw [ptOf_put ok])
  unfold tkOk
  rw [h1, ptOf_put ok]
  rcases h with h | h <;> simp [h]

/- a pointer's cells -/
theorem blit_whole {cs us : Array Value} (h : us.size = cs.size) : blit cs 0 us = us := by
  unfold blit
  apply Array.ext'
  simp [h]
theorem hz_pt : (Tryd.prog.info? 39).map (fun i => i.zero.isSome) = some true := by kernel_rfl
theorem zc_pt : zc Tryd.prog 39 = pt ptz := by kernel_rfl
theorem pt_h {p : Pt} (ok : PtOk p) : (pt p).extract 5 37 = (bvs p.h).toArray := by
  apply Array.ext'
  simp [pt, bvs_length, ok.h]
theorem pt_h_at {p : Pt} {i : Nat} {c : UInt8} (h : p.h[i]? = some c) (ok : PtOk p) : (pt p)[5 + i]? = some (.int .u8 c.toNat) := by
  have hi : i < 32 := by
    rw [← ok.h]
    exact (List.getElem?_eq_some_iff.1 h).1
  simp only [pt, List.getElem?_toArray]
  rw [show 5 + i = i + 1 + 1 + 1 + 1 + 1 by omega]
  simp only [List.getElem?_cons_succ]
  rw [List.getElem?_append_left (by rw [bvs_length, ok.h]; omega), bvs, List.getElem?_map, h]
  rfl
theorem pt_a' {p : Pt} (ok : PtOk p) : (pt p).extract 37 41 = (u16s p.a).toArray := by
  apply Array.ext'
  simp [pt, bvs_length, u16s_length, ok.h, ok.a]
  exact List.take_of_length_le (by rw [u16s_length, ok.a]; omega)
attribute [simp] pt_ones
theorem eq_pt_any (w : World) (d : Nat) {p q : Pt} (hp : PtOk p) (hq : PtOk q) : (Op.equalIn (d + 3) 39 (.agg (pt p)) (.agg (pt q))).run Tryd.prog w = .ok (decide (p = q)) w := by
  have e1 : ∀ w, (Op.equalIn (d + 2) 36 (.agg (bvs p.h).toArray) (.agg (bvs q.h).toArray)).run Tryd.prog w = .ok (decide (p.h = q.h)) w := fun w => run_equalIn_bvs w d _ _ 32 Tryd.underlying36 Tryd.underlying5 Tryd.sizeOf5 Tryd.isAgg5 _ _ hp.h hq.h
  have e2 : ∀ w, (Op.equalIn (d + 2) 37 (.agg (u16s p.a).toArray) (.agg (u16s q.a).toArray)).run Tryd.prog w = .ok (decide (p.a = q.a)) w := fun w => run_equalIn_u16s w d _ _ 4 Tryd.underlying37 Tryd.underlying22 Tryd.sizeOf22 Tryd.isAgg22 _ _ hp.a hq.a
  have hc : ∀ a b : Nat, ((a : Int) == (b : Int)) = decide (a = b) := fun a b => by
    by_cases h : a = b
    · simp [h]
    · rw [beq_false_of_ne (by omega), decide_eq_false h]
  rw [Op.equalIn]
  simp [go_sem, pt_k, pt_l, pt_o, pt_f, pt_b, pt_h hp, pt_h hq, pt_a' hp, pt_a' hq, e1, e2, hc]
  obtain ⟨k, l, o, f, b, h, a⟩ := p
  obtain ⟨k', l', o', f', b', h', a'⟩ := q
  simp only [Pt.mk.injEq]
  by_cases h1 : k = k' <;> by_cases h2 : l = l' <;> by_cases h3 : o = o' <;> by_cases h4 : f = f' <;> by_cases h5 : b = b' <;> by_cases h6 : h = h' <;> by_cases h7 : a = a' <;> simp [h1, h2, h3, h4, h5, h6, h7]
theorem eq_pt (w : World) {p q : Pt} (hp : PtOk p) (hq : PtOk q) : (Op.equalIn 10000 39 (.agg (pt p)) (.agg (pt q))).run Tryd.prog w = .ok (decide (p = q)) w := eq_pt_any w 9997 hp hq
section
variable {p : Pt}
theorem blit_pt_h {h' : List UInt8} (hh : p.h.length = 32) (hh' : h'.length = 32) : blit (pt p) 5 (bvs h').toArray = pt { p with h := h' } := by
  simp [blit, pt, hh', bvs_length, hh]
theorem set_pt_a (hh : p.h.length = 32) (i x : Nat) : (pt p).setIfInBounds (37 + i) (.int .u16 x) = pt { p with a := p.a.set i x } := by
  apply Array.ext'
  simp [pt, show 37 + i = (32 + i) + 1 + 1 + 1 + 1 + 1 by omega, List.set_append_right, bvs_length, hh, u16s, List.map_set, u16v]
theorem set_pt_h (i : Nat) (c : UInt8) (hi : i < p.h.length) : (pt p).setIfInBounds (5 + i) (.int .u8 c.toNat) = pt { p with h := p.h.set i c } := by
  apply Array.ext'
  simp [pt, show 5 + i = i + 1 + 1 + 1 + 1 + 1 by omega, List.set_append_left, hi, bvs, List.map_set, bv]
end
theorem bld_pt0 {w : World} {K : Value → World → Prop} : VBld Tryd.prog 39 [] w K = K (.agg (pt ptz)) w :=
  VBld_struct Tryd.underlying39 hz_pt (places := #[(0, 1), (1, 1), (2, 1), (3, 1), (4, 1), (5, 32), (37, 4)]) (by simp [go_sem]) (by simp [fillB, zc_pt])
theorem blit_pt5 (k l o f b : Nat) : blit (blit (blit (blit (blit (pt ptz) 0 #[.int .u8 k]) 1 #[.int .u8 l]) 2 #[.int .u16 o]) 3 #[.int .u32 f]) 4 #[.int .u64 b] = pt ⟨k, l, o, f, b, zb 32, [0, 0, 0, 0]⟩ := by
  simp [blit, pt, ptz]
theorem bld_pt5 (k l o f b : Nat) {w : World} {K : Value → World → Prop} :
    VBld Tryd.prog 39 [(0, .int .u8 k), (1, .int .u8 l), (2, .int .u16 o), (3, .int .u32 f), (4, .int .u64 b)] w K = K (.agg (pt ⟨k, l, o, f, b, zb 32, [0, 0, 0, 0]⟩)) w := by
  refine VBld_struct Tryd.underlying39 hz_pt (places := #[(0, 1), (1, 1), (2, 1), (3, 1), (4, 1), (5, 32), (37, 4)]) (by simp [go_sem]) ?_
  have hz : (pt ptz).size = 41 := pt_size ptz_ok
  simp [fillB, zc_pt, Value.cells, hz, blit_size]
  exact blit_pt5 k l o f b
end Go.Proofs.YtnefdmbdkljifaaDoor
