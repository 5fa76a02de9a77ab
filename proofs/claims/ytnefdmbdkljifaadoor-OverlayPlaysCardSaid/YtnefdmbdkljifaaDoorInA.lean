/- An inode's cells, and a block's: read, built, stored, held against one another; which may be. No condition but that the values are of their types. -/
import Derived.Test.YtnefdmbdkljifaaDoorPtF
import Derived.Test.YtnefdmbdkljifaaDoorWireF
import Derived.Test.YtnefdmbdkljifaaDoorBsl
set_option linter.unusedSimpArgs false
set_option linter.unusedVariables false

/- What ptr's Take answers, as a contract on the call. Conditions: the variable ptr.wide holds what the text lays; sizes. -/
namespace Go.Proofs.YtnefdmbdkljifaaDoor
open Go.RowKit Go.Kin

end Go.Proofs.YtnefdmbdkljifaaDoor

/- What the document's Take of a pointer answers, as a contract on the call. No condition but on sizes. -/
namespace Go.Proofs.YtnefdmbdkljifaaDoor
open Go.RowKit Go.Kin

theorem own_or {S : Nat → Prop} {own o : Option Nat} (hn : ∀ k, own = some k → ¬ S k) (ho : o = own ∨ o = none) : ∀ k, o = some k → ¬ S k := by
  rintro k hk
  rcases ho with h | h
  · exact hn k (by rw [← h, hk])
  · rw [h] at hk; cases hk
theorem RefR.ch {S : Nat → Prop} {w w' : World} {v : Value} {l : List UInt8} {e : Int} {own : Option Nat} (h : RefR w v l e own) (hc : Ch S w w') (hn : ∀ k, own = some k → ¬ S k) : RefR w' v l e own := by
  obtain ⟨s, h1, h2, h3⟩ := h
  exact ⟨s, h1, h2.ch hc (own_or hn h3), h3⟩
/-- a reader is stored -/
def put2 (w : World) (q : Nat) (s : Value) (e : Int) : World := (w.setCell ⟨q, 0, none⟩ s).setCell ⟨q, 1, none⟩ (.int .i64 e)
theorem put2_ch {S : Nat → Prop} {w0 w : World} {q : Nat} {s : Value} {e : Int} (hc : Ch S w0 w) (hq : S q ∨ w0.heap.size ≤ q) : Ch S w0 (put2 w q s e) := (hc.setCell (p := ⟨q, 0, none⟩) hq _).setCell (p := ⟨q, 1, none⟩) hq _
end Go.Proofs.YtnefdmbdkljifaaDoor

namespace Go.Proofs.YtnefdmbdkljifaaDoor
open Go.RowKit Go.Kin

/-- an inode: kind, links, size, root -/
structure In where
  k : Nat
  n : Nat
  s : Nat
  r : Pt
deriving DecidableEq
def ino (x : In) : Array Value := (.int .u8 x.k :: .int .u16 x.n :: .int .u32 x.s :: (pt x.r).toList).toArray
structure InOk (x : In) : Prop where
  k : x.k < 256
  n : x.n < 65536
  s : x.s < 4294967296
  r : PtOk x.r
def inz : In := ⟨0, 0, 0, ptz⟩
theorem inz_ok : InOk inz := ⟨by decide, by decide, by decide, ptz_ok⟩
section
variable {x : In}
theorem ino_size (ok : InOk x) : (ino x).size = 44 := by
  have := pt_size ok.r
  simp [ino, this]
@[simp] theorem ino_ones (x : In) : ones (ino x) = true := ones_of (by
  intro u hu
  simp only [List.mem_cons] at hu
  rcases hu with rfl | rfl | rfl | hu
  · rfl
  · rfl
  · rfl
  · have := pt_ones x.r
    unfold ones at this
    exact Array.all_eq_true'.1 this u (by simpa using hu))
theorem ino_all (ok : InOk x) : (ino x).extract 0 44 = ino x := by rw [← ino_size ok]; simp
theorem ino_k : (ino x)[0]? = some (.int .u8 x.k) := by simp [ino]
theorem ino_n : (ino x)[1]? = some (.int .u16 x.n) := by simp [ino]
theorem ino_s : (ino x)[2]? = some (.int .u32 x.s) := by simp [ino]
theorem ino_rk : (ino x)[3]? = some (.int .u8 x.r.k) := by simp [ino, pt]
theorem ino_rl : (ino x)[4]? = some (.int .u8 x.r.l) := by simp [ino, pt]
@[simp] theorem ino_k' (h : 0 < (ino x).size) : (ino x)[0] = .int .u8 x.k := by simp [ino]
@[simp] theorem ino_n' (h : 1 < (ino x).size) : (ino x)[1] = .int .u16 x.n := by simp [ino]
@[simp] theorem ino_s' (h : 2 < (ino x).size) : (ino x)[2] = .int .u32 x.s := by simp [ino]
@[simp] theorem ino_rk' (h : 3 < (ino x).size) : (ino x)[3] = .int .u8 x.r.k := by simp [ino, pt]
@[simp] theorem ino_rl' (h : 4 < (ino x).size) : (ino x)[4] = .int .u8 x.r.l := by simp [ino, pt]
theorem ino_r (ok : InOk x) : (ino x).extract 3 44 = pt x.r := by
  have := pt_size ok.r
  apply Array.ext'
  simp [ino, this]
  rw [List.take_of_length_le (by simp [this])]
theorem blit_ino_r {q : Pt} (ok : InOk x) (okq : PtOk q) : blit (ino x) 3 (pt q) = ino { x with r := q } := by
  have h1 := pt_size ok.r
  have h2 := pt_size okq
  apply Array.ext'
  simp [blit, ino, h1, h2]
theorem set_ino_k (k : Nat) : (ino x).setIfInBounds 0 (.int .u8 k) = ino { x with k := k } := by simp [ino]
theorem set_ino_n (n : Nat) : (ino x).setIfInBounds 1 (.int .u16 n) = ino { x with n := n } := by simp [ino]
theorem set_ino_s (s : Nat) : (ino x).setIfInBounds 2 (.int .u32 s) = ino { x with s := s } := by simp [ino]
end
theorem hz_ino : (Tryd.prog.info? 49).map (fun i => i.zero.isSome) = some true := by kernel_rfl
theorem zc_ino : zc Tryd.prog 49 = ino inz := by kernel_rfl
theorem hz_rino : (Tryd.prog.info? 41).map (fun i => i.zero.isSome) = some true := by kernel_rfl
theorem zc_rino : zc Tryd.prog 41 = ino inz := by kernel_rfl
theorem bld_ino0 {w : World} {K : Value → World → Prop} : VBld Tryd.prog 49 [] w K = K (.agg (ino inz)) w :=
  VBld_struct Tryd.underlying49 hz_ino (places := #[(0, 1), (1, 1), (2, 1), (3, 41)]) (by simp [go_sem]) (by simp [fillB, zc_ino])
theorem bld_rino0 {w : World} {K : Value → World → Prop} : VBld Tryd.prog 41 [] w K = K (.agg (ino inz)) w :=
  VBld_struct Tryd.underlying41 hz_rino (places := #[(0, 1), (1, 1), (2, 1), (3, 41)]) (by simp [go_sem]) (by simp [fillB, zc_rino])
theorem blit_ino3 (k n s : Nat) : blit (blit (blit (ino inz) 0 #[.int .u8 k]) 1 #[.int .u16 n]) 2 #[.int .u32 s] = ino ⟨k, n, s, ptz⟩ := by simp [blit, ino, inz]
theorem blit_ino2 (k n : Nat) : blit (blit (ino inz) 0 #[.int .u8 k]) 1 #[.int .u16 n] = ino ⟨k, n, 0, ptz⟩ := by simp [blit, ino, inz]
theorem blit_ino1 (k : Nat) : blit (ino inz) 0 #[.int .u8 k] = ino ⟨k, 0, 0, ptz⟩ := by simp [blit, ino, inz]
theorem bld_ino3 (k n s : Nat) {w : World} {K : Value → World → Prop} : VBld Tryd.prog 49 [(0, .int .u8 k), (1, .int .u16 n), (2, .int .u32 s)] w K = K (.agg (ino ⟨k, n, s, ptz⟩)) w := by
  refine VBld_struct Tryd.underlying49 hz_ino (places := #[(0, 1), (1, 1), (2, 1), (3, 41)]) (by simp [go_sem]) ?_
  have hz := ino_size inz_ok
  simp [fillB, zc_ino, Value.cells, hz, blit_size, blit_ino3]
theorem bld_ino1 (k : Nat) {w : World} {K : Value → World → Prop} : VBld Tryd.prog 49 [(0, .int .u8 k)] w K = K (.agg (ino ⟨k, 0, 0, ptz⟩)) w := by
  refine VBld_struct Tryd.underlying49 hz_ino (places := #[(0, 1), (1, 1), (2, 1), (3, 41)]) (by simp [go_sem]) ?_
  have hz := ino_size inz_ok
  simp [fillB, zc_ino, Value.cells, hz, blit_ino1]
theorem bld_rino2 (k n : Nat) {w : World} {K : Value → World → Prop} : VBld Tryd.prog 41 [(0, .int .u8 k), (1, .int .u16 n)] w K = K (.agg (ino ⟨k, n, 0, ptz⟩)) w := by
  refine VBld_struct Tryd.underlying41 hz_rino (places := #[(0, 1), (1, 1), (2, 1), (3, 41)]) (by simp [go_sem]) ?_
  have hz := ino_size inz_ok
  simp [fillB, zc_rino, Value.cells, hz, blit_size, blit_ino2]
theorem bld_ino4 (x : In) (ok : InOk x) {w : World} {K : Value → World → Prop} : VBld Tryd.prog 49 [(0, .int .u8 x.k), (1, .int .u16 x.n), (2, .int .u32 x.s), (3, .agg (pt x.r))] w K = K (.agg (ino x)) w := by
  refine VBld_struct Tryd.underlying49 hz_ino (places := #[(0, 1), (1, 1), (2, 1), (3, 41)]) (by simp [go_sem]) ?_
  have hz := ino_size inz_ok
  have h3 : InOk ⟨x.k, x.n, x.s, ptz⟩ := ⟨ok.k, ok.n, ok.s, ptz_ok⟩
  have hp := pt_size ok.r
  have h4 := ino_size h3
  simp [fillB, zc_ino, Value.cells, hz, blit_size, blit_ino3, blit_ino_r h3 ok.r, hp, h4]
theorem eq_ino_any (w : World) (d : Nat) {x y : In} (hx : InOk x) (hy : InOk y) : (Op.equalIn (d + 4) 49 (.agg (ino x)) (.agg (ino y))).run Tryd.prog w = .ok (decide (x = y)) w := by
  have e1 : ∀ w, (Op.equalIn (d + 3) 39 (.agg (pt x.r)) (.agg (pt y.r))).run Tryd.prog w = .ok (decide (x.r = y.r)) w := fun w => eq_pt_any w d hx.r hy.r
  have hc : ∀ a b : Nat, ((a : Int) == (b : Int)) = decide (a = b) := fun a b => by
    by_cases h : a = b
    · simp [h]
    · rw [beq_false_of_ne (by omega), decide_eq_false h]
  rw [Op.equalIn]
  simp [go_sem, ino_k, ino_n, ino_s, ino_r hx, ino_r hy, e1, hc]
  obtain ⟨k, n, s, r⟩ := x
  obtain ⟨k', n', s', r'⟩ := y
  simp only [In.mk.injEq]
  by_cases h1 : k = k' <;> by_cases h2 : n = n' <;> by_cases h3 : s = s' <;> by_cases h4 : r = r' <;> simp [h1, h2, h3, h4]
theorem eq_ino (w : World) {x y : In} (hx : InOk x) (hy : InOk y) : (Op.equalIn 10000 49 (.agg (ino x)) (.agg (ino y))).run Tryd.prog w = .ok (decide (x = y)) w := eq_ino_any w 9996 hx hy
theorem eq_rino (w : World) {x y : In} (hx : InOk x) (hy : InOk y) : (Op.equalIn 10000 41 (.agg (ino x)) (.agg (ino y))).run Tryd.prog w = .ok (decide (x = y)) w := by
  have e1 : ∀ w, (Op.equalIn 9999 39 (.agg (pt x.r)) (.agg (pt y.r))).run Tryd.prog w = .ok (decide (x.r = y.r)) w := fun w => eq_pt_any w 9996 hx.r hy.r
  have hc : ∀ a b : Nat, ((a : Int) == (b : Int)) = decide (a = b) := fun a b => by
    by_cases h : a = b
    · simp [h]
    · rw [beq_false_of_ne (by omega), decide_eq_false h]
  simp [go_sem, ino_k, ino_n, ino_s, ino_r hx, ino_r hy, e1, hc]
  obtain ⟨k, n, s, r⟩ := x
  obtain ⟨k', n', s', r'⟩ := y
  simp only [In.mk.injEq]
  by_cases h1 : k = k' <;> by_cases h2 : n = n' <;> by_cases h3 : s = s' <;> by_cases h4 : r = r' <;> simp [h1, h2, h3, h4]

/- four of them -/
def ib (xs : List In) : Array Value := rowsOf ino xs
structure IbOk (xs : List In) : Prop where
  len : xs.length = 4
  all : ∀ x ∈ xs, InOk x
def ibz : List In := List.replicate 4 inz
theorem ibz_ok : IbOk ibz := ⟨rfl, fun p hp => by rw [(List.mem_replicate.1 hp).2]; exact inz_ok⟩
section
variable {xs : List In}
theorem IbOk.sz (h : IbOk xs) : ∀ x ∈ xs, (ino x).size = 44 := fun x hx => ino_size (h.all x hx)
theorem ib_size (h : IbOk xs) : (ib xs).size = 176 := by unfold ib; rw [rows_size h.sz, h.len]
@[simp] theorem ib_ones (xs : List In) : ones (ib xs) = true := rows_ones fun p _ => ino_ones p
theorem ib_all (h : IbOk xs) : (ib xs).extract 0 176 = ib xs := by rw [← ib_size h]; simp
theorem ib_get (h : IbOk xs) {k : Nat} {x : In} (hk : xs[k]? = some x) : (ib xs).extract (k * 44) (k * 44 + 44) = ino x := rows_get h.sz hk
theorem ib_blit (h : IbOk xs) {k : Nat} {x : In} (hk : k < 4) (ok : InOk x) : blit (ib xs) (k * 44) (ino x) = ib (xs.set k x) := rows_blit h.sz (by rw [h.len]; exact hk) (ino_size ok)
theorem IbOk.set (h : IbOk xs) (k : Nat) {x : In} (ok : InOk x) : IbOk (xs.set k x) := ⟨by simp [h.len], fun q hq => by
  rcases List.mem_or_eq_of_mem_set hq with h1 | rfl
  · exact h.all q h1
  · exact ok⟩
theorem IbOk.at' (h : IbOk xs) {k : Nat} (hk : k < 4) : ∃ x, xs[k]? = some x ∧ InOk x := ⟨_, List.getElem?_eq_getElem (by rw [h.len]; exact hk), h.all _ (List.getElem_mem _)⟩
end
/-- may an inode be? -/
def rootB (r : Pt) : Bool := decide (r = ptz) || (mayP r && decide (r.k = 3) && decide (r.l = 2))
def mayI (x : In) : Bool :=
  if x.k = 0 then decide (x = inz) else if x.k = 3 then (decide (x.s ≠ 0) && decide (x.s ≤ 128) && rootB x.r) else if x.k = 1 ∨ x.k = 2 then (decide (x.s ≤ 32768) && rootB x.r) else false
theorem mayI_root {x : In} (h : mayI x = true) : x.r = ptz ∨ mayP x.r = true := by
  have hr : ∀ r, rootB r = true → r = ptz ∨ mayP r = true := fun r h => by
    unfold rootB at h
    simp at h
    rcases h with h | ⟨⟨h, _⟩, _⟩
    · exact .inl h
    · exact .inr h
  unfold mayI at h
  split at h
  · rw [of_decide_eq_true h]; exact .inl rfl
  · split at h
    · simp at h; exact hr _ h.2
    · split at h
      · simp at h; exact hr _ h.2
      · cases h
end Go.Proofs.YtnefdmbdkljifaaDoor
