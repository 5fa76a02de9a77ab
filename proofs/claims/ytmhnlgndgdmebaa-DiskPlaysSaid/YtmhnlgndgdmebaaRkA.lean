/- The document's disk in memory, and its functions on lists. No condition but on sizes. -/
import Derived.Test.YtmhnlgndgdmebaaDkS
namespace Go.Proofs.Ytmhnlgndgdmebaa
open Go.RowKit Go.Kin

def sbl (e : Nat × Byts) : Array Value := #[.int .u16 e.1, .string ⟨e.2.toArray⟩]
theorem sbl_size (l : List (Nat × Byts)) : ∀ e ∈ l, (sbl e).size = 2 := fun _ _ => rfl
/-- a row of blocks -/
def RowB (w : World) (v : Value) (l : List (Nat × Byts)) : Prop := w.ownsRow 0 140 2 v l.length (rowsL sbl l)
/-- a row of addresses -/
def RowA (w : World) (v : Value) (l : List Nat) : Prop := w.ownsRow 0 24 1 v l.length (u16s l)
theorem RowB.ch {w w' : World} {S : Nat → Prop} {v : Value} {l : List (Nat × Byts)} (h : RowB w v l) (hc : Ch S w w') (hn : ∀ k, v.ownBlock = some k → ¬ S k) : RowB w' v l := own_ch h hc hn
theorem RowA.ch {w w' : World} {S : Nat → Prop} {v : Value} {l : List Nat} (h : RowA w v l) (hc : Ch S w w') (hn : ∀ k, v.ownBlock = some k → ¬ S k) : RowA w' v l := own_ch h hc hn
theorem RowB.nil (w : World) : RowB w (.slice none 0 0) [] := World.ownsRow_nil _ _ _ _
theorem RowA.nil (w : World) : RowA w (.slice none 0 0) [] := World.ownsRow_nil _ _ _ _
theorem RowB.lit {w : World} {v : Value} {l : List (Nat × Byts)} (h : RowB w v l) : ∃ A c, v = .slice A l.length c := by
  rcases h.2 with ⟨rfl, h0⟩ | ⟨g, cap, cur, rfl, _⟩
  · exact ⟨none, 0, by rw [h0]⟩
  · exact ⟨_, _, rfl⟩
theorem RowA.lit {w : World} {v : Value} {l : List Nat} (h : RowA w v l) : ∃ A c, v = .slice A l.length c := by
  rcases h.2 with ⟨rfl, h0⟩ | ⟨g, cap, cur, rfl, _⟩
  · exact ⟨none, 0, by rw [h0]⟩
  · exact ⟨_, _, rfl⟩
theorem RowB.lt {w : World} {v : Value} {l : List (Nat × Byts)} (h : RowB w v l) : ∀ k, v.ownBlock = some k → k < w.heap.size := own_blt h
theorem RowA.lt {w : World} {v : Value} {l : List Nat} (h : RowA w v l) : ∀ k, v.ownBlock = some k → k < w.heap.size := own_blt h
/-- an element of a row of blocks: its two cells -/
theorem RowB.at {w : World} {v : Value} {l : List (Nat × Byts)} (h : RowB w v l) {i : Nat} {e : Nat × Byts} (hi : l[i]? = some e) : ∃ g cap, v = .slice (some ⟨g, 0, none⟩) l.length cap ∧ w.cell? ⟨g, i * 2, none⟩ = some (.int .u16 e.1) ∧ w.cell? ⟨g, i * 2 + 1, none⟩ = some (.string ⟨e.2.toArray⟩) := by
  have hl := (List.getElem?_eq_some_iff.1 hi).1
  obtain ⟨g, cap, cur, hv, _, _, hb, _, hr⟩ := ownS_blk h (by omega)
  have key : ∀ j u, (sbl e)[j]? = some u → (rowsL sbl l)[i * 2 + j]? = some u := fun j u hu => by
    have := rows_at (sbl_size l) hi hu
    simpa [rowsOf] using this
  exact ⟨g, cap, hv, hr _ _ (key 0 _ rfl), hr _ _ (key 1 _ rfl)⟩
theorem RowA.sl {w : World} {v : Value} {l : List Nat} (h : RowA w v l) : Sl w v l.length (u16s l) := Sl.of_own h
theorem tyU16 : Ty1 Try.prog 86 24 (.int .u16 0) 2 := ⟨Try.underlying86, by kernel_rfl, rfl⟩
theorem tySB : TyS Try.prog 85 140 (.agg #[.int .u16 0, .string ⟨#[]⟩]) 2 24 := ⟨Try.underlying85, by kernel_rfl, rfl, by decide⟩
/-- addresses below n, each once -/
def Nda (n : Nat) (l : List Nat) : Prop := l.Nodup ∧ ∀ x ∈ l, x < n
theorem Nda.len : ∀ {n : Nat} {l : List Nat}, Nda n l → l.length ≤ n
  | 0, [], _ => Nat.le_refl _
  | 0, x :: _, h => absurd (h.2 x (by simp)) (by omega)
  | n + 1, l, h => by
    by_cases hn : n ∈ l
    · have h1 : Nda n (l.erase n) := ⟨h.1.erase n, fun x hx => by
        have h2 := (h.1.mem_erase_iff).1 hx
        have := h.2 x h2.2
        omega⟩
      have := h1.len
      rw [List.length_erase_of_mem hn] at this
      omega
    · have h1 : Nda n l := ⟨h.1, fun x hx => by
        have := h.2 x hx
        have : x ≠ n := fun e => hn (e ▸ hx)
        omega⟩
      have := h1.len
      omega
theorem Nda.nil (n : Nat) : Nda n [] := ⟨List.nodup_nil, by simp⟩
theorem Nda.put {n a : Nat} {l : List Nat} (h : Nda n l) (ha : a < n) : Nda n (l.filter (· != a) ++ [a]) := by
  refine ⟨List.nodup_append.2 ⟨h.1.sublist List.filter_sublist, by simp, ?_⟩, ?_⟩
  · intro x hx y hy e
    simp at hx hy
    omega
  · intro x hx
    simp at hx
    rcases hx with hx | rfl
    · exact h.2 x hx.1
    · exact ha
/-- the values that a disk's own block names -/
structure Rn where
  mv : Value
  cv : Value
  bv : Value
  sv : Value
  av : Value
def rcs (n q : Nat) (z : Rn) (D : Dk) : Array Value := #[.int .i64 n, .pointer (some ⟨q, 0, none⟩), z.mv, z.cv, z.bv, z.sv, .bool D.dead, .bool D.lose, z.av]
def Rn.Y (z : Rn) : Nat → Prop := fun k => z.mv.ownBlock = some k ∨ z.bv.ownBlock = some k ∨ z.sv.ownBlock = some k ∨ z.av.ownBlock = some k
def Rn.X (z : Rn) (r : Nat) : Nat → Prop := fun k => k = r ∨ z.cv.ownBlock = some k
structure RkP (w : World) (r q n : Nat) (D : Dk) (O : Nat → Prop) (z : Rn) (lm : List (Nat × Byts)) (lb ls : List Nat) : Prop where
  blk : w.heap[r]? = some (.cells (rcs n q z D) 88 (0, 0))
  m : RowB w z.mv lm
  cache : RowB w z.cv D.cache
  bad : RowA w z.bv lb
  stuck : RowA w z.sv ls
  astray : RowA w z.av D.astray.toList
  mem : ∀ x, lastC lm x = D.m x
  bads : ∀ x, D.bad x = decide (x ∈ lb)
  stucks : ∀ x, D.stuck x = decide (x ∈ ls)
  ox : ∀ k, z.X r k → O k
  oy : ∀ k, z.Y k → O k
  yx : ∀ k, z.Y k → ¬ z.X r k
  ne : z.cv.ownBlock ≠ some r
  ok : D.Ok n
  nd : Nda n (lm.map (·.1)) ∧ Nda n lb ∧ Nda n ls
  nle : n ≤ 65536
  olt : ∀ k, O k → k < w.heap.size
/-- the document's disk in the blocks O; its list of blocks of at most so many -/
def RkAt (w : World) (r q n : Nat) (D : Dk) (O : Nat → Prop) : Prop := ∃ z lm lb ls, RkP w r q n D O z lm lb ls
section
variable {w w' : World} {S O O' : Nat → Prop} {r q n : Nat} {D : Dk} {z : Rn} {lm : List (Nat × Byts)} {lb ls : List Nat}
theorem RkP.ch (h : RkP w r q n D O z lm lb ls) (hc : Ch S w w') (hn : ∀ k, O k → ¬ S k) : RkP w' r q n D O z lm lb ls :=
  ⟨hc.obj h.blk (hn _ (h.ox _ (.inl rfl))), h.m.ch hc fun k hk => hn k (h.oy k (.inl hk)), h.cache.ch hc fun k hk => hn k (h.ox k (.inr hk)), h.bad.ch hc fun k hk => hn k (h.oy k (.inr (.inl hk))), h.stuck.ch hc fun k hk => hn k (h.oy k (.inr (.inr (.inl hk)))), h.astray.ch hc fun k hk => hn k (h.oy k (.inr (.inr (.inr hk)))),
    h.mem, h.bads, h.stucks, h.ox, h.oy, h.yx, h.ne, h.ok, h.nd, h.nle, fun k hk => Nat.lt_of_lt_of_le (h.olt k hk) hc.size⟩
theorem RkP.mono (h : RkP w r q n D O z lm lb ls) (ho : ∀ k, O k → O' k) (hl : ∀ k, O' k → k < w.heap.size) : RkP w r q n D O' z lm lb ls := ⟨h.blk, h.m, h.cache, h.bad, h.stuck, h.astray, h.mem, h.bads, h.stucks, fun k hk => ho k (h.ox k hk), fun k hk => ho k (h.oy k hk), h.yx, h.ne, h.ok, h.nd, h.nle, hl⟩
theorem RkAt.ch (h : RkAt w r q n D O) (hc : Ch S w w') (hn : ∀ k, O k → ¬ S k) : RkAt w' r q n D O := by
  obtain ⟨z, lm, lb, ls, h⟩ := h
  exact ⟨z, lm, lb, ls, h.ch hc hn⟩
end
end Go.Proofs.Ytmhnlgndgdmebaa
