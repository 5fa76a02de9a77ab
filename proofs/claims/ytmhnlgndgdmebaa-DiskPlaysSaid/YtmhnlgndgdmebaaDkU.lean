/- DiskTears: small facts of its walk. No condition. -/
import Derived.Test.YtmhnlgndgdmebaaDkT
namespace Go.Proofs.Ytmhnlgndgdmebaa
open Go.RowKit Go.Kin

section
variable {W u u' : World} {d p n c : Nat} {D : Dk} {O M : Nat → Prop} {mv : Value} {vs : List Value} {L : List (List Byts)}
theorem Ac.In.ch {w w' : World} {a : Ac} (h : a.In w) (hc : Ch Nw w w') : a.In w' := ⟨h.addr, h.d, h.k, h.n, h.sl.ch hc fun _ _ e => e, fun k h1 h2 => Nat.lt_of_lt_of_le (h.lt k h1 h2) hc.size, h.ps.ch hc fun _ _ e => e, fun k h1 h2 => Nat.lt_of_lt_of_le (h.plt k h1 h2) hc.size, h.pr⟩
/-- the cells of an act in a list -/
theorem lst_acts {w : World} {v : Value} {l : List Ac} (h : Lst w v acv 7 l) {i : Nat} {a : Ac} (hi : l[i]? = some a) : ∃ b off cp, v = .slice (some ⟨b, off, none⟩) l.length cp ∧ b < w.heap.size ∧ ∀ j x, (acv a)[j]? = some x → w.cell? ⟨b, off + i * 7 + j, none⟩ = some x := by
  obtain ⟨A, cp, rfl, _, _, h3⟩ := h
  obtain ⟨b, off, rfl, hb, hr⟩ := h3 (by have := (List.getElem?_eq_some_iff.1 hi).1; omega)
  exact ⟨b, off, cp, rfl, hb, fun j x hx => hr i a j x hi hx⟩
theorem Tm.able (h : Tm W u d p n D c O M mv vs L) : (D.able Pwr.on && Pwr.on.made) = true ∧ D.able Pwr.on = true := by
  unfold Dk.able
  rw [h.ql.dead]
  exact ⟨rfl, rfl⟩
theorem Tm.ok (h : Tm W u d p n D c O M mv vs L) : D.Ok n := by
  obtain ⟨_, _, _, h1⟩ := h.sd.dk
  exact h1.ok
theorem Tm.flush (h : Tm W u d p n D c O M mv vs L) (hc : c ≤ 1000000) :
    Ret Try.prog 29 #[.pointer (some ⟨d, 0, none⟩)] u fun v' u' => v' = .int .i64 0 ∧ ∃ O', Tm W u' d p n (flushed D) 0 O' M mv vs L := by
  refine (h.sd.flush (by decide) (by rw [h.ql.len]; exact hc)).mono ?_
  rintro _ w1 ⟨rfl, h5, h6⟩
  rw [if_pos h.able.1, if_pos h.able.2, on_step, flush_eq h.ok] at h5
  exact ⟨by rw [if_pos h.able.1], _, h.disk h5 h6 h.ql.flushed⟩
theorem Tm.look (h : Tm W u d p n D c O M mv vs L) (a : Nat) (ha : a < n) (hn : n < 65536) :
    Ret Try.prog 31 #[.pointer (some ⟨d, 0, none⟩), .int .u16 a] u fun v' u' => (∃ x b, v' = .tuple #[x, .bool true] ∧ b = (lastC D.cache a).getD (blockM D.m a) ∧ b.length = 512 ∧ Sl u' x 512 (bvs b)) ∧ Tm W u' d p n D c O M mv vs L ∧ Ch Nw u u' := by
  refine (h.sd.look a (by omega)).mono ?_
  rintro v' w1 ⟨h5, _, h6⟩
  rw [h.ql.look ha] at h5
  obtain ⟨x, rfl, h7, h8, _⟩ := h5
  exact ⟨⟨x, _, rfl, rfl, h7, h8⟩, h.stay h6, h6⟩
theorem Tm.cached (h : Tm W u d p n D c O M mv vs L) : Ret Try.prog 30 #[.pointer (some ⟨d, 0, none⟩)] u fun v' u' => v' = .int .i64 c ∧ u' = u := by
  refine h.sd.cached.mono ?_
  rintro _ _ ⟨rfl, rfl⟩
  exact ⟨by rw [h.ql.len], rfl⟩
theorem Tm.crash (h : Tm W u d p n D c O M mv vs L) (hc : c ≤ 1000000) (ps : List Int) (v : Value) (hps : ps.length ≤ 1000000) (hpr : ∀ x ∈ ps, -9223372036854775808 ≤ x ∧ x ≤ 9223372036854775807) (hv : Sl W v ps.length (ps.map (Value.int .i64))) (hvO : 0 < ps.length → ∀ k, v.ownBlock = some k → k < W.heap.size) :
    Ret Try.prog 32 #[.pointer (some ⟨d, 0, none⟩), v] u fun v' u' => v' = .tuple #[] ∧ ∃ O', Tm W u' d p n (D.crash ps) 0 O' M mv vs L := by
  refine (h.sd.crash ps v (by rw [h.ql.len]; exact hc) hps hpr (hv.ch h.ch fun _ _ e => e) fun h0 k hk e => ?_).mono ?_
  · have := hvO h0 k hk
    have := h.oge k e
    omega
  rintro _ w1 ⟨rfl, h5, h6⟩
  exact ⟨rfl, _, h.disk h5 (h6.mono fun _ _ e => .inl e) (h.ql.crash ps)⟩
/-- an act's bytes lie apart from all that is held -/
theorem Tm.away (h : Tm W u d p n D c O M mv vs L) {a : Ac} (ha : a.In W) {v : Value} (hw : a.short = true ∧ v = a.v ∨ Fresh u.heap.size v) (h0 : 0 < a.bytes.length) : ∀ k, v.ownBlock = some k → ¬ O k ∧ k ≠ p ∧ ¬ M k := by
  intro k hk
  have hp := h.pge
  have hpl := h.sd.plt
  rcases hw with ⟨hs, rfl⟩ | hf
  · have e : a.bytes = a.b := by unfold Ac.bytes; rw [if_pos hs]
    rw [e] at h0
    have := ha.lt k h0 hk
    exact ⟨fun e => by have := h.oge k e; omega, by omega, fun e => by have := (h.dis k e).2.2; omega⟩
  · have := hf k hk
    exact ⟨fun e => by have := h.sd.olt k e; omega, by omega, fun e => by have := h.my.lt k e; omega⟩
/-- a write of an act's bytes -/
theorem Tm.write (h : Tm W u d p n D c O M mv vs L) (hc : c ≤ 1000000) {a : Ac} (ha : a.In W) {v : Value} (hv : Sl u v a.bytes.length (bvs a.bytes)) {w0 : World} (hw0 : a.short = true ∧ v = a.v ∨ Fresh w0.heap.size v) (hO : ∀ k, O k → k < w0.heap.size) (hp : p < w0.heap.size) :
    Ret Try.prog 27 #[.pointer (some ⟨d, 0, none⟩), .int .u16 a.addr, v] u fun v' u' => v' = .int .i64 (if a.addr < n ∧ a.bytes.length = 512 then 0 else 1) ∧ ∃ O' D', Tm W u' d p n D' (if a.addr < n ∧ a.bytes.length = 512 then c + 1 else c) O' M mv vs L ∧ D'.m = D.m ∧ D'.cache = (if a.addr < n ∧ a.bytes.length = 512 then D.cache ++ [(a.addr, a.bytes)] else D.cache) ∧ Ch (fun k => O k ∨ k = p) u u' := by
  obtain ⟨q1, q2, q3, q4, q5⟩ := h.ql.put n a.addr a.bytes
  refine (h.sd.write0 a.addr ha.addr a.bytes v (by decide) (by rw [h.ql.len]; exact hc) (fun x hx => by rw [h.ql.astray] at hx; cases hx) hv fun h0 k hk => ?_).mono ?_
  · rcases hw0 with ⟨hs, rfl⟩ | hf
    · have e : a.bytes = a.b := by unfold Ac.bytes; rw [if_pos hs]
      rw [e] at h0
      have := ha.lt k h0 hk
      exact ⟨fun e => by have := h.oge k e; omega, fun e => by have := h.pge; omega⟩
    · have := hf k hk
      exact ⟨fun e => by have := hO k e; omega, fun e => by omega⟩
  rintro _ w1 ⟨rfl, h5, h6⟩
  rw [q2] at h5
  refine ⟨?_, _, _, h.disk h5 h6 q3, q4, q5, h6⟩
  rw [q1]
  split <;> rfl
end
/-- one more block's -/
theorem VB_push {w : World} {mv : Value} {vs : List Value} {L : List (List Byts)} {M : Nat → Prop} {ty : TypeId} {K : Value → World → Prop} (h : My w mv vs L M) (b : Byts) (hl : L.length ≤ 100)
    (hk : ∀ mv' u', My u' mv' (vs ++ [.slice (some ⟨w.heap.size, 0, none⟩) 1 1]) (L ++ [[b]]) (Gr M w u') → Ch M w u' → K mv' u') :
    VB Try.prog .append #[66, 66] ty #[mv, .slice (some ⟨w.heap.size + 1, 0, none⟩) 1 1] ((w.alloc (.cells #[.string ⟨b.toArray⟩] 9)).alloc (.cells #[.slice (some ⟨w.heap.size, 0, none⟩) 1 1] 69)) K := by
  have e : w.heap.size + 1 = (w.alloc (.cells #[.string ⟨b.toArray⟩] 9)).heap.size := by simp
  rw [e]
  refine VB_app1 tySs (h.own.alloc _) rfl (by unfold maxLen; omega) (by omega) fun v' u' k1 k2 k3 => hk v' u' (h.push b k1 k2 k3) ?_
  exact ((Ch.refl M w).alloc _).trans' k2 fun k _ e => h.mM k e
/-- what may stand in each block behind the writes c on the blocks m -/
def Lw (m : Nat → Option Byts) (c : List (Nat × Byts)) (n : Nat) : List (List Byts) := (List.range n).map fun x => blockM m x :: wr c x
theorem Lw_len (m : Nat → Option Byts) (c : List (Nat × Byts)) (n : Nat) : (Lw m c n).length = n := by simp [Lw]
theorem Lw_get {m : Nat → Option Byts} {c : List (Nat × Byts)} {n i : Nat} (h : i < n) : (Lw m c n)[i]? = some (blockM m i :: wr c i) := by simp [Lw, h]
theorem Lw_succ (m : Nat → Option Byts) (n : Nat) : Lw m [] (n + 1) = Lw m [] n ++ [[blockM m n]] := by
  unfold Lw
  rw [List.range_succ, List.map_append]
  rfl
theorem Lw_put {m : Nat → Option Byts} {c : List (Nat × Byts)} {n a : Nat} (h : a < n) (b : Byts) : (Lw m c n).set a (blockM m a :: wr c a ++ [b]) = Lw m (c ++ [(a, b)]) n := by
  refine List.ext_getElem? fun i => ?_
  rw [List.getElem?_set, Lw_len]
  by_cases hi : i < n
  · rw [Lw_get hi, Lw_get hi, wr_append]
    by_cases ha : a = i
    · subst ha
      simp [hi]
    · simp [ha]
  · have h1 : (Lw m c n)[i]? = none := List.getElem?_eq_none (by rw [Lw_len]; omega)
    have h2 : (Lw m (c ++ [(a, b)]) n)[i]? = none := List.getElem?_eq_none (by rw [Lw_len]; omega)
    rw [h1, h2, if_neg (by omega)]
theorem wr_len (c : List (Nat × Byts)) (x : Nat) : (wr c x).length ≤ c.length := by
  unfold wr
  rw [List.length_map]
  exact List.length_filter_le _ _
/-- in each block stands what may -/
structure Fit (n : Nat) (m : Nat → Option Byts) (L : List (List Byts)) : Prop where
  len : L.length = n
  each : ∀ (i : Nat) l, L[i]? = some l → Fits l (blockM m i)
theorem Fit.set {n : Nat} {m : Nat → Option Byts} {L : List (List Byts)} (h : Fit n m L) (i : Nat) (hb : (blockM m i).length = 512) : Fit n m (L.set i [blockM m i]) := by
  refine ⟨by simp [h.len], fun j l hl => ?_⟩
  rw [List.getElem?_set] at hl
  split at hl
  · rename_i hij
    split at hl
    · cases hl
      rw [← hij]
      exact Fits.self hb
    · cases hl
  · exact h.each j l hl
theorem fit_crash {n : Nat} {D : Dk} (h : D.Ok n) (hd : D.dead = false) (ps : List Int) : Fit n (D.crash ps).m (Lw D.m D.cache n) := by
  refine ⟨Lw_len _ _ _, fun i l hl => ?_⟩
  have hi : i < n := by have := (List.getElem?_eq_some_iff.1 hl).1; rwa [Lw_len] at this
  rw [Lw_get hi] at hl
  cases hl
  exact crash_fits h hd ps i
/-- a byte of a text -/
theorem str_get (l : Byts) (k : Nat) (x : UInt8) (hx : l[k]? = some x) : (⟨l.toArray⟩ : ByteArray)[k]? = some x := by
  obtain ⟨hk, he⟩ := List.getElem?_eq_some_iff.1 hx
  have hk2 : k < (⟨l.toArray⟩ : ByteArray).size := hk
  rw [getElem?_pos (⟨l.toArray⟩ : ByteArray) k hk2]
  exact congrArg some he
theorem run_index_str {P : Program} (t : TypeId) (ht : P.underlying t = some .string) (l : Byts) (k : Nat) (x : UInt8) (hx : l[k]? = some x) (w : World) : (Instr.index t (.string ⟨l.toArray⟩) (.int .i64 k)).run P w = .ok (.int .u8 x.toNat) w := by
  simp only [Instr.index, asIntOf, Sem.run_bind, Sem.run_pure, Result.andThen_ok, run_underlying ht]
  rw [if_pos (by omega), show ((k : Int)).toNat = k by omega, str_get l k x hx]
  rfl
end Go.Proofs.Ytmhnlgndgdmebaa
