/- Acts that lie in a world, apart from some blocks. No condition. -/
import Derived.Test.YtppilgkgnofkpaaGreatDoorDkJ
import Derived.Test.YtppilgkgnofkpaaGreatDoorOpn
set_option linter.unusedSimpArgs false
set_option linter.unusedVariables false

/- The disk's laws: their own functions. No condition but on sizes. -/
namespace Go.Proofs.YtppilgkgnofkpaaGreatDoor
open Go.RowKit Go.Kin

/-- bytes, again and again, to so many -/
def fullN (b : Byts) (n : Nat) : Byts := (List.range n).map fun i => b.getD (i % b.length) 0
def fullB (b : Byts) : Byts := fullN b 512
theorem fullN_len (b : Byts) (n : Nat) : (fullN b n).length = n := by simp [fullN]
theorem fullB_len (b : Byts) : (fullB b).length = 512 := fullN_len b 512
theorem fullN_succ (b : Byts) (n : Nat) : fullN b (n + 1) = fullN b n ++ [b.getD (n % b.length) 0] := by
  unfold fullN
  rw [List.range_succ, List.map_append]
  rfl
theorem full_any (v : Value) (b : Byts) (w : World) (hs : Sl w v b.length (bvs b)) (hlen : b.length ≤ 1000000) :
    Ret Tryz.prog 32 #[v] w fun v' w' => Mine 5 w v' 512 (bvs (fullB b)) w' := by
  refine v_enter Tryz.func32 Tryz.ntmps32 rfl (by simp) fun R' hR => ?_
  have hone : ∀ {u : World} {v : Value} {n : Nat} {l : List UInt8} (c : UInt8) {K : Value → World → Prop} {ty : TypeId}, Mine 5 w v n (bvs l) u → n ≤ 2000000 → (∀ v' u', Mine 5 w v' (n + 1) (bvs (l ++ [c])) u' → K v' u') → VB Tryz.prog .append #[59, 59] ty #[v, .slice (some ⟨u.heap.size, 0, none⟩) 1 1] (u.alloc (.cells #[.int .u8 c.toNat] 5)) K := by
    intro u v n l c K ty h1 h3 h4
    refine VB_app1 tyB h1.own rfl (by unfold maxLen; omega) (by omega) fun v' u' d4 d5 d6 => ?_
    have h5 := h1.grow d4 d5 d6
    exact h4 _ _ (by rw [bvs_append]; exact h5)
  simp [go_sem]
  refine v_loop (fun r f u => ∃ j, j ≤ 512 ∧ r = 512 - j ∧ f 0 = v ∧ Mine 5 w (f 3) j (bvs (fullN b j)) u) 512
    ⟨0, by omega, rfl, by simp, by simpa [fullN, bvs] using Mine.nil _ (Ch.refl Nw w)⟩ ?_
  rintro J hJ _ f u ⟨j, hj, rfl, f0, hm⟩
  have hlm := hm.sl.len Tryz.underlying59 3
  by_cases hj5 : j < 512
  · have hji : (j : Int) < 512 := by omega
    have hln := (hs.ch hm.ch fun _ _ e => e).len Tryz.underlying59 3
    have hnx := fullN_succ b j
    by_cases hb : b = []
    · subst hb
      simp at hnx
      simp [go_sem, hlm, hji, f0, hln]
      refine hone 0 hm (by omega) fun v' u' hm' => ?_
      simp [go_sem]
      exact Rnd.intro (512 - (j + 1)) (by omega) (hJ _ _ _ ⟨j + 1, by omega, rfl, by simp [f0], by rw [hnx]; simpa using hm'⟩)
    · have hbl : 0 < b.length := List.length_pos_iff.2 hb
      have hb0 : ((b.length : Int) == 0) = false := beq_false_of_ne (by omega)
      obtain ⟨i, hi⟩ : ∃ i, j % b.length = i := ⟨_, rfl⟩
      have hrem : (j : Int) % (b.length : Int) = (i : Int) := by rw [← hi]; omega
      have hrem2 : (j : Int).tmod (b.length : Int) = (i : Int) := by rw [Int.tmod_eq_emod_of_nonneg (by omega)]; exact hrem
      have hml : i < b.length := by rw [← hi]; exact Nat.mod_lt _ hbl
      rw [hi] at hnx
      obtain ⟨c, hc⟩ : ∃ c, b.getD i 0 = c := ⟨_, rfl⟩
      rw [hc] at hnx
      have hget : (bvs b)[i]? = some (.int .u8 c.toNat) := by
        unfold bvs
        rw [List.getElem?_map, List.getElem?_eq_getElem hml, ← hc, List.getD_eq_getElem?_getD, List.getElem?_eq_getElem hml]
        rfl
      obtain ⟨ad, hat, hcl, _⟩ := (hs.ch hm.ch fun _ _ e => e).at tyB (bvs_length b) hget
      simp [go_sem, hlm, hji, f0, hln, hb0, hb, hrem, hrem2, hat, hcl]
      refine hone c hm (by omega) fun v' u' hm' => ?_
      simp [go_sem]
      exact Rnd.intro (512 - (j + 1)) (by omega) (hJ _ _ _ ⟨j + 1, by omega, rfl, by simp [f0], by rw [hnx]; simpa using hm'⟩)
  · obtain rfl : j = 512 := by omega
    simp [go_sem, hlm]
    exact hR _ _ hm
/-- an act -/
structure Ac where
  d : Nat
  k : Nat
  addr : Nat
  v : Value
  b : Byts
  short : Bool
  n : Int
  pv : Value
  ps : List Int
def acv (a : Ac) : List Value := [.int .u8 a.d, .int .u8 a.k, .int .u16 a.addr, a.v, .bool a.short, .int .i64 a.n, a.pv]
def Ac.bytes (a : Ac) : Byts := if a.short then a.b else fullB a.b
/-- an act that lies in a world -/
structure Ac.In (w : World) (a : Ac) : Prop where
  addr : a.addr < 65536
  d : a.d < 256
  k : a.k < 256
  n : -9223372036854775808 ≤ a.n ∧ a.n ≤ 9223372036854775807
  sl : Sl w a.v a.b.length (bvs a.b)
  lt : ∀ k, 0 < a.b.length → a.v.ownBlock = some k → k < w.heap.size
  ps : Sl w a.pv a.ps.length (a.ps.map (Value.int .i64))
  plt : ∀ k, 0 < a.ps.length → a.pv.ownBlock = some k → k < w.heap.size
  pr : ∀ x ∈ a.ps, -9223372036854775808 ≤ x ∧ x ≤ 9223372036854775807
theorem great_any (v : Value) (L : List Ac) (w : World) (hL : Lst w v acv 7 L) (hin : ∀ a ∈ L, a.In w) :
    Ret Tryz.prog 30 #[v] w fun v' w' => ∃ g, v' = .bool g ∧ (g = false → L.length ≤ 100 ∧ ∀ a ∈ L, a.b.length ≤ 600 ∧ a.ps.length ≤ 200) ∧ w' = w := by
  refine v_enter Tryz.func30 Tryz.ntmps30 rfl (by simp) fun R' hR => ?_
  have hlen := hL.len Tryz.underlying90 3
  by_cases h100 : (100 : Int) < (L.length : Int)
  · simp [go_sem, hlen, h100]
    exact hR _ _ ⟨true, rfl, by simp, rfl⟩
  simp [go_sem, hlen, h100]
  obtain ⟨A0, c0, rfl, _, _, hrd⟩ := id hL
  refine v_loop (fun r f u => ∃ (i : Nat), r = L.length - i ∧ i ≤ L.length ∧ f 0 = .slice A0 L.length c0 ∧ f 3 = .int .i64 i ∧ (∀ j a, j < i → L[j]? = some a → a.b.length ≤ 600 ∧ a.ps.length ≤ 200) ∧ u = w) L.length
    ⟨0, rfl, by omega, by simp, by simp, fun j a h => absurd h (by omega), rfl⟩ ?_
  rintro J hJ _ f u ⟨i, rfl, hi, f0, f3, hall, rfl⟩
  by_cases hlt : i < L.length
  · obtain ⟨a, ha⟩ : ∃ a, L[i]? = some a := ⟨_, List.getElem?_eq_getElem hlt⟩
    obtain ⟨b, off, rfl, hblt, hrd⟩ := hrd (by omega)
    have q3 := hrd i a 3 _ ha rfl
    have q6 := hrd i a 6 _ ha rfl
    have hai := hin a (List.mem_of_getElem? ha)
    obtain ⟨A1, c1, hav, _⟩ := hai.sl
    obtain ⟨A2, c2, hap, _⟩ := hai.ps
    rw [hav] at q3
    rw [hap] at q6
    have hii : (i : Int) < L.length := by omega
    have hwi : IntKind.i64.wrap ((i : Int) + 1) = ((i + 1 : Nat) : Int) := by rw [IntKind.wrap_i64]; omega
    by_cases h6 : (600 : Int) < (a.b.length : Int)
    · simp [go_sem, f0, f3, hii, hlt, q3, h6]
      exact hR _ _ ⟨true, rfl, by simp, rfl⟩
    · by_cases h2 : (200 : Int) < (a.ps.length : Int)
      · simp [go_sem, f0, f3, hii, hlt, q3, q6, h6, h2]
        exact hR _ _ ⟨true, rfl, by simp, rfl⟩
      · simp [go_sem, f0, f3, hii, hlt, q3, q6, h6, h2, hwi]
        refine Rnd.intro (L.length - (i + 1)) (by omega) (hJ _ _ _ ⟨i + 1, rfl, by omega, by simp [f0], by simp, fun j a' hj ha' => ?_, rfl⟩)
        by_cases hji : j = i
        · subst hji
          rw [ha] at ha'
          cases ha'
          omega
        · exact hall j a' (by omega) ha'
  · obtain rfl : i = L.length := by omega
    simp [go_sem, f0, f3]
    refine hR _ _ ⟨false, rfl, fun _ => ⟨by omega, fun a ha => ?_⟩, rfl⟩
    obtain ⟨j, hj⟩ := List.mem_iff_getElem?.1 ha
    exact hall j a (List.getElem?_eq_some_iff.1 hj).1 hj
end Go.Proofs.YtppilgkgnofkpaaGreatDoor

namespace Go.Proofs.YtppilgkgnofkpaaGreatDoor
open Go.RowKit Go.Kin

/-- an act that lies in a world, its bytes and picks apart from X -/
structure Ac.At (w : World) (a : Ac) (X : Nat → Prop) : Prop where
  addr : a.addr < 65536
  d : a.d < 256
  n : -9223372036854775808 ≤ a.n ∧ a.n ≤ 9223372036854775807
  sl : Sl w a.v a.b.length (bvs a.b)
  vX : 0 < a.b.length → ∀ k, a.v.ownBlock = some k → ¬ X k ∧ k < w.heap.size
  bl : a.b.length ≤ 1000000
  ps : Sl w a.pv a.ps.length (a.ps.map (Value.int .i64))
  pX : 0 < a.ps.length → ∀ k, a.pv.ownBlock = some k → ¬ X k ∧ k < w.heap.size
  pl : a.ps.length ≤ 1000000
  pr : ∀ x ∈ a.ps, -9223372036854775808 ≤ x ∧ x ≤ 9223372036854775807
section
variable {w w1 w' : World} {S X : Nat → Prop}
theorem Ac.At.ch {a : Ac} (h : Ac.At w a X) (hc : Ch Nw w w') : Ac.At w' a X := ⟨h.addr, h.d, h.n, h.sl.ch hc fun _ _ e => e, fun h0 k hk => ⟨(h.vX h0 k hk).1, Nat.lt_of_lt_of_le (h.vX h0 k hk).2 hc.size⟩, h.bl, h.ps.ch hc fun _ _ e => e, fun h0 k hk => ⟨(h.pX h0 k hk).1, Nat.lt_of_lt_of_le (h.pX h0 k hk).2 hc.size⟩, h.pl, h.pr⟩
theorem Ac.At.bytes {a : Ac} (h : Ac.At w a X) {v : Value} {B : Nat} (hb : w.heap.size ≤ B) (hv : a.short = true ∧ v = a.v ∨ Fresh B v) (hX : ∀ k, X k → k < w.heap.size) (h0 : 0 < a.bytes.length) : ∀ k, v.ownBlock = some k → ¬ X k := by
  intro k hk
  rcases hv with ⟨hs, rfl⟩ | hf
  · have e : a.bytes = a.b := by unfold Ac.bytes; rw [if_pos hs]
    rw [e] at h0
    exact (h.vX h0 k hk).1
  · have := hf k hk
    exact fun e => by have := hX k e; omega
end
end Go.Proofs.YtppilgkgnofkpaaGreatDoor
