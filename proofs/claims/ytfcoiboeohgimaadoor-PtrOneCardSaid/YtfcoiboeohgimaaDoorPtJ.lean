/- Pointers that are known: their digests differ (by the kernel). No condition. -/
import Derived.Test.YtfcoiboeohgimaaDoorPtI
namespace Go.Proofs.YtfcoiboeohgimaaDoor
open Go.RowKit Go.Kin

theorem tag16 (p : Pt) : (putP p).take 16 = [UInt8.ofNat p.k, UInt8.ofNat p.l] ++ (le p.o 2 ++ (le p.f 4 ++ le p.b 8)) := by
  have e : putP p = ([UInt8.ofNat p.k, UInt8.ofNat p.l] ++ (le p.o 2 ++ (le p.f 4 ++ le p.b 8))) ++ (p.h ++ (p.a.flatMap (fun x => le x 2) ++ List.replicate 8 0)) := by
    simp [putP]
  rw [e, List.take_left' (by simp [le_length])]
theorem dig_seal (p : Pt) (b b' : List UInt8) : digS (sealP p b) b' = digS p b' := by
  unfold digS
  rw [tag16, tag16]
  rfl
theorem pS_put {p : Pt} (ok : PtOk p) (h : mayP p = true) : (ptS (putP p) 0).1 = p := by
  have hl := putP_length ok
  have e1 : rawS (putP p) 0 64 = (putP p, [], 0) := by
    unfold rawS
    rw [if_neg (by decide), if_neg (by omega), List.take_of_length_le (by omega), List.drop_of_length_le (by omega)]
  unfold ptS
  rw [e1]
  simp only []
  rw [if_neg (by omega), if_pos (tk_put ok (.inr h)), ptOf_put ok]
theorem madez (n : Nat) : madeCells (Value.int .u8 0).cells (n * 1) = (bvs (zb n)).toArray := by
  apply Array.ext'
  apply List.ext_getElem?
  intro i
  simp [madeCells, zb, bvs, bv, Value.cells]
  by_cases h : i < n
  · simp [h, Nat.mod_one]
  · simp [h]
theorem mkz (n : Nat) (w : World) (hn : n ≤ 1000000) : (Instr.makeSlice 30 (.int .i64 n) (.int .i64 n)).run Tryd.prog w = .ok (.slice (some ⟨w.heap.size, 0, none⟩) n n) (w.alloc (.cells (bvs (zb n)).toArray 5)) := by
  have h1 : (Tryd.prog.info? 5).isSome = true := by kernel_rfl
  obtain ⟨i, hi⟩ := Option.isSome_iff_exists.1 h1
  have h2 : (Tryd.prog.info? 5).map (·.size) = some 1 := by kernel_rfl
  have h3 : (Tryd.prog.info? 5).map (·.bytes) = some 1 := by kernel_rfl
  have h4 : (Tryd.prog.info? 5).bind (·.zero) = some (.int .u8 0) := by kernel_rfl
  rw [hi] at h2 h3 h4
  simp at h2 h3 h4
  have := run_makeSlice (P := Tryd.prog) w 30 5 i _ Tryd.underlying30 hi h4 .i64 .i64 n n (by omega) (Int.le_refl _) (by rw [h2]; omega) (by rw [h3]; omega) (by omega)
  rw [this, h2]
  simp only [Int.toNat_natCast, madez]
/-- zeros; all but one of them -/
def zeros : List UInt8 := zb 512
def zone : List UInt8 := (zb 512).set 9 1
theorem zeros_length : zeros.length = 512 := zb_length 512
theorem zone_length : zone.length = 512 := by unfold zone; rw [List.length_set, zb_length]
theorem mk512 (w : World) : (Instr.makeSlice 30 (.int .i64 512) (.int .i64 512)).run Tryd.prog w = .ok (.slice (some ⟨w.heap.size, 0, none⟩) 512 512) (w.alloc (.cells (bvs zeros).toArray 5)) := mkz 512 w (by decide)
theorem sl512 {w : World} {q : Nat} {l : List UInt8} {T : TypeId} (h : w.heap[q]? = some (.cells (bvs l).toArray T (0, 0))) (hl : l.length = 512) : Sl w (.slice (some ⟨q, 0, none⟩) 512 512) l.length (bvs l) := by
  rw [hl]
  exact Sl.of_blk h (Nat.le_refl _) (by decide) (by simp only [List.drop_zero]; rw [List.take_of_length_le (by simp [bvs_length, hl])])
/-- the known pointer -/
def wkq : Pt := ⟨1, 0, 7, 3, 9, zb 32, [5, 0, 6, 0]⟩
theorem wkq_ok : PtOk wkq := ⟨by decide, by decide, by decide, by decide, by decide, rfl, rfl, by simp [wkq]⟩
theorem wkq_ne : digS wkq zone ≠ digS wkq zeros := by decide +kernel
theorem wkq_may : mayP wkq = true := by decide
theorem ptz_may : mayP ptz = false := by decide
theorem seal_may (p : Pt) (b : List UInt8) : mayP (sealP p b) = mayP p := rfl
theorem blit_wkq : blit (blit (blit (blit (blit (pt ptz) 0 #[.int .u8 1]) 2 #[.int .u16 7]) 3 #[.int .u32 3]) 4 #[.int .u64 9]) 37 #[.int .u16 5, .int .u16 0, .int .u16 6, .int .u16 0] = pt wkq := by
  simp [blit, pt, ptz, wkq, bvs_length, zb_length, u16s, u16v]
theorem bld_wkq {w : World} {K : Value → World → Prop} : VBld Tryd.prog 28 [(0, .int .u8 1), (2, .int .u16 7), (3, .int .u32 3), (4, .int .u64 9), (6, .agg #[.int .u16 5, .int .u16 0, .int .u16 6, .int .u16 0])] w K = K (.agg (pt wkq)) w := by
  refine VBld_struct Tryd.underlying28 hz_pt (places := #[(0, 1), (1, 1), (2, 1), (3, 1), (4, 1), (5, 32), (37, 4)]) (by simp [go_sem]) ?_
  have hz : (pt ptz).size = 41 := pt_size ptz_ok
  simp [fillB, zc_pt, Value.cells, hz, blit_size]
  exact blit_wkq
attribute [irreducible] zeros zone
end Go.Proofs.YtfcoiboeohgimaaDoor
