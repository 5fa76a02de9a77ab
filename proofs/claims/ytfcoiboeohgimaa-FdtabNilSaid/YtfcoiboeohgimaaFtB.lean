/- A table of descriptors: Object (a deferred recover). -/
import Derived.Test.YtfcoiboeohgimaaFtA
import Derived.Tactics
import Derived.Tactics2
import Derived.Defers
import Derived.Recover
import Derived.Laws.Pointers
namespace Go.Proofs.Ytfcoiboeohgimaa
open Go.RowKit Go.Kin

theorem catch_panicking (p : Addr) (x : Int) (u : TypeId) (pv : Value) (older : List PanicEntry) (w : World) (hc : w.cell? p = some (.int .u16 x)) (hz : w.frozen? p = false) :
    CallsD Try.prog 16 #[.pointer (some p)] (.panicking ({ v := .iface u pv, recovered := false } :: older)) w fun e u' w' =>
      e = .returned (.tuple #[]) ∧ u' = .panicking ({ v := .iface u pv, recovered := true } :: older) ∧ w' = w.setCell p (.int .u16 0) := by
  refine callsD_of_wpS Try.func16 rfl fun c₀ cs hu => ?_
  apply wpS_seq
  apply wpS_region
  simp [wpOpsS, go_sem, recoverD, hu, Try.ntmps16, Exit.thenS]
  refine wpS_cond (t := true) (by simp [Act.eval, Array.replicate]) ?_
  simp only [if_true]
  apply wpS_region
  simp [wpOpsS, go_sem, hc, hz, bodyPostS, results, Try.results16]
theorem catch_idle (p : Addr) (w : World) :
    CallsD Try.prog 16 #[.pointer (some p)] .returning w fun e u' w' => e = .returned (.tuple #[]) ∧ u' = .returning ∧ w' = w := by
  refine callsD_of_wpS Try.func16 rfl fun c₀ cs hu => ?_
  apply wpS_seq
  apply wpS_region
  simp [wpOpsS, go_sem, recoverD, hu, Try.ntmps16, Exit.thenS]
  refine wpS_cond (t := false) (by simp [Act.eval, Array.replicate]) ?_
  simp only [Bool.false_eq_true, if_false]
  refine wpS_of_wp (wp_skip ?_)
  cases c₀
  simp_all [bodyPostS, results, Try.results16]
theorem fobj_any (n : Nat) (b : Bool) (w : World) : Ret Try.prog 33 #[.agg #[.int .u16 n, .bool b]] w fun v' w' => v' = .int .u16 n ∧ Ch Nw w w' := by
  refine v_enter Try.func33 Try.ntmps33 rfl (by simp) fun R' hR => ?_
  have cel := fun i => cell_blk (hp_alloc w (.cells #[.int .u16 n, .bool b] 36)) i
  simp [go_sem, cel]
  exact hR _ _ ⟨rfl, (Ch.refl Nw w).alloc _⟩
theorem dobj_any (n : Nat) (w : World) : Ret Try.prog 34 #[.agg #[.int .u16 n]] w fun v' w' => v' = .int .u16 n ∧ Ch Nw w w' := by
  refine v_enter Try.func34 Try.ntmps34 rfl (by simp) fun R' hR => ?_
  have cel := fun i => cell_blk (hp_alloc w (.cells #[.int .u16 n] 38)) i
  simp [go_sem, cel]
  exact hR _ _ ⟨rfl, (Ch.refl Nw w).alloc _⟩
theorem as_num (w : World) (x : Hd) (t : TypeId) : (Instr.typeAssert (hv (some x)) t 58 false).run Try.prog w = .ok (hv (some x)) w := by
  rcases x with _ | _ <;> simp [hv, Instr.typeAssert, go_sem]
  · rw [show Instr.missingMethod #[("kintsugi/fdtab.object", 59)] Try.t36.methods = none by kernel_rfl]; rfl
  · rw [show Instr.missingMethod #[("kintsugi/fdtab.object", 59)] Try.t38.methods = none by kernel_rfl]; rfl
theorem obj_none {p : Value} {h : Int → Option Hd × Int} (fd : Int) {w : World} (t : PTb w p h) (hn : (h fd).1 = none) :
    Ret Try.prog 14 #[p, .int .i64 fd] w fun v' w' => v' = .tuple #[.int .u16 0, .int .i64 (h fd).2] ∧ Ch Nw w w' := by
  have hmf : ∀ (fn : Fn) (first cap : Array Value) (w : World), (Instr.makeFunc fn first cap).run Try.prog w = .ok (.func fn first cap) w := fun _ _ _ _ => rfl
  have hc := (Ch.refl Nw w).alloc (.cells #[.int .u16 0] 27)
  have hb := hp_alloc w (.cells #[.int .u16 0] 27)
  have t1 := t.ch hc
  have hh := handle_p fd t1
  rw [hn, show hv none = .nilIface from rfl] at hh
  generalize (h fd).2 = e2 at *
  have he : ∀ w, ∃ E, (elemOf 15).run Try.prog w = .ok E w := fun w => ⟨_, by simp [elemOf, go_sem]; rfl⟩
  obtain ⟨E, he⟩ := he (w.alloc (.cells #[.int .u16 0] 27))
  obtain ⟨O, hO⟩ : ∃ O : Obj, O = .cells #[.pointer none, .pointer none, typeHandle Try.prog 58, strVal ""] E := ⟨_, rfl⟩
  have hta : (Instr.typeAssert .nilIface 20 58 false).run Try.prog (w.alloc (.cells #[.int .u16 0] 27)) = .halt (.panic (.iface 15 (.pointer (some ⟨w.heap.size + 1, 0, none⟩)))) ((w.alloc (.cells #[.int .u16 0] 27)).alloc O) := by
    rw [hO]
    simp [Instr.typeAssert, go_sem, he]
  have b2 := ((Ch.refl Nw (w.alloc (.cells #[.int .u16 0] 27))).alloc O).hp hb id
  have cel := fun i => cell_blk b2 i
  have fz := fun i => frz_blk b2 i
  unfold Ret
  go_enter_defers Try.func14, Try.ntmps14
  go_wp2_with (go_at_call 15; refine hh.calls.mono ?_; rintro e w' ⟨v, rfl, rfl, rfl⟩)
  refine leaves_cons (f := 16) (args := #[.pointer (some ⟨w.heap.size, 0, none⟩)]) (by simp) (by simp [go_sem]) ?_
  refine (catch_panicking ⟨w.heap.size, 0, none⟩ 0 15 _ [] _ ?_ ?_).mono ?_
  · simp [cel]
  · simp [fz]
  rintro e u' w'' ⟨rfl, rfl, rfl⟩
  simp [Leaves, settle, results, Try.results14, go_sem, cel]
  exact ((Ch.refl Nw w).alloc _).alloc _
theorem obj_file {p : Value} {h : Int → Option Hd × Int} (fd : Int) {w : World} (t : PTb w p h) {n : Nat} {b : Bool} (hn : h fd = (some (.file n b), 0)) :
    Ret Try.prog 14 #[p, .int .i64 fd] w fun v' w' => v' = .tuple #[.int .u16 n, .int .i64 0] ∧ Ch Nw w w' := by
  have hmf : ∀ (fn : Fn) (first cap : Array Value) (w : World), (Instr.makeFunc fn first cap).run Try.prog w = .ok (.func fn first cap) w := fun _ _ _ _ => rfl
  have hc := (Ch.refl Nw w).alloc (.cells #[.int .u16 0] 27)
  have hb := hp_alloc w (.cells #[.int .u16 0] 27)
  have t1 := t.ch hc
  have hh := handle_p fd t1
  rw [hn] at hh
  have hta := as_num (w.alloc (.cells #[.int .u16 0] 27)) (.file n b) 20
  simp only [hv] at hh hta
  have hme : ∀ v w, (method 177 36 v "kintsugi/fdtab.object").run Try.prog w = .ok (33, v) w := fun _ _ => by kernel_rfl
  have hcf : ∀ v w, (callFunc 33 #[v]).run Try.prog w = .ok (.enter 33 #[v]) w := fun _ _ => by kernel_rfl
  unfold Ret
  go_enter_defers Try.func14, Try.ntmps14
  go_wp2_with (first | (go_at_call 15; refine hh.calls.mono ?_; rintro e w' ⟨v, rfl, rfl, rfl⟩) | (go_at_call 33; refine (fobj_any n b _).calls.mono ?_; rintro e w' ⟨v, rfl, rfl, hc2⟩; have cel := (cell_blk (hc2.hp hb id) 0); have fz := (frz_blk (hc2.hp hb id) 0)))
  refine leaves_cons (f := 16) (args := #[.pointer (some ⟨w.heap.size, 0, none⟩)]) (by simp) (by simp [go_sem]) ?_
  refine (catch_idle ⟨w.heap.size, 0, none⟩ _).mono ?_
  rintro e u' w'' ⟨rfl, rfl, rfl⟩
  have b3 : (World.setCell w' ⟨w.heap.size, 0, none⟩ (.int .u16 n)).heap[w.heap.size]? = some (.cells #[.int .u16 n] 27 (0, 0)) := by
    rw [hp_setCell, hc2.hp hb id]; rfl
  have cel3 := fun i => cell_blk b3 i
  simp [Leaves, settle, results, Try.results14, go_sem, cel3]
  exact (hc.trans hc2).setCell (.inr (by simp)) _
theorem obj_dir {p : Value} {h : Int → Option Hd × Int} (fd : Int) {w : World} (t : PTb w p h) {n : Nat} (hn : h fd = (some (.dir n), 0)) :
    Ret Try.prog 14 #[p, .int .i64 fd] w fun v' w' => v' = .tuple #[.int .u16 n, .int .i64 0] ∧ Ch Nw w w' := by
  have hmf : ∀ (fn : Fn) (first cap : Array Value) (w : World), (Instr.makeFunc fn first cap).run Try.prog w = .ok (.func fn first cap) w := fun _ _ _ _ => rfl
  have hc := (Ch.refl Nw w).alloc (.cells #[.int .u16 0] 27)
  have hb := hp_alloc w (.cells #[.int .u16 0] 27)
  have t1 := t.ch hc
  have hh := handle_p fd t1
  rw [hn] at hh
  have hta := as_num (w.alloc (.cells #[.int .u16 0] 27)) (.dir n) 20
  simp only [hv] at hh hta
  have hme : ∀ v w, (method 177 38 v "kintsugi/fdtab.object").run Try.prog w = .ok (34, v) w := fun _ _ => by kernel_rfl
  have hcf : ∀ v w, (callFunc 34 #[v]).run Try.prog w = .ok (.enter 34 #[v]) w := fun _ _ => by kernel_rfl
  unfold Ret
  go_enter_defers Try.func14, Try.ntmps14
  go_wp2_with (first | (go_at_call 15; refine hh.calls.mono ?_; rintro e w' ⟨v, rfl, rfl, rfl⟩) | (go_at_call 34; refine (dobj_any n _).calls.mono ?_; rintro e w' ⟨v, rfl, rfl, hc2⟩; have cel := (cell_blk (hc2.hp hb id) 0); have fz := (frz_blk (hc2.hp hb id) 0)))
  refine leaves_cons (f := 16) (args := #[.pointer (some ⟨w.heap.size, 0, none⟩)]) (by simp) (by simp [go_sem]) ?_
  refine (catch_idle ⟨w.heap.size, 0, none⟩ _).mono ?_
  rintro e u' w'' ⟨rfl, rfl, rfl⟩
  have b3 : (World.setCell w' ⟨w.heap.size, 0, none⟩ (.int .u16 n)).heap[w.heap.size]? = some (.cells #[.int .u16 n] 27 (0, 0)) := by
    rw [hp_setCell, hc2.hp hb id]; rfl
  have cel3 := fun i => cell_blk b3 i
  simp [Leaves, settle, results, Try.results14, go_sem, cel3]
  exact (hc.trans hc2).setCell (.inr (by simp)) _
theorem obj_p {p : Value} {h : Int → Option Hd × Int} (fd : Int) {w : World} (t : PTb w p h) :
    Ret Try.prog 14 #[p, .int .i64 fd] w fun v' w' => v' = .tuple #[.int .u16 (objS (h fd)).1, .int .i64 (objS (h fd)).2] ∧ Ch Nw w w' := by
  rcases t.ok fd with ⟨h1, h2⟩ | ⟨x, h1, h2⟩
  · refine (obj_none fd t h1).mono ?_
    rintro _ w' ⟨rfl, hc⟩
    generalize h fd = r at *
    obtain ⟨r1, r2⟩ := r
    simp only at h1
    subst h1
    exact ⟨rfl, hc⟩
  · have hr : h fd = (some x, 0) := by rw [← h1, ← h2]
    rcases x with ⟨n, b⟩ | n
    · rw [hr]; exact obj_file fd t hr
    · rw [hr]; exact obj_dir fd t hr
end Go.Proofs.Ytfcoiboeohgimaa
