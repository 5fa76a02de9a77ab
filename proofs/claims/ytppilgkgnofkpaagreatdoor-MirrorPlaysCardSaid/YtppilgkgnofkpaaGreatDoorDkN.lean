/- The disk's laws: wakes. No condition. -/
import Derived.Test.YtppilgkgnofkpaaGreatDoorAcA
set_option linter.unusedSimpArgs false
set_option linter.unusedVariables false

namespace Go.Proofs.YtppilgkgnofkpaaGreatDoor
open Go.RowKit Go.Kin

/-- a disk and its power -/
structure Sd (w : World) (d p n : Nat) (D : Dk) (P : Pwr) (O : Nat → Prop) : Prop where
  dk : DkAt w d p n D O
  pw : PwAt w p P
  pO : ¬ O p
theorem Pwr.step_fuse {P : Pwr} {k : Int} (h : P.fuse ≤ k) (hk : 0 ≤ k) : P.step.fuse ≤ k := by
  unfold Pwr.step
  split
  · exact h
  · split
    · show (-1 : Int) ≤ k; omega
    · split
      · show P.fuse - 1 ≤ k; omega
      · exact h
section
variable {w w' : World} {d p n : Nat} {D : Dk} {P : Pwr} {O S : Nat → Prop}
theorem Sd.ch (h : Sd w d p n D P O) (hc : Ch S w w') (hn : ∀ k, O k → ¬ S k) (hp : ¬ S p) : Sd w' d p n D P O := ⟨h.dk.ch hc hn, h.pw.ch hc hp, h.pO⟩
theorem Sd.plt (h : Sd w d p n D P O) : p < w.heap.size := lt_of_block h.pw
theorem Sd.olt (h : Sd w d p n D P O) : ∀ k, O k → k < w.heap.size := by
  obtain ⟨z, vs, Y, h1⟩ := h.dk
  exact h1.olt
theorem Sd.gr (h : Sd w d p n D P O) : ¬ Gr O w w' p := fun e => e.elim h.pO fun e => by have := h.plt; omega
theorem Sd.write0 (h : Sd w d p n D P O) (a : Nat) (ha : a < 65536) (b : Byts) (v : Value) (hfu : P.fuse ≤ 9223372036854775807) (hcl : D.cache.length ≤ 1000000) (hast : ∀ x, D.astray = some x → x < 65536) (hv : Sl w v b.length (bvs b)) (hvO : 0 < b.length → ∀ k, v.ownBlock = some k → ¬ O k ∧ k ≠ p) :
    Ret Tryz.prog 50 #[.pointer (some ⟨d, 0, none⟩), .int .u16 a, v] w fun v' w' => v' = .int .i64 (wrE (D.writes n P a b)) ∧ Sd w' d p n (D.write n P a b) (D.wpow n P a b) (Gr O w w') ∧ Ch (fun k => O k ∨ k = p) w w' := by
  obtain ⟨z, vs, Y, h1⟩ := h.dk
  refine (dkwrite_any a ha b v P h1 h.pw h.pO hfu hcl hast hv hvO).mono ?_
  rintro _ w1 ⟨rfl, h2, h3, h4, _⟩
  exact ⟨rfl, ⟨h2.at, h3, h.gr⟩, h4⟩
theorem Sd.write (h : Sd w d p n D P O) (a : Nat) (ha : a < 65536) (b : Byts) (v : Value) (hfu : P.fuse ≤ 9223372036854775807) (hcl : D.cache.length ≤ 1000000) (hast : ∀ x, D.astray = some x → x < 65536) (hv : Sl w v b.length (bvs b)) (hvO : ∀ k, v.ownBlock = some k → ¬ O k ∧ k ≠ p) :
    Ret Tryz.prog 50 #[.pointer (some ⟨d, 0, none⟩), .int .u16 a, v] w fun v' w' => v' = .int .i64 (wrE (D.writes n P a b)) ∧ Sd w' d p n (D.write n P a b) (D.wpow n P a b) (Gr O w w') ∧ Ch (fun k => O k ∨ k = p) w w' := h.write0 a ha b v hfu hcl hast hv fun _ => hvO
theorem Sd.flush (h : Sd w d p n D P O) (hfu : P.fuse ≤ 9223372036854775807) (hcl : D.cache.length ≤ 1000000) :
    Ret Tryz.prog 25 #[.pointer (some ⟨d, 0, none⟩)] w fun v' w' => v' = .int .i64 (if D.able P && P.made then 0 else 3) ∧ Sd w' d p n (if D.able P && P.made then D.flush else D) (if D.able P then P.step else P) (Gr O w w') ∧ Ch (fun k => O k ∨ k = p) w w' := by
  obtain ⟨z, vs, Y, h1⟩ := h.dk
  refine (flush_any P h1 h.pw h.pO hfu hcl).mono ?_
  rintro _ w1 ⟨rfl, h2, h3, h4⟩
  exact ⟨rfl, ⟨h2, h3, h.gr⟩, h4⟩
theorem Sd.crash (h : Sd w d p n D P O) (ps : List Int) (v : Value) (hcl : D.cache.length ≤ 1000000) (hps : ps.length ≤ 1000000) (hpr : ∀ x ∈ ps, -9223372036854775808 ≤ x ∧ x ≤ 9223372036854775807) (hv : Sl w v ps.length (ps.map (Value.int .i64))) (hvO : 0 < ps.length → ∀ k, v.ownBlock = some k → ¬ O k) :
    Ret Tryz.prog 26 #[.pointer (some ⟨d, 0, none⟩), v] w fun v' w' => v' = .tuple #[] ∧ Sd w' d p n (D.crash ps) P (Gr O w w') ∧ Ch O w w' := by
  obtain ⟨z, vs, Y, h1⟩ := h.dk
  refine (crash_any ps v h1 hcl hps hpr hv hvO).mono ?_
  rintro _ w1 ⟨rfl, h2, h3⟩
  exact ⟨rfl, ⟨h2, h.pw.ch h3 h.pO, h.gr⟩, h3⟩
theorem Sd.read (h : Sd w d p n D P O) (a : Nat) (ha : a < 65536) : Ret Tryz.prog 119 #[.pointer (some ⟨d, 0, none⟩), .int .u16 a] w fun v' w' => ReadR w n D P a v' w' ∧ Sd w' d p n D P O ∧ Ch Nw w w' := by
  obtain ⟨z, vs, Y, h1⟩ := h.dk
  refine (read_any a ha P h1 h.pw).mono ?_
  rintro _ w1 ⟨h2, h3⟩
  exact ⟨h2, h.ch h3 (fun _ _ e => e) id, h3⟩
theorem Sd.look (h : Sd w d p n D P O) (a : Nat) (ha : a < 65536) : Ret Tryz.prog 28 #[.pointer (some ⟨d, 0, none⟩), .int .u16 a] w fun v' w' => LookR w (D.look n a) v' w' ∧ Sd w' d p n D P O ∧ Ch Nw w w' := by
  obtain ⟨z, vs, Y, h1⟩ := h.dk
  refine (look_any a ha h1).mono ?_
  rintro _ w1 ⟨h2, h3⟩
  exact ⟨h2, h.ch h3 (fun _ _ e => e) id, h3⟩
theorem Sd.dead (h : Sd w d p n D P O) : Ret Tryz.prog 27 #[.pointer (some ⟨d, 0, none⟩)] w fun v' w' => v' = .bool D.dead ∧ w' = w := by
  obtain ⟨z, vs, Y, h1⟩ := h.dk
  exact dead_any h1
theorem Sd.lose (h : Sd w d p n D P O) : Ret Tryz.prog 57 #[.pointer (some ⟨d, 0, none⟩)] w fun v' w' => v' = .tuple #[] ∧ Sd w' d p n { D with lose := true } P (Gr O w w') ∧ Ch O w w' := by
  obtain ⟨z, vs, Y, h1⟩ := h.dk
  refine (lose_any h1).mono ?_
  rintro _ w1 ⟨rfl, h2, h3⟩
  have h4 : Ch O w w1 := h3.mono fun k _ e => by rw [e]; exact h1.ox d (.inl rfl)
  exact ⟨rfl, ⟨h2.grow (fun _ => .inl) h1.olt h3.size, h.pw.ch h4 h.pO, h.gr⟩, h4⟩
theorem Sd.die (h : Sd w d p n D P O) : Ret Tryz.prog 59 #[.pointer (some ⟨d, 0, none⟩)] w fun v' w' => v' = .tuple #[] ∧ Sd w' d p n { D with dead := true } P (Gr O w w') ∧ Ch O w w' := by
  obtain ⟨z, vs, Y, h1⟩ := h.dk
  refine (die_any h1).mono ?_
  rintro _ w1 ⟨rfl, h2, h3⟩
  have h4 : Ch O w w1 := h3.mono fun k _ e => by rw [e]; exact h1.ox d (.inl rfl)
  exact ⟨rfl, ⟨h2.grow (fun _ => .inl) h1.olt h3.size, h.pw.ch h4 h.pO, h.gr⟩, h4⟩
theorem Sd.astray (h : Sd w d p n D P O) (a : Nat) : Ret Tryz.prog 58 #[.pointer (some ⟨d, 0, none⟩), .int .u16 a] w fun v' w' => v' = .tuple #[] ∧ Sd w' d p n { D with astray := some a } P (Gr O w w') ∧ Ch O w w' := by
  obtain ⟨z, vs, Y, h1⟩ := h.dk
  refine (astray_any a h1).mono ?_
  rintro _ w1 ⟨rfl, h2, h3⟩
  have h4 : Ch O w w1 := h3.mono fun k _ e => by rw [e]; exact h1.ox d (.inl rfl)
  exact ⟨rfl, ⟨h2, h.pw.ch h4 h.pO, h.gr⟩, h4⟩
theorem Sd.bad (h : Sd w d p n D P O) (a : Nat) (ha : a < 65536) (hcl : D.cache.length ≤ 1000000) : Ret Tryz.prog 56 #[.pointer (some ⟨d, 0, none⟩), .int .u16 a] w fun v' w' => v' = .int .i64 (if a < n then 0 else 1) ∧ Sd w' d p n (if a < n then D.bads a else D) P (Gr O w w') ∧ Ch O w w' := by
  obtain ⟨z, vs, Y, h1⟩ := h.dk
  refine (dkbad_any a ha h1 hcl).mono ?_
  rintro _ w1 ⟨rfl, h2, h3⟩
  exact ⟨rfl, ⟨h2, h.pw.ch h3 h.pO, h.gr⟩, h3⟩
theorem Sd.stick (h : Sd w d p n D P O) (a : Nat) (ha : a < 65536) (hcl : D.cache.length ≤ 1000000) : Ret Tryz.prog 33 #[.pointer (some ⟨d, 0, none⟩), .int .u16 a] w fun v' w' => v' = .int .i64 (if a < n then 0 else 1) ∧ Sd w' d p n (if a < n then D.stick a else D) P (Gr O w w') ∧ Ch O w w' := by
  obtain ⟨z, vs, Y, h1⟩ := h.dk
  refine (stick_any a ha h1 hcl).mono ?_
  rintro _ w1 ⟨rfl, h2, h3⟩
  exact ⟨rfl, ⟨h2, h.pw.ch h3 h.pO, h.gr⟩, h3⟩
theorem Sd.rot0 (h : Sd w d p n D P O) (a : Nat) (ha : a < 65536) (b : Byts) (v : Value) (hcl : D.cache.length ≤ 1000000) (hv : Sl w v b.length (bvs b)) (hvO : 0 < b.length → ∀ k, v.ownBlock = some k → ¬ O k) : Ret Tryz.prog 31 #[.pointer (some ⟨d, 0, none⟩), .int .u16 a, v] w fun v' w' => v' = .int .i64 (if b.length = 512 ∧ a < n then 0 else 1) ∧ Sd w' d p n (if b.length = 512 ∧ a < n then D.rot a b else D) P (Gr O w w') ∧ Ch O w w' := by
  obtain ⟨z, vs, Y, h1⟩ := h.dk
  refine (rot_any a ha b v h1 hcl hv hvO).mono ?_
  rintro _ w1 ⟨rfl, h2, h3⟩
  exact ⟨rfl, ⟨h2, h.pw.ch h3 h.pO, h.gr⟩, h3⟩
theorem Sd.rot (h : Sd w d p n D P O) (a : Nat) (ha : a < 65536) (b : Byts) (v : Value) (hcl : D.cache.length ≤ 1000000) (hv : Sl w v b.length (bvs b)) (hvO : ∀ k, v.ownBlock = some k → ¬ O k) : Ret Tryz.prog 31 #[.pointer (some ⟨d, 0, none⟩), .int .u16 a, v] w fun v' w' => v' = .int .i64 (if b.length = 512 ∧ a < n then 0 else 1) ∧ Sd w' d p n (if b.length = 512 ∧ a < n then D.rot a b else D) P (Gr O w w') ∧ Ch O w w' := h.rot0 a ha b v hcl hv fun _ => hvO
end
/-- a new disk -/
theorem sd_new (n p : Nat) (w : World) (P : Pwr) (h1 : 1 ≤ n) (h2 : n ≤ 4096) (hp : PwAt w p P) : Ret Tryz.prog 38 #[.int .i64 n, .pointer (some ⟨p, 0, none⟩)] w fun v' w' => ∃ d, v' = .tuple #[.pointer (some ⟨d, 0, none⟩), .int .i64 0] ∧ Sd w' d p n Dk.new P (fun k => w.heap.size ≤ k ∧ k < w'.heap.size) ∧ Ch Nw w w' := by
  refine (dknew_any n p w h1 h2).mono ?_
  rintro _ w1 ⟨d, rfl, h3, h4⟩
  exact ⟨d, rfl, ⟨h3, hp.ch h4 id, fun e => by have := lt_of_block hp; omega⟩, h4⟩
/-- what a flush makes of a disk -/
def flushed (d : Dk) : Dk := ⟨fun x => (lastC d.cache x).or (d.m x), [], fun x => if (lastC d.cache x).isSome then false else d.bad x, d.stuck, d.dead, d.lose, d.astray⟩
theorem lastC_cons (a : Nat) (b : Byts) (l : List (Nat × Byts)) (x : Nat) : lastC ((a, b) :: l) x = (lastC l x).or (if a = x then some b else none) := by
  rw [lastC]
  rcases lastC l x with _ | c <;> rfl
theorem comes_full {d : Dk} (h : ∀ a b, d.m a = some b → b.length = 512) (a : Nat) (b : Byts) (hb : b.length = 512) : d.comes (a, b) 512 = { d with m := fun x => if x = a then some b else d.m x, bad := fun x => if x = a then false else d.bad x } := by
  have e : b.take 512 ++ (blockM d.m a).drop 512 = b := by
    rw [List.take_of_length_le (by omega), List.drop_of_length_le, List.append_nil]
    unfold blockM
    cases hm : d.m a with
    | none => rw [Option.getD_none, zb_len]; omega
    | some c => rw [Option.getD_some, h a c hm]; omega
  unfold Dk.comes
  simp only [e]
theorem flush_fold : ∀ (l : List (Nat × Byts)) (d : Dk), (∀ e ∈ l, e.2.length = 512) → (∀ a b, d.m a = some b → b.length = 512) →
    l.foldl (fun d e => d.comes e 512) d = { d with m := fun x => (lastC l x).or (d.m x), bad := fun x => if (lastC l x).isSome then false else d.bad x }
  | [], d, _, _ => by simp [lastC]
  | (a, b) :: l, d, h1, h2 => by
    have hb : b.length = 512 := h1 (a, b) (by simp)
    rw [List.foldl_cons, comes_full h2 a b hb, flush_fold l _ (fun e he => h1 e (by simp [he]))]
    · congr 1
      · funext x
        rw [lastC_cons]
        cases hl : lastC l x with
        | some c => simp
        | none =>
          by_cases hx : x = a
          · subst hx; simp
          · simp [hx, Ne.symm hx]
      · funext x
        rw [lastC_cons]
        cases hl : lastC l x with
        | some c => simp
        | none =>
          by_cases hx : x = a
          · subst hx; simp
          · simp [hx, Ne.symm hx]
    · intro x c hc
      simp only at hc
      split at hc
      · simp at hc; subst hc; exact hb
      · exact h2 x c hc
theorem flush_eq {n : Nat} {d : Dk} (h : d.Ok n) : d.flush = flushed d := by
  unfold Dk.flush
  rw [flush_fold d.cache d (fun e he => (h.cache e he).1) h.m]
  rfl
theorem full0 : fullB [] = Go.Kin.zb := by
  unfold fullB fullN Go.Kin.zb
  exact List.eq_replicate_iff.2 ⟨by simp, fun b hb => by
    obtain ⟨i, _, rfl⟩ := List.mem_map.1 hb
    simp⟩
theorem lit1 (w : World) (c : Int) (h : 0 ≤ c ∧ c < 256) : Sl (w.alloc (.cells #[.int .u8 c] 5)) (.slice (some ⟨w.heap.size, 0, none⟩) 1 1) 1 (bvs [UInt8.ofNat c.toNat]) := by
  have hh := Sl.of_own (Sl.lit w 5 [UInt8.ofNat c.toNat] 1 rfl (by decide))
  have e : (bvs [UInt8.ofNat c.toNat]).toArray = #[.int .u8 c] := by
    simp only [bvs, List.map_cons, List.map_nil, bv]
    rw [UInt8.toNat_ofNat_of_lt' (by simp [UInt8.size]; omega)]
    simp; omega
  rwa [e] at hh
theorem full_lit (w : World) (c : Int) (h : 0 ≤ c ∧ c < 256) {R : Value → World → Prop} (hR : ∀ v w', Mine 5 w v 512 (bvs (fullB [UInt8.ofNat c.toNat])) w' → R v w') : Ret Tryz.prog 32 #[.slice (some ⟨w.heap.size, 0, none⟩) 1 1] (w.alloc (.cells #[.int .u8 c] 5)) R := by
  refine (full_any _ [UInt8.ofNat c.toNat] _ (lit1 w c h) (by simp)).mono fun v w' hm => hR v w' ⟨hm.own, ((Ch.refl Nw w).alloc _).trans hm.ch, hm.fresh.mono (by simp)⟩
theorem on_pw (w : World) : Ret Tryz.prog 37 #[] w fun v' w' => v' = .pointer (some ⟨w.heap.size, 0, none⟩) ∧ PwAt w' w.heap.size Pwr.on ∧ Ch Nw w w' := (on_any w).mono fun _ _ h => ⟨h.1, h.2.1, h.2.2.1⟩
/-- a disk of nine blocks in a law, its power on; and what stays as it was in w0 -/
structure Fz (W w0 : World) (K : Nat → Prop) (w : World) (d p : Nat) (D : Dk) (O : Nat → Prop) : Prop where
  sd : Sd w d p 9 D Pwr.on O
  ge : ∀ k, O k → W.heap.size ≤ k
  pge : W.heap.size ≤ p
  kp : ∀ k, K k → ¬ O k ∧ k ≠ p ∧ k < w0.heap.size
  ck : Ch (fun k => ¬ K k) w0 w
  ch : Ch Nw W w
/-- and bytes that are nobody's -/
def FzV (W w0 : World) (K : Nat → Prop) (w : World) (d p : Nat) (D : Dk) (v : Value) (b : Byts) : Prop := ∃ O, Fz W w0 K w d p D O ∧ Sl w v 512 (bvs b) ∧ b.length = 512 ∧ ∀ k, v.ownBlock = some k → ¬ O k ∧ k ≠ p
section
variable {W w w' w0 : World} {d p : Nat} {D : Dk} {O K : Nat → Prop}
theorem Fz.step (h : Fz W w0 K w d p D O) {D' : Dk} (h1 : Sd w' d p 9 D' Pwr.on (Gr O w w')) (hc : Ch (fun k => O k ∨ k = p) w w') : Fz W w0 K w' d p D' (Gr O w w') := by
  have hs := h.ch.size
  have hs0 := h.ck.size
  refine ⟨h1, fun k hk => hk.elim (h.ge k) fun e => Nat.le_trans hs e.1, h.pge, fun k hk => ?_, h.ck.trans' hc fun k hk e hK => ?_, h.ch.trans' hc fun k hk e => ?_⟩
  · obtain ⟨a, b, c⟩ := h.kp k hk
    exact ⟨fun e => e.elim a fun e => by omega, b, c⟩
  · obtain ⟨a, b, c⟩ := h.kp k hK
    exact e.elim a b
  · rcases e with e | e
    · have := h.ge k e; omega
    · have := h.pge; omega
theorem Fz.stay (h : Fz W w0 K w d p D O) (hc : Ch Nw w w') : Fz W w0 K w' d p D O := ⟨h.sd.ch hc (fun _ _ e => e) id, h.ge, h.pge, h.kp, h.ck.trans' hc fun _ _ e => e.elim, h.ch.trans hc⟩
theorem Fz.hp (h : Fz W w0 K w d p D O) {k : Nat} (hk : K k) {cs : Array Value} {t : TypeId} (hb : w0.heap[k]? = some (.cells cs t (0, 0))) (i : Nat) : w.cell? ⟨k, i, none⟩ = cs[i]? := cell_blk (h.ck.hp hb fun e => e hk) i
theorem Fz.sl (h : Fz W w0 K w d p D O) {v : Value} {n : Nat} {xs : List Value} (hs : Sl w0 v n xs) (hk : ∀ k, v.ownBlock = some k → K k) : Sl w v n xs := hs.ch h.ck fun k e hn => hn (hk k e)
theorem run_sbytes (w : World) (l : Byts) (hm : l.length ≤ maxLen) : ∃ v' w', (convert 9 59 (.string ⟨l.toArray⟩)).run Tryz.prog w = .ok v' w' ∧ Sl w' v' l.length (bvs l) ∧ Fresh w.heap.size v' ∧ Ch Nw w w' := by
  have hr := run_bytes_of_string (P := Tryz.prog) w 9 59 5 ⟨l.toArray⟩ Tryz.underlying9 Tryz.underlying59 Tryz.underlying5
  refine ⟨_, _, hr, ?_, fun k hk => by simp [Value.ownBlock] at hk; omega, (Ch.refl Nw w).drew.alloc _⟩
  have h1 := grownCap_ge w l.length 0 5
  have h2 := grownCap_le_maxLen w l.length 0 5 hm
  refine ⟨some ⟨w.heap.size, 0, none⟩, _, rfl, h1, h2, fun _ => ⟨_, rfl, fun j u hu => ?_⟩⟩
  have hj : j < l.length := by have := (List.getElem?_eq_some_iff.1 hu).1; rwa [bvs_length] at this
  have hb : (w.drew.alloc (.cells (bytesRow ⟨l.toArray⟩ (grownCap w (ByteArray.size ⟨l.toArray⟩) 0 5)) 5 ((bytesRow ⟨l.toArray⟩ (grownCap w (ByteArray.size ⟨l.toArray⟩) 0 5)).size, (bytesRow ⟨l.toArray⟩ (grownCap w (ByteArray.size ⟨l.toArray⟩) 0 5)).size + 1))).heap[w.heap.size]? = _ := heap_alloc_new w.drew _
  have hv : (bytesRow ⟨l.toArray⟩ (grownCap w (ByteArray.size ⟨l.toArray⟩) 0 5))[j]? = some u := by
    unfold bytesRow
    rw [Array.getElem?_append_left (by simpa using hj)]
    simp only [bvs, List.getElem?_map] at hu
    simpa [bv] using hu
  rw [Addr.add_lit, Nat.zero_add]
  exact (cell_blk hb j).trans hv
/-- bytes of a text -/
theorem Fz.conv (h : Fz W w0 K w d p D O) (b : Byts) (hb : b.length = 512) : ∃ v' w', (convert 9 59 (.string ⟨b.toArray⟩)).run Tryz.prog w = .ok v' w' ∧ FzV W w0 K w' d p D v' b := by
  obtain ⟨v', w', h1, h2, h3, h4⟩ := run_sbytes w b (by rw [hb]; decide)
  refine ⟨v', w', h1, O, h.stay h4, by rw [← hb]; exact h2, hb, fun k hk => ?_⟩
  have := h3 k hk
  exact ⟨fun e => by have := h.sd.olt k e; omega, fun e => by have := h.sd.plt; omega⟩
theorem on_step : Pwr.on.step = Pwr.on := rfl
theorem FzV.write {v : Value} {b : Byts} (h : FzV W w0 K w d p D v b) (a : Nat) (ha : a < 9) (hd : D.dead = false) (hcl : D.cache.length ≤ 1000000) (hast : ∀ x, D.astray = some x → x < 65536) {D' : Dk} (hD : D.put 9 a b = D') :
    Ret Tryz.prog 50 #[.pointer (some ⟨d, 0, none⟩), .int .u16 a, v] w fun v' w' => v' = .int .i64 0 ∧ ∃ O', Fz W w0 K w' d p D' O' := by
  obtain ⟨O, h1, h2, h3, h4⟩ := h
  have hw : D.writes 9 Pwr.on a b = .ok := by
    unfold Dk.writes Dk.able
    rw [hd, if_neg (by decide), if_neg (by omega)]
    rfl
  have hp : D.wpow 9 Pwr.on a b = Pwr.on := by
    unfold Dk.wpow Dk.able
    rw [hd, if_neg (by decide), if_neg (by omega)]
    rfl
  refine (h1.sd.write a (by omega) b v (by decide) hcl hast (by rw [h3]; exact h2) h4).mono ?_
  rintro _ w1 ⟨rfl, h5, h6⟩
  rw [hp, show D.write 9 Pwr.on a b = D.put 9 a b from if_pos hw, hD] at h5
  exact ⟨by rw [hw]; rfl, _, h1.step h5 h6⟩
theorem FzV.writeDead {v : Value} {b : Byts} (h : FzV W w0 K w d p D v b) (a : Nat) (ha : a < 65536) (hd : D.dead = true) (hcl : D.cache.length ≤ 1000000) (hast : ∀ x, D.astray = some x → x < 65536) :
    Ret Tryz.prog 50 #[.pointer (some ⟨d, 0, none⟩), .int .u16 a, v] w fun v' w' => v' = .int .i64 3 ∧ ∃ O', Fz W w0 K w' d p D O' := by
  obtain ⟨O, h1, h2, h3, h4⟩ := h
  have hw : D.writes 9 Pwr.on a b = .dead := by
    unfold Dk.writes Dk.able
    rw [hd, if_pos (by decide)]
  have hp : D.wpow 9 Pwr.on a b = Pwr.on := by
    unfold Dk.wpow Dk.able
    rw [hd, if_pos (by decide)]
  refine (h1.sd.write a ha b v (by decide) hcl hast (by rw [h3]; exact h2) h4).mono ?_
  rintro _ w1 ⟨rfl, h5, h6⟩
  rw [hp, show D.write 9 Pwr.on a b = D from if_neg (by rw [hw]; decide)] at h5
  exact ⟨by rw [hw]; rfl, _, h1.step h5 h6⟩
theorem Fz.flush (h : Fz W w0 K w d p D O) (hd : D.dead = false) (hcl : D.cache.length ≤ 1000000) {D' : Dk} (hD : flushed D = D') :
    Ret Tryz.prog 25 #[.pointer (some ⟨d, 0, none⟩)] w fun v' w' => v' = .int .i64 0 ∧ ∃ O', Fz W w0 K w' d p D' O' := by
  have hab : (D.able Pwr.on && Pwr.on.made) = true := by unfold Dk.able; rw [hd]; rfl
  have hab2 : D.able Pwr.on = true := by unfold Dk.able; rw [hd]; rfl
  refine (h.sd.flush (by decide) hcl).mono ?_
  rintro _ w1 ⟨rfl, h5, h6⟩
  obtain ⟨_, _, _, h7⟩ := h.sd.dk
  rw [if_pos hab, if_pos hab2, on_step, flush_eq h7.ok, hD] at h5
  exact ⟨by rw [if_pos hab], _, h.step h5 h6⟩
theorem Fz.flushDead (h : Fz W w0 K w d p D O) (hd : D.dead = true) (hcl : D.cache.length ≤ 1000000) :
    Ret Tryz.prog 25 #[.pointer (some ⟨d, 0, none⟩)] w fun v' w' => v' = .int .i64 3 ∧ ∃ O', Fz W w0 K w' d p D O' := by
  have hab : ¬ (D.able Pwr.on && Pwr.on.made) = true := by unfold Dk.able; rw [hd]; decide
  have hab2 : ¬ D.able Pwr.on = true := by unfold Dk.able; rw [hd]; decide
  refine (h.sd.flush (by decide) hcl).mono ?_
  rintro _ w1 ⟨rfl, h5, h6⟩
  rw [if_neg hab, if_neg hab2] at h5
  exact ⟨by rw [if_neg hab], _, h.step h5 h6⟩
theorem Fz.crash (h : Fz W w0 K w d p D O) (hd : D.dead = false) (hcl : D.cache.length ≤ 1000000) {D' : Dk} (hD : ({ D with cache := [], lose := false, astray := none } : Dk) = D') :
    Ret Tryz.prog 26 #[.pointer (some ⟨d, 0, none⟩), .slice none 0 0] w fun v' w' => v' = .tuple #[] ∧ ∃ O', Fz W w0 K w' d p D' O' := by
  refine (h.sd.crash [] _ hcl (by simp) (by simp) (Sl.nil w) (by simp)).mono ?_
  rintro _ w1 ⟨rfl, h5, h6⟩
  have e : D.crash [] = D' := by
    unfold Dk.crash
    rw [hd, if_neg (by decide), List.zip_nil_right, ← hD]
    rfl
  rw [e] at h5
  exact ⟨rfl, _, h.step h5 (h6.mono fun _ _ e => .inl e)⟩
theorem Fz.lose (h : Fz W w0 K w d p D O) : Ret Tryz.prog 57 #[.pointer (some ⟨d, 0, none⟩)] w fun v' w' => v' = .tuple #[] ∧ ∃ O', Fz W w0 K w' d p { D with lose := true } O' := by
  refine h.sd.lose.mono ?_
  rintro _ w1 ⟨rfl, h5, h6⟩
  exact ⟨rfl, _, h.step h5 (h6.mono fun _ _ e => .inl e)⟩
theorem Fz.die (h : Fz W w0 K w d p D O) : Ret Tryz.prog 59 #[.pointer (some ⟨d, 0, none⟩)] w fun v' w' => v' = .tuple #[] ∧ ∃ O', Fz W w0 K w' d p { D with dead := true } O' := by
  refine h.sd.die.mono ?_
  rintro _ w1 ⟨rfl, h5, h6⟩
  exact ⟨rfl, _, h.step h5 (h6.mono fun _ _ e => .inl e)⟩
theorem Fz.astray (h : Fz W w0 K w d p D O) (a : Nat) : Ret Tryz.prog 58 #[.pointer (some ⟨d, 0, none⟩), .int .u16 a] w fun v' w' => v' = .tuple #[] ∧ ∃ O', Fz W w0 K w' d p { D with astray := some a } O' := by
  refine (h.sd.astray a).mono ?_
  rintro _ w1 ⟨rfl, h5, h6⟩
  exact ⟨rfl, _, h.step h5 (h6.mono fun _ _ e => .inl e)⟩
theorem Fz.bad (h : Fz W w0 K w d p D O) (a : Nat) (ha : a < 9) (hcl : D.cache.length ≤ 1000000) : Ret Tryz.prog 56 #[.pointer (some ⟨d, 0, none⟩), .int .u16 a] w fun v' w' => v' = .int .i64 0 ∧ ∃ O', Fz W w0 K w' d p (D.bads a) O' := by
  refine (h.sd.bad a (by omega) hcl).mono ?_
  rintro _ w1 ⟨rfl, h5, h6⟩
  rw [if_pos ha] at h5
  exact ⟨by rw [if_pos ha], _, h.step h5 (h6.mono fun _ _ e => .inl e)⟩
theorem Fz.stick (h : Fz W w0 K w d p D O) (a : Nat) (ha : a < 9) (hcl : D.cache.length ≤ 1000000) : Ret Tryz.prog 33 #[.pointer (some ⟨d, 0, none⟩), .int .u16 a] w fun v' w' => v' = .int .i64 0 ∧ ∃ O', Fz W w0 K w' d p (D.stick a) O' := by
  refine (h.sd.stick a (by omega) hcl).mono ?_
  rintro _ w1 ⟨rfl, h5, h6⟩
  rw [if_pos ha] at h5
  exact ⟨by rw [if_pos ha], _, h.step h5 (h6.mono fun _ _ e => .inl e)⟩
theorem FzV.rot {v : Value} {b : Byts} (h : FzV W w0 K w d p D v b) (a : Nat) (ha : a < 9) (hcl : D.cache.length ≤ 1000000) : Ret Tryz.prog 31 #[.pointer (some ⟨d, 0, none⟩), .int .u16 a, v] w fun v' w' => v' = .int .i64 0 ∧ ∃ O', Fz W w0 K w' d p (D.rot a b) O' := by
  obtain ⟨O, h1, h2, h3, h4⟩ := h
  refine (h1.sd.rot a (by omega) b v hcl (by rw [h3]; exact h2) fun k hk => (h4 k hk).1).mono ?_
  rintro _ w1 ⟨rfl, h5, h6⟩
  rw [if_pos ⟨h3, ha⟩] at h5
  exact ⟨by rw [if_pos ⟨h3, ha⟩], _, h1.step h5 (h6.mono fun _ _ e => .inl e)⟩
theorem FzV.rotOut {v : Value} {b : Byts} (h : FzV W w0 K w d p D v b) (a : Nat) (ha : a < 65536) (ha9 : 9 ≤ a) (hcl : D.cache.length ≤ 1000000) : Ret Tryz.prog 31 #[.pointer (some ⟨d, 0, none⟩), .int .u16 a, v] w fun v' w' => v' = .int .i64 1 ∧ ∃ O', Fz W w0 K w' d p D O' := by
  obtain ⟨O, h1, h2, h3, h4⟩ := h
  refine (h1.sd.rot a (by omega) b v hcl (by rw [h3]; exact h2) fun k hk => (h4 k hk).1).mono ?_
  rintro _ w1 ⟨rfl, h5, h6⟩
  rw [if_neg (by omega)] at h5
  exact ⟨by rw [if_neg (by omega)], _, h1.step h5 (h6.mono fun _ _ e => .inl e)⟩
theorem Fz.rotNil (h : Fz W w0 K w d p D O) (a : Nat) (ha : a < 65536) (hcl : D.cache.length ≤ 1000000) : Ret Tryz.prog 31 #[.pointer (some ⟨d, 0, none⟩), .int .u16 a, .slice none 0 0] w fun v' w' => v' = .int .i64 1 ∧ ∃ O', Fz W w0 K w' d p D O' := by
  refine (h.sd.rot a (by omega) [] _ hcl (Sl.nil w) fun k hk => by simp [Value.ownBlock] at hk).mono ?_
  rintro _ w1 ⟨rfl, h5, h6⟩
  rw [if_neg (by simp)] at h5
  exact ⟨by rw [if_neg (by simp)], _, h.step h5 (h6.mono fun _ _ e => .inl e)⟩
theorem Fz.readDead (h : Fz W w0 K w d p D O) (a : Nat) (ha : a < 65536) (hd : D.dead = true) : Ret Tryz.prog 119 #[.pointer (some ⟨d, 0, none⟩), .int .u16 a] w fun v' w' => v' = .tuple #[.slice none 0 0, .int .i64 3] ∧ ∃ O', Fz W w0 K w' d p D O' := by
  refine (h.sd.read a ha).mono ?_
  rintro v' w1 ⟨h5, _, h6⟩
  have e : readE 9 D Pwr.on a = 3 := by unfold readE Dk.able; rw [hd, if_pos (by decide)]
  rcases h5 with ⟨h5, _⟩ | ⟨_, h5⟩
  · rw [e] at h5; cases h5
  · exact ⟨by rw [h5, e], _, h.stay h6⟩
theorem Fz.lookDead (h : Fz W w0 K w d p D O) (a : Nat) (ha : a < 65536) (hd : D.dead = true) : Ret Tryz.prog 28 #[.pointer (some ⟨d, 0, none⟩), .int .u16 a] w fun v' w' => v' = .tuple #[.slice none 0 0, .bool false] ∧ ∃ O', Fz W w0 K w' d p D O' := by
  refine (h.sd.look a ha).mono ?_
  rintro v' w1 ⟨h5, _, h6⟩
  have e : D.look 9 a = none := by unfold Dk.look; rw [hd]; rfl
  rw [e] at h5
  exact ⟨h5, _, h.stay h6⟩
/-- what an address tells, as a text -/
def tellS (o : Option Byts) : Value := match o with
  | none => .string ⟨[98, 97, 100].toArray⟩
  | some b => .string ⟨b.toArray⟩
end
end Go.Proofs.YtppilgkgnofkpaaGreatDoor
