/- WireReads, walked. No condition but on sizes. -/
import Derived.Test.YtbodlpncejhliaaWireD
import Derived.Test.YtbodlpncejhliaaReadsA
namespace Go.Proofs.Ytbodlpncejhliaa
open Go.RowKit Go.Kin

/-- a reader whose bytes lie in no block ahead of B -/
def RdrF (B : Nat) (w : World) (g : Nat) (l : List UInt8) (e : Int) : Prop :=
  ∃ v, w.heap[g]? = some (.cells #[v, .int .i64 e] 65 (0, 0)) ∧ Sl w v l.length (bvs l) ∧ v.ownBlock ≠ some g ∧ Fresh B v
theorem RdrF.rdr {B : Nat} {w : World} {g : Nat} {l : List UInt8} {e : Int} (h : RdrF B w g l e) : Rdr w g l e := by
  obtain ⟨v, h1, h2, h3, _⟩ := h
  exact ⟨v, h1, h2, h3⟩
theorem RdrF.ch {B k : Nat} {w w' : World} {g : Nat} {l : List UInt8} {e : Int} (h : RdrF B w g l e) (hc : Ch (only k) w w') (hk : k < B) (hg : k ≠ g) : RdrF B w' g l e := by
  obtain ⟨v, h1, h2, h3, h4⟩ := h
  exact ⟨v, hc.obj h1 (fun e => hg e.symm), h2.ch hc (fun j hj e => by have := h4 j hj; unfold only at e; omega), h3, h4⟩
theorem new_fresh (v : Value) (l : List UInt8) (w : World) (hl : l.length ≤ 1000000000) (hs : Sl w v l.length (bvs l)) :
    Ret Try.prog 14 #[v] w fun v' w' => ∃ g, v' = .pointer (some ⟨g, 0, none⟩) ∧ w.heap.size ≤ g ∧ RdrF w.heap.size w' g l 0 ∧ Ch Nw w w' := by
  refine v_enter Try.func14 Try.ntmps14 rfl (by simp) fun R' hR => ?_
  simp [go_sem]
  refine (clone_any v _ _ w hl rfl hs).mono ?_
  rintro v1 w1 ⟨k1, k2, k3⟩
  obtain ⟨A, c, rfl, _⟩ := Sl.of_own k1
  simp [go_sem]
  refine hR _ _ ⟨w1.heap.size, rfl, k2.size, ⟨_, heap_alloc_new w1 _, (Sl.of_own k1).alloc _, fun e => ?_, k3⟩, k2.alloc _⟩
  have := (k1.lt _ e).2
  omega

/-- an element of one's own row is set -/
theorem own_set {P : Program} {t e : TypeId} {z : Value} {bytes : Nat} (T : Ty1 P t e z bytes) {w : World} {v : Value} {n : Nat} {xs : List Value} (h : w.ownsRow 0 e 1 v n xs) {i : Nat} (hi : i < n) :
    ∃ a, (∀ w', (Instr.indexAt t v (.int .i64 i)).run P w' = .ok (.pointer (some a)) w') ∧ (∃ o, w.cell? a = some o) ∧ w.frozen? a = false ∧ v.ownBlock = some a.block ∧ ∀ x, (w.setCell a x).ownsRow 0 e 1 v n (xs.set i x) := by
  have hsl := Sl.of_own h
  obtain ⟨hlen, h⟩ := h
  have hi' : i < xs.length := by omega
  obtain ⟨a, h1, h2, h3⟩ := hsl.at T (by omega) (List.getElem?_eq_getElem hi')
  rcases h with ⟨rfl, rfl⟩ | ⟨g, cap, cur, rfl, hg0, hb, hc, hm, hsz, ht⟩
  · omega
  · obtain ⟨ti, hti, _, hsize, _⟩ := info_parts T.info
    have ha : a = ⟨g, i, none⟩ := by
      have h4 : ¬ n ≤ i := by omega
      have := h1 w
      simp [Instr.indexAt, asIntOf, run_underlying T.und, sizeOf, typeInfo, hti, hsize, hi] at this
      rw [← this]
      simp [Addr.add]
      omega
    subst ha
    refine ⟨_, h1, ⟨_, h2⟩, by simp [World.frozen?, hb], rfl, fun x => ⟨by simpa using hlen, .inr ⟨g, cap, cur.set! i x, rfl, hg0, ?_, hc, hm, by simpa using hsz, ?_⟩⟩⟩
    · simp [World.setCell, Array.getElem?_modify, hb]
    · rw [← ht]
      simp [List.take_set]

/-- asks: the slice v has n pairs -/
def Asks (w : World) (v : Value) (n : Nat) (D N : Nat → Int) : Prop :=
  ∃ A c, v = .slice A n c ∧ n ≤ c ∧ c ≤ maxLen ∧ (0 < n → ∃ ad, A = some ad ∧ ad.block < w.heap.size ∧ ∀ j, j < n → w.cell? (ad.add (j * 2)) = some (.int .u8 (D j)) ∧ w.cell? (ad.add (j * 2 + 1)) = some (.int .i64 (N j)) ∧ N j ≤ 9223372036854775807)

theorem rawS_len (l : List UInt8) (e : Int) (n : Nat) : (rawS l e n).2.1.length ≤ l.length := by
  unfold rawS
  split
  · exact Nat.le_refl _
  · split <;> simp
theorem failS_len (l : List UInt8) (e x : Int) : (failS l e x).1.length ≤ l.length := by
  unfold failS
  split <;> simp
theorem askS_len (l : List UInt8) (e d n : Int) : (askS l e d n).1.length ≤ l.length := by
  unfold askS noughtS endS
  repeat' split
  all_goals first | exact rawS_len _ _ _ | exact failS_len _ _ _ | exact Nat.le_trans (failS_len _ _ _) (rawS_len _ _ _) | exact Nat.le_refl _
theorem asks_len {w : World} {v : Value} {n : Nat} {D N : Nat → Int} (h : Asks w v n D N) (w' : World) : (Builtin.len_ #[46] 3 #[v]).run Try.prog w' = .ok (.int .i64 n) w' := by
  obtain ⟨A, c, rfl, h1, h2, h3⟩ := h
  simp [go_sem]

theorem reads_any (v u : Value) (l : List UInt8) (n : Nat) (D N : Nat → Int) (w : World) (hl : l.length ≤ 1000) (hn : n ≤ 100) (hs : Sl w v l.length (bvs l)) (ha : Asks w u n D N) (hltw : ∀ k, v.ownBlock = some k → k < w.heap.size) :
    Ret Try.prog 5 #[v, u] w fun v' w' => v' = .bool true ∧ Ch Nw w w' := by
  obtain ⟨A, c, rfl, _⟩ := id hs
  have hlen := hs.len Try.underlying22 3
  have hlen2 := asks_len ha
  have hl' : ¬ (1000 : Int) < (l.length : Int) := by omega
  have hn' : ¬ (100 : Int) < (n : Int) := by omega
  refine v_enter Try.func5 Try.ntmps5 rfl (by simp) fun R' hR => ?_
  simp [go_sem, hlen, hlen2, hl', hn']
  refine VB_copyOf tyB hs (bvs_length l) (bvs_one _) (by unfold maxLen; omega) (by omega) fun v1 w1 k1 k2 k3 => ?_
  simp [go_sem]
  refine (new_fresh v1 l w1 (by omega) (Sl.of_own k1)).mono ?_
  rintro _ w2 ⟨g, rfl, hg0, hg2, hc2⟩
  simp [go_sem]
  refine v_loop (fun q f wr => ∃ k : Nat, k ≤ l.length ∧ q = l.length - k ∧ f 0 = .slice A l.length c ∧ f 1 = u ∧ f 5 = v1 ∧ f 6 = .pointer (some ⟨g, 0, none⟩) ∧ f 7 = .int .i64 k ∧ (∃ xs, wr.ownsRow 0 5 1 v1 l.length xs) ∧ RdrF w1.heap.size wr g l 0 ∧ Ch Nw w wr) l.length
    ⟨0, Nat.zero_le _, rfl, by simp, by simp, by simp, by simp, by simp, ⟨_, own_ch k1 hc2 fun _ _ e => e⟩, hg2, k2.trans hc2⟩ ?_
  rintro J hJ _ f wr ⟨k, hk, rfl, h0, h1, h5, h6, h7, ⟨xs, hx⟩, hg, hc⟩
  have hlx : xs.length = l.length := by simpa using hx.1
  have hlen5 := (Sl.of_own hx).len Try.underlying22 3
  simp [go_sem, h5, h7, hlen5]
  refine VIf_dec (fun hlt => ?_) (fun hge => ?_)
  · obtain ⟨a, ha1, ⟨o, ha2⟩, ha3, ha4, ha5⟩ := own_set tyB hx hlt
    have hab := (hx.lt _ ha4).2
    have hab2 := k3 _ ha4
    have hab3 := (k1.lt _ ha4).2
    simp [go_sem, h5, h7, ha1, ha2, ha3]
    refine Rnd.intro (l.length - (k + 1)) (by omega) (hJ _ _ _ ⟨k + 1, by omega, rfl, by simpa using h0, by simpa using h1, by simpa using h5, by simpa using h6, by simp [IntKind.wrap_i64]; omega, ⟨_, ha5 _⟩, ?_, ?_⟩)
    · exact hg.ch (k := a.block) ((Ch.refl (only a.block) _).setCell (p := a) (.inl rfl) _) hab3 (by omega)
    · exact hc.setCell (.inr hab2) _
  · simp [go_sem, h0]
    generalize hw3 : wr.alloc _ = w3
    have hc3 : Ch Nw wr w3 := by rw [← hw3]; exact (Ch.refl Nw wr).alloc _
    have hb8 : w3.heap[wr.heap.size]? = some (.cells #[.slice A l.length c, .int .i64 0] rdrT (0, 0)) := by rw [← hw3]; exact heap_alloc_new _ _
    have hg3 : Rdr w3 g l 0 := hg.rdr.ch hc3 (fun e => e) (fun _ e => e)
    have hc3 := hc.trans hc3
    have hgz := hg.rdr.lt
    have hkz := k2.size
    refine v_loop (fun q f wx => ∃ (k : Nat) (l2 : List UInt8) (e2 : Int) (s2 : Value), k ≤ n ∧ q = n - k ∧ f 1 = u ∧ f 6 = .pointer (some ⟨g, 0, none⟩) ∧ f 8 = .pointer (some ⟨wr.heap.size, 0, none⟩) ∧ f 9 = .int .i64 k ∧ l2.length ≤ 1000 ∧
        wx.heap[wr.heap.size]? = some (.cells #[s2, .int .i64 e2] rdrT (0, 0)) ∧ Sl wx s2 l2.length (bvs l2) ∧ (s2.ownBlock = (Value.slice A l.length c).ownBlock ∨ s2.ownBlock = none) ∧ Rdr wx g l2 e2 ∧ Ch Nw w wx) n
      ⟨0, l, 0, _, Nat.zero_le _, rfl, by simp [h1], by simp [h6], by simp, by simp, hl, hb8, hs.ch hc3 (fun _ _ e => e), .inl rfl, hg3, hc3⟩ ?_
    rintro J2 hJ2 _ f wx ⟨k, l2, e2, s2, hk, rfl, h1, h6, h8, h9, hl2, hb8, hs2, ho2, hg, hcx⟩
    simp [go_sem, h1, h9, hlen2]
    refine VIf_dec (fun hlt => ?_) (fun hge => ?_)
    · simp [go_sem]
      obtain ⟨A', c', rfl, hq1, hq2, hq3⟩ := ha
      obtain ⟨ad, rfl, had, hq4⟩ := hq3 (by omega)
      obtain ⟨hd0, hd1, hd2⟩ := hq4 k hlt
      have hd0 := hcx.cell hd0 (fun e => e)
      have hd1 := hcx.cell hd1 (fun e => e)
      simp [Addr.add] at hd1
      obtain ⟨A2, c2, rfl, _⟩ := id hs2
      obtain ⟨p0, p1, p2, p3⟩ := blk_cells hb8
      have hgx := hg.lt
      have hzx := lt_of_block hb8
      have hown : ∀ j, (Value.slice A l.length c).ownBlock = some j → j < wx.heap.size ∧ j ≠ g := fun j hj => by
        have h1 := hltw j hj; have h2 := hcx.size; have h3 := k2.size; exact ⟨by omega, by omega⟩
      have hal := askS_len l2 e2 (D k) (N k)
      obtain ⟨I, hI⟩ : ∃ I : (Nat → Value) → World → Prop, I = fun f' w' => ∃ (b : Nat) (l3 : List UInt8) (e3 : Int) (s3 : Value), f' 1 = .slice (some ad) n c' ∧ f' 6 = .pointer (some ⟨g, 0, none⟩) ∧ f' 8 = .pointer (some ⟨wr.heap.size, 0, none⟩) ∧ f' 9 = .int .i64 k ∧ f' 10 = .bool true ∧ f' 11 = .pointer (some ⟨b, 0, none⟩) ∧
          b ≠ wr.heap.size ∧ l3.length ≤ 1000 ∧ w'.heap[b]? = some (.cells #[s3, .int .i64 e3] rdrT (0, 0)) ∧ w'.heap[wr.heap.size]? = some (.cells #[.slice A2 l2.length c2, .int .i64 e2] rdrT (0, 0)) ∧ Sl w' s3 l3.length (bvs l3) ∧ (s3.ownBlock = (Value.slice A l.length c).ownBlock ∨ s3.ownBlock = none) ∧ Rdr w' g l3 e3 ∧ Ch Nw w w' := ⟨_, rfl⟩
      refine v_join I
        [[(0, none), (1, none), (2, none), (3, none), (4, none), (5, none), (6, some []), (7, none), (8, none), (9, none), (10, some [7, 8, 9]), (11, none), (12, some [])],
         [(0, none), (1, none), (2, none), (3, none), (4, none), (5, none), (10, some [0, 1, 2, 3, 4, 5]), (6, some []), (7, none), (8, none), (9, none), (11, none), (12, some [])]] (by kernel_rfl) (by kernel_rfl) ?_ ?_
      · intro plan hplan
        simp only [List.mem_cons, List.not_mem_nil, or_false] at hplan
        rcases hplan with rfl | rfl
        · simp [go_sem, h1, h6, h8, h9, p0, p1, hlt, hd0, hd1, add_of_add]
          refine (asked_any g _ l2 e2 (D k) (N k) _ wx.drew (by omega) hd2 hg.drew ⟨_, rfl, hs2.drew, ho2⟩ hown).mono ?_
          rintro _ w6 ⟨r, rfl, hg6, ⟨s3, rfl, hs3, ho3⟩, hc6⟩
          have hc6 := hc6.of_drew
          have hz6 := hc6.size
          obtain ⟨A3, c3, rfl, _⟩ := id hs3
          simp [go_sem]
          rw [hI]
          exact ⟨w6.heap.size, _, _, _, by simp [h1], by simp [h6], by simp [h8], by simp [h9], by simp, by simp, by omega, by omega, heap_alloc_new w6 _, ((Ch.refl Nw w6).alloc _).obj (hc6.obj hb8 (by unfold only; omega)) (fun e => e), hs3.alloc _, ho3, hg6.ch ((Ch.refl Nw w6).alloc _) (fun e => e) (fun _ e => e), (hcx.trans' hc6 fun j hj e => by unfold only at e; omega).alloc _⟩
        · have hca := (Ch.refl Nw wx).alloc (.cells #[.slice none 0 0, .int .i64 0] rdrT)
          have hd0a := hca.cell hd0 (fun e => e)
          have hd1a := hca.cell hd1 (fun e => e)
          obtain ⟨p0a, p1a, p2a, p3a⟩ := blk_cells (hca.obj hb8 (fun e => e))
          simp [go_sem, h1, h6, h8, h9, p0, p1, hlt, hd0, hd1, add_of_add, hd0a, hd1a, p0a, p1a]
          generalize hwa : wx.alloc _ = wa at *
          have hza : wa.heap.size = wx.heap.size + 1 := by rw [← hwa]; simp
          have hba : wa.heap[wx.heap.size]? = some (.cells #[.slice none 0 0, .int .i64 0] rdrT (0, 0)) := by rw [← hwa]; exact heap_alloc_new _ _
          have hb8a := hca.obj hb8 (fun e => e)
          have hga : Rdr wa g l2 e2 := hg.ch hca (fun e => e) (fun _ e => e)
          refine (asked_any g _ l2 e2 (D k) (N k) _ wa.drew (by omega) hd2 hga.drew ⟨_, rfl, (hs2.ch hca fun _ _ e => e).drew, ho2⟩ (fun j hj => ⟨by have := (hown j hj).1; show j < wa.heap.size; omega, (hown j hj).2⟩)).mono ?_
          rintro _ w6 ⟨r, rfl, hg6, ⟨s3, rfl, hs3, ho3⟩, hc6⟩
          have hc6 := hc6.of_drew
          have hz6 := hc6.size
          obtain ⟨A3, c3, rfl, _⟩ := id hs3
          have hb6 := hc6.obj hba (by unfold only; omega)
          obtain ⟨q0, q1, q2, q3⟩ := blk_cells hb6
          simp [go_sem, q0, q1, q2, q3]
          have hct := chTwo w6 wx.heap.size (.slice A3 (askS l2 e2 (D k) (N k)).1.length c3) (.int .i64 (askS l2 e2 (D k) (N k)).2)
          rw [hI]
          exact ⟨wx.heap.size, _, _, _, by simp [h1], by simp [h6], by simp [h8], by simp [h9], by simp, by simp, by omega, by omega, blk_set1 (blk_set0 hb6), hct.obj (hc6.obj hb8a (by unfold only; omega)) (by unfold only; omega), slAway hs3 hb6 hct, ho3, hg6.away hb6 (by omega) hct,
            ((hcx.trans hca).trans' hc6 fun j hj e => by unfold only at e; omega).trans' hct fun j hj e => by unfold only at e; have := hcx.size; omega⟩
      · rintro f' wy hIy
        rw [hI] at hIy
        obtain ⟨b, l3, e3, s3, i1, i6, i8, i9, i10, i11, ib, il, ibb, ib8, is3, io, ig, ic⟩ := hIy
        obtain ⟨A3, c3, rfl, _⟩ := id is3
        obtain ⟨p0, p1, p2, p3⟩ := blk_cells ibb
        obtain ⟨q0, q1, q2, q3⟩ := blk_cells ib8
        simp [go_sem, i8, i11, p0, p1, q0, q1, q2, q3]
        have hct := chTwo wy wr.heap.size (.slice A3 l3.length c3) (.int .i64 e3)
        have hby := blk_set1 (x := .int .i64 e3) (blk_set0 (x := .slice A3 l3.length c3) ib8)
        have hgy : Rdr ((wy.setCell ⟨wr.heap.size, 0, none⟩ (.slice A3 l3.length c3)).setCell ⟨wr.heap.size, 1, none⟩ (.int .i64 e3)) g l3 e3 := ig.away ib8 (by omega) hct
        have hsy := slAway is3 ib8 hct
        have hcy : Ch Nw w ((wy.setCell ⟨wr.heap.size, 0, none⟩ (.slice A3 l3.length c3)).setCell ⟨wr.heap.size, 1, none⟩ (.int .i64 e3)) := ic.trans' hct fun j hj e => by unfold only at e; have := hc.size; omega
        generalize hwz : (wy.setCell ⟨wr.heap.size, 0, none⟩ (.slice A3 l3.length c3)).setCell ⟨wr.heap.size, 1, none⟩ (.int .i64 e3) = wz at *
        obtain ⟨r0, r1, r2, r3⟩ := blk_cells hby
        have hln := hsy.len Try.underlying22 3
        have b1 : (e3 != e3) = false := by simp
        refine v_draw' [(0, none), (1, none), (2, none), (3, none), (5, none), (6, none), (4, some [5, 6]), (7, none), (8, none), (9, none), (10, none), (12, none), (13, none), (14, none), (11, some [12, 13, 14]), (15, none), (16, none)] (by kernel_rfl) (by kernel_rfl) ?_
        simp [go_sem, i6, i8, i10, r1]
        refine (err_any g l3 e3 wz.drew hgy.drew).mono ?_
        rintro _ _ ⟨rfl, rfl⟩
        simp [go_sem, i6, i8, r0, r1, hln]
        refine (left_any g l3 e3 wz.drew hgy.drew).mono ?_
        rintro _ _ ⟨rfl, rfl⟩
        simp [go_sem, i8, i9, r0, hln]
        refine Rnd.intro (n - (k + 1)) (by omega) (hJ2 _ _ _ ⟨k + 1, l3, e3, _, by omega, rfl, by simp [i1], by simp [i6], by simp [i8], by simp [IntKind.wrap_i64]; omega, il, hby, hsy.drew, io, hgy.drew, hcy.drew⟩)
    · simp [go_sem]
      refine (wakes_any wx).mono ?_
      rintro _ wd ⟨rfl, hd⟩
      simp [go_sem]
      exact hR _ _ ⟨rfl, hcx.trans hd⟩
end Go.Proofs.Ytbodlpncejhliaa
