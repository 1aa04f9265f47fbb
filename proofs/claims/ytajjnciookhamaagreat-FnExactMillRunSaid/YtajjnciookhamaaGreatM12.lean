/-
  Parts of the proof, of 2 texts: what HelpSt, MillOpen show. Conditions: each theorem states its own.
-/
import Derived.Test.YtajjnciookhamaaGreatM05
import Derived.Test.YtajjnciookhamaaGreatM06
import Derived.Test.YtajjnciookhamaaGreatM07
namespace Go.Proofs.YtajjnciookhamaaGreat
open Go.RowKit
theorem info_St : (Tryz.prog.info? 110).map (fun i => (i.zero, i.size, i.bytes)) = some (some (.agg #[.int .i64 0, .int .i64 0, .int .i64 0, .int .i64 0, .int .i64 0]), 5, 40) := by kernel_rfl
def eqSt (a b : St) : Bool := decide (a = b)
theorem toStuff_any (c0 m0 s0 p0 k0 : Int) (w : World) :
    Calls Tryz.prog 67 #[.agg #[.int .i64 c0, .int .i64 m0, .int .i64 s0, .int .i64 p0, .int .i64 k0]] w fun e w' => e = .returned (.agg #[.int .i64 c0, .int .i64 m0, .int .i64 s0, .int .i64 p0, .int .i64 k0]) ∧ Below w.heap.size w w' := by
  go_enter Tryz.func67, Tryz.ntmps67
  go_wp2
  go_returns
  exact ⟨rfl, by go_grown⟩
theorem eqStuff_any (c0 m0 s0 p0 k0 c1 m1 s1 p1 k1 : Int) (w : World) :
    Calls Tryz.prog 92 #[.agg #[.int .i64 c0, .int .i64 m0, .int .i64 s0, .int .i64 p0, .int .i64 k0], .agg #[.int .i64 c1, .int .i64 m1, .int .i64 s1, .int .i64 p1, .int .i64 k1]] w fun e w' => e = .returned (.bool (eqSt ⟨c0, m0, s0, p0, k0⟩ ⟨c1, m1, s1, p1, k1⟩)) ∧ Below w.heap.size w w' := by
  go_enter Tryz.func92, Tryz.ntmps92
  go_wp2
  all_goals
    go_ret
    exact ⟨by simp_all [eqSt], by go_grown⟩
theorem szStuffS_any (v : Value) (xs : List St) (lo hi : Nat) (left : Int) (w : World) (h : StAt lo hi w v xs) (h1 : 0 ≤ left) (h2 : left ≤ 1048576) :
    Calls Tryz.prog 19 #[v, .int .i64 left] w fun e w' => e = .returned (.int .i64 (szI left xs.length)) ∧ w = w' := by
  have hl := h.len
  obtain ⟨ao, cap, rfl, hlc, hcap, hhi, hc⟩ := h
  have Hc := hide hc
  clear hc
  go_enter Tryz.func19, Tryz.ntmps19
  go_wp2
  all_goals
    go_ret
    refine ⟨?_, rfl⟩
    unfold szI
    first | (rw [if_pos (by omega)]; rfl) | (rw [if_neg (by omega)]; rfl)
set_option maxRecDepth 10000 in
set_option maxHeartbeats 400000 in
theorem eqStuffS_any (v v' : Value) (xs ys : List St) (lo hi lo' hi' : Nat) (w : World) (h : StAt lo hi w v xs) (h' : StAt lo' hi' w v' ys) :
    Calls Tryz.prog 43 #[v, v'] w fun e w' => e = .returned (.bool (decide (xs = ys))) ∧ Below w.heap.size w w' := by
  obtain ⟨ao, cap, rfl, hlc, hcap, hhi, hc⟩ := h
  obtain ⟨ao', cap', rfl, hlc', hcap', hhi', hc'⟩ := h'
  have Hc := hide hc
  have Hc' := hide hc'
  clear hc hc'
  by_cases hl : xs.length = ys.length
  · have HL := hide hl
    have hlB : ((xs.length : Int) != (ys.length : Int)) = false := by simp [hl]
    clear hl
    go_enter Tryz.func43, Tryz.ntmps43
    go_wp2_with fail
    go_loopw [5] (fun i wr => ∃ k : Nat, k ≤ xs.length ∧ i = .int .i64 k ∧ Below w.heap.size w wr ∧ xs.take k = ys.take k) (fun i _ => xs.length - (intOf i).toNat)
    case atStart => exact ⟨0, Nat.zero_le _, rfl, Below.refl _ _, rfl⟩
    case round =>
      obtain ⟨k, hk, rfl, hb, hall⟩ := hrel
      have Ha := hide hall
      clear hall
      by_cases hlt : k < xs.length
      · have hlt' : k < ys.length := by have := HL.out; omega
        obtain ⟨b, o, rfl, hb1, hb2, hcs⟩ := Hc.out (by omega)
        obtain ⟨b', o', rfl, hb1', hb2', hcs'⟩ := Hc'.out (by omega)
        obtain ⟨⟨h1, h2, h3, h4, h5⟩, -⟩ := hcs k hlt
        obtain ⟨⟨h1', h2', h3', h4', h5'⟩, -⟩ := hcs' k hlt'
        rw [← hb.cell (p := ⟨_, _, none⟩) (by simpa using by omega)] at h1 h2 h3 h4 h5 h1' h2' h3' h4' h5'
        clear hcs hcs'
        have hi1 : (k : Int) < (xs.length : Int) := by omega
        have hi2 : (k : Int) < (ys.length : Int) := by omega
        by_cases hq : xs[k] = ys[k]
        · have hqB : eqSt { c := xs[k].c, m := xs[k].m, s := xs[k].s, p := xs[k].p, k := xs[k].k } { c := ys[k].c, m := ys[k].m, s := ys[k].s, p := ys[k].p, k := ys[k].k } = true := by simp [eqSt, hq]
          have hall' : xs.take (k + 1) = ys.take (k + 1) := by
            rw [List.take_succ_eq_append_getElem hlt, List.take_succ_eq_append_getElem hlt', Ha.out, hq]
          have Ha' := hide hall'
          clear hq hall'
          go_wp2_with fail
          go_still_tail 8, (by kernel_rfl)
          change wpList _ _ _ _ _ wr.drew
          clear h1 h2 h3 h4 h5 h1' h2' h3' h4' h5'
          go_wp2_with (go_at_call 92; refine (eqStuff_any _ _ _ _ _ _ _ _ _ _ _).mono ?_; rintro e w1 ⟨rfl, hw1⟩)
          go_roundw
          case rel => exact ⟨k + 1, by omega, by go_num, Below.step hb.drew hw1 (Nat.le_refl _), Ha'.out⟩
          case measure => simp [intOf]; omega
        · have hqB : eqSt { c := xs[k].c, m := xs[k].m, s := xs[k].s, p := xs[k].p, k := xs[k].k } { c := ys[k].c, m := ys[k].m, s := ys[k].s, p := ys[k].p, k := ys[k].k } = false := by
            unfold eqSt; rw [decide_eq_false_iff_not]; exact hq
          have HQ := hide hq
          clear hq
          go_wp2_with fail
          go_still_tail 8, (by kernel_rfl)
          change wpList _ _ _ _ _ wr.drew
          clear h1 h2 h3 h4 h5 h1' h2' h3' h4' h5'
          go_wp2_with (go_at_call 92; refine (eqStuff_any _ _ _ _ _ _ _ _ _ _ _).mono ?_; rintro e w1 ⟨rfl, hw1⟩)
          go_ret
          refine ⟨?_, Below.step hb.drew hw1 (Nat.le_refl _)⟩
          have hne : xs ≠ ys := by
            intro e
            subst e
            exact HQ.out rfl
          simp [hne]
      · go_wp2_with fail
        go_ret
        refine ⟨?_, hb⟩
        have e : xs = ys := by
          have := Ha.out
          rw [List.take_of_length_le (by omega), List.take_of_length_le (by have := HL.out; omega)] at this
          exact this
        simp [e]
  · have hlB : ((xs.length : Int) != (ys.length : Int)) = true := by simp; omega
    go_enter Tryz.func43, Tryz.ntmps43
    go_wp2_with fail
    go_ret
    exact ⟨by simp; intro h; exact hl (by rw [h]), Below.refl _ _⟩
set_option maxHeartbeats 800000 in
theorem toStuffS_any (v : Value) (xs : List St) (lo hi : Nat) (w : World) (h : StAt lo hi w v xs) (hlen : xs.length ≤ 2097152) :
    Calls Tryz.prog 32 #[v] w fun e w' => ∃ v', e = .returned v' ∧ StAt w.heap.size (w.heap.size + 1) w' v' xs ∧ Below w.heap.size w w' := by
  have hlt0 := h.lt
  obtain ⟨ao, cap, rfl, hlc, hcap, hhi, hc⟩ := h
  have Hc := hide hc
  clear hc
  have hmk := fun W => make_rowN (P := Tryz.prog) 34 110 _ _ _ Tryz.underlying34 info_St .i64 .i64 xs.length (by omega) (by omega) W
  go_enter Tryz.func32, Tryz.ntmps32
  go_wp2_with fail
  clear hmk
  go_loopw [4] (fun i wr => ∃ k : Nat, k ≤ xs.length ∧ i = .int .i64 k ∧ Below w.heap.size w wr ∧ ∃ f, wr.rowIs w.heap.size 110 (xs.length * 5) f ∧ (∀ j (_ : j < xs.length), j < k → f (j * 5) = .int .i64 xs[j].c ∧ f (j * 5 + 1) = .int .i64 xs[j].m ∧ f (j * 5 + 2) = .int .i64 xs[j].s ∧ f (j * 5 + 3) = .int .i64 xs[j].p ∧ f (j * 5 + 4) = .int .i64 xs[j].k)) (fun i _ => xs.length - (intOf i).toNat)
  case atStart =>
    obtain ⟨f, hf⟩ := rowIs_madeN w (Value.agg #[Value.int .i64 0, Value.int .i64 0, Value.int .i64 0, Value.int .i64 0, Value.int .i64 0]).cells (xs.length * 5) 110
    exact ⟨0, Nat.zero_le _, rfl, by go_grown, f, hf, fun _ _ h => absurd h (Nat.not_lt_zero _)⟩
  case round =>
    obtain ⟨k, hk, rfl, hb, f, hrow, hall⟩ := hrel
    have Ha := hide hall
    have Hr := hide hrow
    clear hall
    by_cases hlt : k < xs.length
    · obtain ⟨b, o, rfl, hb1, hb2, hcs⟩ := Hc.out (by omega)
      obtain ⟨⟨h1, h2, h3, h4, h5⟩, -⟩ := hcs k hlt
      rw [← hb.cell (p := ⟨b, _, none⟩) (by simpa using by omega)] at h1 h2 h3 h4 h5
      have hz : w.heap.size < wr.heap.size := hrow.lt
      clear hcs hrow
      go_wp2_with (go_at_call 67; refine (toStuff_any _ _ _ _ _ _).mono ?_; rintro e w1 ⟨rfl, hw1⟩; have hg1 := (rowIs_below Hr.out hw1 hz).cell (i := k * 5) (by omega); have hg2 := (rowIs_below Hr.out hw1 hz).cell (i := k * 5 + 1) (by omega); have hg3 := (rowIs_below Hr.out hw1 hz).cell (i := k * 5 + 2) (by omega); have hg4 := (rowIs_below Hr.out hw1 hz).cell (i := k * 5 + 3) (by omega); have hg5 := (rowIs_below Hr.out hw1 hz).cell (i := k * 5 + 4) (by omega); have hf1 := (rowIs_below Hr.out hw1 hz).frozen (k * 5); have hf2 := (rowIs_below Hr.out hw1 hz).frozen (k * 5 + 1); have hf3 := (rowIs_below Hr.out hw1 hz).frozen (k * 5 + 2); have hf4 := (rowIs_below Hr.out hw1 hz).frozen (k * 5 + 3); have hf5 := (rowIs_below Hr.out hw1 hz).frozen (k * 5 + 4))
      obtain ⟨f', hr', e1, e2, e3, e4, e5, eo⟩ := rowIs_put5 (rowIs_below Hr.out hw1 hz) (k * 5) (.int .i64 xs[k].c) (.int .i64 xs[k].m) (.int .i64 xs[k].s) (.int .i64 xs[k].p) (.int .i64 xs[k].k)
      go_roundw
      case rel =>
        refine ⟨k + 1, by omega, by go_num, ((((((Below.step hb hw1 (Nat.le_refl _)).setCell (Nat.le_refl _) _).setCell (Nat.le_refl _) _).setCell (Nat.le_refl _) _).setCell (Nat.le_refl _) _).setCell (Nat.le_refl _) _), f', hr', fun j hj hjk => ?_⟩
        by_cases e : j = k
        · subst e; exact ⟨e1, e2, e3, e4, e5⟩
        · rw [eo _ (by omega) (by omega) (by omega) (by omega) (by omega), eo _ (by omega) (by omega) (by omega) (by omega) (by omega), eo _ (by omega) (by omega) (by omega) (by omega) (by omega), eo _ (by omega) (by omega) (by omega) (by omega) (by omega), eo _ (by omega) (by omega) (by omega) (by omega) (by omega)]
          exact Ha.out j hj (by omega)
      case measure => simp [intOf]; omega
    · go_wp2_with fail
      go_ret
      refine ⟨_, rfl, StAt.of_row1 Hr.out (Nat.le_refl _) (Nat.le_refl _) (by omega) (fun i hi => Ha.out i hi (by omega)), hb⟩
def mkSt (a : Int) : St := ⟨a, a + 1, a + 1 + 1, a + 1 + 1 + 1, a + 1 + 1 + 1 + 1⟩
set_option maxHeartbeats 800000 in
theorem markStuffS_any (v : Value) (xs : List St) (lo hi : Nat) (k0 : Int) (w : World) (h : StAt lo hi w v xs) (hlen : xs.length ≤ 2097152) (hk0 : 0 ≤ k0) (hk1 : k0 ≤ 16777216) :
    Calls Tryz.prog 47 #[v, .int .i64 k0] w fun e w' => e = .returned (.int .i64 (k0 + 5 * xs.length)) ∧ Other lo hi w w' ∧ ∃ ys : List St, ys.length = xs.length ∧ (∀ i (_ : i < ys.length), ys[i] = mkSt (k0 + 5 * i)) ∧ StAt lo hi w' v ys := by
  have h0 := h
  obtain ⟨ao, cap, rfl, hlc, hcap, hhi, hc⟩ := h
  have Hc := hide hc
  clear hc
  go_enter Tryz.func47, Tryz.ntmps47
  go_wp2_with fail
  go_loopw [1, 5] (fun m i wr => ∃ k : Nat, k ≤ xs.length ∧ i = .int .i64 k ∧ m = .int .i64 (k0 + 5 * k) ∧ Other lo hi w wr ∧ ∃ ys : List St, ys.length = xs.length ∧ (∀ i (_ : i < ys.length), i < k → ys[i] = mkSt (k0 + 5 * i)) ∧ StAt lo hi wr (.slice ao xs.length cap) ys) (fun _ i _ => xs.length - (intOf i).toNat)
  case atStart => exact ⟨0, Nat.zero_le _, rfl, by simp, Other.refl _ _ _, xs, rfl, fun _ _ h => absurd h (Nat.not_lt_zero _), h0⟩
  case round =>
    obtain ⟨k, hk, rfl, rfl, hb, ys, hyl, hall, hat⟩ := hrel
    have Hyl := hide hyl
    have Ha := hide hall
    have Hat := hide hat
    clear hyl hat hall
    by_cases hlt : k < xs.length
    · obtain ⟨ao', cap', e, a1, a2, a3, a4⟩ := Hat.out
      simp only [Value.slice.injEq] at e
      obtain ⟨rfl, -, rfl⟩ := e
      obtain ⟨b, o, rfl, hb1, hb2, hcs⟩ := a4 (by have := Hyl.out; omega)
      obtain ⟨⟨h1, h2, h3, h4, h5⟩, f1, f2, f3, f4, f5⟩ := hcs k (by have := Hyl.out; omega)
      clear a4 hcs
      go_wp2_with fail
      go_roundw
      case rel =>
        refine ⟨k + 1, by omega, by go_num, by go_num, (((((hb.setCell hb1 hb2 _).setCell hb1 hb2 _).setCell hb1 hb2 _).setCell hb1 hb2 _).setCell hb1 hb2 _), ys.set k (mkSt (k0 + 5 * k)), by simp [Hyl.out], fun i hi hik => ?_, ?_⟩
        · rw [List.getElem_set]
          split
          · subst k; rfl
          · exact Ha.out i (by simpa using hi) (by omega)
        · exact StAt.set Hat.out (by have := Hyl.out; omega) (by simp [Hyl.out]) _ _ _ _ _
      case measure => simp [intOf]; omega
    · go_wp2_with fail
      go_ret
      refine ⟨?_, hb, ys, Hyl.out, fun i hi => Ha.out i hi (by have := Hyl.out; omega), Hat.out⟩
      have : (k : Int) = xs.length := by omega
      rw [this]; rfl
set_option maxHeartbeats 800000 in
theorem heldStuffS_any (v : Value) (ys : List St) (lo hi : Nat) (k0 : Int) (w : World) (h : StAt lo hi w v ys) (hlen : ys.length ≤ 2097152) (hk0 : 0 ≤ k0) (hk1 : k0 ≤ 16777216) (hm : ∀ i (_ : i < ys.length), ys[i] = mkSt (k0 + 5 * i)) :
    Calls Tryz.prog 50 #[v, .int .i64 k0] w fun e w' => e = .returned (.int .i64 (k0 + 5 * ys.length)) ∧ w = w' := by
  obtain ⟨ao, cap, rfl, hlc, hcap, hhi, hc⟩ := h
  have Hc := hide hc
  have Hm := hide hm
  clear hc hm
  go_enter Tryz.func50, Tryz.ntmps50
  go_wp2_with fail
  go_loop [1, 5] (fun m i => ∃ k : Nat, k ≤ ys.length ∧ i = .int .i64 k ∧ m = .int .i64 (k0 + 5 * k)) (fun _ i => ys.length - (intOf i).toNat)
  case atStart => exact ⟨0, Nat.zero_le _, rfl, by simp⟩
  case round =>
    obtain ⟨k, hk, rfl, rfl⟩ := hrel
    by_cases hlt : k < ys.length
    · obtain ⟨b, o, rfl, hb1, hb2, hcs⟩ := Hc.out (by omega)
      obtain ⟨⟨h1, h2, h3, h4, h5⟩, -⟩ := hcs k hlt
      rw [Hm.out k hlt] at h1 h2 h3 h4 h5
      simp only [mkSt] at h1 h2 h3 h4 h5
      clear hcs
      go_wp2_with fail
      go_round
      case rel => exact ⟨k + 1, by omega, by go_num, by go_num⟩
      case measure => simp [intOf]; omega
    · go_wp2_with fail
      go_ret
      refine ⟨?_, rfl⟩
      have : (k : Int) = ys.length := by omega
      rw [this]; rfl
end Go.Proofs.YtajjnciookhamaaGreat
namespace Go.Proofs.YtajjnciookhamaaGreat
open Go.ChangeShapes Go.WideShapes Go.Deep Go.RowKit
section
variable {H : Type} {enc : TypeId × Value → H} {P : Program}
theorem open_StAt {t e : TypeId} {f0 f1 f2 f3 f4 : Field} {w : World} {v : Value} {d : DataW H} {ps before : List MemPlace} (ht : P.underlying t = some (.slice e)) (he : P.underlying e = some (.struct #[f0, f1, f2, f3, f4])) (hone : oneCellFields P #[f0, f1, f2, f3, f4] = true) (hc : P.cellsOf e = 5)
    (t0 : P.underlying f0.type = some (.int .i64)) (t1 : P.underlying f1.type = some (.int .i64)) (t2 : P.underlying f2.type = some (.int .i64)) (t3 : P.underlying f3.type = some (.int .i64)) (t4 : P.underlying f4.type = some (.int .i64))
    (h : DataW.Trod enc P w 0 (fun _ => true) true t v d ps) (hvs : ∃ ao n c, v = .slice ao n c) (hz : w.noneFrozen before) (hp : ∀ x ∈ ps, x ∈ before) :
    ∃ js : List St, StAt 0 w.heap.size w v js := by
  obtain ⟨ao, n0, c0, rfl⟩ := hvs
  obtain ⟨fuel, hf⟩ := h
  rcases open_slice ht hf with ⟨hcs, hx⟩ | ⟨a, len, cap, m, n, D, Pl, hcs, hb, hl, hm, hmm, hx, hi⟩
  · simp only [Value.cells, List.cons.injEq, and_true] at hcs
    rw [hcs]
    exact ⟨[], ⟨none, 0, rfl, Nat.le_refl _, by omega, Nat.le_refl _, fun h => absurd h (Nat.not_lt_zero _)⟩⟩
  · simp only [Value.cells, List.cons.injEq, and_true] at hcs
    rw [hcs]
    simp only [↓reduceIte] at hmm
    subst hmm
    simp only [Prod.mk.injEq] at hx
    rw [hc] at hx hi
    have hint : ∀ i, i < m → ∃ j : St, w.cell? (a.add (i * 5)) = some (.int .i64 j.c) ∧ w.cell? (a.add (i * 5 + 1)) = some (.int .i64 j.m) ∧ w.cell? (a.add (i * 5 + 2)) = some (.int .i64 j.s) ∧ w.cell? (a.add (i * 5 + 3)) = some (.int .i64 j.p) ∧ w.cell? (a.add (i * 5 + 4)) = some (.int .i64 j.k) := fun i him => by
      obtain ⟨cs', hcc, ht'⟩ := hi i him
      obtain ⟨ys, n', hn', hy, hlen, hyl, hfl⟩ := DataW.trod_struct he ht'
      obtain ⟨_, hcl, hat⟩ := World.cells?_some hcc
      match cs', hcl with
      | [c0, c1, c2, c3, c4], _ =>
        obtain ⟨o0, k0⟩ := hone_of hone 0 f0 rfl
        obtain ⟨o1, k1⟩ := hone_of hone 1 f1 rfl
        obtain ⟨o2, k2⟩ := hone_of hone 2 f2 rfl
        obtain ⟨o3, k3⟩ := hone_of hone 3 f3 rfl
        obtain ⟨o4, k4⟩ := hone_of hone 4 f4 rfl
        have a0 := hat 0 (by omega)
        have a1 := hat 1 (by omega)
        have a2 := hat 2 (by omega)
        have a3 := hat 3 (by omega)
        have a4 := hat 4 (by omega)
        have g0 := hfl 0 f0 rfl
        have g1 := hfl 1 f1 rfl
        have g2 := hfl 2 f2 rfl
        have g3 := hfl 3 f3 rfl
        have g4 := hfl 4 f4 rfl
        simp only [o0, k0, o1, k1, o2, k2, o3, k3, o4, k4, List.drop_zero, List.drop_succ_cons, List.take_succ_cons, List.take_zero] at g0 g1 g2 g3 g4
        match ys, hyl with
        | [y0, y1, y2, y3, y4], _ =>
          obtain ⟨x0, e0, _, w0⟩ := DataW.trod_int t0 (by simpa using g0)
          obtain ⟨x1, e1, _, w1⟩ := DataW.trod_int t1 (by simpa using g1)
          obtain ⟨x2, e2, _, w2⟩ := DataW.trod_int t2 (by simpa using g2)
          obtain ⟨x3, e3, _, w3⟩ := DataW.trod_int t3 (by simpa using g3)
          obtain ⟨x4, e4, _, w4⟩ := DataW.trod_int t4 (by simpa using g4)
          simp only [List.cons.injEq, and_true] at e0 e1 e2 e3 e4
          subst e0 e1 e2 e3 e4
          rw [add_add] at a0 a1 a2 a3 a4
          exact ⟨⟨x0, x1, x2, x3, x4⟩, by simpa using a0, by simpa using a1, by simpa using a2, by simpa using a3, by simpa using a4⟩
    have : Inhabited St := ⟨st0⟩
    obtain ⟨X, hX⟩ := choose_lt hint
    refine ⟨(List.range len).map X, ⟨some a, m, by simp, by simpa using hl, by unfold maxLen at hm; omega, Nat.le_refl _, fun hn => ?_⟩⟩
    have hn' : 0 < len := by simpa using hn
    obtain ⟨h0, _⟩ := hX 0 (by omega)
    have ha0 : a.add (0 * 5) = a := by simp [Addr.add]
    rw [ha0] at h0
    obtain ⟨hs, hblt⟩ := cell_spot h0
    obtain ⟨b, o, sp⟩ := a
    simp only at hs hblt
    subst hs
    have hadd : ∀ i, (⟨b, o, none⟩ : Addr).add i = ⟨b, o + i, none⟩ := fun i => by
      unfold Addr.add
      split
      · next h => subst h; rfl
      · rfl
    refine ⟨b, o, rfl, Nat.zero_le _, hblt, fun i hi' => ?_⟩
    have hi'' : i < len := by simpa using hi'
    obtain ⟨h1, h2, h3, h4, h5⟩ := hX i (by omega)
    rw [hadd] at h1 h2 h3 h4 h5
    have hfr : ∀ k, k < m * 5 → w.frozen? ⟨b, o + k, none⟩ = false := fun k hk => by
      refine hz b (o + k) (hp _ ?_)
      rw [hx.2]
      exact List.mem_append_left _ (MemPlace.mem_row.2 ⟨k, by omega, rfl⟩)
    refine ⟨⟨?_, ?_, ?_, ?_, ?_⟩, ?_, ?_, ?_, ?_, ?_⟩
    · rw [h1]; simp
    · rw [show o + i * 5 + 1 = o + (i * 5 + 1) by omega, h2]; simp
    · rw [show o + i * 5 + 2 = o + (i * 5 + 2) by omega, h3]; simp
    · rw [show o + i * 5 + 3 = o + (i * 5 + 3) by omega, h4]; simp
    · rw [show o + i * 5 + 4 = o + (i * 5 + 4) by omega, h5]; simp
    · exact hfr _ (by omega)
    · rw [show o + i * 5 + 1 = o + (i * 5 + 1) by omega]; exact hfr _ (by omega)
    · rw [show o + i * 5 + 2 = o + (i * 5 + 2) by omega]; exact hfr _ (by omega)
    · rw [show o + i * 5 + 3 = o + (i * 5 + 3) by omega]; exact hfr _ (by omega)
    · rw [show o + i * 5 + 4 = o + (i * 5 + 4) by omega]; exact hfr _ (by omega)
theorem open_PcAt {t e : TypeId} {f0 f1 : Field} {w : World} {v : Value} {d : DataW H} {ps before : List MemPlace} (ht : P.underlying t = some (.slice e)) (he : P.underlying e = some (.struct #[f0, f1])) (hone : oneCellFields P #[f0, f1] = true) (hc : P.cellsOf e = 2)
    (t0 : P.underlying f0.type = some (.int .i64)) (t1 : P.underlying f1.type = some (.int .i64))
    (h : DataW.Trod enc P w 0 (fun _ => true) true t v d ps) (hvs : ∃ ao n c, v = .slice ao n c) (hz : w.noneFrozen before) (hp : ∀ x ∈ ps, x ∈ before) :
    ∃ js : List Pc, PcAt 0 w.heap.size w v js := by
  obtain ⟨ao, n0, c0, rfl⟩ := hvs
  obtain ⟨fuel, hf⟩ := h
  rcases open_slice ht hf with ⟨hcs, hx⟩ | ⟨a, len, cap, m, n, D, Pl, hcs, hb, hl, hm, hmm, hx, hi⟩
  · simp only [Value.cells, List.cons.injEq, and_true] at hcs
    rw [hcs]
    exact ⟨[], ⟨none, 0, rfl, Nat.le_refl _, by omega, Nat.le_refl _, fun h => absurd h (Nat.not_lt_zero _)⟩⟩
  · simp only [Value.cells, List.cons.injEq, and_true] at hcs
    rw [hcs]
    simp only [↓reduceIte] at hmm
    subst hmm
    simp only [Prod.mk.injEq] at hx
    rw [hc] at hx hi
    have hint : ∀ i, i < m → ∃ j : Pc, w.cell? (a.add (i * 2)) = some (.int .i64 j.l) ∧ w.cell? (a.add (i * 2 + 1)) = some (.int .i64 j.s) := fun i him => by
      obtain ⟨cs', hcc, ht'⟩ := hi i him
      obtain ⟨ys, n', hn', hy, hlen, hyl, hfl⟩ := DataW.trod_struct he ht'
      obtain ⟨_, hcl, hat⟩ := World.cells?_some hcc
      match cs', hcl with
      | [c0, c1], _ =>
        obtain ⟨o0, k0⟩ := hone_of hone 0 f0 rfl
        obtain ⟨o1, k1⟩ := hone_of hone 1 f1 rfl
        have a0 := hat 0 (by omega)
        have a1 := hat 1 (by omega)
        have g0 := hfl 0 f0 rfl
        have g1 := hfl 1 f1 rfl
        simp only [o0, k0, o1, k1, List.drop_zero, List.drop_succ_cons, List.take_succ_cons, List.take_zero] at g0 g1
        match ys, hyl with
        | [y0, y1], _ =>
          obtain ⟨x0, e0, _, w0⟩ := DataW.trod_int t0 (by simpa using g0)
          obtain ⟨x1, e1, _, w1⟩ := DataW.trod_int t1 (by simpa using g1)
          simp only [List.cons.injEq, and_true] at e0 e1
          subst e0 e1
          rw [add_add] at a0 a1
          exact ⟨⟨x0, x1⟩, by simpa using a0, by simpa using a1⟩
    have : Inhabited Pc := ⟨pc0⟩
    obtain ⟨X, hX⟩ := choose_lt hint
    refine ⟨(List.range len).map X, ⟨some a, m, by simp, by simpa using hl, by unfold maxLen at hm; omega, Nat.le_refl _, fun hn => ?_⟩⟩
    have hn' : 0 < len := by simpa using hn
    obtain ⟨h0, _⟩ := hX 0 (by omega)
    have ha0 : a.add (0 * 2) = a := by simp [Addr.add]
    rw [ha0] at h0
    obtain ⟨hs, hblt⟩ := cell_spot h0
    obtain ⟨b, o, sp⟩ := a
    simp only at hs hblt
    subst hs
    have hadd : ∀ i, (⟨b, o, none⟩ : Addr).add i = ⟨b, o + i, none⟩ := fun i => by
      unfold Addr.add
      split
      · next h => subst h; rfl
      · rfl
    refine ⟨b, o, rfl, Nat.zero_le _, hblt, fun i hi' => ?_⟩
    have hi'' : i < len := by simpa using hi'
    obtain ⟨h1, h2⟩ := hX i (by omega)
    rw [hadd] at h1 h2
    have hfr : ∀ k, k < m * 2 → w.frozen? ⟨b, o + k, none⟩ = false := fun k hk => by
      refine hz b (o + k) (hp _ ?_)
      rw [hx.2]
      exact List.mem_append_left _ (MemPlace.mem_row.2 ⟨k, by omega, rfl⟩)
    refine ⟨⟨?_, ?_⟩, ?_, ?_⟩
    · rw [h1]; simp
    · rw [show o + i * 2 + 1 = o + (i * 2 + 1) by omega, h2]; simp
    · exact hfr _ (by omega)
    · rw [show o + i * 2 + 1 = o + (i * 2 + 1) by omega]; exact hfr _ (by omega)
/-- An argument that is a mill. -/
theorem open_millAt {T eS eP tI : TypeId} {f0 f1 f2 f3 f4 f5 s0 s1 s2 s3 s4 p0 p1 r0 r1 r2 r3 r4 r5 y0 y1 : Field} {w : World} {v : Value} {d : DataW H} {ps before : List MemPlace} {base : Nat}
    (he : P.underlying T = some (.struct #[f0, f1, f2, f3, f4, f5])) (hC : P.cellsOf T = 12)
    (ho : [f0, f1, f2, f3, f4, f5].map (fun f => (f.offset, P.cellsOf f.type)) = [(0, 1), (1, 6), (7, 1), (8, 1), (9, 2), (11, 1)])
    (g0 : P.underlying f0.type = some (.slice eS)) (q0 : P.underlying eS = some (.struct #[s0, s1, s2, s3, s4])) (u0 : oneCellFields P #[s0, s1, s2, s3, s4] = true) (c0 : P.cellsOf eS = 5)
    (i0 : P.underlying s0.type = some (.int .i64)) (i1 : P.underlying s1.type = some (.int .i64)) (i2 : P.underlying s2.type = some (.int .i64)) (i3 : P.underlying s3.type = some (.int .i64)) (i4 : P.underlying s4.type = some (.int .i64))
    (g1 : P.underlying f1.type = some (.struct #[r0, r1, r2, r3, r4, r5])) (u1 : oneCellFields P #[r0, r1, r2, r3, r4, r5] = true)
    (j0 : P.underlying r0.type = some (.int .i64)) (j1 : P.underlying r1.type = some (.int .i64)) (j2 : P.underlying r2.type = some (.int .i64)) (j3 : P.underlying r3.type = some (.int .i64)) (j4 : P.underlying r4.type = some (.int .i64)) (j5 : P.underlying r5.type = some (.int .i64))
    (g2 : P.underlying f2.type = some (.int .i64)) (g3 : P.underlying f3.type = some (.slice eP)) (q3 : P.underlying eP = some (.struct #[p0, p1])) (u3 : oneCellFields P #[p0, p1] = true) (c3 : P.cellsOf eP = 2)
    (k0 : P.underlying p0.type = some (.int .i64)) (k1 : P.underlying p1.type = some (.int .i64))
    (g4 : P.underlying f4.type = some (.struct #[y0, y1])) (u4 : oneCellFields P #[y0, y1] = true) (l0 : P.underlying y0.type = some (.slice tI)) (l1 : P.underlying y1.type = some (.slice tI)) (hI : P.underlying tI = some (.int .i64)) (cI : P.cellsOf tI = 1)
    (g5 : P.underlying f5.type = some (.int .i64))
    (hv : Value.okWide P w .any base T v) (h : DataW.Trod enc P w 0 (fun _ => true) true T v d ps) (hz : w.noneFrozen before) (hp : ∀ x ∈ ps, x ∈ before) :
    ∃ s p l hh m, v = millV s p l hh m ∧ MillIn 0 w.heap.size w s p l hh m := by
  obtain ⟨cs, rfl, hsz⟩ := okWide_struct he hv
  rw [hC] at hsz
  obtain ⟨fuel, hf⟩ := h
  obtain ⟨ys, n', -, hx, -, hyl, hfl⟩ := DataW.trod_struct he hf
  simp only [List.map_cons, List.map_nil, List.cons.injEq, Prod.mk.injEq, and_true] at ho
  obtain ⟨⟨a0, b0⟩, ⟨a1, b1⟩, ⟨a2, b2⟩, ⟨a3, b3⟩, ⟨a4, b4⟩, a5, b5⟩ := ho
  obtain ⟨cl⟩ := cs
  match cl, hsz with
  | [v0, v1, v2, v3, v4, v5, v6, v7, v8, v9, v10, v11], _ =>
  match ys, hyl with
  | [z0, z1, z2, z3, z4, z5], _ =>
  have h0 := hfl 0 f0 rfl
  have h1 := hfl 1 f1 rfl
  have h2 := hfl 2 f2 rfl
  have h3 := hfl 3 f3 rfl
  have h4 := hfl 4 f4 rfl
  have h5 := hfl 5 f5 rfl
  simp only [Value.cells, a0, b0, a1, b1, a2, b2, a3, b3, a4, b4, a5, b5, List.drop_zero, List.drop_succ_cons, List.take_succ_cons, List.take_zero, List.getElem?_cons_zero, List.getElem?_cons_succ] at h0 h1 h2 h3 h4 h5
  have hps : ps = z0.2 ++ (z1.2 ++ (z2.2 ++ (z3.2 ++ (z4.2 ++ z5.2)))) := by
    have := congrArg Prod.snd hx
    simpa using this
  subst hps
  have isl : ∀ {t e : TypeId} {n : Nat} {u : Value} {y : DataW H × List MemPlace}, P.underlying t = some (.slice e) → DataW.trod enc P w 0 (fun _ => true) true n t [u] = some y → (∃ ao m c, u = .slice ao m c) ∧ DataW.Trod enc P w 0 (fun _ => true) true t u y.1 y.2 := fun {t e n u y} ht hu => by
    have hs : ∃ ao m c, u = .slice ao m c := by
      rcases open_slice ht hu with ⟨hcs, _⟩ | ⟨a, len, cap, _, _, _, _, hcs, _⟩
      · simp only [List.cons.injEq, and_true] at hcs; exact ⟨_, _, _, hcs⟩
      · simp only [List.cons.injEq, and_true] at hcs; exact ⟨_, _, _, hcs⟩
    refine ⟨hs, n, ?_⟩
    obtain ⟨ao, m, c, rfl⟩ := hs
    exact hu
  obtain ⟨s0', t0'⟩ := isl g0 h0
  obtain ⟨xs, hxs⟩ := open_StAt g0 q0 u0 c0 i0 i1 i2 i3 i4 t0' s0' hz (fun x hx => hp x (by simp [hx]))
  obtain ⟨s3', t3'⟩ := isl g3 h3
  obtain ⟨pcs, hpcs⟩ := open_PcAt g3 q3 u3 c3 k0 k1 t3' s3' hz (fun x hx => hp x (by simp [hx]))
  obtain ⟨m2, e2, -, -⟩ := DataW.trod_int g2 h2
  obtain ⟨m5, e5, -, -⟩ := DataW.trod_int g5 h5
  simp only [List.cons.injEq, and_true] at e2 e5
  subst e2 e5
  obtain ⟨w1, n1, -, -, -, wl1, wf1⟩ := DataW.trod_struct g1 h1
  match w1, wl1 with
  | [d0, d1, d2, d3, d4, d5], _ =>
  obtain ⟨o0, x0⟩ := hone_of u1 0 r0 rfl
  obtain ⟨o1, x1⟩ := hone_of u1 1 r1 rfl
  obtain ⟨o2, x2⟩ := hone_of u1 2 r2 rfl
  obtain ⟨o3, x3⟩ := hone_of u1 3 r3 rfl
  obtain ⟨o4, x4⟩ := hone_of u1 4 r4 rfl
  obtain ⟨o5, x5⟩ := hone_of u1 5 r5 rfl
  have m0 := wf1 0 r0 rfl
  have m1 := wf1 1 r1 rfl
  have m2' := wf1 2 r2 rfl
  have m3 := wf1 3 r3 rfl
  have m4 := wf1 4 r4 rfl
  have m5' := wf1 5 r5 rfl
  simp only [o0, x0, o1, x1, o2, x2, o3, x3, o4, x4, o5, x5, List.drop_zero, List.drop_succ_cons, List.take_succ_cons, List.take_zero, List.getElem?_cons_zero, List.getElem?_cons_succ] at m0 m1 m2' m3 m4 m5'
  obtain ⟨n0, e0, -, -⟩ := DataW.trod_int j0 m0
  obtain ⟨n1', e1, -, -⟩ := DataW.trod_int j1 m1
  obtain ⟨n2, e2, -, -⟩ := DataW.trod_int j2 m2'
  obtain ⟨n3, e3, -, -⟩ := DataW.trod_int j3 m3
  obtain ⟨n4, e4, -, -⟩ := DataW.trod_int j4 m4
  obtain ⟨n5, e5, -, -⟩ := DataW.trod_int j5 m5'
  simp only [List.cons.injEq, and_true] at e0 e1 e2 e3 e4 e5
  subst e0 e1 e2 e3 e4 e5
  obtain ⟨w4, nn4, -, hx4, -, wl4, wf4⟩ := DataW.trod_struct g4 h4
  match w4, wl4 with
  | [b0', b1'], _ =>
  obtain ⟨oo0, xx0⟩ := hone_of u4 0 y0 rfl
  obtain ⟨oo1, xx1⟩ := hone_of u4 1 y1 rfl
  have mm0 := wf4 0 y0 rfl
  have mm1 := wf4 1 y1 rfl
  simp only [oo0, xx0, oo1, xx1, List.drop_zero, List.drop_succ_cons, List.take_succ_cons, List.take_zero, List.getElem?_cons_zero, List.getElem?_cons_succ] at mm0 mm1
  have hz4 : z4.2 = b0'.2 ++ b1'.2 := by rw [hx4]; simp
  obtain ⟨sl, tl⟩ := isl l0 mm0
  obtain ⟨sh, th⟩ := isl l1 mm1
  obtain ⟨lo, hlo, -⟩ := open_intsAt l0 hI cI tl sl hz (fun x hx => hp x (by simp [hz4, hx]))
  obtain ⟨hi, hhi, -⟩ := open_intsAt l1 hI cI th sh hz (fun x hx => hp x (by simp [hz4, hx]))
  exact ⟨v0, v8, v9, v10, ⟨xs, ⟨n0, n1', n2, n3, n4, n5⟩, m2, pcs, lo, hi, m5⟩, rfl, hxs, hpcs, hlo, hhi⟩
end
end Go.Proofs.YtajjnciookhamaaGreat
