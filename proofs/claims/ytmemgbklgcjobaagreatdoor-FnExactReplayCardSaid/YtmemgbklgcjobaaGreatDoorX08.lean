/-
  Parts of the proofs over mills, of: HelpSt, MillA. Conditions: each theorem states its own.
-/
import Derived.Test.YtmemgbklgcjobaaGreatDoorX07
set_option linter.unusedSimpArgs false
set_option linter.unusedVariables false
set_option maxRecDepth 10000
namespace Go.Proofs.YtmemgbklgcjobaaGreatDoor
open Go.RowKit
theorem info_St : (Tryz.prog.info? 65).map (fun i => (i.zero, i.size, i.bytes)) = some (some (.agg #[.int .i64 0, .int .i64 0, .int .i64 0, .int .i64 0, .int .i64 0]), 5, 40) := by kernel_rfl
def eqSt (a b : St) : Bool := decide (a = b)
theorem toStuff_any (c0 m0 s0 p0 k0 : Int) (w : World) :
    Calls Tryz.prog 148 #[.agg #[.int .i64 c0, .int .i64 m0, .int .i64 s0, .int .i64 p0, .int .i64 k0]] w fun e w' => e = .returned (.agg #[.int .i64 c0, .int .i64 m0, .int .i64 s0, .int .i64 p0, .int .i64 k0]) ∧ Below w.heap.size w w' := by
  go_enter Tryz.func148, Tryz.ntmps148
  go_wp2
  go_returns
  exact ⟨rfl, by go_grown⟩
theorem eqStuff_any (c0 m0 s0 p0 k0 c1 m1 s1 p1 k1 : Int) (w : World) :
    Calls Tryz.prog 151 #[.agg #[.int .i64 c0, .int .i64 m0, .int .i64 s0, .int .i64 p0, .int .i64 k0], .agg #[.int .i64 c1, .int .i64 m1, .int .i64 s1, .int .i64 p1, .int .i64 k1]] w fun e w' => e = .returned (.bool (eqSt ⟨c0, m0, s0, p0, k0⟩ ⟨c1, m1, s1, p1, k1⟩)) ∧ Below w.heap.size w w' := by
  go_enter Tryz.func151, Tryz.ntmps151
  go_wp2
  all_goals
    go_ret
    exact ⟨by simp_all [eqSt], by go_grown⟩
theorem szStuffS_any (v : Value) (xs : List St) (lo hi : Nat) (left : Int) (w : World) (h : StAt lo hi w v xs) (h1 : 0 ≤ left) (h2 : left ≤ 1048576) :
    Calls Tryz.prog 87 #[v, .int .i64 left] w fun e w' => e = .returned (.int .i64 (szI left xs.length)) ∧ w = w' := by
  have hl := h.len
  obtain ⟨ao, cap, rfl, hlc, hcap, hhi, hc⟩ := h
  have Hc := hide hc
  clear hc
  go_enter Tryz.func87, Tryz.ntmps87
  go_wp2
  all_goals
    go_ret
    refine ⟨?_, rfl⟩
    unfold szI
    first | (rw [if_pos (by omega)]; rfl) | (rw [if_neg (by omega)]; rfl)
set_option maxHeartbeats 400000 in
theorem eqStuffS_any (v v' : Value) (xs ys : List St) (lo hi lo' hi' : Nat) (w : World) (h : StAt lo hi w v xs) (h' : StAt lo' hi' w v' ys) :
    Calls Tryz.prog 94 #[v, v'] w fun e w' => e = .returned (.bool (decide (xs = ys))) ∧ Below w.heap.size w w' := by
  obtain ⟨ao, cap, rfl, hlc, hcap, hhi, hc⟩ := h
  obtain ⟨ao', cap', rfl, hlc', hcap', hhi', hc'⟩ := h'
  have Hc := hide hc
  have Hc' := hide hc'
  clear hc hc'
  by_cases hl : xs.length = ys.length
  · have HL := hide hl
    have hlB : ((xs.length : Int) != (ys.length : Int)) = false := by simp [hl]
    clear hl
    go_enter Tryz.func94, Tryz.ntmps94
    go_wp2_with fail
    go_loopw [5] (fun i wr => ∃ k : Nat, k ≤ xs.length ∧ i = .int .i64 k ∧ Below w.heap.size w wr ∧ xs.take k = ys.take k) (fun i _ => xs.length - (intOf i).toNat)
    case atStart => exact ⟨0, Nat.zero_le _, rfl, Below.refl _ _, rfl⟩
    case round =>
      obtain ⟨k, hk, rfl, hb, hall⟩ := hrel
      have Ha := hide hall
      clear hall
      by_cases hlt : k < xs.length
      · have hlt' : k < ys.length := by have := HL.out; omega
        obtain ⟨b, o, rfl, hb1, hb2, hcs⟩ := Hc.out (by omega)
        obtain ⟨b', o', rfl, hb1', hb2', hcs'⟩ := Hc'.out (by omega)
        obtain ⟨⟨h1, h2, h3, h4, h5⟩, -⟩ := hcs k hlt
        obtain ⟨⟨h1', h2', h3', h4', h5'⟩, -⟩ := hcs' k hlt'
        rw [← hb.cell (p := ⟨_, _, none⟩) (by simpa using by omega)] at h1 h2 h3 h4 h5 h1' h2' h3' h4' h5'
        clear hcs hcs'
        have hi1 : (k : Int) < (xs.length : Int) := by omega
        have hi2 : (k : Int) < (ys.length : Int) := by omega
        by_cases hq : xs[k] = ys[k]
        · have hqB : eqSt { c := xs[k].c, m := xs[k].m, s := xs[k].s, p := xs[k].p, k := xs[k].k } { c := ys[k].c, m := ys[k].m, s := ys[k].s, p := ys[k].p, k := ys[k].k } = true := by simp [eqSt, hq]
          have hall' : xs.take (k + 1) = ys.take (k + 1) := by
            rw [List.take_succ_eq_append_getElem hlt, List.take_succ_eq_append_getElem hlt', Ha.out, hq]
          have Ha' := hide hall'
          clear hq hall'
          go_wp2_with fail
          go_still_tail 8, (by kernel_rfl)
          change wpList _ _ _ _ _ wr.drew
          clear h1 h2 h3 h4 h5 h1' h2' h3' h4' h5'
          go_wp2_with (go_at_call 151; refine (eqStuff_any _ _ _ _ _ _ _ _ _ _ _).mono ?_; rintro e w1 ⟨rfl, hw1⟩)
          go_roundw
          case rel => exact ⟨k + 1, by omega, by go_num, Below.step hb.drew hw1 (Nat.le_refl _), Ha'.out⟩
          case measure => simp [intOf]; omega
        · have hqB : eqSt { c := xs[k].c, m := xs[k].m, s := xs[k].s, p := xs[k].p, k := xs[k].k } { c := ys[k].c, m := ys[k].m, s := ys[k].s, p := ys[k].p, k := ys[k].k } = false := by
            unfold eqSt; rw [decide_eq_false_iff_not]; exact hq
          have HQ := hide hq
          clear hq
          go_wp2_with fail
          go_still_tail 8, (by kernel_rfl)
          change wpList _ _ _ _ _ wr.drew
          clear h1 h2 h3 h4 h5 h1' h2' h3' h4' h5'
          go_wp2_with (go_at_call 151; refine (eqStuff_any _ _ _ _ _ _ _ _ _ _ _).mono ?_; rintro e w1 ⟨rfl, hw1⟩)
          go_ret
          refine ⟨?_, Below.step hb.drew hw1 (Nat.le_refl _)⟩
          have hne : xs ≠ ys := by
            intro e
            subst e
            exact HQ.out rfl
          simp [hne]
      · go_wp2_with fail
        go_ret
        refine ⟨?_, hb⟩
        have e : xs = ys := by
          have := Ha.out
          rw [List.take_of_length_le (by omega), List.take_of_length_le (by have := HL.out; omega)] at this
          exact this
        simp [e]
  · have hlB : ((xs.length : Int) != (ys.length : Int)) = true := by simp; omega
    go_enter Tryz.func94, Tryz.ntmps94
    go_wp2_with fail
    go_ret
    exact ⟨by simp; intro h; exact hl (by rw [h]), Below.refl _ _⟩
set_option maxHeartbeats 800000 in
theorem toStuffS_any (v : Value) (xs : List St) (lo hi : Nat) (w : World) (h : StAt lo hi w v xs) (hlen : xs.length ≤ 2097152) :
    Calls Tryz.prog 90 #[v] w fun e w' => ∃ v', e = .returned v' ∧ StAt w.heap.size (w.heap.size + 1) w' v' xs ∧ Below w.heap.size w w' := by
  have hlt0 := h.lt
  obtain ⟨ao, cap, rfl, hlc, hcap, hhi, hc⟩ := h
  have Hc := hide hc
  clear hc
  have hmk := fun W => make_rowN (P := Tryz.prog) 23 65 _ _ _ Tryz.underlying23 info_St .i64 .i64 xs.length (by omega) (by omega) W
  go_enter Tryz.func90, Tryz.ntmps90
  go_wp2_with fail
  clear hmk
  go_loopw [4] (fun i wr => ∃ k : Nat, k ≤ xs.length ∧ i = .int .i64 k ∧ Below w.heap.size w wr ∧ ∃ f, wr.rowIs w.heap.size 65 (xs.length * 5) f ∧ (∀ j (_ : j < xs.length), j < k → f (j * 5) = .int .i64 xs[j].c ∧ f (j * 5 + 1) = .int .i64 xs[j].m ∧ f (j * 5 + 2) = .int .i64 xs[j].s ∧ f (j * 5 + 3) = .int .i64 xs[j].p ∧ f (j * 5 + 4) = .int .i64 xs[j].k)) (fun i _ => xs.length - (intOf i).toNat)
  case atStart =>
    obtain ⟨f, hf⟩ := rowIs_madeN w (Value.agg #[Value.int .i64 0, Value.int .i64 0, Value.int .i64 0, Value.int .i64 0, Value.int .i64 0]).cells (xs.length * 5) 65
    exact ⟨0, Nat.zero_le _, rfl, by go_grown, f, hf, fun _ _ h => absurd h (Nat.not_lt_zero _)⟩
  case round =>
    obtain ⟨k, hk, rfl, hb, f, hrow, hall⟩ := hrel
    have Ha := hide hall
    have Hr := hide hrow
    clear hall
    by_cases hlt : k < xs.length
    · obtain ⟨b, o, rfl, hb1, hb2, hcs⟩ := Hc.out (by omega)
      obtain ⟨⟨h1, h2, h3, h4, h5⟩, -⟩ := hcs k hlt
      rw [← hb.cell (p := ⟨b, _, none⟩) (by simpa using by omega)] at h1 h2 h3 h4 h5
      have hz : w.heap.size < wr.heap.size := hrow.lt
      clear hcs hrow
      go_wp2_with (go_at_call 148; refine (toStuff_any _ _ _ _ _ _).mono ?_; rintro e w1 ⟨rfl, hw1⟩; have hg1 := (rowIs_below Hr.out hw1 hz).cell (i := k * 5) (by omega); have hg2 := (rowIs_below Hr.out hw1 hz).cell (i := k * 5 + 1) (by omega); have hg3 := (rowIs_below Hr.out hw1 hz).cell (i := k * 5 + 2) (by omega); have hg4 := (rowIs_below Hr.out hw1 hz).cell (i := k * 5 + 3) (by omega); have hg5 := (rowIs_below Hr.out hw1 hz).cell (i := k * 5 + 4) (by omega); have hf1 := (rowIs_below Hr.out hw1 hz).frozen (k * 5); have hf2 := (rowIs_below Hr.out hw1 hz).frozen (k * 5 + 1); have hf3 := (rowIs_below Hr.out hw1 hz).frozen (k * 5 + 2); have hf4 := (rowIs_below Hr.out hw1 hz).frozen (k * 5 + 3); have hf5 := (rowIs_below Hr.out hw1 hz).frozen (k * 5 + 4))
      obtain ⟨f', hr', e1, e2, e3, e4, e5, eo⟩ := rowIs_put5 (rowIs_below Hr.out hw1 hz) (k * 5) (.int .i64 xs[k].c) (.int .i64 xs[k].m) (.int .i64 xs[k].s) (.int .i64 xs[k].p) (.int .i64 xs[k].k)
      go_roundw
      case rel =>
        refine ⟨k + 1, by omega, by go_num, ((((((Below.step hb hw1 (Nat.le_refl _)).setCell (Nat.le_refl _) _).setCell (Nat.le_refl _) _).setCell (Nat.le_refl _) _).setCell (Nat.le_refl _) _).setCell (Nat.le_refl _) _), f', hr', fun j hj hjk => ?_⟩
        by_cases e : j = k
        · subst e; exact ⟨e1, e2, e3, e4, e5⟩
        · rw [eo _ (by omega) (by omega) (by omega) (by omega) (by omega), eo _ (by omega) (by omega) (by omega) (by omega) (by omega), eo _ (by omega) (by omega) (by omega) (by omega) (by omega), eo _ (by omega) (by omega) (by omega) (by omega) (by omega), eo _ (by omega) (by omega) (by omega) (by omega) (by omega)]
          exact Ha.out j hj (by omega)
      case measure => simp [intOf]; omega
    · go_wp2_with fail
      go_ret
      refine ⟨_, rfl, StAt.of_row1 Hr.out (Nat.le_refl _) (Nat.le_refl _) (by omega) (fun i hi => Ha.out i hi (by omega)), hb⟩
def mkSt (a : Int) : St := ⟨a, a + 1, a + 1 + 1, a + 1 + 1 + 1, a + 1 + 1 + 1 + 1⟩
set_option maxHeartbeats 800000 in
theorem markStuffS_any (v : Value) (xs : List St) (lo hi : Nat) (k0 : Int) (w : World) (h : StAt lo hi w v xs) (hlen : xs.length ≤ 2097152) (hk0 : 0 ≤ k0) (hk1 : k0 ≤ 16777216) :
    Calls Tryz.prog 98 #[v, .int .i64 k0] w fun e w' => e = .returned (.int .i64 (k0 + 5 * xs.length)) ∧ Other lo hi w w' ∧ ∃ ys : List St, ys.length = xs.length ∧ (∀ i (_ : i < ys.length), ys[i] = mkSt (k0 + 5 * i)) ∧ StAt lo hi w' v ys := by
  have h0 := h
  obtain ⟨ao, cap, rfl, hlc, hcap, hhi, hc⟩ := h
  have Hc := hide hc
  clear hc
  go_enter Tryz.func98, Tryz.ntmps98
  go_wp2_with fail
  go_loopw [1, 5] (fun m i wr => ∃ k : Nat, k ≤ xs.length ∧ i = .int .i64 k ∧ m = .int .i64 (k0 + 5 * k) ∧ Other lo hi w wr ∧ ∃ ys : List St, ys.length = xs.length ∧ (∀ i (_ : i < ys.length), i < k → ys[i] = mkSt (k0 + 5 * i)) ∧ StAt lo hi wr (.slice ao xs.length cap) ys) (fun _ i _ => xs.length - (intOf i).toNat)
  case atStart => exact ⟨0, Nat.zero_le _, rfl, by simp, Other.refl _ _ _, xs, rfl, fun _ _ h => absurd h (Nat.not_lt_zero _), h0⟩
  case round =>
    obtain ⟨k, hk, rfl, rfl, hb, ys, hyl, hall, hat⟩ := hrel
    have Hyl := hide hyl
    have Ha := hide hall
    have Hat := hide hat
    clear hyl hat hall
    by_cases hlt : k < xs.length
    · obtain ⟨ao', cap', e, a1, a2, a3, a4⟩ := Hat.out
      simp only [Value.slice.injEq] at e
      obtain ⟨rfl, -, rfl⟩ := e
      obtain ⟨b, o, rfl, hb1, hb2, hcs⟩ := a4 (by have := Hyl.out; omega)
      obtain ⟨⟨h1, h2, h3, h4, h5⟩, f1, f2, f3, f4, f5⟩ := hcs k (by have := Hyl.out; omega)
      clear a4 hcs
      go_wp2_with fail
      go_roundw
      case rel =>
        refine ⟨k + 1, by omega, by go_num, by go_num, (((((hb.setCell hb1 hb2 _).setCell hb1 hb2 _).setCell hb1 hb2 _).setCell hb1 hb2 _).setCell hb1 hb2 _), ys.set k (mkSt (k0 + 5 * k)), by simp [Hyl.out], fun i hi hik => ?_, ?_⟩
        · rw [List.getElem_set]
          split
          · subst k; rfl
          · exact Ha.out i (by simpa using hi) (by omega)
        · exact StAt.set Hat.out (by have := Hyl.out; omega) (by simp [Hyl.out]) _ _ _ _ _
      case measure => simp [intOf]; omega
    · go_wp2_with fail
      go_ret
      refine ⟨?_, hb, ys, Hyl.out, fun i hi => Ha.out i hi (by have := Hyl.out; omega), Hat.out⟩
      have : (k : Int) = xs.length := by omega
      rw [this]; rfl
set_option maxHeartbeats 800000 in
theorem heldStuffS_any (v : Value) (ys : List St) (lo hi : Nat) (k0 : Int) (w : World) (h : StAt lo hi w v ys) (hlen : ys.length ≤ 2097152) (hk0 : 0 ≤ k0) (hk1 : k0 ≤ 16777216) (hm : ∀ i (_ : i < ys.length), ys[i] = mkSt (k0 + 5 * i)) :
    Calls Tryz.prog 101 #[v, .int .i64 k0] w fun e w' => e = .returned (.int .i64 (k0 + 5 * ys.length)) ∧ w = w' := by
  obtain ⟨ao, cap, rfl, hlc, hcap, hhi, hc⟩ := h
  have Hc := hide hc
  have Hm := hide hm
  clear hc hm
  go_enter Tryz.func101, Tryz.ntmps101
  go_wp2_with fail
  go_loop [1, 5] (fun m i => ∃ k : Nat, k ≤ ys.length ∧ i = .int .i64 k ∧ m = .int .i64 (k0 + 5 * k)) (fun _ i => ys.length - (intOf i).toNat)
  case atStart => exact ⟨0, Nat.zero_le _, rfl, by simp⟩
  case round =>
    obtain ⟨k, hk, rfl, rfl⟩ := hrel
    by_cases hlt : k < ys.length
    · obtain ⟨b, o, rfl, hb1, hb2, hcs⟩ := Hc.out (by omega)
      obtain ⟨⟨h1, h2, h3, h4, h5⟩, -⟩ := hcs k hlt
      rw [Hm.out k hlt] at h1 h2 h3 h4 h5
      simp only [mkSt] at h1 h2 h3 h4 h5
      clear hcs
      go_wp2_with fail
      go_round
      case rel => exact ⟨k + 1, by omega, by go_num, by go_num⟩
      case measure => simp [intOf]; omega
    · go_wp2_with fail
      go_ret
      refine ⟨?_, rfl⟩
      have : (k : Int) = ys.length := by omega
      rw [this]; rfl
theorem stv_impl (c m s p k : Int) (w : World) :
    Calls Tryz.prog 145 #[.agg #[.int .i64 c, .int .i64 m, .int .i64 s, .int .i64 p, .int .i64 k]] w fun e w' => e = .returned (.bool (stB ⟨c, m, s, p, k⟩)) ∧ Below w.heap.size w w' := by
  go_enter Tryz.func145, Tryz.ntmps145
  go_wp2_with (go_at_call 79; refine (within_any _ _ _ _).mono ?_; rintro e w' ⟨rfl, rfl⟩)
  all_goals
    go_ret
    exact ⟨by simp_all [stB], by go_grown⟩
theorem stv_spec (c m s p k : Int) (w : World) :
    Calls Tryz.prog 132 #[.agg #[.int .i64 c, .int .i64 m, .int .i64 s, .int .i64 p, .int .i64 k]] w fun e w' => e = .returned (.bool (stB ⟨c, m, s, p, k⟩)) ∧ Below w.heap.size w w' := by
  go_enter Tryz.func132, Tryz.ntmps132
  go_wp2_with (go_at_call 68; refine (l1In_any _ _ _ _).mono ?_; rintro e w' ⟨rfl, rfl⟩)
  all_goals
    go_ret
    exact ⟨by simp_all [stB], by go_grown⟩
set_option maxHeartbeats 400000 in
theorem stsv_impl (v : Value) (js : List St) (lo hi : Nat) (w : World) (h : StAt lo hi w v js) :
    Calls Tryz.prog 82 #[v] w fun e w' => e = .returned (.bool (stsB js)) ∧ Below w.heap.size w w' := by
  obtain ⟨ao, cap, rfl, hlc, hcap, hhi, hc⟩ := h
  have Hc := hide hc
  clear hc
  by_cases h6 : js.length ≤ 4
  · go_enter Tryz.func82, Tryz.ntmps82
    go_wp2_with fail
    go_loopw [10] (fun i wr => ∃ k : Nat, k ≤ js.length ∧ i = .int .i64 k ∧ Below w.heap.size w wr ∧ (∀ j (_ : j < js.length), j < k → stB js[j] = true)) (fun i _ => js.length - (intOf i).toNat)
    case atStart => exact ⟨0, Nat.zero_le _, rfl, Below.refl _ _, fun _ _ h => absurd h (Nat.not_lt_zero _)⟩
    case round =>
      obtain ⟨k, hk, rfl, hb, hall⟩ := hrel
      have Ha := hide hall
      clear hall
      by_cases hlt : k < js.length
      · obtain ⟨b, o, rfl, hb1, hb2, hcs⟩ := Hc.out (by omega)
        obtain ⟨⟨h1, h2, h3, h4, h5⟩, -⟩ := hcs k hlt
        rw [← hb.cell (p := ⟨b, _, none⟩) (by simpa using by omega)] at h1 h2 h3 h4 h5
        clear hcs
        go_wp2_with (go_at_call 145; refine (stv_impl _ _ _ _ _ _).mono ?_; rintro e w1 ⟨rfl, hb1'⟩)
        · go_ret
          refine ⟨?_, Below.step (hb.alloc hb.size _) hb1' (Nat.le_refl _)⟩
          have hf : stB js[k] = false := by simpa using (by assumption : (!stB { c := js[k].c, m := js[k].m, s := js[k].s, p := js[k].p, k := js[k].k }) = true)
          simp [stsB, all_fell hlt hf]
        · have hf : stB js[k] = true := by simpa using (by assumption : (!stB { c := js[k].c, m := js[k].m, s := js[k].s, p := js[k].p, k := js[k].k }) = false)
          go_roundw
          case rel => exact ⟨k + 1, by omega, by go_num, Below.step (hb.alloc hb.size _) hb1' (Nat.le_refl _), all_snoc hlt Ha.out hf⟩
          case measure => simp [intOf]; omega
      · go_wp2
        go_ret
        exact ⟨by simp [stsB, h6, all_done (by omega) Ha.out], hb⟩
  · go_enter Tryz.func82, Tryz.ntmps82
    go_wp2_with fail
    go_ret
    exact ⟨by simp [stsB, h6], Below.refl _ _⟩
set_option maxHeartbeats 400000 in
theorem stsv_spec (v : Value) (js : List St) (lo hi : Nat) (w : World) (h : StAt lo hi w v js) :
    Calls Tryz.prog 66 #[v] w fun e w' => e = .returned (.bool (stsB js)) ∧ Below w.heap.size w w' := by
  obtain ⟨ao, cap, rfl, hlc, hcap, hhi, hc⟩ := h
  have Hc := hide hc
  clear hc
  go_enter Tryz.func66, Tryz.ntmps66
  go_wp2_with fail
  go_loopw [3] (fun i wr => ∃ k : Nat, k ≤ js.length ∧ i = .int .i64 k ∧ Below w.heap.size w wr ∧ (∀ j (_ : j < js.length), j < k → stB js[j] = true)) (fun i _ => js.length - (intOf i).toNat)
  case atStart => exact ⟨0, Nat.zero_le _, rfl, Below.refl _ _, fun _ _ h => absurd h (Nat.not_lt_zero _)⟩
  case round =>
    obtain ⟨k, hk, rfl, hb, hall⟩ := hrel
    have Ha := hide hall
    clear hall
    by_cases hlt : k < js.length
    · obtain ⟨b, o, rfl, hb1, hb2, hcs⟩ := Hc.out (by omega)
      obtain ⟨⟨h1, h2, h3, h4, h5⟩, -⟩ := hcs k hlt
      rw [← hb.cell (p := ⟨b, _, none⟩) (by simpa using by omega)] at h1 h2 h3 h4 h5
      clear hcs
      go_wp2_with (go_at_call 132; refine (stv_spec _ _ _ _ _ _).mono ?_; rintro e w1 ⟨rfl, hb1'⟩)
      · go_ret
        refine ⟨?_, Below.step hb hb1' (Nat.le_refl _)⟩
        have hf : stB js[k] = false := by simpa using (by assumption : (!stB { c := js[k].c, m := js[k].m, s := js[k].s, p := js[k].p, k := js[k].k }) = true)
        simp [stsB, all_fell hlt hf]
      · have hf : stB js[k] = true := by simpa using (by assumption : (!stB { c := js[k].c, m := js[k].m, s := js[k].s, p := js[k].p, k := js[k].k }) = false)
        go_roundw
        case rel => exact ⟨k + 1, by omega, by go_num, Below.step hb hb1' (Nat.le_refl _), all_snoc hlt Ha.out hf⟩
        case measure => simp [intOf]; omega
    · go_wp2_with fail
      go_ret
      refine ⟨?_, hb⟩
      have hall := all_done (by omega) Ha.out
      by_cases h6 : js.length ≤ 4
      · simp [stsB, hall, h6]; omega
      · simp [stsB, h6]; omega
def grV (g : Gr) : Value := .agg #[.int .i64 g.lc, .int .i64 g.hc, .int .i64 g.lm, .int .i64 g.hm, .int .i64 g.ls, .int .i64 g.hs]
theorem grv_impl (g : Gr) (w : World) :
    Calls Tryz.prog 83 #[grV g] w fun e w' => e = .returned (.bool (grB g)) ∧ Below w.heap.size w w' := by
  obtain ⟨a, b, c, d, f, h⟩ := g
  unfold grV
  go_enter Tryz.func83, Tryz.ntmps83
  go_wp2_with (go_at_call 79; refine (within_any _ _ _ _).mono ?_; rintro e w' ⟨rfl, rfl⟩)
  all_goals
    go_ret
    exact ⟨by simp_all [grB], by go_grown⟩
theorem l1Range_any (a b : Int) (w : World) :
    Calls Tryz.prog 133 #[.int .i64 a, .int .i64 b] w fun e w' => e = .returned (.bool (wi a 0 999 && wi b a 999)) ∧ w = w' := by
  go_enter Tryz.func133, Tryz.ntmps133
  go_wp2_with (go_at_call 68; refine (l1In_any _ _ _ _).mono ?_; rintro e w' ⟨rfl, rfl⟩)
  all_goals
    go_ret
    exact ⟨by simp_all, rfl⟩
theorem grv_spec (g : Gr) (w : World) :
    Calls Tryz.prog 67 #[grV g] w fun e w' => e = .returned (.bool (grB g)) ∧ Below w.heap.size w w' := by
  obtain ⟨a, b, c, d, f, h⟩ := g
  unfold grV
  have e0 : grB ⟨a, b, c, d, f, h⟩ = ((wi a 0 999 && wi b a 999) && ((wi c 0 999 && wi d c 999) && (wi f 0 999 && wi h f 999))) := by simp [grB, Bool.and_assoc]
  rw [e0]
  rcases h1 : (wi a 0 999 && wi b a 999) <;> rcases h2 : (wi c 0 999 && wi d c 999) <;> rcases h3 : (wi f 0 999 && wi h f 999)
  all_goals
    have c1 := fun w => l1Range_any a b w
    have c2 := fun w => l1Range_any c d w
    have c3 := fun w => l1Range_any f h w
    rw [h1] at c1
    rw [h2] at c2
    rw [h3] at c3
    go_enter Tryz.func67, Tryz.ntmps67
    go_wp2_with fail
    refine (c1 _).mono ?_
    rintro e w1 ⟨rfl, rfl⟩
    go_wp2_with fail
    first
      | (go_ret; exact ⟨rfl, by go_grown⟩)
      | (refine (c2 _).mono ?_
         rintro e w1 ⟨rfl, rfl⟩
         go_wp2_with fail
         first
           | (go_ret; exact ⟨rfl, by go_grown⟩)
           | (refine (c3 _).mono ?_
              rintro e w1 ⟨rfl, rfl⟩
              go_wp2_with fail
              go_ret
              exact ⟨rfl, by go_grown⟩))
end Go.Proofs.YtmemgbklgcjobaaGreatDoor
