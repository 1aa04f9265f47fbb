/-
  Parts of the proof, of 2 texts: what HelpPc, HelpJ show. Conditions: each theorem states its own.
-/
import Derived.Test.YtajjnciookhamaaGreatM05
import Derived.Test.YtajjnciookhamaaGreatM06
namespace Go.Proofs.YtajjnciookhamaaGreat
open Go.RowKit
theorem info_Pc : (Tryz.prog.info? 71).map (fun i => (i.zero, i.size, i.bytes)) = some (some (.agg #[.int .i64 0, .int .i64 0]), 2, 16) := by kernel_rfl
def eqPc (a b : Pc) : Bool := decide (a = b)
theorem toPiece_any (l0 s0 : Int) (w : World) :
    Calls Tryz.prog 68 #[.agg #[.int .i64 l0, .int .i64 s0]] w fun e w' => e = .returned (.agg #[.int .i64 l0, .int .i64 s0]) ∧ Below w.heap.size w w' := by
  go_enter Tryz.func68, Tryz.ntmps68
  go_wp2
  go_returns
  exact ⟨rfl, by go_grown⟩
theorem eqPiece_any (l0 s0 l1 s1 : Int) (w : World) :
    Calls Tryz.prog 93 #[.agg #[.int .i64 l0, .int .i64 s0], .agg #[.int .i64 l1, .int .i64 s1]] w fun e w' => e = .returned (.bool (eqPc ⟨l0, s0⟩ ⟨l1, s1⟩)) ∧ Below w.heap.size w w' := by
  go_enter Tryz.func93, Tryz.ntmps93
  go_wp2
  all_goals
    go_ret
    exact ⟨by simp_all [eqPc], by go_grown⟩
theorem szPieceS_any (v : Value) (xs : List Pc) (lo hi : Nat) (left : Int) (w : World) (h : PcAt lo hi w v xs) (h1 : 0 ≤ left) (h2 : left ≤ 1048576) :
    Calls Tryz.prog 20 #[v, .int .i64 left] w fun e w' => e = .returned (.int .i64 (szI left xs.length)) ∧ w = w' := by
  have hl := h.len
  obtain ⟨ao, cap, rfl, hlc, hcap, hhi, hc⟩ := h
  have Hc := hide hc
  clear hc
  go_enter Tryz.func20, Tryz.ntmps20
  go_wp2
  all_goals
    go_ret
    refine ⟨?_, rfl⟩
    unfold szI
    first | (rw [if_pos (by omega)]; rfl) | (rw [if_neg (by omega)]; rfl)
set_option maxRecDepth 10000 in
set_option maxHeartbeats 400000 in
theorem eqPieceS_any (v v' : Value) (xs ys : List Pc) (lo hi lo' hi' : Nat) (w : World) (h : PcAt lo hi w v xs) (h' : PcAt lo' hi' w v' ys) :
    Calls Tryz.prog 45 #[v, v'] w fun e w' => e = .returned (.bool (decide (xs = ys))) ∧ Below w.heap.size w w' := by
  obtain ⟨ao, cap, rfl, hlc, hcap, hhi, hc⟩ := h
  obtain ⟨ao', cap', rfl, hlc', hcap', hhi', hc'⟩ := h'
  have Hc := hide hc
  have Hc' := hide hc'
  clear hc hc'
  by_cases hl : xs.length = ys.length
  · have HL := hide hl
    have hlB : ((xs.length : Int) != (ys.length : Int)) = false := by simp [hl]
    clear hl
    go_enter Tryz.func45, Tryz.ntmps45
    go_wp2_with fail
    go_loopw [5] (fun i wr => ∃ k : Nat, k ≤ xs.length ∧ i = .int .i64 k ∧ Below w.heap.size w wr ∧ xs.take k = ys.take k) (fun i _ => xs.length - (intOf i).toNat)
    case atStart => exact ⟨0, Nat.zero_le _, rfl, Below.refl _ _, rfl⟩
    case round =>
      obtain ⟨k, hk, rfl, hb, hall⟩ := hrel
      have Ha := hide hall
      clear hall
      by_cases hlt : k < xs.length
      · have hlt' : k < ys.length := by have := HL.out; omega
        obtain ⟨b, o, rfl, hb1, hb2, hcs⟩ := Hc.out (by omega)
        obtain ⟨b', o', rfl, hb1', hb2', hcs'⟩ := Hc'.out (by omega)
        obtain ⟨⟨h1, h2⟩, -⟩ := hcs k hlt
        obtain ⟨⟨h1', h2'⟩, -⟩ := hcs' k hlt'
        rw [← hb.cell (p := ⟨_, _, none⟩) (by simpa using by omega)] at h1 h2 h1' h2'
        clear hcs hcs'
        have hi1 : (k : Int) < (xs.length : Int) := by omega
        have hi2 : (k : Int) < (ys.length : Int) := by omega
        by_cases hq : xs[k] = ys[k]
        · have hqB : eqPc { l := xs[k].l, s := xs[k].s } { l := ys[k].l, s := ys[k].s } = true := by simp [eqPc, hq]
          have hall' : xs.take (k + 1) = ys.take (k + 1) := by
            rw [List.take_succ_eq_append_getElem hlt, List.take_succ_eq_append_getElem hlt', Ha.out, hq]
          have Ha' := hide hall'
          clear hq hall'
          go_wp2_with fail
          go_still_tail 8, (by kernel_rfl)
          change wpList _ _ _ _ _ wr.drew
          clear h1 h2 h1' h2'
          go_wp2_with (go_at_call 93; refine (eqPiece_any _ _ _ _ _).mono ?_; rintro e w1 ⟨rfl, hw1⟩)
          go_roundw
          case rel => exact ⟨k + 1, by omega, by go_num, Below.step hb.drew hw1 (Nat.le_refl _), Ha'.out⟩
          case measure => simp [intOf]; omega
        · have hqB : eqPc { l := xs[k].l, s := xs[k].s } { l := ys[k].l, s := ys[k].s } = false := by
            unfold eqPc; rw [decide_eq_false_iff_not]; exact hq
          have HQ := hide hq
          clear hq
          go_wp2_with fail
          go_still_tail 8, (by kernel_rfl)
          change wpList _ _ _ _ _ wr.drew
          clear h1 h2 h1' h2'
          go_wp2_with (go_at_call 93; refine (eqPiece_any _ _ _ _ _).mono ?_; rintro e w1 ⟨rfl, hw1⟩)
          go_ret
          refine ⟨?_, Below.step hb.drew hw1 (Nat.le_refl _)⟩
          have hne : xs ≠ ys := by
            intro e
            subst e
            exact HQ.out rfl
          simp [hne]
      · go_wp2_with fail
        go_ret
        refine ⟨?_, hb⟩
        have e : xs = ys := by
          have := Ha.out
          rw [List.take_of_length_le (by omega), List.take_of_length_le (by have := HL.out; omega)] at this
          exact this
        simp [e]
  · have hlB : ((xs.length : Int) != (ys.length : Int)) = true := by simp; omega
    go_enter Tryz.func45, Tryz.ntmps45
    go_wp2_with fail
    go_ret
    exact ⟨by simp; intro h; exact hl (by rw [h]), Below.refl _ _⟩
set_option maxHeartbeats 800000 in
theorem toPieceS_any (v : Value) (xs : List Pc) (lo hi : Nat) (w : World) (h : PcAt lo hi w v xs) (hlen : xs.length ≤ 2097152) :
    Calls Tryz.prog 34 #[v] w fun e w' => ∃ v', e = .returned v' ∧ PcAt w.heap.size (w.heap.size + 1) w' v' xs ∧ Below w.heap.size w w' := by
  have hlt0 := h.lt
  obtain ⟨ao, cap, rfl, hlc, hcap, hhi, hc⟩ := h
  have Hc := hide hc
  clear hc
  have hmk := fun W => make_rowN (P := Tryz.prog) 36 71 _ _ _ Tryz.underlying36 info_Pc .i64 .i64 xs.length (by omega) (by omega) W
  go_enter Tryz.func34, Tryz.ntmps34
  go_wp2_with fail
  clear hmk
  go_loopw [4] (fun i wr => ∃ k : Nat, k ≤ xs.length ∧ i = .int .i64 k ∧ Below w.heap.size w wr ∧ ∃ f, wr.rowIs w.heap.size 71 (xs.length * 2) f ∧ (∀ j (_ : j < xs.length), j < k → f (j * 2) = .int .i64 xs[j].l ∧ f (j * 2 + 1) = .int .i64 xs[j].s)) (fun i _ => xs.length - (intOf i).toNat)
  case atStart =>
    obtain ⟨f, hf⟩ := rowIs_madeN w (Value.agg #[Value.int .i64 0, Value.int .i64 0]).cells (xs.length * 2) 71
    exact ⟨0, Nat.zero_le _, rfl, by go_grown, f, hf, fun _ _ h => absurd h (Nat.not_lt_zero _)⟩
  case round =>
    obtain ⟨k, hk, rfl, hb, f, hrow, hall⟩ := hrel
    have Ha := hide hall
    have Hr := hide hrow
    clear hall
    by_cases hlt : k < xs.length
    · obtain ⟨b, o, rfl, hb1, hb2, hcs⟩ := Hc.out (by omega)
      obtain ⟨⟨h1, h2⟩, -⟩ := hcs k hlt
      rw [← hb.cell (p := ⟨b, _, none⟩) (by simpa using by omega)] at h1 h2
      have hz : w.heap.size < wr.heap.size := hrow.lt
      clear hcs hrow
      go_wp2_with (go_at_call 68; refine (toPiece_any _ _ _).mono ?_; rintro e w1 ⟨rfl, hw1⟩; have hg1 := (rowIs_below Hr.out hw1 hz).cell (i := k * 2) (by omega); have hg2 := (rowIs_below Hr.out hw1 hz).cell (i := k * 2 + 1) (by omega); have hf1 := (rowIs_below Hr.out hw1 hz).frozen (k * 2); have hf2 := (rowIs_below Hr.out hw1 hz).frozen (k * 2 + 1))
      obtain ⟨f', hr', e1, e2, eo⟩ := rowIs_put2 (rowIs_below Hr.out hw1 hz) (k * 2) (.int .i64 xs[k].l) (.int .i64 xs[k].s)
      go_roundw
      case rel =>
        refine ⟨k + 1, by omega, by go_num, (((Below.step hb hw1 (Nat.le_refl _)).setCell (Nat.le_refl _) _).setCell (Nat.le_refl _) _), f', hr', fun j hj hjk => ?_⟩
        by_cases e : j = k
        · subst e; exact ⟨e1, e2⟩
        · rw [eo _ (by omega) (by omega), eo _ (by omega) (by omega)]
          exact Ha.out j hj (by omega)
      case measure => simp [intOf]; omega
    · go_wp2_with fail
      go_ret
      refine ⟨_, rfl, PcAt.of_row1 Hr.out (Nat.le_refl _) (Nat.le_refl _) (by omega) (fun i hi => Ha.out i hi (by omega)), hb⟩
def mkPc (a : Int) : Pc := ⟨a, a + 1⟩
set_option maxHeartbeats 800000 in
theorem markPieceS_any (v : Value) (xs : List Pc) (lo hi : Nat) (k0 : Int) (w : World) (h : PcAt lo hi w v xs) (hlen : xs.length ≤ 2097152) (hk0 : 0 ≤ k0) (hk1 : k0 ≤ 16777216) :
    Calls Tryz.prog 48 #[v, .int .i64 k0] w fun e w' => e = .returned (.int .i64 (k0 + 2 * xs.length)) ∧ Other lo hi w w' ∧ ∃ ys : List Pc, ys.length = xs.length ∧ (∀ i (_ : i < ys.length), ys[i] = mkPc (k0 + 2 * i)) ∧ PcAt lo hi w' v ys := by
  have h0 := h
  obtain ⟨ao, cap, rfl, hlc, hcap, hhi, hc⟩ := h
  have Hc := hide hc
  clear hc
  go_enter Tryz.func48, Tryz.ntmps48
  go_wp2_with fail
  go_loopw [1, 5] (fun m i wr => ∃ k : Nat, k ≤ xs.length ∧ i = .int .i64 k ∧ m = .int .i64 (k0 + 2 * k) ∧ Other lo hi w wr ∧ ∃ ys : List Pc, ys.length = xs.length ∧ (∀ i (_ : i < ys.length), i < k → ys[i] = mkPc (k0 + 2 * i)) ∧ PcAt lo hi wr (.slice ao xs.length cap) ys) (fun _ i _ => xs.length - (intOf i).toNat)
  case atStart => exact ⟨0, Nat.zero_le _, rfl, by simp, Other.refl _ _ _, xs, rfl, fun _ _ h => absurd h (Nat.not_lt_zero _), h0⟩
  case round =>
    obtain ⟨k, hk, rfl, rfl, hb, ys, hyl, hall, hat⟩ := hrel
    have Hyl := hide hyl
    have Ha := hide hall
    have Hat := hide hat
    clear hyl hat hall
    by_cases hlt : k < xs.length
    · obtain ⟨ao', cap', e, a1, a2, a3, a4⟩ := Hat.out
      simp only [Value.slice.injEq] at e
      obtain ⟨rfl, -, rfl⟩ := e
      obtain ⟨b, o, rfl, hb1, hb2, hcs⟩ := a4 (by have := Hyl.out; omega)
      obtain ⟨⟨h1, h2⟩, f1, f2⟩ := hcs k (by have := Hyl.out; omega)
      clear a4 hcs
      go_wp2_with fail
      go_roundw
      case rel =>
        refine ⟨k + 1, by omega, by go_num, by go_num, ((hb.setCell hb1 hb2 _).setCell hb1 hb2 _), ys.set k (mkPc (k0 + 2 * k)), by simp [Hyl.out], fun i hi hik => ?_, ?_⟩
        · rw [List.getElem_set]
          split
          · subst k; rfl
          · exact Ha.out i (by simpa using hi) (by omega)
        · exact PcAt.set Hat.out (by have := Hyl.out; omega) (by simp [Hyl.out]) _ _
      case measure => simp [intOf]; omega
    · go_wp2_with fail
      go_ret
      refine ⟨?_, hb, ys, Hyl.out, fun i hi => Ha.out i hi (by have := Hyl.out; omega), Hat.out⟩
      have : (k : Int) = xs.length := by omega
      rw [this]; rfl
set_option maxHeartbeats 800000 in
theorem heldPieceS_any (v : Value) (ys : List Pc) (lo hi : Nat) (k0 : Int) (w : World) (h : PcAt lo hi w v ys) (hlen : ys.length ≤ 2097152) (hk0 : 0 ≤ k0) (hk1 : k0 ≤ 16777216) (hm : ∀ i (_ : i < ys.length), ys[i] = mkPc (k0 + 2 * i)) :
    Calls Tryz.prog 51 #[v, .int .i64 k0] w fun e w' => e = .returned (.int .i64 (k0 + 2 * ys.length)) ∧ w = w' := by
  obtain ⟨ao, cap, rfl, hlc, hcap, hhi, hc⟩ := h
  have Hc := hide hc
  have Hm := hide hm
  clear hc hm
  go_enter Tryz.func51, Tryz.ntmps51
  go_wp2_with fail
  go_loop [1, 5] (fun m i => ∃ k : Nat, k ≤ ys.length ∧ i = .int .i64 k ∧ m = .int .i64 (k0 + 2 * k)) (fun _ i => ys.length - (intOf i).toNat)
  case atStart => exact ⟨0, Nat.zero_le _, rfl, by simp⟩
  case round =>
    obtain ⟨k, hk, rfl, rfl⟩ := hrel
    by_cases hlt : k < ys.length
    · obtain ⟨b, o, rfl, hb1, hb2, hcs⟩ := Hc.out (by omega)
      obtain ⟨⟨h1, h2⟩, -⟩ := hcs k hlt
      rw [Hm.out k hlt] at h1 h2
      simp only [mkPc] at h1 h2
      clear hcs
      go_wp2_with fail
      go_round
      case rel => exact ⟨k + 1, by omega, by go_num, by go_num⟩
      case measure => simp [intOf]; omega
    · go_wp2_with fail
      go_ret
      refine ⟨?_, rfl⟩
      have : (k : Int) = ys.length := by omega
      rw [this]; rfl
end Go.Proofs.YtajjnciookhamaaGreat
namespace Go.Proofs.YtajjnciookhamaaGreat
open Go.RowKit
theorem JobsAt.of_row1 {w : World} {g T n m : Nat} {f : Nat → Value} (h : w.rowIs g T m f) {xs : List J} (hn : xs.length ≤ n) (hm : n * 3 ≤ m) (hn' : n ≤ 9223372036854775807) (hf : ∀ i (_ : i < xs.length), f (i * 3) = .int .i64 xs[i].s ∧ f (i * 3 + 1) = .int .i64 xs[i].d ∧ f (i * 3 + 2) = .int .i64 xs[i].g) :
    JobsAt g (g + 1) w (.slice (some ⟨g, 0, none⟩) xs.length n) xs :=
  ⟨_, n, rfl, hn, hn', h.lt, fun _ => ⟨g, 0, rfl, Nat.le_refl _, Nat.lt_succ_self _, fun i hi => by
    obtain ⟨f0, f1, f2⟩ := hf i hi
    rw [Nat.zero_add]
    exact ⟨⟨by rw [h.cell (by omega), f0], by rw [h.cell (by omega), f1], by rw [h.cell (by omega), f2]⟩, h.frozen _, h.frozen _, h.frozen _⟩⟩⟩
theorem info_J : (Tryz.prog.info? 43).map (fun i => (i.zero, i.size, i.bytes)) = some (some (.agg #[.int .i64 0, .int .i64 0, .int .i64 0]), 3, 24) := by kernel_rfl
def eqJ (a b : J) : Bool := decide (a = b)
theorem toMillDeed_any (s0 d0 g0 : Int) (w : World) :
    Calls Tryz.prog 8 #[.agg #[.int .i64 s0, .int .i64 d0, .int .i64 g0]] w fun e w' => e = .returned (.agg #[.int .i64 s0, .int .i64 d0, .int .i64 g0]) ∧ Below w.heap.size w w' := by
  go_enter Tryz.func8, Tryz.ntmps8
  go_wp2
  go_returns
  exact ⟨rfl, by go_grown⟩
theorem eqMillDeed_any (s0 d0 g0 s1 d1 g1 : Int) (w : World) :
    Calls Tryz.prog 53 #[.agg #[.int .i64 s0, .int .i64 d0, .int .i64 g0], .agg #[.int .i64 s1, .int .i64 d1, .int .i64 g1]] w fun e w' => e = .returned (.bool (eqJ ⟨s0, d0, g0⟩ ⟨s1, d1, g1⟩)) ∧ Below w.heap.size w w' := by
  go_enter Tryz.func53, Tryz.ntmps53
  go_wp2
  all_goals
    go_ret
    exact ⟨by simp_all [eqJ], by go_grown⟩
theorem szMillDeedS_any (v : Value) (xs : List J) (lo hi : Nat) (left : Int) (w : World) (h : JobsAt lo hi w v xs) (h1 : 0 ≤ left) (h2 : left ≤ 1048576) :
    Calls Tryz.prog 13 #[v, .int .i64 left] w fun e w' => e = .returned (.int .i64 (szI left xs.length)) ∧ w = w' := by
  have hl := h.len
  obtain ⟨ao, cap, rfl, hlc, hcap, hhi, hc⟩ := h
  have Hc := hide hc
  clear hc
  go_enter Tryz.func13, Tryz.ntmps13
  go_wp2
  all_goals
    go_ret
    refine ⟨?_, rfl⟩
    unfold szI
    first | (rw [if_pos (by omega)]; rfl) | (rw [if_neg (by omega)]; rfl)
set_option maxRecDepth 10000 in
set_option maxHeartbeats 400000 in
theorem eqMillDeedS_any (v v' : Value) (xs ys : List J) (lo hi lo' hi' : Nat) (w : World) (h : JobsAt lo hi w v xs) (h' : JobsAt lo' hi' w v' ys) :
    Calls Tryz.prog 17 #[v, v'] w fun e w' => e = .returned (.bool (decide (xs = ys))) ∧ Below w.heap.size w w' := by
  obtain ⟨ao, cap, rfl, hlc, hcap, hhi, hc⟩ := h
  obtain ⟨ao', cap', rfl, hlc', hcap', hhi', hc'⟩ := h'
  have Hc := hide hc
  have Hc' := hide hc'
  clear hc hc'
  by_cases hl : xs.length = ys.length
  · have HL := hide hl
    have hlB : ((xs.length : Int) != (ys.length : Int)) = false := by simp [hl]
    clear hl
    go_enter Tryz.func17, Tryz.ntmps17
    go_wp2_with fail
    go_loopw [5] (fun i wr => ∃ k : Nat, k ≤ xs.length ∧ i = .int .i64 k ∧ Below w.heap.size w wr ∧ xs.take k = ys.take k) (fun i _ => xs.length - (intOf i).toNat)
    case atStart => exact ⟨0, Nat.zero_le _, rfl, Below.refl _ _, rfl⟩
    case round =>
      obtain ⟨k, hk, rfl, hb, hall⟩ := hrel
      have Ha := hide hall
      clear hall
      by_cases hlt : k < xs.length
      · have hlt' : k < ys.length := by have := HL.out; omega
        obtain ⟨b, o, rfl, hb1, hb2, hcs⟩ := Hc.out (by omega)
        obtain ⟨b', o', rfl, hb1', hb2', hcs'⟩ := Hc'.out (by omega)
        obtain ⟨⟨h1, h2, h3⟩, -⟩ := hcs k hlt
        obtain ⟨⟨h1', h2', h3'⟩, -⟩ := hcs' k hlt'
        rw [← hb.cell (p := ⟨_, _, none⟩) (by simpa using by omega)] at h1 h2 h3 h1' h2' h3'
        clear hcs hcs'
        have hi1 : (k : Int) < (xs.length : Int) := by omega
        have hi2 : (k : Int) < (ys.length : Int) := by omega
        by_cases hq : xs[k] = ys[k]
        · have hqB : eqJ { s := xs[k].s, d := xs[k].d, g := xs[k].g } { s := ys[k].s, d := ys[k].d, g := ys[k].g } = true := by simp [eqJ, hq]
          have hall' : xs.take (k + 1) = ys.take (k + 1) := by
            rw [List.take_succ_eq_append_getElem hlt, List.take_succ_eq_append_getElem hlt', Ha.out, hq]
          have Ha' := hide hall'
          clear hq hall'
          go_wp2_with fail
          go_still_tail 8, (by kernel_rfl)
          change wpList _ _ _ _ _ wr.drew
          clear h1 h2 h3 h1' h2' h3'
          go_wp2_with (go_at_call 53; refine (eqMillDeed_any _ _ _ _ _ _ _).mono ?_; rintro e w1 ⟨rfl, hw1⟩)
          go_roundw
          case rel => exact ⟨k + 1, by omega, by go_num, Below.step hb.drew hw1 (Nat.le_refl _), Ha'.out⟩
          case measure => simp [intOf]; omega
        · have hqB : eqJ { s := xs[k].s, d := xs[k].d, g := xs[k].g } { s := ys[k].s, d := ys[k].d, g := ys[k].g } = false := by
            unfold eqJ; rw [decide_eq_false_iff_not]; exact hq
          have HQ := hide hq
          clear hq
          go_wp2_with fail
          go_still_tail 8, (by kernel_rfl)
          change wpList _ _ _ _ _ wr.drew
          clear h1 h2 h3 h1' h2' h3'
          go_wp2_with (go_at_call 53; refine (eqMillDeed_any _ _ _ _ _ _ _).mono ?_; rintro e w1 ⟨rfl, hw1⟩)
          go_ret
          refine ⟨?_, Below.step hb.drew hw1 (Nat.le_refl _)⟩
          have hne : xs ≠ ys := by
            intro e
            subst e
            exact HQ.out rfl
          simp [hne]
      · go_wp2_with fail
        go_ret
        refine ⟨?_, hb⟩
        have e : xs = ys := by
          have := Ha.out
          rw [List.take_of_length_le (by omega), List.take_of_length_le (by have := HL.out; omega)] at this
          exact this
        simp [e]
  · have hlB : ((xs.length : Int) != (ys.length : Int)) = true := by simp; omega
    go_enter Tryz.func17, Tryz.ntmps17
    go_wp2_with fail
    go_ret
    exact ⟨by simp; intro h; exact hl (by rw [h]), Below.refl _ _⟩
set_option maxHeartbeats 800000 in
theorem toMillDeedS_any (v : Value) (xs : List J) (lo hi : Nat) (w : World) (h : JobsAt lo hi w v xs) (hlen : xs.length ≤ 2097152) :
    Calls Tryz.prog 15 #[v] w fun e w' => ∃ v', e = .returned v' ∧ JobsAt w.heap.size (w.heap.size + 1) w' v' xs ∧ Below w.heap.size w w' := by
  have hlt0 := h.lt
  obtain ⟨ao, cap, rfl, hlc, hcap, hhi, hc⟩ := h
  have Hc := hide hc
  clear hc
  have hmk := fun W => make_rowN (P := Tryz.prog) 52 43 _ _ _ Tryz.underlying52 info_J .i64 .i64 xs.length (by omega) (by omega) W
  go_enter Tryz.func15, Tryz.ntmps15
  go_wp2_with fail
  clear hmk
  go_loopw [4] (fun i wr => ∃ k : Nat, k ≤ xs.length ∧ i = .int .i64 k ∧ Below w.heap.size w wr ∧ ∃ f, wr.rowIs w.heap.size 43 (xs.length * 3) f ∧ (∀ j (_ : j < xs.length), j < k → f (j * 3) = .int .i64 xs[j].s ∧ f (j * 3 + 1) = .int .i64 xs[j].d ∧ f (j * 3 + 2) = .int .i64 xs[j].g)) (fun i _ => xs.length - (intOf i).toNat)
  case atStart =>
    obtain ⟨f, hf⟩ := rowIs_madeN w (Value.agg #[Value.int .i64 0, Value.int .i64 0, Value.int .i64 0]).cells (xs.length * 3) 43
    exact ⟨0, Nat.zero_le _, rfl, by go_grown, f, hf, fun _ _ h => absurd h (Nat.not_lt_zero _)⟩
  case round =>
    obtain ⟨k, hk, rfl, hb, f, hrow, hall⟩ := hrel
    have Ha := hide hall
    have Hr := hide hrow
    clear hall
    by_cases hlt : k < xs.length
    · obtain ⟨b, o, rfl, hb1, hb2, hcs⟩ := Hc.out (by omega)
      obtain ⟨⟨h1, h2, h3⟩, -⟩ := hcs k hlt
      rw [← hb.cell (p := ⟨b, _, none⟩) (by simpa using by omega)] at h1 h2 h3
      have hz : w.heap.size < wr.heap.size := hrow.lt
      clear hcs hrow
      go_wp2_with (go_at_call 8; refine (toMillDeed_any _ _ _ _).mono ?_; rintro e w1 ⟨rfl, hw1⟩; have hg1 := (rowIs_below Hr.out hw1 hz).cell (i := k * 3) (by omega); have hg2 := (rowIs_below Hr.out hw1 hz).cell (i := k * 3 + 1) (by omega); have hg3 := (rowIs_below Hr.out hw1 hz).cell (i := k * 3 + 2) (by omega); have hf1 := (rowIs_below Hr.out hw1 hz).frozen (k * 3); have hf2 := (rowIs_below Hr.out hw1 hz).frozen (k * 3 + 1); have hf3 := (rowIs_below Hr.out hw1 hz).frozen (k * 3 + 2))
      obtain ⟨f', hr', e1, e2, e3, eo⟩ := rowIs_put3 (rowIs_below Hr.out hw1 hz) (k * 3) (.int .i64 xs[k].s) (.int .i64 xs[k].d) (.int .i64 xs[k].g)
      go_roundw
      case rel =>
        refine ⟨k + 1, by omega, by go_num, ((((Below.step hb hw1 (Nat.le_refl _)).setCell (Nat.le_refl _) _).setCell (Nat.le_refl _) _).setCell (Nat.le_refl _) _), f', hr', fun j hj hjk => ?_⟩
        by_cases e : j = k
        · subst e; exact ⟨e1, e2, e3⟩
        · rw [eo _ (by omega) (by omega) (by omega), eo _ (by omega) (by omega) (by omega), eo _ (by omega) (by omega) (by omega)]
          exact Ha.out j hj (by omega)
      case measure => simp [intOf]; omega
    · go_wp2_with fail
      go_ret
      refine ⟨_, rfl, JobsAt.of_row1 Hr.out (Nat.le_refl _) (Nat.le_refl _) (by omega) (fun i hi => Ha.out i hi (by omega)), hb⟩
def mkJ (a : Int) : J := ⟨a, a + 1, a + 1 + 1⟩
set_option maxHeartbeats 800000 in
theorem markMillDeedS_any (v : Value) (xs : List J) (lo hi : Nat) (k0 : Int) (w : World) (h : JobsAt lo hi w v xs) (hlen : xs.length ≤ 2097152) (hk0 : 0 ≤ k0) (hk1 : k0 ≤ 16777216) :
    Calls Tryz.prog 18 #[v, .int .i64 k0] w fun e w' => e = .returned (.int .i64 (k0 + 3 * xs.length)) ∧ Other lo hi w w' ∧ ∃ ys : List J, ys.length = xs.length ∧ (∀ i (_ : i < ys.length), ys[i] = mkJ (k0 + 3 * i)) ∧ JobsAt lo hi w' v ys := by
  have h0 := h
  obtain ⟨ao, cap, rfl, hlc, hcap, hhi, hc⟩ := h
  have Hc := hide hc
  clear hc
  go_enter Tryz.func18, Tryz.ntmps18
  go_wp2_with fail
  go_loopw [1, 5] (fun m i wr => ∃ k : Nat, k ≤ xs.length ∧ i = .int .i64 k ∧ m = .int .i64 (k0 + 3 * k) ∧ Other lo hi w wr ∧ ∃ ys : List J, ys.length = xs.length ∧ (∀ i (_ : i < ys.length), i < k → ys[i] = mkJ (k0 + 3 * i)) ∧ JobsAt lo hi wr (.slice ao xs.length cap) ys) (fun _ i _ => xs.length - (intOf i).toNat)
  case atStart => exact ⟨0, Nat.zero_le _, rfl, by simp, Other.refl _ _ _, xs, rfl, fun _ _ h => absurd h (Nat.not_lt_zero _), h0⟩
  case round =>
    obtain ⟨k, hk, rfl, rfl, hb, ys, hyl, hall, hat⟩ := hrel
    have Hyl := hide hyl
    have Ha := hide hall
    have Hat := hide hat
    clear hyl hat hall
    by_cases hlt : k < xs.length
    · obtain ⟨ao', cap', e, a1, a2, a3, a4⟩ := Hat.out
      simp only [Value.slice.injEq] at e
      obtain ⟨rfl, -, rfl⟩ := e
      obtain ⟨b, o, rfl, hb1, hb2, hcs⟩ := a4 (by have := Hyl.out; omega)
      obtain ⟨⟨h1, h2, h3⟩, f1, f2, f3⟩ := hcs k (by have := Hyl.out; omega)
      clear a4 hcs
      go_wp2_with fail
      go_roundw
      case rel =>
        refine ⟨k + 1, by omega, by go_num, by go_num, (((hb.setCell hb1 hb2 _).setCell hb1 hb2 _).setCell hb1 hb2 _), ys.set k (mkJ (k0 + 3 * k)), by simp [Hyl.out], fun i hi hik => ?_, ?_⟩
        · rw [List.getElem_set]
          split
          · subst k; rfl
          · exact Ha.out i (by simpa using hi) (by omega)
        · exact JobsAt.set Hat.out (by have := Hyl.out; omega) (by simp [Hyl.out]) _ _ _
      case measure => simp [intOf]; omega
    · go_wp2_with fail
      go_ret
      refine ⟨?_, hb, ys, Hyl.out, fun i hi => Ha.out i hi (by have := Hyl.out; omega), Hat.out⟩
      have : (k : Int) = xs.length := by omega
      rw [this]; rfl
end Go.Proofs.YtajjnciookhamaaGreat
