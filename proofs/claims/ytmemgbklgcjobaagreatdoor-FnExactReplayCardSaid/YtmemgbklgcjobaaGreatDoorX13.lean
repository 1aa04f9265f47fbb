/-
  Parts of the proofs over mills, of: HelpPc, Copy, CoilC. Conditions: each theorem states its own.
-/
import Derived.Deep.RegionHeldLaw
import Derived.Test.YtmemgbklgcjobaaGreatDoorX08
import Derived.Test.YtmemgbklgcjobaaGreatDoorX10
set_option linter.unusedSimpArgs false
set_option linter.unusedVariables false
set_option maxRecDepth 10000
namespace Go.Proofs.YtmemgbklgcjobaaGreatDoor
open Go.RowKit
theorem info_Pc : (Tryz.prog.info? 73).map (fun i => (i.zero, i.size, i.bytes)) = some (some (.agg #[.int .i64 0, .int .i64 0]), 2, 16) := by kernel_rfl
def eqPc (a b : Pc) : Bool := decide (a = b)
theorem toPiece_any (l0 s0 : Int) (w : World) :
    Calls Tryz.prog 149 #[.agg #[.int .i64 l0, .int .i64 s0]] w fun e w' => e = .returned (.agg #[.int .i64 l0, .int .i64 s0]) ∧ Below w.heap.size w w' := by
  go_enter Tryz.func149, Tryz.ntmps149
  go_wp2
  go_returns
  exact ⟨rfl, by go_grown⟩
theorem eqPiece_any (l0 s0 l1 s1 : Int) (w : World) :
    Calls Tryz.prog 152 #[.agg #[.int .i64 l0, .int .i64 s0], .agg #[.int .i64 l1, .int .i64 s1]] w fun e w' => e = .returned (.bool (eqPc ⟨l0, s0⟩ ⟨l1, s1⟩)) ∧ Below w.heap.size w w' := by
  go_enter Tryz.func152, Tryz.ntmps152
  go_wp2
  all_goals
    go_ret
    exact ⟨by simp_all [eqPc], by go_grown⟩
theorem szPieceS_any (v : Value) (xs : List Pc) (lo hi : Nat) (left : Int) (w : World) (h : PcAt lo hi w v xs) (h1 : 0 ≤ left) (h2 : left ≤ 1048576) :
    Calls Tryz.prog 88 #[v, .int .i64 left] w fun e w' => e = .returned (.int .i64 (szI left xs.length)) ∧ w = w' := by
  have hl := h.len
  obtain ⟨ao, cap, rfl, hlc, hcap, hhi, hc⟩ := h
  have Hc := hide hc
  clear hc
  go_enter Tryz.func88, Tryz.ntmps88
  go_wp2
  all_goals
    go_ret
    refine ⟨?_, rfl⟩
    unfold szI
    first | (rw [if_pos (by omega)]; rfl) | (rw [if_neg (by omega)]; rfl)
set_option maxHeartbeats 400000 in
theorem eqPieceS_any (v v' : Value) (xs ys : List Pc) (lo hi lo' hi' : Nat) (w : World) (h : PcAt lo hi w v xs) (h' : PcAt lo' hi' w v' ys) :
    Calls Tryz.prog 96 #[v, v'] w fun e w' => e = .returned (.bool (decide (xs = ys))) ∧ Below w.heap.size w w' := by
  obtain ⟨ao, cap, rfl, hlc, hcap, hhi, hc⟩ := h
  obtain ⟨ao', cap', rfl, hlc', hcap', hhi', hc'⟩ := h'
  have Hc := hide hc
  have Hc' := hide hc'
  clear hc hc'
  by_cases hl : xs.length = ys.length
  · have HL := hide hl
    have hlB : ((xs.length : Int) != (ys.length : Int)) = false := by simp [hl]
    clear hl
    go_enter Tryz.func96, Tryz.ntmps96
    go_wp2_with fail
    go_loopw [5] (fun i wr => ∃ k : Nat, k ≤ xs.length ∧ i = .int .i64 k ∧ Below w.heap.size w wr ∧ xs.take k = ys.take k) (fun i _ => xs.length - (intOf i).toNat)
    case atStart => exact ⟨0, Nat.zero_le _, rfl, Below.refl _ _, rfl⟩
    case round =>
      obtain ⟨k, hk, rfl, hb, hall⟩ := hrel
      have Ha := hide hall
      clear hall
      by_cases hlt : k < xs.length
      · have hlt' : k < ys.length := by have := HL.out; omega
        obtain ⟨b, o, rfl, hb1, hb2, hcs⟩ := Hc.out (by omega)
        obtain ⟨b', o', rfl, hb1', hb2', hcs'⟩ := Hc'.out (by omega)
        obtain ⟨⟨h1, h2⟩, -⟩ := hcs k hlt
        obtain ⟨⟨h1', h2'⟩, -⟩ := hcs' k hlt'
        rw [← hb.cell (p := ⟨_, _, none⟩) (by simpa using by omega)] at h1 h2 h1' h2'
        clear hcs hcs'
        have hi1 : (k : Int) < (xs.length : Int) := by omega
        have hi2 : (k : Int) < (ys.length : Int) := by omega
        by_cases hq : xs[k] = ys[k]
        · have hqB : eqPc { l := xs[k].l, s := xs[k].s } { l := ys[k].l, s := ys[k].s } = true := by simp [eqPc, hq]
          have hall' : xs.take (k + 1) = ys.take (k + 1) := by
            rw [List.take_succ_eq_append_getElem hlt, List.take_succ_eq_append_getElem hlt', Ha.out, hq]
          have Ha' := hide hall'
          clear hq hall'
          go_wp2_with fail
          go_still_tail 8, (by kernel_rfl)
          change wpList _ _ _ _ _ wr.drew
          clear h1 h2 h1' h2'
          go_wp2_with (go_at_call 152; refine (eqPiece_any _ _ _ _ _).mono ?_; rintro e w1 ⟨rfl, hw1⟩)
          go_roundw
          case rel => exact ⟨k + 1, by omega, by go_num, Below.step hb.drew hw1 (Nat.le_refl _), Ha'.out⟩
          case measure => simp [intOf]; omega
        · have hqB : eqPc { l := xs[k].l, s := xs[k].s } { l := ys[k].l, s := ys[k].s } = false := by
            unfold eqPc; rw [decide_eq_false_iff_not]; exact hq
          have HQ := hide hq
          clear hq
          go_wp2_with fail
          go_still_tail 8, (by kernel_rfl)
          change wpList _ _ _ _ _ wr.drew
          clear h1 h2 h1' h2'
          go_wp2_with (go_at_call 152; refine (eqPiece_any _ _ _ _ _).mono ?_; rintro e w1 ⟨rfl, hw1⟩)
          go_ret
          refine ⟨?_, Below.step hb.drew hw1 (Nat.le_refl _)⟩
          have hne : xs ≠ ys := by
            intro e
            subst e
            exact HQ.out rfl
          simp [hne]
      · go_wp2_with fail
        go_ret
        refine ⟨?_, hb⟩
        have e : xs = ys := by
          have := Ha.out
          rw [List.take_of_length_le (by omega), List.take_of_length_le (by have := HL.out; omega)] at this
          exact this
        simp [e]
  · have hlB : ((xs.length : Int) != (ys.length : Int)) = true := by simp; omega
    go_enter Tryz.func96, Tryz.ntmps96
    go_wp2_with fail
    go_ret
    exact ⟨by simp; intro h; exact hl (by rw [h]), Below.refl _ _⟩
set_option maxHeartbeats 800000 in
theorem toPieceS_any (v : Value) (xs : List Pc) (lo hi : Nat) (w : World) (h : PcAt lo hi w v xs) (hlen : xs.length ≤ 2097152) :
    Calls Tryz.prog 92 #[v] w fun e w' => ∃ v', e = .returned v' ∧ PcAt w.heap.size (w.heap.size + 1) w' v' xs ∧ Below w.heap.size w w' := by
  have hlt0 := h.lt
  obtain ⟨ao, cap, rfl, hlc, hcap, hhi, hc⟩ := h
  have Hc := hide hc
  clear hc
  have hmk := fun W => make_rowN (P := Tryz.prog) 26 73 _ _ _ Tryz.underlying26 info_Pc .i64 .i64 xs.length (by omega) (by omega) W
  go_enter Tryz.func92, Tryz.ntmps92
  go_wp2_with fail
  clear hmk
  go_loopw [4] (fun i wr => ∃ k : Nat, k ≤ xs.length ∧ i = .int .i64 k ∧ Below w.heap.size w wr ∧ ∃ f, wr.rowIs w.heap.size 73 (xs.length * 2) f ∧ (∀ j (_ : j < xs.length), j < k → f (j * 2) = .int .i64 xs[j].l ∧ f (j * 2 + 1) = .int .i64 xs[j].s)) (fun i _ => xs.length - (intOf i).toNat)
  case atStart =>
    obtain ⟨f, hf⟩ := rowIs_madeN w (Value.agg #[Value.int .i64 0, Value.int .i64 0]).cells (xs.length * 2) 73
    exact ⟨0, Nat.zero_le _, rfl, by go_grown, f, hf, fun _ _ h => absurd h (Nat.not_lt_zero _)⟩
  case round =>
    obtain ⟨k, hk, rfl, hb, f, hrow, hall⟩ := hrel
    have Ha := hide hall
    have Hr := hide hrow
    clear hall
    by_cases hlt : k < xs.length
    · obtain ⟨b, o, rfl, hb1, hb2, hcs⟩ := Hc.out (by omega)
      obtain ⟨⟨h1, h2⟩, -⟩ := hcs k hlt
      rw [← hb.cell (p := ⟨b, _, none⟩) (by simpa using by omega)] at h1 h2
      have hz : w.heap.size < wr.heap.size := hrow.lt
      clear hcs hrow
      go_wp2_with (go_at_call 149; refine (toPiece_any _ _ _).mono ?_; rintro e w1 ⟨rfl, hw1⟩; have hg1 := (rowIs_below Hr.out hw1 hz).cell (i := k * 2) (by omega); have hg2 := (rowIs_below Hr.out hw1 hz).cell (i := k * 2 + 1) (by omega); have hf1 := (rowIs_below Hr.out hw1 hz).frozen (k * 2); have hf2 := (rowIs_below Hr.out hw1 hz).frozen (k * 2 + 1))
      obtain ⟨f', hr', e1, e2, eo⟩ := rowIs_put2 (rowIs_below Hr.out hw1 hz) (k * 2) (.int .i64 xs[k].l) (.int .i64 xs[k].s)
      go_roundw
      case rel =>
        refine ⟨k + 1, by omega, by go_num, (((Below.step hb hw1 (Nat.le_refl _)).setCell (Nat.le_refl _) _).setCell (Nat.le_refl _) _), f', hr', fun j hj hjk => ?_⟩
        by_cases e : j = k
        · subst e; exact ⟨e1, e2⟩
        · rw [eo _ (by omega) (by omega), eo _ (by omega) (by omega)]
          exact Ha.out j hj (by omega)
      case measure => simp [intOf]; omega
    · go_wp2_with fail
      go_ret
      refine ⟨_, rfl, PcAt.of_row1 Hr.out (Nat.le_refl _) (Nat.le_refl _) (by omega) (fun i hi => Ha.out i hi (by omega)), hb⟩
def mkPc (a : Int) : Pc := ⟨a, a + 1⟩
set_option maxHeartbeats 800000 in
theorem markPieceS_any (v : Value) (xs : List Pc) (lo hi : Nat) (k0 : Int) (w : World) (h : PcAt lo hi w v xs) (hlen : xs.length ≤ 2097152) (hk0 : 0 ≤ k0) (hk1 : k0 ≤ 16777216) :
    Calls Tryz.prog 99 #[v, .int .i64 k0] w fun e w' => e = .returned (.int .i64 (k0 + 2 * xs.length)) ∧ Other lo hi w w' ∧ ∃ ys : List Pc, ys.length = xs.length ∧ (∀ i (_ : i < ys.length), ys[i] = mkPc (k0 + 2 * i)) ∧ PcAt lo hi w' v ys := by
  have h0 := h
  obtain ⟨ao, cap, rfl, hlc, hcap, hhi, hc⟩ := h
  have Hc := hide hc
  clear hc
  go_enter Tryz.func99, Tryz.ntmps99
  go_wp2_with fail
  go_loopw [1, 5] (fun m i wr => ∃ k : Nat, k ≤ xs.length ∧ i = .int .i64 k ∧ m = .int .i64 (k0 + 2 * k) ∧ Other lo hi w wr ∧ ∃ ys : List Pc, ys.length = xs.length ∧ (∀ i (_ : i < ys.length), i < k → ys[i] = mkPc (k0 + 2 * i)) ∧ PcAt lo hi wr (.slice ao xs.length cap) ys) (fun _ i _ => xs.length - (intOf i).toNat)
  case atStart => exact ⟨0, Nat.zero_le _, rfl, by simp, Other.refl _ _ _, xs, rfl, fun _ _ h => absurd h (Nat.not_lt_zero _), h0⟩
  case round =>
    obtain ⟨k, hk, rfl, rfl, hb, ys, hyl, hall, hat⟩ := hrel
    have Hyl := hide hyl
    have Ha := hide hall
    have Hat := hide hat
    clear hyl hat hall
    by_cases hlt : k < xs.length
    · obtain ⟨ao', cap', e, a1, a2, a3, a4⟩ := Hat.out
      simp only [Value.slice.injEq] at e
      obtain ⟨rfl, -, rfl⟩ := e
      obtain ⟨b, o, rfl, hb1, hb2, hcs⟩ := a4 (by have := Hyl.out; omega)
      obtain ⟨⟨h1, h2⟩, f1, f2⟩ := hcs k (by have := Hyl.out; omega)
      clear a4 hcs
      go_wp2_with fail
      go_roundw
      case rel =>
        refine ⟨k + 1, by omega, by go_num, by go_num, ((hb.setCell hb1 hb2 _).setCell hb1 hb2 _), ys.set k (mkPc (k0 + 2 * k)), by simp [Hyl.out], fun i hi hik => ?_, ?_⟩
        · rw [List.getElem_set]
          split
          · subst k; rfl
          · exact Ha.out i (by simpa using hi) (by omega)
        · exact PcAt.set Hat.out (by have := Hyl.out; omega) (by simp [Hyl.out]) _ _
      case measure => simp [intOf]; omega
    · go_wp2_with fail
      go_ret
      refine ⟨?_, hb, ys, Hyl.out, fun i hi => Ha.out i hi (by have := Hyl.out; omega), Hat.out⟩
      have : (k : Int) = xs.length := by omega
      rw [this]; rfl
set_option maxHeartbeats 800000 in
theorem heldPieceS_any (v : Value) (ys : List Pc) (lo hi : Nat) (k0 : Int) (w : World) (h : PcAt lo hi w v ys) (hlen : ys.length ≤ 2097152) (hk0 : 0 ≤ k0) (hk1 : k0 ≤ 16777216) (hm : ∀ i (_ : i < ys.length), ys[i] = mkPc (k0 + 2 * i)) :
    Calls Tryz.prog 102 #[v, .int .i64 k0] w fun e w' => e = .returned (.int .i64 (k0 + 2 * ys.length)) ∧ w = w' := by
  obtain ⟨ao, cap, rfl, hlc, hcap, hhi, hc⟩ := h
  have Hc := hide hc
  have Hm := hide hm
  clear hc hm
  go_enter Tryz.func102, Tryz.ntmps102
  go_wp2_with fail
  go_loop [1, 5] (fun m i => ∃ k : Nat, k ≤ ys.length ∧ i = .int .i64 k ∧ m = .int .i64 (k0 + 2 * k)) (fun _ i => ys.length - (intOf i).toNat)
  case atStart => exact ⟨0, Nat.zero_le _, rfl, by simp⟩
  case round =>
    obtain ⟨k, hk, rfl, rfl⟩ := hrel
    by_cases hlt : k < ys.length
    · obtain ⟨b, o, rfl, hb1, hb2, hcs⟩ := Hc.out (by omega)
      obtain ⟨⟨h1, h2⟩, -⟩ := hcs k hlt
      rw [Hm.out k hlt] at h1 h2
      simp only [mkPc] at h1 h2
      clear hcs
      go_wp2_with fail
      go_round
      case rel => exact ⟨k + 1, by omega, by go_num, by go_num⟩
      case measure => simp [intOf]; omega
    · go_wp2_with fail
      go_ret
      refine ⟨?_, rfl⟩
      have : (k : Int) = ys.length := by omega
      rw [this]; rfl
def StNew (base : Nat) (xs : List St) (w : World) (e : Ending) (w' : World) : Prop := ∃ v, e = .returned v ∧ w'.ownsRow base 65 5 v xs.length (flatS xs) ∧ Below base w w'
def PcNew (base : Nat) (xs : List Pc) (w : World) (e : Ending) (w' : World) : Prop := ∃ v, e = .returned v ∧ w'.ownsRow base 73 2 v xs.length (flatP xs) ∧ Below base w w'
theorem cloneI_any (v : Value) (xs : List Int) (lo hi : Nat) (w : World) (h : IntsAt lo hi w v xs) (hl : xs.length ≤ 1000000) :
    Calls Tryz.prog 183 #[v] w (IntsNew w.heap.size xs w) := by
  have hs := h.source
  obtain ⟨i0, hi0, hz0, hi1, hi2⟩ := info_parts info_int
  have hq : ∀ (w : World) (a : Option Addr) (n c n' c' : Nat), (binOp .eql 27 (.slice a n c) (.slice none n' c')).run Tryz.prog w = .ok (.bool a.isNone) w := fun w a n c n' c' => Lib.run_eql_slice_nil w _ _ a n c n' c' Tryz.underlying27
  obtain ⟨ao, cap, rfl, hlc, hcap, hhi, hc⟩ := h
  cases ao with
  | none =>
    have hx : xs = [] := by
      cases xs with
      | nil => rfl
      | cons a l => obtain ⟨_, _, e, _⟩ := hc (by simp); cases e
    subst hx
    clear hs hc hi0 hz0 hi1 hi2
    go_enter Tryz.func183, Tryz.ntmps183
    go_wp2_with fail
    go_ret
    exact ⟨_, rfl, World.ownsRow_nil _ _ _ _, by go_grown⟩
  | some ad =>
    have HS := hide hs
    clear hs hc
    go_enter Tryz.func183, Tryz.ntmps183
    go_wp2_with (at_builtin; refine wpList_append_view rfl _ _ 27 rfl w.heap.size 3 i0 (.int .i64 0) 1 8 Tryz.underlying27 hi0 hz0 hi1 hi2 rfl (by decide) _ _ _ rfl (World.ownsRow_made w #[] 0 (Nat.le_refl _) (Nat.zero_le _) rfl) (.slice (some ad) xs.length cap) xs.length (flatI xs) rfl ?c0 ?c1 ?c2 ?c3 ?_)
    case c0 => exact HS.out.below ((Below.refl _ _).alloc (Nat.le_refl _) _) (Nat.le_refl _)
    case c1 => unfold maxLen; omega
    case c2 => omega
    case c3 => simp
    intro v2 w2 hown2 hgrow2 _
    have HB := hide (((Below.refl w.heap.size w).alloc (Nat.le_refl _) (.cells #[] 3)).trans (Below.grow hgrow2 (World.ownsRow_made (size := 1) w #[] 0 (Nat.le_refl _) (Nat.zero_le _) rfl) (Nat.le_refl _) (by simp)))
    have HO := hide (show w2.ownsRow w.heap.size 3 1 v2 xs.length (flatI xs) by simpa using hown2)
    clear hown2 hgrow2
    go_wp2_with fail
    go_ret
    exact ⟨v2, rfl, HO.out, HB.out⟩
theorem cloneS_any (v : Value) (xs : List St) (lo hi : Nat) (w : World) (h : StAt lo hi w v xs) (hl : xs.length ≤ 1000000) :
    Calls Tryz.prog 138 #[v] w (StNew w.heap.size xs w) := by
  have hs := h.source
  obtain ⟨i0, hi0, hz0, hi1, hi2⟩ := info_parts info_St
  have hq : ∀ (w : World) (a : Option Addr) (n c n' c' : Nat), (binOp .eql 23 (.slice a n c) (.slice none n' c')).run Tryz.prog w = .ok (.bool a.isNone) w := fun w a n c n' c' => Lib.run_eql_slice_nil w _ _ a n c n' c' Tryz.underlying23
  obtain ⟨ao, cap, rfl, hlc, hcap, hhi, hc⟩ := h
  cases ao with
  | none =>
    have hx : xs = [] := by
      cases xs with
      | nil => rfl
      | cons a l => obtain ⟨_, _, e, _⟩ := hc (by simp); cases e
    subst hx
    clear hs hc hi0 hz0 hi1 hi2
    go_enter Tryz.func138, Tryz.ntmps138
    go_wp2_with fail
    go_ret
    exact ⟨_, rfl, World.ownsRow_nil _ _ _ _, by go_grown⟩
  | some ad =>
    have HS := hide hs
    clear hs hc
    go_enter Tryz.func138, Tryz.ntmps138
    go_wp2_with (at_builtin; refine wpList_append_view rfl _ _ 23 rfl w.heap.size 65 i0 _ 5 40 Tryz.underlying23 hi0 hz0 hi1 hi2 rfl (by decide) _ _ _ rfl (World.ownsRow_made w #[] 0 (Nat.le_refl _) (Nat.zero_le _) rfl) (.slice (some ad) xs.length cap) xs.length (flatS xs) rfl ?c0 ?c1 ?c2 ?c3 ?_)
    case c0 => exact HS.out.below ((Below.refl _ _).alloc (Nat.le_refl _) _) (Nat.le_refl _)
    case c1 => unfold maxLen; omega
    case c2 => omega
    case c3 => simp
    intro v2 w2 hown2 hgrow2 _
    have HB := hide (((Below.refl w.heap.size w).alloc (Nat.le_refl _) (.cells #[] 65)).trans (Below.grow hgrow2 (World.ownsRow_made (size := 5) w #[] 0 (Nat.le_refl _) (Nat.zero_le _) rfl) (Nat.le_refl _) (by simp)))
    have HO := hide (show w2.ownsRow w.heap.size 65 5 v2 xs.length (flatS xs) by simpa using hown2)
    clear hown2 hgrow2
    go_wp2_with fail
    go_ret
    exact ⟨v2, rfl, HO.out, HB.out⟩
theorem cloneP_any (v : Value) (xs : List Pc) (lo hi : Nat) (w : World) (h : PcAt lo hi w v xs) (hl : xs.length ≤ 1000000) :
    Calls Tryz.prog 139 #[v] w (PcNew w.heap.size xs w) := by
  have hs := h.source
  obtain ⟨i0, hi0, hz0, hi1, hi2⟩ := info_parts info_Pc
  have hq : ∀ (w : World) (a : Option Addr) (n c n' c' : Nat), (binOp .eql 26 (.slice a n c) (.slice none n' c')).run Tryz.prog w = .ok (.bool a.isNone) w := fun w a n c n' c' => Lib.run_eql_slice_nil w _ _ a n c n' c' Tryz.underlying26
  obtain ⟨ao, cap, rfl, hlc, hcap, hhi, hc⟩ := h
  cases ao with
  | none =>
    have hx : xs = [] := by
      cases xs with
      | nil => rfl
      | cons a l => obtain ⟨_, _, e, _⟩ := hc (by simp); cases e
    subst hx
    clear hs hc hi0 hz0 hi1 hi2
    go_enter Tryz.func139, Tryz.ntmps139
    go_wp2_with fail
    go_ret
    exact ⟨_, rfl, World.ownsRow_nil _ _ _ _, by go_grown⟩
  | some ad =>
    have HS := hide hs
    clear hs hc
    go_enter Tryz.func139, Tryz.ntmps139
    go_wp2_with (at_builtin; refine wpList_append_view rfl _ _ 26 rfl w.heap.size 73 i0 _ 2 16 Tryz.underlying26 hi0 hz0 hi1 hi2 rfl (by decide) _ _ _ rfl (World.ownsRow_made w #[] 0 (Nat.le_refl _) (Nat.zero_le _) rfl) (.slice (some ad) xs.length cap) xs.length (flatP xs) rfl ?c0 ?c1 ?c2 ?c3 ?_)
    case c0 => exact HS.out.below ((Below.refl _ _).alloc (Nat.le_refl _) _) (Nat.le_refl _)
    case c1 => unfold maxLen; omega
    case c2 => omega
    case c3 => simp
    intro v2 w2 hown2 hgrow2 _
    have HB := hide (((Below.refl w.heap.size w).alloc (Nat.le_refl _) (.cells #[] 73)).trans (Below.grow hgrow2 (World.ownsRow_made (size := 2) w #[] 0 (Nat.le_refl _) (Nat.zero_le _) rfl) (Nat.le_refl _) (by simp)))
    have HO := hide (show w2.ownsRow w.heap.size 73 2 v2 xs.length (flatP xs) by simpa using hown2)
    clear hown2 hgrow2
    go_wp2_with fail
    go_ret
    exact ⟨v2, rfl, HO.out, HB.out⟩
structure PileOwn (base : Nat) (w : World) (l h : Value) (lo hi : List Int) : Prop where
  hb : base ≤ w.heap.size
  lo : OwnE base 3 1 w l lo.length (flatI lo)
  ho : OwnE base 3 1 w h hi.length (flatI hi)
  ap : Apart l h
theorem PileOwn.below {base B : Nat} {w w' : World} {l h : Value} {lo hi : List Int} (H : PileOwn base w l h lo hi) (k : Below B w w') (hB : w.heap.size ≤ B) : PileOwn base w' l h lo hi :=
  ⟨Nat.le_trans H.hb k.size, H.lo.below k hB, H.ho.below k hB, H.ap⟩
theorem PileOwn.other {base a z : Nat} {w w' : World} {l h : Value} {lo hi : List Int} (H : PileOwn base w l h lo hi) (k : Other a z w w') (hd : z ≤ base) : PileOwn base w' l h lo hi :=
  ⟨Nat.le_trans H.hb k.size, H.lo.other k fun g hg => .inr (Nat.le_trans hd (H.lo.lt g hg).1), H.ho.other k fun g hg => .inr (Nat.le_trans hd (H.ho.lt g hg).1), H.ap⟩
theorem PileOwn.mono {base base' : Nat} {w : World} {l h : Value} {lo hi : List Int} (H : PileOwn base w l h lo hi) (k : base' ≤ base) : PileOwn base' w l h lo hi :=
  ⟨Nat.le_trans k H.hb, H.lo.mono k, H.ho.mono k, H.ap⟩
theorem PileOwn.low {base : Nat} {w : World} {l h : Value} {lo hi : List Int} (H : PileOwn base w l h lo hi) : IntsAt base w.heap.size w l lo := ownE_ints H.lo rfl H.hb
theorem PileOwn.high {base : Nat} {w : World} {l h : Value} {lo hi : List Int} (H : PileOwn base w l h lo hi) : IntsAt base w.heap.size w h hi := ownE_ints H.ho rfl H.hb
theorem PileOwn.low0 {base : Nat} {w : World} {l h : Value} {lo hi : List Int} (H : PileOwn base w l h lo hi) : IntsAt 0 w.heap.size w l lo := H.low.mono (Nat.zero_le _) (Nat.le_refl _) (Nat.le_refl _)
theorem PileOwn.high0 {base : Nat} {w : World} {l h : Value} {lo hi : List Int} (H : PileOwn base w l h lo hi) : IntsAt 0 w.heap.size w h hi := H.high.mono (Nat.zero_le _) (Nat.le_refl _) (Nat.le_refl _)
def PileGot1 (base : Nat) (lo hi : List Int) (w : World) (e : Ending) (w' : World) : Prop := ∃ l h, e = .returned (pileV l h) ∧ PileOwn base w' l h lo hi ∧ Below base w w'
def PileGot2 (base : Nat) (q : List Int × List Int) (c : Value) (w : World) (e : Ending) (w' : World) : Prop := ∃ l h, e = .returned (.tuple #[pileV l h, c]) ∧ PileOwn base w' l h q.1 q.2 ∧ Below base w w'
theorem heldAR {P : Program} {f : FuncId} {args : Array Value} {xs : List Int} {w0 W : World} (hc : Calls P f args W (IntsNew W.heap.size xs W)) {B : Nat} {u v x y : Value}
    (h0 : W.cell? ⟨B, 0, none⟩ = some u) (h1 : W.cell? ⟨B, 1, none⟩ = some v) (g0 : W.cell? ⟨B + 1, 0, none⟩ = some x) (g1 : W.cell? ⟨B + 1, 1, none⟩ = some y) (f0 : W.frozen? ⟨B + 1, 0, none⟩ = false) (f1 : W.frozen? ⟨B + 1, 1, none⟩ = false) (h2 : B + 1 < W.heap.size) (h3 : Below w0.heap.size w0 W) :
    Calls P f args W fun e w2 => ∃ r ao cap, e = .returned r ∧ r = .slice ao xs.length cap ∧ w2.ownsRow W.heap.size 3 1 r xs.length (flatI xs) ∧ Below W.heap.size W w2 ∧ (w2.cell? ⟨B, 0, none⟩ = some u ∧ w2.cell? ⟨B, 1, none⟩ = some v) ∧ (w2.cell? ⟨B + 1, 0, none⟩ = some x ∧ w2.cell? ⟨B + 1, 1, none⟩ = some y) ∧ (w2.frozen? ⟨B + 1, 0, none⟩ = false ∧ w2.frozen? ⟨B + 1, 1, none⟩ = false) ∧ B + 1 < w2.heap.size ∧ Below w0.heap.size w0 w2 :=
  hc.mono fun e w2 ⟨r, he, ho, hb⟩ => let ⟨ao, cap, hr, _, _⟩ := own_slice ho; ⟨r, ao, cap, he, hr, ho, hb, ⟨by rw [hb.cell (Nat.lt_of_succ_lt h2)]; exact h0, by rw [hb.cell (Nat.lt_of_succ_lt h2)]; exact h1⟩, ⟨by rw [hb.cell h2]; exact g0, by rw [hb.cell h2]; exact g1⟩, ⟨by rw [hb.frozen h2]; exact f0, by rw [hb.frozen h2]; exact f1⟩, Nat.lt_of_lt_of_le h2 hb.size, Below.step h3 hb (Nat.le_refl _)⟩
set_option maxHeartbeats 3200000 in
theorem copyPile_any (l h : Value) (lo hi : List Int) (w : World) (Hl : IntsAt 0 w.heap.size w l lo) (Hh : IntsAt 0 w.heap.size w h hi) (n1 : lo.length ≤ 1000000) (n2 : hi.length ≤ 1000000) :
    Calls Tryz.prog 140 #[pileV l h] w (PileGot1 w.heap.size lo hi w) := by
  have HL := hide Hl
  have HH := hide Hh
  clear Hl Hh
  obtain ⟨i0, hi0, hz0, hi1, hi2⟩ := info_parts info_int
  unfold pileV
  go_enter Tryz.func140, Tryz.ntmps140
  go_wp2_with fail
  obtain ⟨wx, hwx⟩ : ∃ wx, wx = (w.alloc (.cells #[l, h] 29)).alloc (.cells #[.slice none 0 0, .slice none 0 0] 29) := ⟨_, rfl⟩
  rw [← hwx]
  have A_0 : RowL wx w.heap.size 29 [l, h] := by rw [hwx]; exact (RowL.new _ _ _).alloc _
  have R_0 : RowL wx (w.heap.size + 1) 29 [.slice none 0 0, .slice none 0 0] := by rw [hwx]; simpa using RowL.new (World.alloc _ _) 29 [.slice none 0 0, .slice none 0 0]
  have B_0 : Below w.heap.size w wx := by rw [hwx]; go_grown
  clear hwx
  obtain ⟨⟨s0, s1⟩, ⟨s2, s3⟩, ⟨s4, s5⟩, s6, s7⟩ : (wx.drew.cell? ⟨w.heap.size, 0, none⟩ = some l ∧ wx.drew.cell? ⟨w.heap.size, 1, none⟩ = some h) ∧ (wx.drew.cell? ⟨w.heap.size + 1, 0, none⟩ = some (.slice none 0 0) ∧ wx.drew.cell? ⟨w.heap.size + 1, 1, none⟩ = some (.slice none 0 0)) ∧ (wx.drew.frozen? ⟨w.heap.size + 1, 0, none⟩ = false ∧ wx.drew.frozen? ⟨w.heap.size + 1, 1, none⟩ = false) ∧ w.heap.size + 1 < wx.drew.heap.size ∧ Below w.heap.size w wx.drew := ⟨⟨A_0.cell 0 (by simp), A_0.cell 1 (by simp)⟩, ⟨R_0.cell 0 (by simp), R_0.cell 1 (by simp)⟩, ⟨R_0.frozen 0, R_0.frozen 1⟩, R_0.lt, B_0.drew⟩
  have hwz : w.heap.size + 1 < wx.heap.size := R_0.lt
  clear A_0 R_0 B_0
  go_region_with (first | (go_at_call 183; refine (heldAR (w0 := w) (B := w.heap.size) (u := l) (v := h) (x := .slice none 0 0) (y := .slice none 0 0) (cloneI_any l lo 0 w.heap.size _ (HL.out.below (by assumption)) n1) (by assumption) (by assumption) (by assumption) (by assumption) (by assumption) (by assumption) (by assumption) (by assumption)).mono ?_; rintro e w5 ⟨_, a5, c5, rfl, rfl, ho5, hb5, ⟨k0, k1⟩, ⟨k2, k3⟩, ⟨k4, k5⟩, k6, k7⟩) | (go_at_call 183; refine (heldAR (w0 := w) (B := w.heap.size) (u := l) (v := h) (x := .slice none 0 0) (y := .slice none 0 0) (cloneI_any h hi 0 w.heap.size _ (HH.out.below (by assumption)) n2) (by assumption) (by assumption) (by assumption) (by assumption) (by assumption) (by assumption) (by assumption) (by assumption)).mono ?_; rintro e w6 ⟨_, a6, c6, rfl, rfl, ho6, hb6, ⟨k0, k1⟩, ⟨k2, k3⟩, ⟨k4, k5⟩, k6, k7⟩))
  all_goals
    first
      | (have HP := hide (show PileOwn (w.heap.size + 2) w6 (.slice a5 lo.length c5) (.slice a6 hi.length c6) lo hi from ⟨k6, ((OwnE.own ho5).below hb6 (Nat.le_refl _)).mono s6, (OwnE.own ho6).mono (Nat.le_trans s6 hb5.size), (OwnE.own ho5).apart (OwnE.own ho6) (Nat.le_refl _)⟩)
         have HK := hide k7
         clear ho5 ho6 hb5 hb6
         go_wp2_with fail
         refine bodyPost_ret (by simp [results, Tryz.results140, go_sem, k2, k3]; try rfl) rfl ?_
         exact ⟨_, _, rfl, (HP.out.other (((Other.refl (w.heap.size + 1) (w.heap.size + 2) w6).setCell (p := ⟨w.heap.size + 1, 0, none⟩) (Nat.le_refl _) (Nat.lt_succ_self _) _).setCell (p := ⟨w.heap.size + 1, 1, none⟩) (Nat.le_refl _) (Nat.lt_succ_self _) _) (Nat.le_refl _)).mono (Nat.le_add_right _ 2), (HK.out.setCell (by simp) _).setCell (by simp) _⟩)
      | (have HP := hide (show PileOwn (w.heap.size + 2) w5 (.slice a5 lo.length c5) (.slice a6 hi.length c6) lo hi from ⟨k6, (OwnE.own ho5).mono (Nat.le_trans s6 hb6.size), ((OwnE.own ho6).below hb5 (Nat.le_refl _)).mono s6, ((OwnE.own ho6).apart (OwnE.own ho5) (Nat.le_refl _)).symm⟩)
         have HK := hide k7
         clear ho5 ho6 hb5 hb6
         go_wp2_with fail
         refine bodyPost_ret (by simp [results, Tryz.results140, go_sem, k2, k3]; try rfl) rfl ?_
         exact ⟨_, _, rfl, (HP.out.other (((Other.refl (w.heap.size + 1) (w.heap.size + 2) w5).setCell (p := ⟨w.heap.size + 1, 0, none⟩) (Nat.le_refl _) (Nat.lt_succ_self _) _).setCell (p := ⟨w.heap.size + 1, 1, none⟩) (Nat.le_refl _) (Nat.lt_succ_self _) _) (Nat.le_refl _)).mono (Nat.le_add_right _ 2), (HK.out.setCell (by simp) _).setCell (by simp) _⟩)
theorem copyB {w W W2 : World} {l h : Value} (H : (W.cell? ⟨w.heap.size, 0, none⟩ = some l ∧ W.cell? ⟨w.heap.size, 1, none⟩ = some h) ∧ ((W.cell? ⟨w.heap.size + 1, 0, none⟩).isSome = true ∧ (W.cell? ⟨w.heap.size + 1, 1, none⟩).isSome = true) ∧ (W.frozen? ⟨w.heap.size + 1, 0, none⟩ = false ∧ W.frozen? ⟨w.heap.size + 1, 1, none⟩ = false) ∧ w.heap.size + 1 < W.heap.size ∧ Below w.heap.size w W) (k : Below (w.heap.size + 2) W W2) : (W2.cell? ⟨w.heap.size, 0, none⟩ = some l ∧ W2.cell? ⟨w.heap.size, 1, none⟩ = some h) ∧ ((W2.cell? ⟨w.heap.size + 1, 0, none⟩).isSome = true ∧ (W2.cell? ⟨w.heap.size + 1, 1, none⟩).isSome = true) ∧ (W2.frozen? ⟨w.heap.size + 1, 0, none⟩ = false ∧ W2.frozen? ⟨w.heap.size + 1, 1, none⟩ = false) ∧ w.heap.size + 1 < W2.heap.size ∧ Below w.heap.size w W2 := by
  obtain ⟨⟨h0, h1⟩, ⟨h2, h3⟩, ⟨h4, h5⟩, h6, h7⟩ := H
  have a0 : w.heap.size < w.heap.size + 2 := by omega
  have a1 : w.heap.size + 1 < w.heap.size + 2 := by omega
  exact ⟨⟨by rw [k.cell (p := ⟨w.heap.size, 0, none⟩) a0]; exact h0, by rw [k.cell (p := ⟨w.heap.size, 1, none⟩) a0]; exact h1⟩, ⟨by rw [k.cell (p := ⟨w.heap.size + 1, 0, none⟩) a1]; exact h2, by rw [k.cell (p := ⟨w.heap.size + 1, 1, none⟩) a1]; exact h3⟩, ⟨by rw [k.frozen (p := ⟨w.heap.size + 1, 0, none⟩) a1]; exact h4, by rw [k.frozen (p := ⟨w.heap.size + 1, 1, none⟩) a1]; exact h5⟩, Nat.lt_of_lt_of_le h6 k.size, h7.trans (k.mono (by omega))⟩
theorem copyA {w W : World} {l h : Value} (H : (W.cell? ⟨w.heap.size, 0, none⟩ = some l ∧ W.cell? ⟨w.heap.size, 1, none⟩ = some h) ∧ ((W.cell? ⟨w.heap.size + 1, 0, none⟩).isSome = true ∧ (W.cell? ⟨w.heap.size + 1, 1, none⟩).isSome = true) ∧ (W.frozen? ⟨w.heap.size + 1, 0, none⟩ = false ∧ W.frozen? ⟨w.heap.size + 1, 1, none⟩ = false) ∧ w.heap.size + 1 < W.heap.size ∧ Below w.heap.size w W) (o : Obj) : ((W.alloc o).cell? ⟨w.heap.size, 0, none⟩ = some l ∧ (W.alloc o).cell? ⟨w.heap.size, 1, none⟩ = some h) ∧ (((W.alloc o).cell? ⟨w.heap.size + 1, 0, none⟩).isSome = true ∧ ((W.alloc o).cell? ⟨w.heap.size + 1, 1, none⟩).isSome = true) ∧ ((W.alloc o).frozen? ⟨w.heap.size + 1, 0, none⟩ = false ∧ (W.alloc o).frozen? ⟨w.heap.size + 1, 1, none⟩ = false) ∧ w.heap.size + 1 < (W.alloc o).heap.size ∧ Below w.heap.size w (W.alloc o) :=
  copyB H ((Below.refl _ _).alloc H.2.2.2.1 o)
theorem grown_below {base g : Nat} {W w2 : World} (hg : W.grownBy w2 (Value.slice (some ⟨g, 0, none⟩) 0 0).ownBlock) (h1 : base ≤ g) (h2 : base ≤ W.heap.size) : Below base W w2 :=
  (Below.refl _ _).grown hg h2 fun k hk => by
    obtain rfl : g = k := Option.some.inj hk
    exact h1
theorem copyP {w W : World} {l h : Value} (H : (W.cell? ⟨w.heap.size, 0, none⟩ = some l ∧ W.cell? ⟨w.heap.size, 1, none⟩ = some h) ∧ ((W.cell? ⟨w.heap.size + 1, 0, none⟩).isSome = true ∧ (W.cell? ⟨w.heap.size + 1, 1, none⟩).isSome = true) ∧ (W.frozen? ⟨w.heap.size + 1, 0, none⟩ = false ∧ W.frozen? ⟨w.heap.size + 1, 1, none⟩ = false) ∧ w.heap.size + 1 < W.heap.size ∧ Below w.heap.size w W) (x y : Value) : (((W.setCell ⟨w.heap.size + 1, 0, none⟩ x).setCell ⟨w.heap.size + 1, 1, none⟩ y).cell? ⟨w.heap.size, 0, none⟩ = some l ∧ ((W.setCell ⟨w.heap.size + 1, 0, none⟩ x).setCell ⟨w.heap.size + 1, 1, none⟩ y).cell? ⟨w.heap.size, 1, none⟩ = some h) ∧ ((((W.setCell ⟨w.heap.size + 1, 0, none⟩ x).setCell ⟨w.heap.size + 1, 1, none⟩ y).cell? ⟨w.heap.size + 1, 0, none⟩).isSome = true ∧ (((W.setCell ⟨w.heap.size + 1, 0, none⟩ x).setCell ⟨w.heap.size + 1, 1, none⟩ y).cell? ⟨w.heap.size + 1, 1, none⟩).isSome = true) ∧ (((W.setCell ⟨w.heap.size + 1, 0, none⟩ x).setCell ⟨w.heap.size + 1, 1, none⟩ y).frozen? ⟨w.heap.size + 1, 0, none⟩ = false ∧ ((W.setCell ⟨w.heap.size + 1, 0, none⟩ x).setCell ⟨w.heap.size + 1, 1, none⟩ y).frozen? ⟨w.heap.size + 1, 1, none⟩ = false) ∧ w.heap.size + 1 < ((W.setCell ⟨w.heap.size + 1, 0, none⟩ x).setCell ⟨w.heap.size + 1, 1, none⟩ y).heap.size ∧ Below w.heap.size w ((W.setCell ⟨w.heap.size + 1, 0, none⟩ x).setCell ⟨w.heap.size + 1, 1, none⟩ y) := by
  obtain ⟨⟨h0, h1⟩, ⟨h2, h3⟩, ⟨h4, h5⟩, h6, h7⟩ := H
  obtain ⟨u, hu⟩ := Option.isSome_iff_exists.1 h2
  obtain ⟨v, hv⟩ := Option.isSome_iff_exists.1 h3
  refine ⟨⟨?_, ?_⟩, ⟨?_, ?_⟩, ⟨by simp only [World.frozen?_setCell]; exact h4, by simp only [World.frozen?_setCell]; exact h5⟩, by simpa [World.setCell] using h6, (h7.setCell (by simp) _).setCell (by simp) _⟩
  · rw [World.cell?_setCell_other _ _ _ _ (by simp), World.cell?_setCell_other _ _ _ _ (by simp)]; exact h0
  · rw [World.cell?_setCell_other _ _ _ _ (by simp), World.cell?_setCell_other _ _ _ _ (by simp)]; exact h1
  · rw [World.cell?_setCell_other _ _ _ _ (by simp), World.cell?_setCell_same _ _ _ hu]; rfl
  · rw [World.cell?_setCell_same _ _ _ (by rw [World.cell?_setCell_other _ _ _ _ (by simp)]; exact hv)]; rfl
set_option maxHeartbeats 3200000 in
theorem l6Copy_any (l h : Value) (lo hi : List Int) (w : World) (Hl : IntsAt 0 w.heap.size w l lo) (Hh : IntsAt 0 w.heap.size w h hi) (n1 : lo.length ≤ 1000000) (n2 : hi.length ≤ 1000000) :
    Calls Tryz.prog 143 #[pileV l h] w (PileGot1 w.heap.size lo hi w) := by
  have HL := hide Hl
  have HH := hide Hh
  clear Hl Hh
  obtain ⟨i0, hi0, hz0, hi1, hi2⟩ := info_parts info_int
  unfold pileV
  go_enter Tryz.func143, Tryz.ntmps143
  go_wp2_with fail
  obtain ⟨wx, hwx⟩ : ∃ wx, wx = (w.alloc (.cells #[l, h] 29)).alloc (.cells #[.slice none 0 0, .slice none 0 0] 29) := ⟨_, rfl⟩
  rw [← hwx]
  have A_0 : RowL wx w.heap.size 29 [l, h] := by rw [hwx]; exact (RowL.new _ _ _).alloc _
  have R_0 : RowL wx (w.heap.size + 1) 29 [.slice none 0 0, .slice none 0 0] := by rw [hwx]; simpa using RowL.new (World.alloc _ _) 29 [.slice none 0 0, .slice none 0 0]
  have B_0 : Below w.heap.size w wx := by rw [hwx]; go_grown
  clear hwx
  obtain ⟨⟨s0, s1⟩, ⟨s2, s3⟩, ⟨s4, s5⟩, s6, s7⟩ : (wx.drew.cell? ⟨w.heap.size, 0, none⟩ = some l ∧ wx.drew.cell? ⟨w.heap.size, 1, none⟩ = some h) ∧ (wx.drew.cell? ⟨w.heap.size + 1, 0, none⟩ = some (.slice none 0 0) ∧ wx.drew.cell? ⟨w.heap.size + 1, 1, none⟩ = some (.slice none 0 0)) ∧ (wx.drew.frozen? ⟨w.heap.size + 1, 0, none⟩ = false ∧ wx.drew.frozen? ⟨w.heap.size + 1, 1, none⟩ = false) ∧ w.heap.size + 1 < wx.drew.heap.size ∧ Below w.heap.size w wx.drew := ⟨⟨A_0.cell 0 (by simp), A_0.cell 1 (by simp)⟩, ⟨R_0.cell 0 (by simp), R_0.cell 1 (by simp)⟩, ⟨R_0.frozen 0, R_0.frozen 1⟩, R_0.lt, B_0.drew⟩
  have hwz : w.heap.size + 1 < wx.heap.size := R_0.lt
  clear A_0 R_0 B_0
  have hI : (wx.drew.cell? ⟨w.heap.size, 0, none⟩ = some l ∧ wx.drew.cell? ⟨w.heap.size, 1, none⟩ = some h) ∧ ((wx.drew.cell? ⟨w.heap.size + 1, 0, none⟩).isSome = true ∧ (wx.drew.cell? ⟨w.heap.size + 1, 1, none⟩).isSome = true) ∧ (wx.drew.frozen? ⟨w.heap.size + 1, 0, none⟩ = false ∧ wx.drew.frozen? ⟨w.heap.size + 1, 1, none⟩ = false) ∧ w.heap.size + 1 < wx.drew.heap.size ∧ Below w.heap.size w wx.drew := ⟨⟨s0, s1⟩, ⟨by rw [s2]; rfl, by rw [s3]; rfl⟩, ⟨s4, s5⟩, s6, s7⟩
  go_region_held_law (fun w' => (w'.cell? ⟨w.heap.size, 0, none⟩ = some l ∧ w'.cell? ⟨w.heap.size, 1, none⟩ = some h) ∧ ((w'.cell? ⟨w.heap.size + 1, 0, none⟩).isSome = true ∧ (w'.cell? ⟨w.heap.size + 1, 1, none⟩).isSome = true) ∧ (w'.frozen? ⟨w.heap.size + 1, 0, none⟩ = false ∧ w'.frozen? ⟨w.heap.size + 1, 1, none⟩ = false) ∧ w.heap.size + 1 < w'.heap.size ∧ Below w.heap.size w w') (first | exact hI | exact hS5 | exact hS6 | exact copyA (by assumption) _ | exact copyP (by assumption) _ _ | go_keep) (first | (have hS := (by assumption : (World.cell? _ _ = some l ∧ World.cell? _ _ = some h) ∧ _); refine step_append_E rfl (.tmp 3) (.tmp 5) 27 rfl (w.heap.size + 2) 3 i0 (.int .i64 0) 1 8 Tryz.underlying27 hi0 hz0 hi1 hi2 rfl (by decide) (.slice (some ⟨wx.heap.size, 0, none⟩) 0 0) 0 [] ?_ (OwnE.lit ?_ ?_) l lo.length (flatI lo) ?_ (IntsAt.source (HL.out.below hS.2.2.2.2)) (by unfold maxLen; omega) (by omega) hS.2.2.2.1 ?_; (focus (simp [Act.eval, Act.put]; done)); (focus (first | omega | (simp; omega) | fail)); (focus (first | omega | (simp; done) | (simp; omega) | fail)); (focus (simp [Act.eval, Act.put]; done)); intro v5 w5 ho5 hg5 hat5; rw [Nat.zero_add, List.nil_append] at ho5; obtain ⟨a5, c5, rfl, -, -⟩ := ho5.form; have hb5 := grown_below (base := w.heap.size + 2) hg5 (by first | omega | (simp; done) | (simp; omega)) hS.2.2.2.1; have hS5 := copyB hS hb5; have hlt5 := hS5.2.2.2.1; obtain ⟨rx5, hrx5⟩ := Option.isSome_iff_exists.1 hS5.2.1.1; obtain ⟨ry5, hry5⟩ := Option.isSome_iff_exists.1 hS5.2.1.2; have hz5 := hg5.size; (try simp at hz5); have hl5 := fun k e => (ho5.lt k e).2; skip) | (have hS := (by assumption : (World.cell? _ _ = some l ∧ World.cell? _ _ = some h) ∧ _); refine step_append_E rfl (.tmp 3) (.tmp 5) 27 rfl (w.heap.size + 2) 3 i0 (.int .i64 0) 1 8 Tryz.underlying27 hi0 hz0 hi1 hi2 rfl (by decide) (.slice (some ⟨wx.heap.size + 1, 0, none⟩) 0 0) 0 [] ?_ (OwnE.lit ?_ ?_) l lo.length (flatI lo) ?_ (IntsAt.source (HL.out.below hS.2.2.2.2)) (by unfold maxLen; omega) (by omega) hS.2.2.2.1 ?_; (focus (simp [Act.eval, Act.put]; done)); (focus (first | omega | (simp; omega) | fail)); (focus (first | omega | (simp; done) | (simp; omega) | fail)); (focus (simp [Act.eval, Act.put]; done)); intro v5 w5 ho5 hg5 hat5; rw [Nat.zero_add, List.nil_append] at ho5; obtain ⟨a5, c5, rfl, -, -⟩ := ho5.form; have hb5 := grown_below (base := w.heap.size + 2) hg5 (by first | omega | (simp; done) | (simp; omega)) hS.2.2.2.1; have hS5 := copyB hS hb5; have hlt5 := hS5.2.2.2.1; obtain ⟨rx5, hrx5⟩ := Option.isSome_iff_exists.1 hS5.2.1.1; obtain ⟨ry5, hry5⟩ := Option.isSome_iff_exists.1 hS5.2.1.2; have hz5 := hg5.size; (try simp at hz5); have hl5 := fun k e => (ho5.lt k e).2; skip) | (have hS := (by assumption : (World.cell? _ _ = some l ∧ World.cell? _ _ = some h) ∧ _); refine step_append_E rfl (.tmp 3) (.tmp 5) 27 rfl (w.heap.size + 2) 3 i0 (.int .i64 0) 1 8 Tryz.underlying27 hi0 hz0 hi1 hi2 rfl (by decide) (.slice (some ⟨w6.heap.size, 0, none⟩) 0 0) 0 [] ?_ (OwnE.lit ?_ ?_) l lo.length (flatI lo) ?_ (IntsAt.source (HL.out.below hS.2.2.2.2)) (by unfold maxLen; omega) (by omega) hS.2.2.2.1 ?_; (focus (simp [Act.eval, Act.put]; done)); (focus (first | omega | (simp; omega) | fail)); (focus (first | omega | (simp; done) | (simp; omega) | fail)); (focus (simp [Act.eval, Act.put]; done)); intro v5 w5 ho5 hg5 hat5; rw [Nat.zero_add, List.nil_append] at ho5; obtain ⟨a5, c5, rfl, -, -⟩ := ho5.form; have hb5 := grown_below (base := w.heap.size + 2) hg5 (by first | omega | (simp; done) | (simp; omega)) hS.2.2.2.1; have hS5 := copyB hS hb5; have hlt5 := hS5.2.2.2.1; obtain ⟨rx5, hrx5⟩ := Option.isSome_iff_exists.1 hS5.2.1.1; obtain ⟨ry5, hry5⟩ := Option.isSome_iff_exists.1 hS5.2.1.2; have hz5 := hg5.size; (try simp at hz5); have hl5 := fun k e => (ho5.lt k e).2; skip) | (have hS := (by assumption : (World.cell? _ _ = some l ∧ World.cell? _ _ = some h) ∧ _); refine step_append_E rfl (.tmp 7) (.tmp 9) 27 rfl (w.heap.size + 2) 3 i0 (.int .i64 0) 1 8 Tryz.underlying27 hi0 hz0 hi1 hi2 rfl (by decide) (.slice (some ⟨wx.heap.size, 0, none⟩) 0 0) 0 [] ?_ (OwnE.lit ?_ ?_) h hi.length (flatI hi) ?_ (IntsAt.source (HH.out.below hS.2.2.2.2)) (by unfold maxLen; omega) (by omega) hS.2.2.2.1 ?_; (focus (simp [Act.eval, Act.put]; done)); (focus (first | omega | (simp; omega) | fail)); (focus (first | omega | (simp; done) | (simp; omega) | fail)); (focus (simp [Act.eval, Act.put]; done)); intro v6 w6 ho6 hg6 hat6; rw [Nat.zero_add, List.nil_append] at ho6; obtain ⟨a6, c6, rfl, -, -⟩ := ho6.form; have hb6 := grown_below (base := w.heap.size + 2) hg6 (by first | omega | (simp; done) | (simp; omega)) hS.2.2.2.1; have hS6 := copyB hS hb6; have hlt6 := hS6.2.2.2.1; obtain ⟨rx6, hrx6⟩ := Option.isSome_iff_exists.1 hS6.2.1.1; obtain ⟨ry6, hry6⟩ := Option.isSome_iff_exists.1 hS6.2.1.2; have hz6 := hg6.size; (try simp at hz6); have hl6 := fun k e => (ho6.lt k e).2; skip) | (have hS := (by assumption : (World.cell? _ _ = some l ∧ World.cell? _ _ = some h) ∧ _); refine step_append_E rfl (.tmp 7) (.tmp 9) 27 rfl (w.heap.size + 2) 3 i0 (.int .i64 0) 1 8 Tryz.underlying27 hi0 hz0 hi1 hi2 rfl (by decide) (.slice (some ⟨wx.heap.size + 1, 0, none⟩) 0 0) 0 [] ?_ (OwnE.lit ?_ ?_) h hi.length (flatI hi) ?_ (IntsAt.source (HH.out.below hS.2.2.2.2)) (by unfold maxLen; omega) (by omega) hS.2.2.2.1 ?_; (focus (simp [Act.eval, Act.put]; done)); (focus (first | omega | (simp; omega) | fail)); (focus (first | omega | (simp; done) | (simp; omega) | fail)); (focus (simp [Act.eval, Act.put]; done)); intro v6 w6 ho6 hg6 hat6; rw [Nat.zero_add, List.nil_append] at ho6; obtain ⟨a6, c6, rfl, -, -⟩ := ho6.form; have hb6 := grown_below (base := w.heap.size + 2) hg6 (by first | omega | (simp; done) | (simp; omega)) hS.2.2.2.1; have hS6 := copyB hS hb6; have hlt6 := hS6.2.2.2.1; obtain ⟨rx6, hrx6⟩ := Option.isSome_iff_exists.1 hS6.2.1.1; obtain ⟨ry6, hry6⟩ := Option.isSome_iff_exists.1 hS6.2.1.2; have hz6 := hg6.size; (try simp at hz6); have hl6 := fun k e => (ho6.lt k e).2; skip) | (have hS := (by assumption : (World.cell? _ _ = some l ∧ World.cell? _ _ = some h) ∧ _); refine step_append_E rfl (.tmp 7) (.tmp 9) 27 rfl (w.heap.size + 2) 3 i0 (.int .i64 0) 1 8 Tryz.underlying27 hi0 hz0 hi1 hi2 rfl (by decide) (.slice (some ⟨w5.heap.size, 0, none⟩) 0 0) 0 [] ?_ (OwnE.lit ?_ ?_) h hi.length (flatI hi) ?_ (IntsAt.source (HH.out.below hS.2.2.2.2)) (by unfold maxLen; omega) (by omega) hS.2.2.2.1 ?_; (focus (simp [Act.eval, Act.put]; done)); (focus (first | omega | (simp; omega) | fail)); (focus (first | omega | (simp; done) | (simp; omega) | fail)); (focus (simp [Act.eval, Act.put]; done)); intro v6 w6 ho6 hg6 hat6; rw [Nat.zero_add, List.nil_append] at ho6; obtain ⟨a6, c6, rfl, -, -⟩ := ho6.form; have hb6 := grown_below (base := w.heap.size + 2) hg6 (by first | omega | (simp; done) | (simp; omega)) hS.2.2.2.1; have hS6 := copyB hS hb6; have hlt6 := hS6.2.2.2.1; obtain ⟨rx6, hrx6⟩ := Option.isSome_iff_exists.1 hS6.2.1.1; obtain ⟨ry6, hry6⟩ := Option.isSome_iff_exists.1 hS6.2.1.2; have hz6 := hg6.size; (try simp at hz6); have hl6 := fun k e => (ho6.lt k e).2; skip) | fail)
  all_goals
    first
      | (have t5 : OwnE (w.heap.size + 2) 3 1 w6 (.slice a5 lo.length c5) lo.length (flatI lo) := by
          refine OwnE.grown (by first | exact ho5 | exact ho5.alloc _ | fail) hg6 fun k e1 e2 => ?_
          have q1 := hat5 k e1
          have q3 := hl5 k e1
          simp [Value.ownBlock] at q1 e2
          omega
         have HP := hide (show PileOwn (w.heap.size + 2) w6 (.slice a5 lo.length c5) (.slice a6 hi.length c6) lo hi from ⟨hlt6, t5, ho6, fun k e1 e2 => by have q1 := hat5 k e1; have q2 := hat6 k e2; have q3 := hl5 k e1; have q4 := hl6 k e2; simp [Value.ownBlock] at q1 q2; omega⟩)
         have HK := hide hS6.2.2.2.2
         clear ho5 ho6 hb5 hb6 hS5 hS6 hI hg5 hg6
         go_wp2_with fail
         refine bodyPost_ret (by simp [results, Tryz.results143, go_sem, hrx6, hry6]; try rfl) rfl ?_
         exact ⟨_, _, rfl, (HP.out.other (((Other.refl (w.heap.size + 1) (w.heap.size + 2) w6).setCell (p := ⟨w.heap.size + 1, 0, none⟩) (Nat.le_refl _) (Nat.lt_succ_self _) _).setCell (p := ⟨w.heap.size + 1, 1, none⟩) (Nat.le_refl _) (Nat.lt_succ_self _) _) (Nat.le_refl _)).mono (Nat.le_add_right _ 2), (HK.out.setCell (by simp) _).setCell (by simp) _⟩)
      | (have t6 : OwnE (w.heap.size + 2) 3 1 w5 (.slice a6 hi.length c6) hi.length (flatI hi) := by
          refine OwnE.grown (by first | exact ho6 | exact ho6.alloc _ | fail) hg5 fun k e1 e2 => ?_
          have q1 := hat6 k e1
          have q3 := hl6 k e1
          simp [Value.ownBlock] at q1 e2
          omega
         have HP := hide (show PileOwn (w.heap.size + 2) w5 (.slice a5 lo.length c5) (.slice a6 hi.length c6) lo hi from ⟨hlt5, ho5, t6, fun k e1 e2 => by have q1 := hat5 k e1; have q2 := hat6 k e2; have q3 := hl5 k e1; have q4 := hl6 k e2; simp [Value.ownBlock] at q1 q2; omega⟩)
         have HK := hide hS5.2.2.2.2
         clear ho5 ho6 hb5 hb6 hS5 hS6 hI hg5 hg6
         go_wp2_with fail
         refine bodyPost_ret (by simp [results, Tryz.results143, go_sem, hrx5, hry5]; try rfl) rfl ?_
         exact ⟨_, _, rfl, (HP.out.other (((Other.refl (w.heap.size + 1) (w.heap.size + 2) w5).setCell (p := ⟨w.heap.size + 1, 0, none⟩) (Nat.le_refl _) (Nat.lt_succ_self _) _).setCell (p := ⟨w.heap.size + 1, 1, none⟩) (Nat.le_refl _) (Nat.lt_succ_self _) _) (Nat.le_refl _)).mono (Nat.le_add_right _ 2), (HK.out.setCell (by simp) _).setCell (by simp) _⟩)
end Go.Proofs.YtmemgbklgcjobaaGreatDoor
