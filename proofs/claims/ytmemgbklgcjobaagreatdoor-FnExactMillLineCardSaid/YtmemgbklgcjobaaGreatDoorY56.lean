/-
  Parts of the proofs over mills, of: HelpPc, HelpN. Conditions: each theorem states its own.
-/
import Derived.Test.YtmemgbklgcjobaaGreatDoorY55
set_option linter.unusedSimpArgs false
set_option linter.unusedVariables false
set_option maxRecDepth 10000
set_option maxHeartbeats 64000000
namespace Go.Proofs.YtmemgbklgcjobaaGreatDoor
open Go.RowKit
def eqPc (a b : Pc) : Bool := decide (a = b)
theorem toPiece_any (l0 s0 : Int) (w : World) :
 Calls Tryz.prog 149 #[.agg #[.int .i64 l0, .int .i64 s0]] w fun e w' => e = .returned (.agg #[.int .i64 l0, .int .i64 s0]) ∧ Below w.heap.size w w' := by
 go_enter Tryz.func149, Tryz.ntmps149
 go_wp2
 go_returns
 exact ⟨rfl, by go_grown⟩
theorem eqPiece_any (l0 s0 l1 s1 : Int) (w : World) :
 Calls Tryz.prog 152 #[.agg #[.int .i64 l0, .int .i64 s0], .agg #[.int .i64 l1, .int .i64 s1]] w fun e w' => e = .returned (.bool (eqPc ⟨l0, s0⟩ ⟨l1, s1⟩)) ∧ Below w.heap.size w w' := by
 go_enter Tryz.func152, Tryz.ntmps152
 go_wp2
 all_goals
  go_ret;exact ⟨by simp_all [eqPc], by go_grown⟩
theorem szPieceS_any (v : Value) (xs : List Pc) (lo hi : Nat) (left : Int) (w : World) (h : PcAt lo hi w v xs) (h1 : 0 ≤ left) (h2 : left ≤ 1048576) :
 Calls Tryz.prog 88 #[v, .int .i64 left] w fun e w' => e = .returned (.int .i64 (szI left xs.length)) ∧ w = w' := by
 have hl := h.len;obtain ⟨ao, cap, rfl, hlc, hcap, hhi, hc⟩ := h;have Hc := hide hc;clear hc;go_enter Tryz.func88, Tryz.ntmps88
 go_wp2
 all_goals
  go_ret;refine ⟨?_, rfl⟩;unfold szI;first | (rw [if_pos (by omega)]; rfl) | (rw [if_neg (by omega)]; rfl)
theorem eqPieceS_any (v v' : Value) (xs ys : List Pc) (lo hi lo' hi' : Nat) (w : World) (h : PcAt lo hi w v xs) (h' : PcAt lo' hi' w v' ys) :
 Calls Tryz.prog 96 #[v, v'] w fun e w' => e = .returned (.bool (decide (xs = ys))) ∧ Below w.heap.size w w' := by
 obtain ⟨ao, cap, rfl, hlc, hcap, hhi, hc⟩ := h;obtain ⟨ao', cap', rfl, hlc', hcap', hhi', hc'⟩ := h';have Hc := hide hc;have Hc' := hide hc';clear hc hc';by_cases hl : xs.length = ys.length
 ·have HL := hide hl
  have hlB : ((xs.length : Int) != (ys.length : Int)) = false := by simp [hl]
  clear hl;go_enter Tryz.func96, Tryz.ntmps96;go_wp2_with fail
  go_loopw [5] (fun i wr => ∃ k : Nat, k ≤ xs.length ∧ i = .int .i64 k ∧ Below w.heap.size w wr ∧ xs.take k = ys.take k) (fun i _ => xs.length - (intOf i).toNat)
  case atStart => exact ⟨0, Nat.zero_le _, rfl, Below.refl _ _, rfl⟩
  case round =>
   obtain ⟨k, hk, rfl, hb, hall⟩ := hrel;have Ha := hide hall;clear hall;by_cases hlt : k < xs.length
   ·have hlt' : k < ys.length := by have := HL.out; omega
    obtain ⟨b, o, rfl, hb1, hb2, hcs⟩ := Hc.out (by omega);obtain ⟨b', o', rfl, hb1', hb2', hcs'⟩ := Hc'.out (by omega);obtain ⟨⟨h1, h2⟩, -⟩ := hcs k hlt;obtain ⟨⟨h1', h2'⟩, -⟩ := hcs' k hlt';rw [← hb.cell (p := ⟨_, _, none⟩) (by simpa using by omega)] at h1 h2 h1' h2';clear hcs hcs';have hi1 : (k : Int) < (xs.length : Int) := by omega
    have hi2 : (k : Int) < (ys.length : Int) := by omega
    by_cases hq : xs[k] = ys[k]
    ·have hqB : eqPc { l := xs[k].l, s := xs[k].s } { l := ys[k].l, s := ys[k].s } = true := by simp [eqPc, hq]
     have hall' : xs.take (k + 1) = ys.take (k + 1) := by
      rw [List.take_succ_eq_append_getElem hlt, List.take_succ_eq_append_getElem hlt', Ha.out, hq]
     have Ha' := hide hall';clear hq hall';go_wp2_with fail
     go_still_tail 8, (by kernel_rfl)
     change wpList _ _ _ _ _ wr.drew;clear h1 h2 h1' h2';go_wp2_with (go_at_call 152; refine (eqPiece_any _ _ _ _ _).mono ?_; rintro e w1 ⟨rfl, hw1⟩)
     go_roundw
     case rel => exact ⟨k + 1, by omega, by go_num, Below.step hb.drew hw1 nl, Ha'.out⟩
     case measure => simp [intOf]; omega
    ·have hqB : eqPc { l := xs[k].l, s := xs[k].s } { l := ys[k].l, s := ys[k].s } = false := by
      unfold eqPc; rw [decide_eq_false_iff_not]; exact hq
     have HQ := hide hq;clear hq;go_wp2_with fail
     go_still_tail 8, (by kernel_rfl)
     change wpList _ _ _ _ _ wr.drew;clear h1 h2 h1' h2';go_wp2_with (go_at_call 152; refine (eqPiece_any _ _ _ _ _).mono ?_; rintro e w1 ⟨rfl, hw1⟩)
     go_ret;refine ⟨?_, Below.step hb.drew hw1 nl⟩;have hne : xs ≠ ys := by
      intro e;subst e;exact HQ.out rfl
     simp [hne]
   ·go_wp2_with fail
    go_ret;refine ⟨?_, hb⟩;have e : xs = ys := by
     have := Ha.out;rw [List.take_of_length_le (by omega), List.take_of_length_le (by have := HL.out; omega)] at this;exact this
    simp [e]
 ·have hlB : ((xs.length : Int) != (ys.length : Int)) = true := by simp; omega
  go_enter Tryz.func96, Tryz.ntmps96;go_wp2_with fail
  go_ret;exact ⟨by simp; intro h; exact hl (by rw [h]), Below.refl _ _⟩
theorem toPieceS_any (v : Value) (xs : List Pc) (lo hi : Nat) (w : World) (h : PcAt lo hi w v xs) (hlen : xs.length ≤ 2097152) :
 Calls Tryz.prog 92 #[v] w fun e w' => ∃ v', e = .returned v' ∧ PcAt w.heap.size (w.heap.size + 1) w' v' xs ∧ Below w.heap.size w w' := by
 have hlt0 := h.lt;obtain ⟨ao, cap, rfl, hlc, hcap, hhi, hc⟩ := h;have Hc := hide hc;clear hc;have hmk := fun W => make_rowN (P := Tryz.prog) 26 73 _ _ _ Tryz.underlying26 info_Pc .i64 .i64 xs.length (by omega) (by omega) W;go_enter Tryz.func92, Tryz.ntmps92;go_wp2_with fail
 clear hmk
 go_loopw [4] (fun i wr => ∃ k : Nat, k ≤ xs.length ∧ i = .int .i64 k ∧ Below w.heap.size w wr ∧ ∃ f, wr.rowIs w.heap.size 73 (xs.length * 2) f ∧ (∀ j (_ : j < xs.length), j < k → f (j * 2) = .int .i64 xs[j].l ∧ f (j * 2 + 1) = .int .i64 xs[j].s)) (fun i _ => xs.length - (intOf i).toNat)
 case atStart =>
  obtain ⟨f, hf⟩ := rowIs_madeN w (Value.agg #[Value.int .i64 0, Value.int .i64 0]).cells (xs.length * 2) 73;exact ⟨0, Nat.zero_le _, rfl, by go_grown, f, hf, fun _ _ h => absurd h (Nat.not_lt_zero _)⟩
 case round =>
  obtain ⟨k, hk, rfl, hb, f, hrow, hall⟩ := hrel;have Ha := hide hall;have Hr := hide hrow;clear hall;by_cases hlt : k < xs.length
  ·obtain ⟨b, o, rfl, hb1, hb2, hcs⟩ := Hc.out (by omega)
   obtain ⟨⟨h1, h2⟩, -⟩ := hcs k hlt;rw [← hb.cell (p := ⟨b, _, none⟩) (by simpa using by omega)] at h1 h2;have hz : w.heap.size < wr.heap.size := hrow.lt;clear hcs hrow;go_wp2_with (go_at_call 149; refine (toPiece_any _ _ _).mono ?_; rintro e w1 ⟨rfl, hw1⟩; have hg1 := (rowIs_below Hr.out hw1 hz).cell (i := k * 2) (by omega); have hg2 := (rowIs_below Hr.out hw1 hz).cell (i := k * 2 + 1) (by omega); have hf1 := (rowIs_below Hr.out hw1 hz).frozen (k * 2); have hf2 := (rowIs_below Hr.out hw1 hz).frozen (k * 2 + 1))
   obtain ⟨f', hr', e1, e2, eo⟩ := rowIs_put2 (rowIs_below Hr.out hw1 hz) (k * 2) (.int .i64 xs[k].l) (.int .i64 xs[k].s);go_roundw
   case rel =>
    refine ⟨k + 1, by omega, by go_num, (((Below.step hb hw1 nl).setCell nl _).setCell nl _), f', hr', fun j hj hjk => ?_⟩;by_cases e : j = k
    ·subst e; exact ⟨e1, e2⟩
    ·rw [eo _ (by omega) (by omega), eo _ (by omega) (by omega)]
     exact Ha.out j hj (by omega)
   case measure => simp [intOf]; omega
  ·go_wp2_with fail
   go_ret;refine ⟨_, rfl, PcAt.of_row1 Hr.out nl nl (by omega) (fun i hi => Ha.out i hi (by omega)), hb⟩
def mkPc (a : Int) : Pc := ⟨a, a + 1⟩
theorem markPieceS_any (v : Value) (xs : List Pc) (lo hi : Nat) (k0 : Int) (w : World) (h : PcAt lo hi w v xs) (hlen : xs.length ≤ 2097152) (hk0 : 0 ≤ k0) (hk1 : k0 ≤ 16777216) :
 Calls Tryz.prog 99 #[v, .int .i64 k0] w fun e w' => e = .returned (.int .i64 (k0 + 2 * xs.length)) ∧ Other lo hi w w' ∧ ∃ ys : List Pc, ys.length = xs.length ∧ (∀ i (_ : i < ys.length), ys[i] = mkPc (k0 + 2 * i)) ∧ PcAt lo hi w' v ys := by
 have h0 := h;obtain ⟨ao, cap, rfl, hlc, hcap, hhi, hc⟩ := h;have Hc := hide hc;clear hc;go_enter Tryz.func99, Tryz.ntmps99;go_wp2_with fail
 go_loopw [1, 5] (fun m i wr => ∃ k : Nat, k ≤ xs.length ∧ i = .int .i64 k ∧ m = .int .i64 (k0 + 2 * k) ∧ Other lo hi w wr ∧ ∃ ys : List Pc, ys.length = xs.length ∧ (∀ i (_ : i < ys.length), i < k → ys[i] = mkPc (k0 + 2 * i)) ∧ PcAt lo hi wr (.slice ao xs.length cap) ys) (fun _ i _ => xs.length - (intOf i).toNat)
 case atStart => exact ⟨0, Nat.zero_le _, rfl, by simp, Other.refl _ _ _, xs, rfl, fun _ _ h => absurd h (Nat.not_lt_zero _), h0⟩
 case round =>
  obtain ⟨k, hk, rfl, rfl, hb, ys, hyl, hall, hat⟩ := hrel;have Hyl := hide hyl;have Ha := hide hall;have Hat := hide hat;clear hyl hat hall;by_cases hlt : k < xs.length
  ·obtain ⟨ao', cap', e, a1, a2, a3, a4⟩ := Hat.out
   simp only [Value.slice.injEq] at e;obtain ⟨rfl, -, rfl⟩ := e;obtain ⟨b, o, rfl, hb1, hb2, hcs⟩ := a4 (by have := Hyl.out; omega);obtain ⟨⟨h1, h2⟩, f1, f2⟩ := hcs k (by have := Hyl.out; omega);clear a4 hcs;go_wp2_with fail
   go_roundw
   case rel =>
    refine ⟨k + 1, by omega, by go_num, by go_num, ((hb.setCell hb1 hb2 _).setCell hb1 hb2 _), ys.set k (mkPc (k0 + 2 * k)), by simp [Hyl.out], fun i hi hik => ?_, ?_⟩
    ·rw [List.getElem_set]
     split
     ·subst k; rfl
     ·exact Ha.out i (by simpa using hi) (by omega)
    ·exact PcAt.set Hat.out (by have := Hyl.out; omega) (by simp [Hyl.out]) _ _
   case measure => simp [intOf]; omega
  ·go_wp2_with fail
   go_ret;refine ⟨?_, hb, ys, Hyl.out, fun i hi => Ha.out i hi (by have := Hyl.out; omega), Hat.out⟩;have : (k : Int) = xs.length := by omega
   rw [this]; rfl
theorem heldPieceS_any (v : Value) (ys : List Pc) (lo hi : Nat) (k0 : Int) (w : World) (h : PcAt lo hi w v ys) (hlen : ys.length ≤ 2097152) (hk0 : 0 ≤ k0) (hk1 : k0 ≤ 16777216) (hm : ∀ i (_ : i < ys.length), ys[i] = mkPc (k0 + 2 * i)) :
 Calls Tryz.prog 102 #[v, .int .i64 k0] w fun e w' => e = .returned (.int .i64 (k0 + 2 * ys.length)) ∧ w = w' := by
 obtain ⟨ao, cap, rfl, hlc, hcap, hhi, hc⟩ := h;have Hc := hide hc;have Hm := hide hm;clear hc hm;go_enter Tryz.func102, Tryz.ntmps102;go_wp2_with fail
 go_loop [1, 5] (fun m i => ∃ k : Nat, k ≤ ys.length ∧ i = .int .i64 k ∧ m = .int .i64 (k0 + 2 * k)) (fun _ i => ys.length - (intOf i).toNat)
 case atStart => exact ⟨0, Nat.zero_le _, rfl, by simp⟩
 case round =>
  obtain ⟨k, hk, rfl, rfl⟩ := hrel;by_cases hlt : k < ys.length
  ·obtain ⟨b, o, rfl, hb1, hb2, hcs⟩ := Hc.out (by omega)
   obtain ⟨⟨h1, h2⟩, -⟩ := hcs k hlt;rw [Hm.out k hlt] at h1 h2;simp only [mkPc] at h1 h2;clear hcs;go_wp2_with fail
   go_round
   case rel => exact ⟨k + 1, by omega, by go_num, by go_num⟩
   case measure => simp [intOf]; omega
  ·go_wp2_with fail
   go_ret;refine ⟨?_, rfl⟩;have : (k : Int) = ys.length := by omega
   rw [this]; rfl
theorem eqIntS_any (v v' : Value) (xs ys : List Int) (lo hi lo' hi' : Nat) (w : World) (h : IntsAt lo hi w v xs) (h' : IntsAt lo' hi' w v' ys) :
 Calls Tryz.prog 153 #[v, v'] w fun e w' => e = .returned (.bool (decide (xs = ys))) ∧ Below w.heap.size w w' := by
 obtain ⟨ao, cap, rfl, hlc, hcap, hhi, hc⟩ := h;obtain ⟨ao', cap', rfl, hlc', hcap', hhi', hc'⟩ := h';have Hc := hide hc;have Hc' := hide hc';clear hc hc';by_cases hl : xs.length = ys.length
 ·have HL := hide hl
  have hlB : ((xs.length : Int) != (ys.length : Int)) = false := by simp [hl]
  clear hl;go_enter Tryz.func153, Tryz.ntmps153;go_wp2_with fail
  go_loopw [5] (fun i wr => ∃ k : Nat, k ≤ xs.length ∧ i = .int .i64 k ∧ Below w.heap.size w wr ∧ xs.take k = ys.take k) (fun i _ => xs.length - (intOf i).toNat)
  case atStart => exact ⟨0, Nat.zero_le _, rfl, Below.refl _ _, rfl⟩
  case round =>
   obtain ⟨k, hk, rfl, hb, hall⟩ := hrel;have Ha := hide hall;clear hall;by_cases hlt : k < xs.length
   ·have hlt' : k < ys.length := by have := HL.out; omega
    obtain ⟨b, o, rfl, hb1, hb2, hcs⟩ := Hc.out (by omega);obtain ⟨b', o', rfl, hb1', hb2', hcs'⟩ := Hc'.out (by omega);obtain ⟨h1, -⟩ := hcs k hlt;obtain ⟨h1', -⟩ := hcs' k hlt';rw [← hb.cell (p := ⟨_, _, none⟩) (by simpa using by omega)] at h1 h1';clear hcs hcs';have hi1 : (k : Int) < (xs.length : Int) := by omega
    have hi2 : (k : Int) < (ys.length : Int) := by omega
    by_cases hq : xs[k] = ys[k]
    ·have hqB : (xs[k] != ys[k]) = false := by simp [hq]
     have hall' : xs.take (k + 1) = ys.take (k + 1) := by
      rw [List.take_succ_eq_append_getElem hlt, List.take_succ_eq_append_getElem hlt', Ha.out, hq]
     have Ha' := hide hall';clear hq hall';go_wp2_with fail
     go_quiet (fail)
     go_wp2_with fail
     go_roundw
     case rel => exact ⟨k + 1, by omega, by go_num, below_drewN hb _, Ha'.out⟩
     case measure => simp [intOf]; omega
    ·have hqB : (xs[k] != ys[k]) = true := by simp [hq]
     have HQ := hide hq;clear hq;go_wp2_with fail
     go_quiet (fail)
     go_wp2_with fail
     go_ret;refine ⟨?_, below_drewN hb _⟩;have hne : xs ≠ ys := by
      intro e;subst e;exact HQ.out rfl
     simp [hne]
   ·go_wp2_with fail
    go_ret;refine ⟨?_, hb⟩;have e : xs = ys := by
     have := Ha.out;rw [List.take_of_length_le (by omega), List.take_of_length_le (by have := HL.out; omega)] at this;exact this
    simp [e]
 ·have hlB : ((xs.length : Int) != (ys.length : Int)) = true := by simp; omega
  go_enter Tryz.func153, Tryz.ntmps153;go_wp2_with fail
  go_ret;exact ⟨by simp; intro h; exact hl (by rw [h]), Below.refl _ _⟩
theorem eqPile_same (l h l' h' : Value) (lo hi : List Int) (w : World) (Hl : IntsAt 0 w.heap.size w l lo) (Hh : IntsAt 0 w.heap.size w h hi) (Hl' : IntsAt 0 w.heap.size w l' lo) (Hh' : IntsAt 0 w.heap.size w h' hi) :
 Calls Tryz.prog 97 #[pileV l h, pileV l' h'] w fun e w' => e = .returned (.bool true) ∧ Below w.heap.size w w' := by
 have HL := hide Hl;have HH := hide Hh;have HL' := hide Hl';have HH' := hide Hh';unfold pileV;clear Hl Hh Hl' Hh';go_enter Tryz.func97, Tryz.ntmps97;go_wp2_with fail
 refine calls_at fun wx hwx => ?_;have R1 : RowL wx w.heap.size 29 [l, h] := by rw [hwx]; exact (RowL.new _ _ _).alloc _
 have R2 : RowL wx (w.heap.size + 1) 29 [l', h'] := by rw [hwx]; simpa using RowL.new (w.alloc _) 29 [l', h']
 have hb0 : Below w.heap.size w wx := by rw [hwx]; go_grown
 clear hwx;refine (eqIntS_any l l' lo lo _ _ _ _ _ (HL.out.below hb0) (HL'.out.below hb0)).mono ?_;rintro e w1 ⟨rfl, hb1⟩;have hdec : decide (lo = lo) = true := by simp
 rw [hdec];have R1b := R1.below hb1 R1.lt;have R2b := R2.below hb1 R2.lt;have HB1 := hide (Below.step hb0 hb1 nl);have c1 : w1.cell? ⟨w.heap.size, 1, none⟩ = some h := R1b.cell 1 (by simp);have c2 : w1.cell? ⟨w.heap.size + 1, 1, none⟩ = some h' := R2b.cell 1 (by simp);clear hb1 hdec;go_wp2_with fail
 refine (eqIntS_any h h' hi hi _ _ _ _ _ (HH.out.below HB1.out) (HH'.out.below HB1.out)).mono ?_;rintro e w2 ⟨rfl, hb2⟩;have hdec : decide (hi = hi) = true := by simp
 rw [hdec];have HB2 := hide (Below.step HB1.out hb2 nl);clear hb2 hdec c1 c2;go_wp2_with fail
 go_ret;exact ⟨rfl, HB2.out⟩
theorem szIntS_any (v : Value) (xs : List Int) (lo hi : Nat) (left : Int) (w : World) (h : IntsAt lo hi w v xs) (h1 : 0 ≤ left) (h2 : left ≤ 1048576) :
 Calls Tryz.prog 147 #[v, .int .i64 left] w fun e w' => e = .returned (.int .i64 (szI left xs.length)) ∧ w = w' := by
 have hl := h.len;obtain ⟨ao, cap, rfl, hlc, hcap, hhi, hc⟩ := h;have Hc := hide hc;clear hc;go_enter Tryz.func147, Tryz.ntmps147
 go_wp2
 all_goals
  go_ret;refine ⟨?_, rfl⟩;unfold szI;first | (rw [if_pos (by omega)]; rfl) | (rw [if_neg (by omega)]; rfl)
theorem szI_no {left : Int} {n : Nat} (h : left < (n : Int)) : szI left n = -1 := by unfold szI; rw [if_pos (by omega)]
theorem szI_yes {left : Int} {n : Nat} (h : (n : Int) ≤ left) : szI left n = left - n := by unfold szI; rw [if_neg (by omega)]
theorem szPile_any (l h : Value) (lo hi : List Int) (left : Int) (w : World) (Hl : IntsAt 0 w.heap.size w l lo) (Hh : IntsAt 0 w.heap.size w h hi) (h1 : 0 ≤ left) (h2 : left ≤ 1048576) :
 Calls Tryz.prog 89 #[pileV l h, .int .i64 left] w fun e w' => e = .returned (.int .i64 (szI left (lo.length + hi.length))) ∧ Below w.heap.size w w' := by
 have HL := hide Hl;have HH := hide Hh;unfold pileV;clear Hl Hh;by_cases g1 : (lo.length : Int) ≤ left
 ·by_cases g2 : ((lo.length + hi.length : Nat) : Int) ≤ left
  ·rw [szI_yes g2]
   go_enter Tryz.func89, Tryz.ntmps89;go_wp2_with fail
   refine (szIntS_any l lo _ _ left _ (HL.out.below ((Below.refl _ _).alloc nl _)) h1 h2).mono ?_;rw [szI_yes g1];rintro e w1 ⟨rfl, rfl⟩;go_wp2_with fail
   refine (szIntS_any h hi _ _ (left - lo.length) _ (HH.out.below ((Below.refl _ _).alloc nl _)) (by omega) (by omega)).mono ?_;rw [szI_yes (show (hi.length : Int) ≤ left - lo.length by omega)];rintro e w1 ⟨rfl, rfl⟩;go_wp2_with fail
   go_ret;exact ⟨by rw [Int.natCast_add, ← Int.sub_sub]; rfl, by go_grown⟩
  ·rw [szI_no (by omega)]
   go_enter Tryz.func89, Tryz.ntmps89;go_wp2_with fail
   refine (szIntS_any l lo _ _ left _ (HL.out.below ((Below.refl _ _).alloc nl _)) h1 h2).mono ?_;rw [szI_yes g1];rintro e w1 ⟨rfl, rfl⟩;go_wp2_with fail
   refine (szIntS_any h hi _ _ (left - lo.length) _ (HH.out.below ((Below.refl _ _).alloc nl _)) (by omega) (by omega)).mono ?_;rw [szI_no (by omega)];rintro e w1 ⟨rfl, rfl⟩;go_wp2_with fail
   go_ret;exact ⟨rfl, by go_grown⟩
 ·rw [szI_no (by omega)]
  go_enter Tryz.func89, Tryz.ntmps89;go_wp2_with fail
  refine (szIntS_any l lo _ _ left _ (HL.out.below ((Below.refl _ _).alloc nl _)) h1 h2).mono ?_;rw [szI_no (by omega)];rintro e w1 ⟨rfl, rfl⟩;go_wp2_with fail
  go_ret;exact ⟨rfl, by go_grown⟩
def sizeM (m : Mi) : Nat := m.store.length + m.pieces.length + (m.low.length + m.high.length)
theorem szMill_any (s p l h : Value) (m : Mi) (left : Int) (w : World) (H : MillIn 0 w.heap.size w s p l h m) (h1 : 0 ≤ left) (h2 : left ≤ 1048576) :
 Calls Tryz.prog 30 #[millV s p l h m, .int .i64 left] w fun e w' => e = .returned (.int .i64 (szI left (sizeM m))) ∧ Below w.heap.size w w' := by
 have VS := hide H.store;have VP := hide H.pieces;have VL := hide H.low;have VH := hide H.high;clear H;unfold millV;have hc : (¬ (m.store.length : Int) ≤ left) ∨ ((m.store.length : Int) ≤ left ∧ ¬ (m.pieces.length : Int) ≤ left - m.store.length) ∨ ((m.store.length : Int) ≤ left ∧ (m.pieces.length : Int) ≤ left - m.store.length ∧ ¬ ((m.low.length + m.high.length : Nat) : Int) ≤ left - m.store.length - m.pieces.length) ∨
  ((m.store.length : Int) ≤ left ∧ (m.pieces.length : Int) ≤ left - m.store.length ∧ ((m.low.length + m.high.length : Nat) : Int) ≤ left - m.store.length - m.pieces.length) := by omega
 have e : szI left (sizeM m) = if (m.store.length : Int) ≤ left ∧ (m.pieces.length : Int) ≤ left - m.store.length ∧ ((m.low.length + m.high.length : Nat) : Int) ≤ left - m.store.length - m.pieces.length then left - m.store.length - m.pieces.length - (m.low.length + m.high.length : Nat) else -1 := by
  unfold szI sizeM;split <;> split <;> omega
 rw [e];rcases hc with g1 | ⟨g1, g2⟩ | ⟨g1, g2, g3⟩ | ⟨g1, g2, g3⟩
 ·rw [if_neg (fun h => g1 h.1)]
  go_enter Tryz.func30, Tryz.ntmps30;go_wp2_with fail
  refine (szStuffS_any s m.store _ _ left _ (VS.out.below ((Below.refl _ _).alloc nl _)) h1 h2).mono ?_;rw [szI_no (by omega)];rintro e w1 ⟨rfl, rfl⟩;go_wp2_with fail
  go_ret;exact ⟨rfl, by go_grown⟩
 ·rw [if_neg (fun h => g2 h.2.1)]
  go_enter Tryz.func30, Tryz.ntmps30;go_wp2_with fail
  refine (szStuffS_any s m.store _ _ left _ (VS.out.below ((Below.refl _ _).alloc nl _)) h1 h2).mono ?_;rw [szI_yes g1];rintro e w1 ⟨rfl, rfl⟩;go_wp2_with fail
  refine (szPieceS_any p m.pieces _ _ (left - m.store.length) _ (VP.out.below ((Below.refl _ _).alloc nl _)) (by omega) (by omega)).mono ?_;rw [szI_no (by omega)];rintro e w1 ⟨rfl, rfl⟩;go_wp2_with fail
  go_ret;exact ⟨rfl, by go_grown⟩
 ·rw [if_neg (fun h => g3 h.2.2)]
  go_enter Tryz.func30, Tryz.ntmps30;go_wp2_with fail
  refine (szStuffS_any s m.store _ _ left _ (VS.out.below ((Below.refl _ _).alloc nl _)) h1 h2).mono ?_;rw [szI_yes g1];rintro e w1 ⟨rfl, rfl⟩;go_wp2_with fail
  refine (szPieceS_any p m.pieces _ _ (left - m.store.length) _ (VP.out.below ((Below.refl _ _).alloc nl _)) (by omega) (by omega)).mono ?_;rw [szI_yes g2];rintro e w1 ⟨rfl, rfl⟩;go_wp2_with fail
  refine calls_at fun wx hwx => ?_;have hb0 : Below w.heap.size w wx := by rw [hwx]; go_grown
  clear hwx;refine (szPile_any l h m.low m.high (left - m.store.length - m.pieces.length) _ ((VL.out.below hb0).mono nl hb0.size nl) ((VH.out.below hb0).mono nl hb0.size nl) (by omega) (by omega)).mono ?_;rw [szI_no (by omega)];rintro e w1 ⟨rfl, hb1⟩;have HB1 := hide (Below.step hb0 hb1 nl);clear hb1;go_wp2_with fail
  go_ret;exact ⟨rfl, HB1.out⟩
 ·rw [if_pos ⟨g1, g2, g3⟩]
  go_enter Tryz.func30, Tryz.ntmps30;go_wp2_with fail
  refine (szStuffS_any s m.store _ _ left _ (VS.out.below ((Below.refl _ _).alloc nl _)) h1 h2).mono ?_;rw [szI_yes g1];rintro e w1 ⟨rfl, rfl⟩;go_wp2_with fail
  refine (szPieceS_any p m.pieces _ _ (left - m.store.length) _ (VP.out.below ((Below.refl _ _).alloc nl _)) (by omega) (by omega)).mono ?_;rw [szI_yes g2];rintro e w1 ⟨rfl, rfl⟩;go_wp2_with fail
  refine calls_at fun wx hwx => ?_;have hb0 : Below w.heap.size w wx := by rw [hwx]; go_grown
  clear hwx;refine (szPile_any l h m.low m.high (left - m.store.length - m.pieces.length) _ ((VL.out.below hb0).mono nl hb0.size nl) ((VH.out.below hb0).mono nl hb0.size nl) (by omega) (by omega)).mono ?_;rw [szI_yes g3];rintro e w1 ⟨rfl, hb1⟩;have HB1 := hide (Below.step hb0 hb1 nl);have hr : 0 ≤ left - m.store.length - m.pieces.length - (m.low.length + m.high.length : Nat) := by omega
  clear hb1;go_wp2_with fail
  go_ret;exact ⟨rfl, HB1.out⟩
end Go.Proofs.YtmemgbklgcjobaaGreatDoor
