/-
  Parts of the proofs over mills, of: WalkA, WalkB, Draw, MillV, PlainClear, HelpJ, DeedOwn, HelpSt, PlainRep, PlainLine. Conditions: each theorem states its own.
-/
import Derived.Test.YtmemgbklgcjobaaGreatDoorY34
import Derived.Test.YtmemgbklgcjobaaGreatDoorY48
set_option linter.unusedSimpArgs false
set_option linter.unusedVariables false
set_option maxRecDepth 10000
set_option maxHeartbeats 64000000
namespace Go.Proofs.YtmemgbklgcjobaaGreatDoor
open Go.RowKit
def szI (left : Int) (n : Nat) : Int := if left - n < 0 then -1 else left - n
theorem toIntS_any (v : Value) (xs : List Int) (lo hi : Nat) (w : World) (h : IntsAt lo hi w v xs) (hlen : xs.length ≤ 2097152) :
 Calls Tryz.prog 150 #[v] w fun e w' => ∃ v', e = .returned v' ∧ IntsAt w.heap.size w'.heap.size w' v' xs ∧ Below w.heap.size w w' := by
 have hlt0 := h.lt;obtain ⟨ao, cap, rfl, hlc, hcap, hhi, hc⟩ := h;have Hc := hide hc;clear hc;have hmk := fun W => make_rowN (P := Tryz.prog) 27 3 _ _ _ Tryz.underlying27 info_int .i64 .i64 xs.length (by omega) (by omega) W;go_enter Tryz.func150, Tryz.ntmps150;go_wp2_with fail
 clear hmk
 go_loopw [4] (fun i wr => ∃ k : Nat, k ≤ xs.length ∧ i = .int .i64 k ∧ Below w.heap.size w wr ∧ ∃ f, wr.rowIs w.heap.size 3 xs.length f ∧ (∀ j (_ : j < xs.length), j < k → f j = .int .i64 xs[j])) (fun i _ => xs.length - (intOf i).toNat)
 case atStart =>
  obtain ⟨f, hf⟩ := rowIs_madeN w (Value.int .i64 0).cells (xs.length * 1) 3;rw [Nat.mul_one] at hf;exact ⟨0, Nat.zero_le _, rfl, by go_grown, f, hf, fun _ _ h => absurd h (Nat.not_lt_zero _)⟩
 case round =>
  obtain ⟨k, hk, rfl, hb, f, hrow, hall⟩ := hrel;have Ha := hide hall;have Hr := hide hrow;clear hall;by_cases hlt : k < xs.length
  ·obtain ⟨b, o, rfl, hb1, hb2, hcs⟩ := Hc.out (by omega)
   obtain ⟨h1, -⟩ := hcs k hlt;rw [← hb.cell (p := ⟨b, _, none⟩) (by simpa using by omega)] at h1;have hg1 := hrow.cell (i := k) hlt;have hg2 := hrow.frozen k;clear hcs hrow;go_wp2_with fail
   go_roundw
   case rel =>
    refine ⟨k + 1, by omega, by go_num, hb.setCell nl _, _, Hr.out.set k _, fun j hj hjk => ?_⟩;by_cases e : j = k
    ·subst e; simp
    ·simp only [if_neg e]; exact Ha.out j hj (by omega)
   case measure => simp [intOf]; omega
  ·go_wp2_with fail
   go_ret;refine ⟨_, rfl, IntsAt.of_row Hr.out nl (by omega) (fun i hi => Ha.out i hi (by omega)) nl, hb⟩
theorem markIntS_any (v : Value) (xs : List Int) (lo hi : Nat) (k0 : Int) (w : World) (h : IntsAt lo hi w v xs) (hlen : xs.length ≤ 2097152) (hk0 : 0 ≤ k0) (hk1 : k0 ≤ 16777216) :
 Calls Tryz.prog 154 #[v, .int .i64 k0] w fun e w' => e = .returned (.int .i64 (k0 + xs.length)) ∧ Other lo hi w w' ∧ ∃ ys : List Int, ys.length = xs.length ∧ (∀ i (_ : i < ys.length), ys[i] = k0 + i) ∧ IntsAt lo hi w' v ys := by
 have h0 := h;obtain ⟨ao, cap, rfl, hlc, hcap, hhi, hc⟩ := h;have Hc := hide hc;clear hc;go_enter Tryz.func154, Tryz.ntmps154;go_wp2_with fail
 go_loopw [1, 5] (fun m i wr => ∃ k : Nat, k ≤ xs.length ∧ i = .int .i64 k ∧ m = .int .i64 (k0 + k) ∧ Other lo hi w wr ∧ ∃ ys : List Int, ys.length = xs.length ∧ (∀ i (_ : i < ys.length), i < k → ys[i] = k0 + i) ∧ IntsAt lo hi wr (.slice ao xs.length cap) ys) (fun _ i _ => xs.length - (intOf i).toNat)
 case atStart => exact ⟨0, Nat.zero_le _, rfl, by simp, Other.refl _ _ _, xs, rfl, fun _ _ h => absurd h (Nat.not_lt_zero _), h0⟩
 case round =>
  obtain ⟨k, hk, rfl, rfl, hb, ys, hyl, hall, hat⟩ := hrel;have Hyl := hide hyl;have Ha := hide hall;have Hat := hide hat;clear hall hyl hat;by_cases hlt : k < xs.length
  ·obtain ⟨ao', cap', e, a1, a2, a3, a4⟩ := Hat.out
   simp only [Value.slice.injEq] at e;obtain ⟨rfl, -, rfl⟩ := e;obtain ⟨b, o, rfl, hb1, hb2, hcs⟩ := a4 (by have := Hyl.out; omega);obtain ⟨h1, h2⟩ := hcs k (by have := Hyl.out; omega);clear a4 hcs;go_wp2_with fail
   go_roundw
   case rel =>
    refine ⟨k + 1, by omega, by go_num, by go_num, hb.setCell hb1 hb2 _, ys.set k (k0 + k), by simp [Hyl.out], fun i hi hik => ?_, ?_⟩
    ·rw [List.getElem_set]
     split
     ·subst k; rfl
     ·exact Ha.out i (by simpa using hi) (by omega)
    ·exact IntsAt.set Hat.out (by have := Hyl.out; omega) (by simp [Hyl.out]) _
   case measure => simp [intOf]; omega
  ·go_wp2_with fail
   go_ret;refine ⟨?_, hb, ys, Hyl.out, fun i hi => Ha.out i hi (by have := Hyl.out; omega), Hat.out⟩;have : (k : Int) = xs.length := by omega
   rw [this]; rfl
theorem heldIntS_any (v : Value) (ys : List Int) (lo hi : Nat) (k0 : Int) (w : World) (h : IntsAt lo hi w v ys) (hlen : ys.length ≤ 2097152) (hk0 : 0 ≤ k0) (hk1 : k0 ≤ 16777216) (hm : ∀ i (_ : i < ys.length), ys[i] = k0 + i) :
 Calls Tryz.prog 155 #[v, .int .i64 k0] w fun e w' => e = .returned (.int .i64 (k0 + ys.length)) ∧ w = w' := by
 obtain ⟨ao, cap, rfl, hlc, hcap, hhi, hc⟩ := h;have Hc := hide hc;have Hm := hide hm;clear hc hm;go_enter Tryz.func155, Tryz.ntmps155;go_wp2_with fail
 go_loop [1, 5] (fun m i => ∃ k : Nat, k ≤ ys.length ∧ i = .int .i64 k ∧ m = .int .i64 (k0 + k)) (fun _ i => ys.length - (intOf i).toNat)
 case atStart => exact ⟨0, Nat.zero_le _, rfl, by simp⟩
 case round =>
  obtain ⟨k, hk, rfl, rfl⟩ := hrel;by_cases hlt : k < ys.length
  ·obtain ⟨b, o, rfl, hb1, hb2, hcs⟩ := Hc.out (by omega)
   obtain ⟨h1, -⟩ := hcs k hlt;rw [Hm.out k hlt] at h1;clear hcs;go_wp2_with fail
   go_round
   case rel => exact ⟨k + 1, by omega, by go_num, by go_num⟩
   case measure => simp [intOf]; omega
  ·go_wp2_with fail
   go_ret;refine ⟨?_, rfl⟩;have : (k : Int) = ys.length := by omega
   rw [this]; rfl
theorem BytesAt.stay {w w' : World} {v : Value} {n : Nat} (h : BytesAt 0 w.heap.size w v n) (hb : Below w.heap.size w w') : BytesAt 0 w'.heap.size w' v n :=
 (h.below hb nl).mono hb.size nl
theorem StAt.of_row1 {w : World} {g T n m : Nat} {f : Nat → Value} (h : w.rowIs g T m f) {xs : List St} (hn : xs.length ≤ n) (hm : n * 5 ≤ m) (hn' : n ≤ 9223372036854775807) (hf : ∀ i (_ : i < xs.length), f (i * 5) = .int .i64 xs[i].c ∧ f (i * 5 + 1) = .int .i64 xs[i].m ∧ f (i * 5 + 2) = .int .i64 xs[i].s ∧ f (i * 5 + 3) = .int .i64 xs[i].p ∧ f (i * 5 + 4) = .int .i64 xs[i].k) :
 StAt g (g + 1) w (.slice (some ⟨g, 0, none⟩) xs.length n) xs :=
 ⟨_, n, rfl, hn, hn', h.lt, fun _ => ⟨g, 0, rfl, Nat.le_refl _, Nat.lt_succ_self _, fun i hi => by
  obtain ⟨f0, f1, f2, f3, f4⟩ := hf i hi;rw [Nat.zero_add];exact ⟨⟨by rw [h.cell (by omega), f0], by rw [h.cell (by omega), f1], by rw [h.cell (by omega), f2], by rw [h.cell (by omega), f3], by rw [h.cell (by omega), f4]⟩, h.frozen _, h.frozen _, h.frozen _, h.frozen _, h.frozen _⟩⟩⟩
theorem PcAt.of_row1 {w : World} {g T n m : Nat} {f : Nat → Value} (h : w.rowIs g T m f) {xs : List Pc} (hn : xs.length ≤ n) (hm : n * 2 ≤ m) (hn' : n ≤ 9223372036854775807) (hf : ∀ i (_ : i < xs.length), f (i * 2) = .int .i64 xs[i].l ∧ f (i * 2 + 1) = .int .i64 xs[i].s) :
 PcAt g (g + 1) w (.slice (some ⟨g, 0, none⟩) xs.length n) xs :=
 ⟨_, n, rfl, hn, hn', h.lt, fun _ => ⟨g, 0, rfl, Nat.le_refl _, Nat.lt_succ_self _, fun i hi => by
  obtain ⟨f0, f1⟩ := hf i hi;rw [Nat.zero_add];exact ⟨⟨by rw [h.cell (by omega), f0], by rw [h.cell (by omega), f1]⟩, h.frozen _, h.frozen _⟩⟩⟩
theorem rowIs_put2 {w : World} {g T n : Nat} {f : Nat → Value} (h : w.rowIs g T n f) (a : Nat) (x0 x1 : Value) :
 ∃ f', ((w.setCell ⟨g, a, none⟩ x0).setCell ⟨g, a + 1, none⟩ x1).rowIs g T n f' ∧ f' (a) = x0 ∧ f' (a + 1) = x1 ∧ ∀ i, i ≠ a → i ≠ a + 1 → f' i = f i := by
 refine ⟨_, ((h.set (a) x0).set (a + 1) x1), ?_, ?_, fun i h0 h1 => ?_⟩
 ·simp
 ·simp
 ·simp [h0, h1]
def shipJ (id : Int) : J := ⟨4, id, 0⟩
def slabJ (id : Int) : List J := [⟨2, id, 0⟩, ⟨4, id, 0⟩]
def clearR (m : Mi) : List J := if millB m then (nz (m.high ++ m.low)).map shipJ ++ (idsIn m.pieces 0).flatMap slabJ else []
theorem flat_len (l : List Int) : (l.flatMap slabJ).length = 2 * l.length := by
 induction l with
 | nil => rfl
 | cons a l ih => rw [List.flatMap_cons, List.length_append, ih]; simp [slabJ]; omega
theorem JobsAt.of_row1 {w : World} {g T n m : Nat} {f : Nat → Value} (h : w.rowIs g T m f) {xs : List J} (hn : xs.length ≤ n) (hm : n * 3 ≤ m) (hn' : n ≤ 9223372036854775807) (hf : ∀ i (_ : i < xs.length), f (i * 3) = .int .i64 xs[i].s ∧ f (i * 3 + 1) = .int .i64 xs[i].d ∧ f (i * 3 + 2) = .int .i64 xs[i].g) :
 JobsAt g (g + 1) w (.slice (some ⟨g, 0, none⟩) xs.length n) xs :=
 ⟨_, n, rfl, hn, hn', h.lt, fun _ => ⟨g, 0, rfl, Nat.le_refl _, Nat.lt_succ_self _, fun i hi => by
  obtain ⟨f0, f1, f2⟩ := hf i hi;rw [Nat.zero_add];exact ⟨⟨by rw [h.cell (by omega), f0], by rw [h.cell (by omega), f1], by rw [h.cell (by omega), f2]⟩, h.frozen _, h.frozen _, h.frozen _⟩⟩⟩
def DeedsNew (base : Nat) (js : List J) (w : World) (e : Ending) (w' : World) : Prop := ∃ v, e = .returned v ∧ w'.ownsRow base 48 3 v js.length (flatD js) ∧ Below base w w'
theorem slab_take {l : List Int} {k : Nat} (hk : k < l.length) : (l.take (k + 1)).flatMap slabJ = (l.take k).flatMap slabJ ++ slabJ l[k] := by
 rw [List.take_succ_eq_append_getElem hk, List.flatMap_append]; simp
def eqSt (a b : St) : Bool := decide (a = b)
theorem toStuff_any (c0 m0 s0 p0 k0 : Int) (w : World) :
 Calls Tryz.prog 148 #[.agg #[.int .i64 c0, .int .i64 m0, .int .i64 s0, .int .i64 p0, .int .i64 k0]] w fun e w' => e = .returned (.agg #[.int .i64 c0, .int .i64 m0, .int .i64 s0, .int .i64 p0, .int .i64 k0]) ∧ Below w.heap.size w w' := by
 go_enter Tryz.func148, Tryz.ntmps148
 go_wp2
 go_returns
 exact ⟨rfl, by go_grown⟩
theorem eqStuff_any (c0 m0 s0 p0 k0 c1 m1 s1 p1 k1 : Int) (w : World) :
 Calls Tryz.prog 151 #[.agg #[.int .i64 c0, .int .i64 m0, .int .i64 s0, .int .i64 p0, .int .i64 k0], .agg #[.int .i64 c1, .int .i64 m1, .int .i64 s1, .int .i64 p1, .int .i64 k1]] w fun e w' => e = .returned (.bool (eqSt ⟨c0, m0, s0, p0, k0⟩ ⟨c1, m1, s1, p1, k1⟩)) ∧ Below w.heap.size w w' := by
 go_enter Tryz.func151, Tryz.ntmps151
 go_wp2
 all_goals
  go_ret;exact ⟨by simp_all [eqSt], by go_grown⟩
theorem szStuffS_any (v : Value) (xs : List St) (lo hi : Nat) (left : Int) (w : World) (h : StAt lo hi w v xs) (h1 : 0 ≤ left) (h2 : left ≤ 1048576) :
 Calls Tryz.prog 87 #[v, .int .i64 left] w fun e w' => e = .returned (.int .i64 (szI left xs.length)) ∧ w = w' := by
 have hl := h.len;obtain ⟨ao, cap, rfl, hlc, hcap, hhi, hc⟩ := h;have Hc := hide hc;clear hc;go_enter Tryz.func87, Tryz.ntmps87
 go_wp2
 all_goals
  go_ret;refine ⟨?_, rfl⟩;unfold szI;first | (rw [if_pos (by omega)]; rfl) | (rw [if_neg (by omega)]; rfl)
theorem eqStuffS_any (v v' : Value) (xs ys : List St) (lo hi lo' hi' : Nat) (w : World) (h : StAt lo hi w v xs) (h' : StAt lo' hi' w v' ys) :
 Calls Tryz.prog 94 #[v, v'] w fun e w' => e = .returned (.bool (decide (xs = ys))) ∧ Below w.heap.size w w' := by
 obtain ⟨ao, cap, rfl, hlc, hcap, hhi, hc⟩ := h;obtain ⟨ao', cap', rfl, hlc', hcap', hhi', hc'⟩ := h';have Hc := hide hc;have Hc' := hide hc';clear hc hc';by_cases hl : xs.length = ys.length
 ·have HL := hide hl
  have hlB : ((xs.length : Int) != (ys.length : Int)) = false := by simp [hl]
  clear hl;go_enter Tryz.func94, Tryz.ntmps94;go_wp2_with fail
  go_loopw [5] (fun i wr => ∃ k : Nat, k ≤ xs.length ∧ i = .int .i64 k ∧ Below w.heap.size w wr ∧ xs.take k = ys.take k) (fun i _ => xs.length - (intOf i).toNat)
  case atStart => exact ⟨0, Nat.zero_le _, rfl, Below.refl _ _, rfl⟩
  case round =>
   obtain ⟨k, hk, rfl, hb, hall⟩ := hrel;have Ha := hide hall;clear hall;by_cases hlt : k < xs.length
   ·have hlt' : k < ys.length := by have := HL.out; omega
    obtain ⟨b, o, rfl, hb1, hb2, hcs⟩ := Hc.out (by omega);obtain ⟨b', o', rfl, hb1', hb2', hcs'⟩ := Hc'.out (by omega);obtain ⟨⟨h1, h2, h3, h4, h5⟩, -⟩ := hcs k hlt;obtain ⟨⟨h1', h2', h3', h4', h5'⟩, -⟩ := hcs' k hlt';rw [← hb.cell (p := ⟨_, _, none⟩) (by simpa using by omega)] at h1 h2 h3 h4 h5 h1' h2' h3' h4' h5';clear hcs hcs';have hi1 : (k : Int) < (xs.length : Int) := by omega
    have hi2 : (k : Int) < (ys.length : Int) := by omega
    by_cases hq : xs[k] = ys[k]
    ·have hqB : eqSt { c := xs[k].c, m := xs[k].m, s := xs[k].s, p := xs[k].p, k := xs[k].k } { c := ys[k].c, m := ys[k].m, s := ys[k].s, p := ys[k].p, k := ys[k].k } = true := by simp [eqSt, hq]
     have hall' : xs.take (k + 1) = ys.take (k + 1) := by
      rw [List.take_succ_eq_append_getElem hlt, List.take_succ_eq_append_getElem hlt', Ha.out, hq]
     have Ha' := hide hall';clear hq hall';go_wp2_with fail
     go_still_tail 8, (by kernel_rfl)
     change wpList _ _ _ _ _ wr.drew;clear h1 h2 h3 h4 h5 h1' h2' h3' h4' h5';go_wp2_with (go_at_call 151; refine (eqStuff_any _ _ _ _ _ _ _ _ _ _ _).mono ?_; rintro e w1 ⟨rfl, hw1⟩)
     go_roundw
     case rel => exact ⟨k + 1, by omega, by go_num, Below.step hb.drew hw1 nl, Ha'.out⟩
     case measure => simp [intOf]; omega
    ·have hqB : eqSt { c := xs[k].c, m := xs[k].m, s := xs[k].s, p := xs[k].p, k := xs[k].k } { c := ys[k].c, m := ys[k].m, s := ys[k].s, p := ys[k].p, k := ys[k].k } = false := by
      unfold eqSt; rw [decide_eq_false_iff_not]; exact hq
     have HQ := hide hq;clear hq;go_wp2_with fail
     go_still_tail 8, (by kernel_rfl)
     change wpList _ _ _ _ _ wr.drew;clear h1 h2 h3 h4 h5 h1' h2' h3' h4' h5';go_wp2_with (go_at_call 151; refine (eqStuff_any _ _ _ _ _ _ _ _ _ _ _).mono ?_; rintro e w1 ⟨rfl, hw1⟩)
     go_ret;refine ⟨?_, Below.step hb.drew hw1 nl⟩;have hne : xs ≠ ys := by
      intro e;subst e;exact HQ.out rfl
     simp [hne]
   ·go_wp2_with fail
    go_ret;refine ⟨?_, hb⟩;have e : xs = ys := by
     have := Ha.out;rw [List.take_of_length_le (by omega), List.take_of_length_le (by have := HL.out; omega)] at this;exact this
    simp [e]
 ·have hlB : ((xs.length : Int) != (ys.length : Int)) = true := by simp; omega
  go_enter Tryz.func94, Tryz.ntmps94;go_wp2_with fail
  go_ret;exact ⟨by simp; intro h; exact hl (by rw [h]), Below.refl _ _⟩
theorem toStuffS_any (v : Value) (xs : List St) (lo hi : Nat) (w : World) (h : StAt lo hi w v xs) (hlen : xs.length ≤ 2097152) :
 Calls Tryz.prog 90 #[v] w fun e w' => ∃ v', e = .returned v' ∧ StAt w.heap.size (w.heap.size + 1) w' v' xs ∧ Below w.heap.size w w' := by
 have hlt0 := h.lt;obtain ⟨ao, cap, rfl, hlc, hcap, hhi, hc⟩ := h;have Hc := hide hc;clear hc;have hmk := fun W => make_rowN (P := Tryz.prog) 23 65 _ _ _ Tryz.underlying23 info_St .i64 .i64 xs.length (by omega) (by omega) W;go_enter Tryz.func90, Tryz.ntmps90;go_wp2_with fail
 clear hmk
 go_loopw [4] (fun i wr => ∃ k : Nat, k ≤ xs.length ∧ i = .int .i64 k ∧ Below w.heap.size w wr ∧ ∃ f, wr.rowIs w.heap.size 65 (xs.length * 5) f ∧ (∀ j (_ : j < xs.length), j < k → f (j * 5) = .int .i64 xs[j].c ∧ f (j * 5 + 1) = .int .i64 xs[j].m ∧ f (j * 5 + 2) = .int .i64 xs[j].s ∧ f (j * 5 + 3) = .int .i64 xs[j].p ∧ f (j * 5 + 4) = .int .i64 xs[j].k)) (fun i _ => xs.length - (intOf i).toNat)
 case atStart =>
  obtain ⟨f, hf⟩ := rowIs_madeN w (Value.agg #[Value.int .i64 0, Value.int .i64 0, Value.int .i64 0, Value.int .i64 0, Value.int .i64 0]).cells (xs.length * 5) 65;exact ⟨0, Nat.zero_le _, rfl, by go_grown, f, hf, fun _ _ h => absurd h (Nat.not_lt_zero _)⟩
 case round =>
  obtain ⟨k, hk, rfl, hb, f, hrow, hall⟩ := hrel;have Ha := hide hall;have Hr := hide hrow;clear hall;by_cases hlt : k < xs.length
  ·obtain ⟨b, o, rfl, hb1, hb2, hcs⟩ := Hc.out (by omega)
   obtain ⟨⟨h1, h2, h3, h4, h5⟩, -⟩ := hcs k hlt;rw [← hb.cell (p := ⟨b, _, none⟩) (by simpa using by omega)] at h1 h2 h3 h4 h5;have hz : w.heap.size < wr.heap.size := hrow.lt;clear hcs hrow;go_wp2_with (go_at_call 148; refine (toStuff_any _ _ _ _ _ _).mono ?_; rintro e w1 ⟨rfl, hw1⟩; have hg1 := (rowIs_below Hr.out hw1 hz).cell (i := k * 5) (by omega); have hg2 := (rowIs_below Hr.out hw1 hz).cell (i := k * 5 + 1) (by omega); have hg3 := (rowIs_below Hr.out hw1 hz).cell (i := k * 5 + 2) (by omega); have hg4 := (rowIs_below Hr.out hw1 hz).cell (i := k * 5 + 3) (by omega); have hg5 := (rowIs_below Hr.out hw1 hz).cell (i := k * 5 + 4) (by omega); have hf1 := (rowIs_below Hr.out hw1 hz).frozen (k * 5); have hf2 := (rowIs_below Hr.out hw1 hz).frozen (k * 5 + 1); have hf3 := (rowIs_below Hr.out hw1 hz).frozen (k * 5 + 2); have hf4 := (rowIs_below Hr.out hw1 hz).frozen (k * 5 + 3); have hf5 := (rowIs_below Hr.out hw1 hz).frozen (k * 5 + 4))
   obtain ⟨f', hr', e1, e2, e3, e4, e5, eo⟩ := rowIs_put5 (rowIs_below Hr.out hw1 hz) (k * 5) (.int .i64 xs[k].c) (.int .i64 xs[k].m) (.int .i64 xs[k].s) (.int .i64 xs[k].p) (.int .i64 xs[k].k);go_roundw
   case rel =>
    refine ⟨k + 1, by omega, by go_num, ((((((Below.step hb hw1 nl).setCell nl _).setCell nl _).setCell nl _).setCell nl _).setCell nl _), f', hr', fun j hj hjk => ?_⟩;by_cases e : j = k
    ·subst e; exact ⟨e1, e2, e3, e4, e5⟩
    ·rw [eo _ (by omega) (by omega) (by omega) (by omega) (by omega), eo _ (by omega) (by omega) (by omega) (by omega) (by omega), eo _ (by omega) (by omega) (by omega) (by omega) (by omega), eo _ (by omega) (by omega) (by omega) (by omega) (by omega), eo _ (by omega) (by omega) (by omega) (by omega) (by omega)]
     exact Ha.out j hj (by omega)
   case measure => simp [intOf]; omega
  ·go_wp2_with fail
   go_ret;refine ⟨_, rfl, StAt.of_row1 Hr.out nl nl (by omega) (fun i hi => Ha.out i hi (by omega)), hb⟩
def mkSt (a : Int) : St := ⟨a, a + 1, a + 1 + 1, a + 1 + 1 + 1, a + 1 + 1 + 1 + 1⟩
theorem markStuffS_any (v : Value) (xs : List St) (lo hi : Nat) (k0 : Int) (w : World) (h : StAt lo hi w v xs) (hlen : xs.length ≤ 2097152) (hk0 : 0 ≤ k0) (hk1 : k0 ≤ 16777216) :
 Calls Tryz.prog 98 #[v, .int .i64 k0] w fun e w' => e = .returned (.int .i64 (k0 + 5 * xs.length)) ∧ Other lo hi w w' ∧ ∃ ys : List St, ys.length = xs.length ∧ (∀ i (_ : i < ys.length), ys[i] = mkSt (k0 + 5 * i)) ∧ StAt lo hi w' v ys := by
 have h0 := h;obtain ⟨ao, cap, rfl, hlc, hcap, hhi, hc⟩ := h;have Hc := hide hc;clear hc;go_enter Tryz.func98, Tryz.ntmps98;go_wp2_with fail
 go_loopw [1, 5] (fun m i wr => ∃ k : Nat, k ≤ xs.length ∧ i = .int .i64 k ∧ m = .int .i64 (k0 + 5 * k) ∧ Other lo hi w wr ∧ ∃ ys : List St, ys.length = xs.length ∧ (∀ i (_ : i < ys.length), i < k → ys[i] = mkSt (k0 + 5 * i)) ∧ StAt lo hi wr (.slice ao xs.length cap) ys) (fun _ i _ => xs.length - (intOf i).toNat)
 case atStart => exact ⟨0, Nat.zero_le _, rfl, by simp, Other.refl _ _ _, xs, rfl, fun _ _ h => absurd h (Nat.not_lt_zero _), h0⟩
 case round =>
  obtain ⟨k, hk, rfl, rfl, hb, ys, hyl, hall, hat⟩ := hrel;have Hyl := hide hyl;have Ha := hide hall;have Hat := hide hat;clear hyl hat hall;by_cases hlt : k < xs.length
  ·obtain ⟨ao', cap', e, a1, a2, a3, a4⟩ := Hat.out
   simp only [Value.slice.injEq] at e;obtain ⟨rfl, -, rfl⟩ := e;obtain ⟨b, o, rfl, hb1, hb2, hcs⟩ := a4 (by have := Hyl.out; omega);obtain ⟨⟨h1, h2, h3, h4, h5⟩, f1, f2, f3, f4, f5⟩ := hcs k (by have := Hyl.out; omega);clear a4 hcs;go_wp2_with fail
   go_roundw
   case rel =>
    refine ⟨k + 1, by omega, by go_num, by go_num, (((((hb.setCell hb1 hb2 _).setCell hb1 hb2 _).setCell hb1 hb2 _).setCell hb1 hb2 _).setCell hb1 hb2 _), ys.set k (mkSt (k0 + 5 * k)), by simp [Hyl.out], fun i hi hik => ?_, ?_⟩
    ·rw [List.getElem_set]
     split
     ·subst k; rfl
     ·exact Ha.out i (by simpa using hi) (by omega)
    ·exact StAt.set Hat.out (by have := Hyl.out; omega) (by simp [Hyl.out]) _ _ _ _ _
   case measure => simp [intOf]; omega
  ·go_wp2_with fail
   go_ret;refine ⟨?_, hb, ys, Hyl.out, fun i hi => Ha.out i hi (by have := Hyl.out; omega), Hat.out⟩;have : (k : Int) = xs.length := by omega
   rw [this]; rfl
theorem heldStuffS_any (v : Value) (ys : List St) (lo hi : Nat) (k0 : Int) (w : World) (h : StAt lo hi w v ys) (hlen : ys.length ≤ 2097152) (hk0 : 0 ≤ k0) (hk1 : k0 ≤ 16777216) (hm : ∀ i (_ : i < ys.length), ys[i] = mkSt (k0 + 5 * i)) :
 Calls Tryz.prog 101 #[v, .int .i64 k0] w fun e w' => e = .returned (.int .i64 (k0 + 5 * ys.length)) ∧ w = w' := by
 obtain ⟨ao, cap, rfl, hlc, hcap, hhi, hc⟩ := h;have Hc := hide hc;have Hm := hide hm;clear hc hm;go_enter Tryz.func101, Tryz.ntmps101;go_wp2_with fail
 go_loop [1, 5] (fun m i => ∃ k : Nat, k ≤ ys.length ∧ i = .int .i64 k ∧ m = .int .i64 (k0 + 5 * k)) (fun _ i => ys.length - (intOf i).toNat)
 case atStart => exact ⟨0, Nat.zero_le _, rfl, by simp⟩
 case round =>
  obtain ⟨k, hk, rfl, rfl⟩ := hrel;by_cases hlt : k < ys.length
  ·obtain ⟨b, o, rfl, hb1, hb2, hcs⟩ := Hc.out (by omega)
   obtain ⟨⟨h1, h2, h3, h4, h5⟩, -⟩ := hcs k hlt;rw [Hm.out k hlt] at h1 h2 h3 h4 h5;simp only [mkSt] at h1 h2 h3 h4 h5;clear hcs;go_wp2_with fail
   go_round
   case rel => exact ⟨k + 1, by omega, by go_num, by go_num⟩
   case measure => simp [intOf]; omega
  ·go_wp2_with fail
   go_ret;refine ⟨?_, rfl⟩;have : (k : Int) = ys.length := by omega
   rw [this]; rfl
theorem clear_small {m : Mi} (h : millB m = true) : ∀ j ∈ clearR m, j.d ≤ 9223372036854775807 ∧ j.g ≤ 9223372036854775807 := by
 have hv := millB_iff.1 h;intro j hj;unfold clearR at hj;rw [if_pos h, List.mem_append] at hj;rcases hj with hj | hj
 ·obtain ⟨x, hx, rfl⟩ := List.mem_map.1 hj
  have h1 := (mem_nz.1 hx).1;have h2 : x ∈ m.low ++ m.high := by
   simp only [List.mem_append] at h1 ⊢;exact h1.symm
  have h3 := hv.pile.rng x h2;exact ⟨show x ≤ 9223372036854775807 by omega, show (0 : Int) ≤ 9223372036854775807 by omega⟩
 ·obtain ⟨x, hx, hj⟩ := List.mem_flatMap.1 hj
  obtain ⟨k, hk, rfl, -⟩ := mem_idsIn.1 hx;have h3 := hv.len;simp only [slabJ, List.mem_cons, List.not_mem_nil, or_false] at hj;rcases hj with rfl | rfl
  ·exact ⟨show ((k : Int) + 1) ≤ 9223372036854775807 by omega, show (0 : Int) ≤ 9223372036854775807 by omega⟩
  ·exact ⟨show ((k : Int) + 1) ≤ 9223372036854775807 by omega, show (0 : Int) ≤ 9223372036854775807 by omega⟩
def okB : ByteArray := ⟨#[111, 107]⟩
def noB : ByteArray := ⟨#[110, 111]⟩
def clearB : ByteArray := ⟨#[99, 108, 101, 97, 114]⟩
def lineR (m : Mi) (t : ByteArray) : Mi × ByteArray :=
 if millB m then
  match rdI (partsB t) with
  | some (k, o, u) => ((doR m ⟨k, o, u⟩).1, if (doR m ⟨k, o, u⟩).2 then okB else noB)
  | none => if t = clearB then ((runR m (clearR m)).1, okB) else (m, askB m t)
 else (mi0, ⟨#[]⟩)
theorem line_bad {m : Mi} (h : millB m = false) (t : ByteArray) : lineR m t = (mi0, ⟨#[]⟩) := by
 unfold lineR;rw [if_neg (by simp [h])]
theorem line_deed {m : Mi} (h : millB m = true) {t : ByteArray} {k o u : Int} (hr : rdI (partsB t) = some (k, o, u)) : lineR m t = ((doR m ⟨k, o, u⟩).1, if (doR m ⟨k, o, u⟩).2 then okB else noB) := by
 unfold lineR;rw [if_pos h, hr]
theorem line_clear {m : Mi} (h : millB m = true) {t : ByteArray} (hr : rdI (partsB t) = none) (hc : t = clearB) : lineR m t = ((runR m (clearR m)).1, okB) := by
 unfold lineR;rw [if_pos h, hr];exact if_pos hc
theorem line_ask {m : Mi} (h : millB m = true) {t : ByteArray} (hr : rdI (partsB t) = none) (hc : t ≠ clearB) : lineR m t = (m, askB m t) := by
 unfold lineR;rw [if_pos h, hr];exact if_neg hc
theorem rd_small {t : ByteArray} {k o u : Int} (hr : rdI (partsB t) = some (k, o, u)) : o ≤ 9223372036854775807 ∧ u ≤ 9223372036854775807 := by
 obtain ⟨h1, h2⟩ := (rdI_iff (parts_cut t) k o u).1 hr;obtain ⟨-, h3, h4, -⟩ := good_parts h1 h2;rw [wi_iff] at h3 h4;omega
end Go.Proofs.YtmemgbklgcjobaaGreatDoor
