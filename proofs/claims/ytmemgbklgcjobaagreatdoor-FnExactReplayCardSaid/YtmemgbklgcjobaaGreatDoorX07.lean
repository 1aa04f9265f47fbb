/-
  Parts of the proofs over mills, of: WalkA, WalkB, HelpJ, PlainAll, DrawME, Spot. Conditions: each theorem states its own.
-/
import Derived.Deep.RegionHeld
import Derived.Shelf.Strings.OnBuilder
import Derived.Shelf.Strings.BuilderK
import Derived.Shelf.Strconv.Itoa3
import Derived.Shelf.Strings.Shaped
import Derived.Shelf.Sort.Plain
import Derived.Shelf.Strings.SplitShaped
import Derived.Shelf.Unicode.DecodeSlow
import Derived.Shelf.Slices.Turned
import Derived.Shelf.Slices.Clone
import Derived.Shelf.Slices.In.SortNone
import Derived.Shelf.Slices.Empties2
import Derived.Lib.AppendZeros
import Derived.Test.YtmemgbklgcjobaaGreatDoorX06
set_option linter.unusedSimpArgs false
set_option linter.unusedVariables false
set_option maxRecDepth 10000
namespace Go.Proofs.YtmemgbklgcjobaaGreatDoor
open Go.RowKit
theorem within_any (n a b : Int) (w : World) :
    Calls Tryz.prog 79 #[.int .i64 n, .int .i64 a, .int .i64 b] w fun e w' => e = .returned (.bool (wi n a b)) ∧ w = w' := by
  by_cases h1 : a ≤ n
  · go_enter Tryz.func79, Tryz.ntmps79
    go_wp2
    go_ret
    simp [h1, wi]
  · have h2 : decide (a ≤ n) = false := by simp [h1]
    go_enter Tryz.func79, Tryz.ntmps79
    go_wp2
    go_ret
    simp [wi, h2]
theorem l1In_any (n a b : Int) (w : World) :
    Calls Tryz.prog 68 #[.int .i64 n, .int .i64 a, .int .i64 b] w fun e w' => e = .returned (.bool (wi n a b)) ∧ w = w' := by
  by_cases h1 : a ≤ n
  · go_enter Tryz.func68, Tryz.ntmps68
    go_wp2
    go_ret
    simp [h1, wi]
  · have h2 : decide (a ≤ n) = false := by simp [h1]
    go_enter Tryz.func68, Tryz.ntmps68
    go_wp2
    go_ret
    simp [wi, h2]
def szI (left : Int) (n : Nat) : Int := if left - n < 0 then -1 else left - n
theorem info_int : (Tryz.prog.info? 3).map (fun i => (i.zero, i.size, i.bytes)) = some (some (.int .i64 0), 1, 8) := by kernel_rfl
set_option maxHeartbeats 400000 in
theorem toIntS_any (v : Value) (xs : List Int) (lo hi : Nat) (w : World) (h : IntsAt lo hi w v xs) (hlen : xs.length ≤ 2097152) :
    Calls Tryz.prog 150 #[v] w fun e w' => ∃ v', e = .returned v' ∧ IntsAt w.heap.size w'.heap.size w' v' xs ∧ Below w.heap.size w w' := by
  have hlt0 := h.lt
  obtain ⟨ao, cap, rfl, hlc, hcap, hhi, hc⟩ := h
  have Hc := hide hc
  clear hc
  have hmk := fun W => make_rowN (P := Tryz.prog) 27 3 _ _ _ Tryz.underlying27 info_int .i64 .i64 xs.length (by omega) (by omega) W
  go_enter Tryz.func150, Tryz.ntmps150
  go_wp2_with fail
  clear hmk
  go_loopw [4] (fun i wr => ∃ k : Nat, k ≤ xs.length ∧ i = .int .i64 k ∧ Below w.heap.size w wr ∧ ∃ f, wr.rowIs w.heap.size 3 xs.length f ∧ (∀ j (_ : j < xs.length), j < k → f j = .int .i64 xs[j])) (fun i _ => xs.length - (intOf i).toNat)
  case atStart =>
    obtain ⟨f, hf⟩ := rowIs_madeN w (Value.int .i64 0).cells (xs.length * 1) 3
    rw [Nat.mul_one] at hf
    exact ⟨0, Nat.zero_le _, rfl, by go_grown, f, hf, fun _ _ h => absurd h (Nat.not_lt_zero _)⟩
  case round =>
    obtain ⟨k, hk, rfl, hb, f, hrow, hall⟩ := hrel
    have Ha := hide hall
    have Hr := hide hrow
    clear hall
    by_cases hlt : k < xs.length
    · obtain ⟨b, o, rfl, hb1, hb2, hcs⟩ := Hc.out (by omega)
      obtain ⟨h1, -⟩ := hcs k hlt
      rw [← hb.cell (p := ⟨b, _, none⟩) (by simpa using by omega)] at h1
      have hg1 := hrow.cell (i := k) hlt
      have hg2 := hrow.frozen k
      clear hcs hrow
      go_wp2_with fail
      go_roundw
      case rel =>
        refine ⟨k + 1, by omega, by go_num, hb.setCell (Nat.le_refl _) _, _, Hr.out.set k _, fun j hj hjk => ?_⟩
        by_cases e : j = k
        · subst e; simp
        · simp only [if_neg e]; exact Ha.out j hj (by omega)
      case measure => simp [intOf]; omega
    · go_wp2_with fail
      go_ret
      refine ⟨_, rfl, IntsAt.of_row Hr.out (Nat.le_refl _) (by omega) (fun i hi => Ha.out i hi (by omega)) (Nat.le_refl _), hb⟩
set_option maxHeartbeats 400000 in
theorem markIntS_any (v : Value) (xs : List Int) (lo hi : Nat) (k0 : Int) (w : World) (h : IntsAt lo hi w v xs) (hlen : xs.length ≤ 2097152) (hk0 : 0 ≤ k0) (hk1 : k0 ≤ 16777216) :
    Calls Tryz.prog 154 #[v, .int .i64 k0] w fun e w' => e = .returned (.int .i64 (k0 + xs.length)) ∧ Other lo hi w w' ∧ ∃ ys : List Int, ys.length = xs.length ∧ (∀ i (_ : i < ys.length), ys[i] = k0 + i) ∧ IntsAt lo hi w' v ys := by
  have h0 := h
  obtain ⟨ao, cap, rfl, hlc, hcap, hhi, hc⟩ := h
  have Hc := hide hc
  clear hc
  go_enter Tryz.func154, Tryz.ntmps154
  go_wp2_with fail
  go_loopw [1, 5] (fun m i wr => ∃ k : Nat, k ≤ xs.length ∧ i = .int .i64 k ∧ m = .int .i64 (k0 + k) ∧ Other lo hi w wr ∧ ∃ ys : List Int, ys.length = xs.length ∧ (∀ i (_ : i < ys.length), i < k → ys[i] = k0 + i) ∧ IntsAt lo hi wr (.slice ao xs.length cap) ys) (fun _ i _ => xs.length - (intOf i).toNat)
  case atStart => exact ⟨0, Nat.zero_le _, rfl, by simp, Other.refl _ _ _, xs, rfl, fun _ _ h => absurd h (Nat.not_lt_zero _), h0⟩
  case round =>
    obtain ⟨k, hk, rfl, rfl, hb, ys, hyl, hall, hat⟩ := hrel
    have Hyl := hide hyl
    have Ha := hide hall
    have Hat := hide hat
    clear hall hyl hat
    by_cases hlt : k < xs.length
    · obtain ⟨ao', cap', e, a1, a2, a3, a4⟩ := Hat.out
      simp only [Value.slice.injEq] at e
      obtain ⟨rfl, -, rfl⟩ := e
      obtain ⟨b, o, rfl, hb1, hb2, hcs⟩ := a4 (by have := Hyl.out; omega)
      obtain ⟨h1, h2⟩ := hcs k (by have := Hyl.out; omega)
      clear a4 hcs
      go_wp2_with fail
      go_roundw
      case rel =>
        refine ⟨k + 1, by omega, by go_num, by go_num, hb.setCell hb1 hb2 _, ys.set k (k0 + k), by simp [Hyl.out], fun i hi hik => ?_, ?_⟩
        · rw [List.getElem_set]
          split
          · subst k; rfl
          · exact Ha.out i (by simpa using hi) (by omega)
        · exact IntsAt.set Hat.out (by have := Hyl.out; omega) (by simp [Hyl.out]) _
      case measure => simp [intOf]; omega
    · go_wp2_with fail
      go_ret
      refine ⟨?_, hb, ys, Hyl.out, fun i hi => Ha.out i hi (by have := Hyl.out; omega), Hat.out⟩
      have : (k : Int) = xs.length := by omega
      rw [this]; rfl
set_option maxHeartbeats 400000 in
theorem heldIntS_any (v : Value) (ys : List Int) (lo hi : Nat) (k0 : Int) (w : World) (h : IntsAt lo hi w v ys) (hlen : ys.length ≤ 2097152) (hk0 : 0 ≤ k0) (hk1 : k0 ≤ 16777216) (hm : ∀ i (_ : i < ys.length), ys[i] = k0 + i) :
    Calls Tryz.prog 155 #[v, .int .i64 k0] w fun e w' => e = .returned (.int .i64 (k0 + ys.length)) ∧ w = w' := by
  obtain ⟨ao, cap, rfl, hlc, hcap, hhi, hc⟩ := h
  have Hc := hide hc
  have Hm := hide hm
  clear hc hm
  go_enter Tryz.func155, Tryz.ntmps155
  go_wp2_with fail
  go_loop [1, 5] (fun m i => ∃ k : Nat, k ≤ ys.length ∧ i = .int .i64 k ∧ m = .int .i64 (k0 + k)) (fun _ i => ys.length - (intOf i).toNat)
  case atStart => exact ⟨0, Nat.zero_le _, rfl, by simp⟩
  case round =>
    obtain ⟨k, hk, rfl, rfl⟩ := hrel
    by_cases hlt : k < ys.length
    · obtain ⟨b, o, rfl, hb1, hb2, hcs⟩ := Hc.out (by omega)
      obtain ⟨h1, -⟩ := hcs k hlt
      rw [Hm.out k hlt] at h1
      clear hcs
      go_wp2_with fail
      go_round
      case rel => exact ⟨k + 1, by omega, by go_num, by go_num⟩
      case measure => simp [intOf]; omega
    · go_wp2_with fail
      go_ret
      refine ⟨?_, rfl⟩
      have : (k : Int) = ys.length := by omega
      rw [this]; rfl
theorem JobsAt.of_row1 {w : World} {g T n m : Nat} {f : Nat → Value} (h : w.rowIs g T m f) {xs : List J} (hn : xs.length ≤ n) (hm : n * 3 ≤ m) (hn' : n ≤ 9223372036854775807) (hf : ∀ i (_ : i < xs.length), f (i * 3) = .int .i64 xs[i].s ∧ f (i * 3 + 1) = .int .i64 xs[i].d ∧ f (i * 3 + 2) = .int .i64 xs[i].g) :
    JobsAt g (g + 1) w (.slice (some ⟨g, 0, none⟩) xs.length n) xs :=
  ⟨_, n, rfl, hn, hn', h.lt, fun _ => ⟨g, 0, rfl, Nat.le_refl _, Nat.lt_succ_self _, fun i hi => by
    obtain ⟨f0, f1, f2⟩ := hf i hi
    rw [Nat.zero_add]
    exact ⟨⟨by rw [h.cell (by omega), f0], by rw [h.cell (by omega), f1], by rw [h.cell (by omega), f2]⟩, h.frozen _, h.frozen _, h.frozen _⟩⟩⟩
theorem info_J : (Tryz.prog.info? 48).map (fun i => (i.zero, i.size, i.bytes)) = some (some (.agg #[.int .i64 0, .int .i64 0, .int .i64 0]), 3, 24) := by kernel_rfl
def withP (pre : List Int) (l : List (List Int)) : List (List Int) := l.map (pre ++ ·)
theorem withP_app (pre : List Int) (a b : List (List Int)) : withP pre (a ++ b) = withP pre a ++ withP pre b := by simp [withP]
theorem withP_none (l : List (List Int)) : withP [] l = l := by simp [withP]
def part (ss : List Int) (t : Int) (n : Nat) : List (List Int) := (ups n).flatMap fun n => (allM ss (t - n)).map (n :: ·)
theorem part_zero (ss : List Int) (t : Int) : part ss t 0 = [] := rfl
theorem part_succ (ss : List Int) (t : Int) (n : Nat) : part ss t (n + 1) = part ss t n ++ (allM ss (t - n)).map ((n : Int) :: ·) := by
  simp [part, ups_succ]
theorem allM_cons (s : Int) (ss : List Int) (t : Int) : allM (s :: ss) t = part ss t (min t s + 1).toNat := rfl
theorem withP_succ (pre ss : List Int) (t : Int) (n : Nat) : withP pre (part ss t (n + 1)) = withP pre (part ss t n) ++ withP (pre ++ [(n : Int)]) (allM ss (t - n)) := by
  rw [part_succ, withP_app]
  simp [withP]
theorem allM_end (t : Int) (pre : List Int) : withP pre (allM [] t) = if t = 0 then [pre] else [] := by
  unfold allM withP
  split <;> simp
def stocks (sts : List St) (k : Nat) : List Int := (sts.map St.k).drop k
theorem stocks_zero (sts : List St) : stocks sts 0 = sts.map St.k := rfl
theorem stocks_end (sts : List St) : stocks sts sts.length = [] := by simp [stocks]
theorem stocks_cons {sts : List St} {k : Nat} (hk : k < sts.length) : stocks sts k = (sts.getD k st0).k :: stocks sts (k + 1) := by
  unfold stocks
  rw [List.drop_eq_getElem_cons (by simpa using hk)]
  simp [hk]
theorem allM_at {sts : List St} {k : Nat} (hk : k < sts.length) (t : Int) : allM (stocks sts k) t = part (stocks sts (k + 1)) t (min t (sts.getD k st0).k + 1).toNat := by
  rw [stocks_cons hk, allM_cons]
theorem foldM_nil (sts : List St) (g : Gr) (b : Option (List Int × Int)) : foldM sts g b [] = b := rfl
theorem foldM_one (sts : List St) (g : Gr) (b : Option (List Int × Int)) (x : List Int) : foldM sts g b [x] = stepM sts g b x := rfl
theorem foldM_snoc (sts : List St) (g : Gr) (b : Option (List Int × Int)) (l : List (List Int)) (x : List Int) : foldM sts g b (l ++ [x]) = stepM sts g (foldM sts g b l) x := by
  rw [foldM_append]; rfl
theorem withP_len (pre : List Int) (l : List (List Int)) : (withP pre l).length = l.length := by simp [withP]
theorem part_len (ss : List Int) (t : Int) (B : Nat) (h : ∀ t, (allM ss t).length ≤ B) : ∀ n, (part ss t n).length ≤ n * B
  | 0 => by simp [part_zero]
  | n + 1 => by
    have h1 := part_len ss t B h n
    have h2 := h (t - n)
    rw [part_succ, List.length_append, List.length_map, Nat.succ_mul]; omega
theorem allM_len : ∀ (ss : List Int), (∀ s ∈ ss, s ≤ 9) → ∀ t, (allM ss t).length ≤ 10 ^ ss.length
  | [], _, t => by unfold allM; split <;> simp
  | s :: ss, h, t => by
    have ih := allM_len ss fun x hx => h x (by simp [hx])
    have hs := h s (by simp)
    have := part_len ss t _ ih (min t s + 1).toNat
    rw [allM_cons, List.length_cons, Nat.pow_succ, Nat.mul_comm]
    exact Nat.le_trans this (Nat.mul_le_mul_right _ (by omega))
structure AroundW (R k : Nat) (w : World) (gb zb : Nat) (gs zs : List Value) (W : World) : Prop where
  o : Other R (R + 1) w W
  r : Rd R k W
  gr : RowL W gb 25 gs
  zr : RowL W zb 25 zs
  hg : R < gb ∧ R < zb
theorem AroundW.step {R k gb zb : Nat} {w W W' : World} {gs zs : List Value} (h : AroundW R k w gb zb gs zs W) (ho : Other R (R + 1) W W') (hr : Rd R (k + 1) W') : AroundW R (k + 1) w gb zb gs zs W' :=
  ⟨h.o.trans ho, hr, h.gr.other ho (by have := h.hg; omega), h.zr.other ho (by have := h.hg; omega), h.hg⟩
theorem spotN_spec (n : Int) (w : World) (h1 : 0 ≤ n) (h2 : n ≤ 9223372036854775807) :
    Calls Tryz.prog 116 #[.int .i64 n] w fun e w' => e = .returned (.agg #[.bool (spotTop n), .int .i64 (spotPlace n)]) ∧ Below w.heap.size w w' := by
  have hneg : ¬ n < 0 := by omega
  go_enter Tryz.func116, Tryz.ntmps116
  go_wp2
  go_returns
  exact ⟨by simp [spotTop, spotPlace, hneg] <;> omega, by go_grown⟩
theorem spotN_impl (n : Int) (w : World) (h1 : 0 ≤ n) (h2 : n ≤ 9223372036854775807) :
    Calls Tryz.prog 166 #[.int .i64 n] w fun e w' => e = .returned (.agg #[.bool (spotTop n), .int .i64 (spotPlace n)]) ∧ Below w.heap.size w w' := by
  have hneg : ¬ n < 0 := by omega
  go_enter Tryz.func166, Tryz.ntmps166
  go_wp2
  go_returns
  exact ⟨by simp [spotTop, spotPlace, hneg] <;> omega, by go_grown⟩
end Go.Proofs.YtmemgbklgcjobaaGreatDoor
