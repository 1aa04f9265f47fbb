/-
  Draws of deeds for texts: l20Said; slices of such deeds; laws.sameDeeds of the same.
-/
import Derived.Test.YtbafifilklfafaaDoorDraw
import Derived.Test.YtbafifilklfafaaDoorTextA
import Derived.Test.YtbafifilklfafaaDoorRowL
import Derived.Test.YtbafifilklfafaaDoorApp
import Derived.Test.YtbafifilklfafaaDoorDeedOwn
namespace Go.Proofs.YtbafifilklfafaaDoor
open Go.RowKit

/-- A deed that a text says was drawn. -/
def SaidGot (R k : Nat) (w : World) (e : Ending) (w' : World) : Prop :=
  ∃ a o t : Int, e = .returned (.agg #[.int .i64 a, .int .i64 o, .int .i64 t]) ∧ Other R (R + 1) w w' ∧ Rd R (k + 3) w'
set_option linter.unusedSimpArgs false in
set_option maxRecDepth 10000 in
set_option maxHeartbeats 800000 in
theorem said_any (R k : Nat) (w : World) (h : Rd R k w) (hk : k ≤ 900000) :
    Calls Tryd.prog 23 #[.pointer (some ⟨R, 0, none⟩)] w (SaidGot R k w) := by
  have hR := h.lt
  have HR := hide h
  clear h
  go_enter Tryd.func23, Tryd.ntmps23
  go_wp2_with fail
  refine calls_at fun wx hwx => ?_
  have O_0 : RowL wx w.heap.size 25 [.int .i64 0, .int .i64 0, .int .i64 0] := by rw [hwx]; exact RowL.new _ _ _
  have B_0 : Below w.heap.size w wx := by rw [hwx]; go_grown
  clear hwx
  have hO0 := O_0.lt
  have T_0 := hide (Other.of_below (lo := R) (hi := R + 1) B_0)
  refine (pick_in R k 5 wx (HR.out.keep B_0 hR) (by omega) (by omega) (by omega)).mono ?_
  rintro e w1 ⟨x1, rfl, p1, p2, ho, hr1⟩
  have O_1 := O_0.other ho (.inr (by omega))
  have T_1 := hide (T_0.out.trans ho)
  have hO1 := O_1.lt
  clear ho p1 p2 B_0
  go_wp2_with fail
  refine (pick_in R (k + 1) 30 w1 hr1 (by omega) (by omega) (by omega)).mono ?_
  rintro e w2 ⟨x2, rfl, p1, p2, ho, hr2⟩
  have O_2 := O_1.other ho (.inr (by omega))
  have T_2 := hide (T_1.out.trans ho)
  have hO2 := O_2.lt
  have hz2 := T_2.out.size
  clear ho p1 p2 hr1
  go_wp2_with fail
  refine calls_at fun wy hwy => ?_
  have S_3 : RowL wy w2.heap.size 25 [.int .i64 x1, .int .i64 x2, .int .i64 0] := by rw [hwy]; exact RowL.new _ _ _
  have hby : Below w2.heap.size w2 wy := by rw [hwy]; go_grown
  clear hwy
  have O_3 := O_2.below hby hO2
  have T_3 := hide (T_2.out.step hby hz2)
  have hr3 := hr2.keep hby hr2.lt
  have hS3 := S_3.lt
  have hO3 := O_3.lt
  have hRl := hr2.lt
  clear hby hr2
  refine (l8Two_any x1 wy).mono ?_
  rintro e wq ⟨rfl, rfl⟩
  cases hq : twoB x1 with
  | false =>
    have cS0 : wy.cell? ⟨w2.heap.size, 0, none⟩ = some (.int .i64 x1) := S_3.cell 0 (by simp)
    have cS1 : wy.cell? ⟨w2.heap.size, 1, none⟩ = some (.int .i64 x2) := S_3.cell 1 (by simp)
    have cS2 : wy.cell? ⟨w2.heap.size, 2, none⟩ = some (.int .i64 0) := S_3.cell 2 (by simp)
    have cO0 : wy.cell? ⟨w.heap.size, 0, none⟩ = some (.int .i64 0) := O_3.cell 0 (by simp)
    have cO1 : wy.cell? ⟨w.heap.size, 1, none⟩ = some (.int .i64 0) := O_3.cell 1 (by simp)
    have cO2 : wy.cell? ⟨w.heap.size, 2, none⟩ = some (.int .i64 0) := O_3.cell 2 (by simp)
    have fO0 : wy.frozen? ⟨w.heap.size, 0, none⟩ = false := O_3.frozen 0
    have fO1 : wy.frozen? ⟨w.heap.size, 1, none⟩ = false := O_3.frozen 1
    have fO2 : wy.frozen? ⟨w.heap.size, 2, none⟩ = false := O_3.frozen 2
    go_wp2_with fail
    refine bodyPost_ret (by simp [results, Tryd.results23, go_sem, cO0, cO1, cO2]; try rfl) rfl ?_
    have hbz : Below w.heap.size wy (((wy.setCell ⟨w.heap.size, 0, none⟩ (.int .i64 x1)).setCell ⟨w.heap.size, 1, none⟩ (.int .i64 x2)).setCell ⟨w.heap.size, 2, none⟩ (.int .i64 0)) := (((Below.refl _ _).setCell (p := ⟨w.heap.size, 0, none⟩) (Nat.le_refl _) _).setCell (p := ⟨w.heap.size, 1, none⟩) (Nat.le_refl _) _).setCell (p := ⟨w.heap.size, 2, none⟩) (Nat.le_refl _) _
    exact ⟨x1, x2, 0, rfl, T_3.out.step hbz (Nat.le_refl _), (hr3.keep hbz hR).mono (by omega)⟩
  | true =>
    go_wp2_with fail
    refine (pick_in R (k + 1 + 1) 30 wy hr3 (by omega) (by omega) (by omega)).mono ?_
    rintro e w4 ⟨x3, rfl, p1, p2, ho, hr4⟩
    have O_4 := O_3.other ho (.inr (by omega))
    have S_4 := S_3.other ho (.inr (by omega))
    have T_4 := hide (T_3.out.trans ho)
    clear ho p1 p2 hr3
    have cS0 : w4.cell? ⟨w2.heap.size, 0, none⟩ = some (.int .i64 x1) := S_4.cell 0 (by simp)
    have cS1 : w4.cell? ⟨w2.heap.size, 1, none⟩ = some (.int .i64 x2) := S_4.cell 1 (by simp)
    have cS2 : w4.cell? ⟨w2.heap.size, 2, none⟩ = some (.int .i64 0) := S_4.cell 2 (by simp)
    have fS2 : w4.frozen? ⟨w2.heap.size, 2, none⟩ = false := S_4.frozen 2
    have cO0 : w4.cell? ⟨w.heap.size, 0, none⟩ = some (.int .i64 0) := O_4.cell 0 (by simp)
    have cO1 : w4.cell? ⟨w.heap.size, 1, none⟩ = some (.int .i64 0) := O_4.cell 1 (by simp)
    have cO2 : w4.cell? ⟨w.heap.size, 2, none⟩ = some (.int .i64 0) := O_4.cell 2 (by simp)
    have fO0 : w4.frozen? ⟨w.heap.size, 0, none⟩ = false := O_4.frozen 0
    have fO1 : w4.frozen? ⟨w.heap.size, 1, none⟩ = false := O_4.frozen 1
    have fO2 : w4.frozen? ⟨w.heap.size, 2, none⟩ = false := O_4.frozen 2
    have hne : w2.heap.size ≠ w.heap.size := by omega
    have hne' : w.heap.size ≠ w2.heap.size := by omega
    go_wp2_with fail
    refine bodyPost_ret (by simp [results, Tryd.results23, go_sem, cO0, cO1, cO2, hne, hne']; try rfl) rfl ?_
    have hbz : Below w.heap.size w4 ((((w4.setCell ⟨w2.heap.size, 2, none⟩ (.int .i64 x3)).setCell ⟨w.heap.size, 0, none⟩ (.int .i64 x1)).setCell ⟨w.heap.size, 1, none⟩ (.int .i64 x2)).setCell ⟨w.heap.size, 2, none⟩ (.int .i64 x3)) := ((((Below.refl _ _).setCell (p := ⟨w2.heap.size, 2, none⟩) hz2 _).setCell (p := ⟨w.heap.size, 0, none⟩) (Nat.le_refl _) _).setCell (p := ⟨w.heap.size, 1, none⟩) (Nat.le_refl _) _).setCell (p := ⟨w.heap.size, 2, none⟩) (Nat.le_refl _) _
    exact ⟨x1, x2, x3, rfl, T_4.out.step hbz (Nat.le_refl _), hr4.keep hbz hR⟩

set_option maxRecDepth 10000 in
set_option maxHeartbeats 800000 in
theorem sameDeeds_same (v v' : Value) (xs : List J) (lo hi lo' hi' : Nat) (w : World) (h : JobsAt lo hi w v xs) (h' : JobsAt lo' hi' w v' xs) :
    Calls Tryd.prog 14 #[v, v'] w fun e w' => e = .returned (.bool true) ∧ Below w.heap.size w w' := by
  have hxl := h.len
  obtain ⟨ao, cap, rfl, hlc, hcap, hhi, hc⟩ := h
  obtain ⟨ao', cap', rfl, hlc', hcap', hhi', hc'⟩ := h'
  have Hc := hide hc
  have Hc' := hide hc'
  clear hc hc'
  go_enter Tryd.func14, Tryd.ntmps14
  have hlB : ((xs.length : Int) != (xs.length : Int)) = false := by simp
  go_wp2_with fail
  go_loopw [5] (fun i wr => ∃ k : Nat, k ≤ xs.length ∧ i = .int .i64 k ∧ Below w.heap.size w wr) (fun i _ => xs.length - (intOf i).toNat)
  case atStart => exact ⟨0, Nat.zero_le _, rfl, Below.refl _ _⟩
  case round =>
    obtain ⟨k, hk, rfl, hb⟩ := hrel
    by_cases hlt : k < xs.length
    · obtain ⟨b, o, rfl, -, hbl, hcs⟩ := Hc.out (by omega)
      obtain ⟨b', o', rfl, -, hbl', hcs'⟩ := Hc'.out (by omega)
      obtain ⟨⟨h1, h2, h3⟩, -⟩ := hcs k hlt
      obtain ⟨⟨h1', h2', h3'⟩, -⟩ := hcs' k hlt
      rw [← hb.cell (p := ⟨b, _, none⟩) (Nat.lt_of_lt_of_le hbl hhi)] at h1 h2 h3
      rw [← hb.cell (p := ⟨b', _, none⟩) (Nat.lt_of_lt_of_le hbl' hhi')] at h1' h2' h3'
      obtain ⟨x, hx⟩ : ∃ x, xs[k].s = x := ⟨_, rfl⟩
      obtain ⟨y, hy⟩ : ∃ y, xs[k].d = y := ⟨_, rfl⟩
      obtain ⟨z, hz⟩ : ∃ z, xs[k].g = z := ⟨_, rfl⟩
      rw [hx] at h1 h1'
      rw [hy] at h2 h2'
      rw [hz] at h3 h3'
      have hkI : (k : Int) < (xs.length : Int) := by omega
      have HB := hide hb
      clear hcs hcs' hx hy hz hb
      go_wp2_with fail
      go_quiet (fail)
      go_wp2_with fail
      go_roundw
      case rel => exact ⟨k + 1, by omega, by go_num, below_drewN HB.out _⟩
      case measure => simp [intOf]; omega
    · have HB := hide hb
      clear hb
      go_wp2_with fail
      go_ret
      exact ⟨rfl, HB.out⟩
end Go.Proofs.YtbafifilklfafaaDoor
