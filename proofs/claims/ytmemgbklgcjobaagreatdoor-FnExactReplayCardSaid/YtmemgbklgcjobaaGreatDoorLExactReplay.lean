/-
  The walk over the law FnExactReplay: it answers true, whatever the arguments, and leaves all old memory alone.
-/
import Derived.Test.YtmemgbklgcjobaaGreatDoorRepI
import Derived.Test.YtmemgbklgcjobaaGreatDoorRepS
import Derived.Test.YtmemgbklgcjobaaGreatDoorX46
import Derived.Test.YtmemgbklgcjobaaGreatDoorX47
import Derived.Test.YtmemgbklgcjobaaGreatDoorX48
import Derived.Deep.RegionWith
import Derived.Deep.RegionHeld
import Derived.Deep.CutRange
namespace Go.Proofs.YtmemgbklgcjobaaGreatDoor
open Go.RowKit

theorem small_replay (m : Mi) (t : ByteArray) : sizeM (replayR m t).1 ≤ 1000 := by
  unfold replayR
  split
  · exact small_run m _
  · exact small_zero
set_option linter.unusedVariables false in
set_option linter.unusedSimpArgs false in
set_option maxRecDepth 10000 in
set_option maxHeartbeats 16000000 in
theorem law_ExactReplay (s p l h : Value) (m : Mi) (t : ByteArray) (nn : Int) (w : World) (H : MillIn 0 w.heap.size w s p l h m) (hm : w.cell? ⟨1, 0, none⟩ = some (.int .i64 nn)) (hna : NamesIs w) :
    Calls Tryz.prog 13 #[millV s p l h m, .string t] w fun e w' => e = .returned (.bool true) ∧ Below w.heap.size w w' := by
  have h1lt : 1 < w.heap.size := by
    rcases Nat.lt_or_ge 1 w.heap.size with h | h
    · exact h
    · simp [World.cell?, Array.getElem?_eq_none h] at hm
  by_cases hlong : 1048576 < t.size
  · have hlB : decide ((1048576 : Int) < (t.size : Int)) = true := by simp; omega
    go_enter Tryz.func13, Tryz.ntmps13
    go_wp2_with fail
    go_ret
    exact ⟨rfl, by go_grown⟩
  have hlB : decide ((1048576 : Int) < (t.size : Int)) = false := by simp; omega
  have ht2 : t.size < 4294967281 := by omega
  have HNC := hide (show ∀ W : World, Below w.heap.size w W → (W.cell? ⟨1, 0, none⟩ = some (.int .i64 nn) ∧ NamesIs W) from fun W q => ⟨by rw [q.cell (p := ⟨1, 0, none⟩) h1lt]; exact hm, hna.stays q⟩)
  clear hm hna
  obtain ⟨ao1, cap1, rfl, -, -, -, -⟩ := id H.store
  obtain ⟨ao2, cap2, rfl, -, -, -, -⟩ := id H.pieces
  obtain ⟨ao3, cap3, rfl, -, -, -, -⟩ := id H.low
  obtain ⟨ao4, cap4, rfl, -, -, -, -⟩ := id H.high
  have hys := small_replay m t
  obtain ⟨⟨y, n⟩, hy⟩ : ∃ z, replayR m t = z := ⟨_, rfl⟩
  have KS : ∀ s p l h w, MillIn 0 w.heap.size w s p l h m → (w.cell? ⟨1, 0, none⟩ = some (.int .i64 nn) ∧ NamesIs w) → Calls Tryz.prog 16 #[millV s p l h m, .string t] w fun e w' => ∃ s' p' l' h', e = .returned (.tuple #[millV s' p' l' h' y, .int .i64 n]) ∧ MillSep w.heap.size w'.heap.size w' s' p' l' h' y ∧ Below w.heap.size w w' := fun s p l h w H hn => (replay_spec s p l h m t w H ht2).mono fun e w' ⟨s', p', l', h', he, G, hb⟩ => by
    rw [hy] at he G
    exact ⟨s', p', l', h', he, G.sep, hb⟩
  have KS := hide KS
  have KI : ∀ s p l h w, MillIn 0 w.heap.size w s p l h m → (w.cell? ⟨1, 0, none⟩ = some (.int .i64 nn) ∧ NamesIs w) → Calls Tryz.prog 15 #[millV s p l h m, .string t] w fun e w' => ∃ s' p' l' h', e = .returned (.tuple #[millV s' p' l' h' y, .int .i64 n]) ∧ MillSep w.heap.size w'.heap.size w' s' p' l' h' y ∧ Below w.heap.size w w' := fun s p l h w H hn => (replay_impl s p l h m t nn w H ht2 hn.1 hn.2).mono fun e w' ⟨s', p', l', h', he, G, hb⟩ => by
    rw [hy] at he G
    exact ⟨s', p', l', h', he, G.sep, hb⟩
  have KI := hide KI
  rw [hy] at hys
  have hys : sizeM y ≤ 1000 := hys
  clear hy
  obtain ⟨ky, hky, hky0⟩ : ∃ k : Int, 1 + marksM y = k ∧ 0 ≤ k := ⟨_, rfl, by have := marks_bd (m := y) (by omega); omega⟩
  have KMY : ∀ (s p l h : Value) (lo hi : Nat) (w : World), MillSep lo hi w s p l h y → Calls Tryz.prog 33 #[millV s p l h y, .int .i64 1] w fun e w' => e = .returned (.int .i64 ky) ∧ Other lo hi w w' ∧ MillSep lo hi w' s p l h (markedM 1 y) := fun s p l h lo hi w H => (markMill_any s p l h y lo hi w H (by omega)).mono fun e w' ⟨h1, h2, h3⟩ => ⟨by rw [h1, hky], h2, h3⟩
  have KHY : ∀ (s p l h : Value) (w : World), MillIn 0 w.heap.size w s p l h (markedM 1 y) → Calls Tryz.prog 34 #[millV s p l h y, .int .i64 1] w fun e w' => e = .returned (.int .i64 ky) ∧ Below w.heap.size w w' := fun s p l h w H => (heldMill_any s p l h y w H (by omega)).mono fun e w' ⟨h1, h2⟩ => ⟨by rw [h1, hky], h2⟩
  have KEY : ∀ (s p l h s' p' l' h' : Value) (w : World), MillIn 0 w.heap.size w s p l h y → MillIn 0 w.heap.size w s' p' l' h' y → Calls Tryz.prog 32 #[millV s p l h y, millV s' p' l' h' y] w fun e w' => e = .returned (.bool true) ∧ Below w.heap.size w w' := fun s p l h s' p' l' h' w a b => eqMill_same s p l h s' p' l' h' y w a b
  have KMY := hide KMY
  have KHY := hide KHY
  have KEY := hide KEY
  have hkk : (ky != ky) = false := by simp
  have hnn : (n != n) = false := by simp
  clear hky hys
  unfold millV
  go_enter Tryz.func13, Tryz.ntmps13
  go_wp2_with fail
  refine calls_at fun wx hwx => ?_
  have A_0 : RowL wx (w.heap.size) 56 [.slice ao1 m.store.length cap1, .int .i64 m.rule.lc, .int .i64 m.rule.hc, .int .i64 m.rule.lm, .int .i64 m.rule.hm, .int .i64 m.rule.ls, .int .i64 m.rule.hs, .int .i64 m.strand, .slice ao2 m.pieces.length cap2, .slice ao3 m.low.length cap3, .slice ao4 m.high.length cap4, .int .i64 m.scrap] := by rw [hwx]; exact (RowL.new _ 56 [.slice ao1 m.store.length cap1, .int .i64 m.rule.lc, .int .i64 m.rule.hc, .int .i64 m.rule.lm, .int .i64 m.rule.hm, .int .i64 m.rule.ls, .int .i64 m.rule.hs, .int .i64 m.strand, .slice ao2 m.pieces.length cap2, .slice ao3 m.low.length cap3, .slice ao4 m.high.length cap4, .int .i64 m.scrap])
  have B_0 : Below w.heap.size w wx := by rw [hwx]; go_grown
  clear hwx
  have hL0 := A_0.lt
  have VV_0 := hide (H.below B_0)
  have KZ := szMill_any _ _ _ _ m 1048576 wx VV_0.out.all (by omega) (by omega)
  by_cases hbig : 1048576 < sizeM m
  · rw [szI_no (by omega)] at KZ
    refine KZ.mono ?_
    rintro e w1 ⟨rfl, hb⟩
    have HB := hide (Below.step B_0 hb (Nat.le_refl _))
    clear hb KZ
    go_wp2_with fail
    go_ret
    exact ⟨rfl, HB.out⟩
  rw [szI_yes (by omega)] at KZ
  obtain ⟨z, hz, hz0, hz1m⟩ : ∃ z : Int, 1048576 - (sizeM m : Int) = z ∧ 0 ≤ z ∧ z ≤ 1048576 := ⟨_, rfl, by omega, by omega⟩
  rw [hz] at KZ
  have HSM := hide (show Small m by refine ⟨?_, ?_, ?_, ?_⟩ <;> unfold sizeM at hbig <;> omega)
  have hszm : sizeM m ≤ 1048576 := by omega
  obtain ⟨km, hkm, hkm0, hkm1⟩ : ∃ k : Int, 1 + marksM m = k ∧ 0 ≤ k ∧ k ≤ 16777216 := ⟨_, rfl, by have := marks_bd hszm; omega, by have := marks_bd hszm; omega⟩
  have KM : ∀ (s p l h : Value) (lo hi : Nat) (w : World), MillSep lo hi w s p l h m → Calls Tryz.prog 33 #[millV s p l h m, .int .i64 1] w fun e w' => e = .returned (.int .i64 km) ∧ Other lo hi w w' := fun s p l h lo hi w H => (markMill_any s p l h m lo hi w H hszm).mono fun e w' ⟨h1, h2, _⟩ => ⟨by rw [h1, hkm], h2⟩
  have KM := hide KM
  clear hz hbig hszm hkm
  refine (KZ).mono ?_
  rintro e w1 ⟨rfl, hb⟩
  have A_1 := A_0.below hb A_0.lt
  clear A_0
  have VV_1 := hide (VV_0.out.below hb)
  clear VV_0
  have B_1 := hide (Below.step B_0 hb (Nat.le_refl _))
  clear B_0
  have hz1 := hb.size
  clear hb
  have cA0 : w1.cell? ⟨w.heap.size, 0, none⟩ = some (.slice ao1 m.store.length cap1) := A_1.cell 0 (by simp)
  have cA1 : w1.cell? ⟨w.heap.size, 1, none⟩ = some (.int .i64 m.rule.lc) := A_1.cell 1 (by simp)
  have cA2 : w1.cell? ⟨w.heap.size, 2, none⟩ = some (.int .i64 m.rule.hc) := A_1.cell 2 (by simp)
  have cA3 : w1.cell? ⟨w.heap.size, 3, none⟩ = some (.int .i64 m.rule.lm) := A_1.cell 3 (by simp)
  have cA4 : w1.cell? ⟨w.heap.size, 4, none⟩ = some (.int .i64 m.rule.hm) := A_1.cell 4 (by simp)
  have cA5 : w1.cell? ⟨w.heap.size, 5, none⟩ = some (.int .i64 m.rule.ls) := A_1.cell 5 (by simp)
  have cA6 : w1.cell? ⟨w.heap.size, 6, none⟩ = some (.int .i64 m.rule.hs) := A_1.cell 6 (by simp)
  have cA7 : w1.cell? ⟨w.heap.size, 7, none⟩ = some (.int .i64 m.strand) := A_1.cell 7 (by simp)
  have cA8 : w1.cell? ⟨w.heap.size, 8, none⟩ = some (.slice ao2 m.pieces.length cap2) := A_1.cell 8 (by simp)
  have cA9 : w1.cell? ⟨w.heap.size, 9, none⟩ = some (.slice ao3 m.low.length cap3) := A_1.cell 9 (by simp)
  have cA10 : w1.cell? ⟨w.heap.size, 10, none⟩ = some (.slice ao4 m.high.length cap4) := A_1.cell 10 (by simp)
  have cA11 : w1.cell? ⟨w.heap.size, 11, none⟩ = some (.int .i64 m.scrap) := A_1.cell 11 (by simp)
  clear KZ
  go_wp2_with fail
  have hkmn : ¬ km < 0 := by omega
  have hkyn : ¬ ky < 0 := by omega
  refine (toMill_any _ _ _ _ m w1 VV_1.out.all HSM.out).mono ?_
  rintro e w2 ⟨s2, p2, l2, h2, rfl, hs2, hb⟩
  have A_2 := A_1.below hb A_1.lt
  clear A_1
  have VV_2 := hide (VV_1.out.below hb)
  clear VV_1
  have B_2 := hide (Below.step B_1.out hb (Nat.le_refl _))
  clear B_1
  have hz2 := hb.size
  clear hb
  have VM2_2 := hide hs2
  have ltM2 := hs2.lt
  obtain ⟨ao21, cap21, rfl, -, -, -, -⟩ := id hs2.in.store
  obtain ⟨ao22, cap22, rfl, -, -, -, -⟩ := id hs2.in.pieces
  obtain ⟨ao23, cap23, rfl, -, -, -, -⟩ := id hs2.in.low
  obtain ⟨ao24, cap24, rfl, -, -, -, -⟩ := id hs2.in.high
  clear hs2
  unfold millV
  go_wp2_with fail
  refine (KS.out _ _ _ _ w2 VM2_2.out.in.all (HNC.out _ B_2.out)).mono ?_
  clear VM2_2
  rintro e w3 ⟨s5, p5, l5, h5, rfl, hs5, hb⟩
  have A_3 := A_2.below hb A_2.lt
  clear A_2
  have VV_3 := hide (VV_2.out.below hb)
  clear VV_2
  have B_3 := hide (Below.step B_2.out hb (Nat.le_refl _))
  clear B_2
  have hz3 := hb.size
  clear hb
  have VW_3 := hide hs5
  have ltW := hs5.lt
  obtain ⟨ao51, cap51, rfl, -, -, -, -⟩ := id hs5.in.store
  obtain ⟨ao52, cap52, rfl, -, -, -, -⟩ := id hs5.in.pieces
  obtain ⟨ao53, cap53, rfl, -, -, -, -⟩ := id hs5.in.low
  obtain ⟨ao54, cap54, rfl, -, -, -, -⟩ := id hs5.in.high
  clear hs5
  unfold millV
  have cA0 : w3.cell? ⟨w.heap.size, 0, none⟩ = some (.slice ao1 m.store.length cap1) := A_3.cell 0 (by simp)
  have cA1 : w3.cell? ⟨w.heap.size, 1, none⟩ = some (.int .i64 m.rule.lc) := A_3.cell 1 (by simp)
  have cA2 : w3.cell? ⟨w.heap.size, 2, none⟩ = some (.int .i64 m.rule.hc) := A_3.cell 2 (by simp)
  have cA3 : w3.cell? ⟨w.heap.size, 3, none⟩ = some (.int .i64 m.rule.lm) := A_3.cell 3 (by simp)
  have cA4 : w3.cell? ⟨w.heap.size, 4, none⟩ = some (.int .i64 m.rule.hm) := A_3.cell 4 (by simp)
  have cA5 : w3.cell? ⟨w.heap.size, 5, none⟩ = some (.int .i64 m.rule.ls) := A_3.cell 5 (by simp)
  have cA6 : w3.cell? ⟨w.heap.size, 6, none⟩ = some (.int .i64 m.rule.hs) := A_3.cell 6 (by simp)
  have cA7 : w3.cell? ⟨w.heap.size, 7, none⟩ = some (.int .i64 m.strand) := A_3.cell 7 (by simp)
  have cA8 : w3.cell? ⟨w.heap.size, 8, none⟩ = some (.slice ao2 m.pieces.length cap2) := A_3.cell 8 (by simp)
  have cA9 : w3.cell? ⟨w.heap.size, 9, none⟩ = some (.slice ao3 m.low.length cap3) := A_3.cell 9 (by simp)
  have cA10 : w3.cell? ⟨w.heap.size, 10, none⟩ = some (.slice ao4 m.high.length cap4) := A_3.cell 10 (by simp)
  have cA11 : w3.cell? ⟨w.heap.size, 11, none⟩ = some (.int .i64 m.scrap) := A_3.cell 11 (by simp)
  have hqAy1 := A_3.lt
  go_wp2_with fail
  refine calls_at fun y1 hwy => ?_
  have W_y1 : RowL y1 (w3.heap.size) 31 [.slice ao51 y.store.length cap51, .int .i64 y.rule.lc, .int .i64 y.rule.hc, .int .i64 y.rule.lm, .int .i64 y.rule.hm, .int .i64 y.rule.ls, .int .i64 y.rule.hs, .int .i64 y.strand, .slice ao52 y.pieces.length cap52, .slice ao53 y.low.length cap53, .slice ao54 y.high.length cap54, .int .i64 y.scrap] := by rw [hwy]; exact RowL.new _ _ _
  have hby : Below w3.heap.size w3 y1 := by rw [hwy]; exact (Below.refl _ _).alloc (Nat.le_refl _) _
  have A_y1 := A_3.below hby A_3.lt
  clear A_3
  have VV_y1 := hide (VV_3.out.below hby)
  clear VV_3
  have VW_y1 := hide (VW_3.out.below hby)
  clear VW_3
  have B_y1 := hide (Below.step B_3.out hby (Nat.le_refl _))
  clear B_3
  have hzy1 := hby.size
  have hly1 := W_y1.lt
  clear hwy hby
  clear cA0 cA1 cA2 cA3 cA4 cA5 cA6 cA7 cA8 cA9 cA10 cA11 hqAy1
  refine (toMill_any _ _ _ _ m y1 VV_y1.out.all HSM.out).mono ?_
  rintro e w4 ⟨s3, p3, l3, h3, rfl, hs3, hb⟩
  have A_4 := A_y1.below hb A_y1.lt
  clear A_y1
  have W_4 := W_y1.below hb W_y1.lt
  clear W_y1
  have VV_4 := hide (VV_y1.out.below hb)
  clear VV_y1
  have VW_4 := hide (VW_y1.out.below hb)
  clear VW_y1
  have B_4 := hide (Below.step B_y1.out hb (Nat.le_refl _))
  clear B_y1
  have hz4 := hb.size
  clear hb
  have VX_4 := hide hs3
  have ltX := hs3.lt
  obtain ⟨ao31, cap31, rfl, -, -, -, -⟩ := id hs3.in.store
  obtain ⟨ao32, cap32, rfl, -, -, -, -⟩ := id hs3.in.pieces
  obtain ⟨ao33, cap33, rfl, -, -, -, -⟩ := id hs3.in.low
  obtain ⟨ao34, cap34, rfl, -, -, -, -⟩ := id hs3.in.high
  clear hs3
  unfold millV
  go_wp2_with fail
  refine calls_at fun y2 hwy => ?_
  have X_y2 : RowL y2 (w4.heap.size) 31 [.slice ao31 m.store.length cap31, .int .i64 m.rule.lc, .int .i64 m.rule.hc, .int .i64 m.rule.lm, .int .i64 m.rule.hm, .int .i64 m.rule.ls, .int .i64 m.rule.hs, .int .i64 m.strand, .slice ao32 m.pieces.length cap32, .slice ao33 m.low.length cap33, .slice ao34 m.high.length cap34, .int .i64 m.scrap] := by rw [hwy]; exact RowL.new _ _ _
  have hby : Below w4.heap.size w4 y2 := by rw [hwy]; exact (Below.refl _ _).alloc (Nat.le_refl _) _
  have A_y2 := A_4.below hby A_4.lt
  clear A_4
  have W_y2 := W_4.below hby W_4.lt
  clear W_4
  have VV_y2 := hide (VV_4.out.below hby)
  clear VV_4
  have VW_y2 := hide (VW_4.out.below hby)
  clear VW_4
  have VX_y2 := hide (VX_4.out.below hby)
  clear VX_4
  have B_y2 := hide (Below.step B_4.out hby (Nat.le_refl _))
  clear B_4
  have hzy2 := hby.size
  have hly2 := X_y2.lt
  clear hwy hby
  have cX0 : y2.cell? ⟨w4.heap.size, 0, none⟩ = some (.slice ao31 m.store.length cap31) := X_y2.cell 0 (by simp)
  have cX1 : y2.cell? ⟨w4.heap.size, 1, none⟩ = some (.int .i64 m.rule.lc) := X_y2.cell 1 (by simp)
  have cX2 : y2.cell? ⟨w4.heap.size, 2, none⟩ = some (.int .i64 m.rule.hc) := X_y2.cell 2 (by simp)
  have cX3 : y2.cell? ⟨w4.heap.size, 3, none⟩ = some (.int .i64 m.rule.lm) := X_y2.cell 3 (by simp)
  have cX4 : y2.cell? ⟨w4.heap.size, 4, none⟩ = some (.int .i64 m.rule.hm) := X_y2.cell 4 (by simp)
  have cX5 : y2.cell? ⟨w4.heap.size, 5, none⟩ = some (.int .i64 m.rule.ls) := X_y2.cell 5 (by simp)
  have cX6 : y2.cell? ⟨w4.heap.size, 6, none⟩ = some (.int .i64 m.rule.hs) := X_y2.cell 6 (by simp)
  have cX7 : y2.cell? ⟨w4.heap.size, 7, none⟩ = some (.int .i64 m.strand) := X_y2.cell 7 (by simp)
  have cX8 : y2.cell? ⟨w4.heap.size, 8, none⟩ = some (.slice ao32 m.pieces.length cap32) := X_y2.cell 8 (by simp)
  have cX9 : y2.cell? ⟨w4.heap.size, 9, none⟩ = some (.slice ao33 m.low.length cap33) := X_y2.cell 9 (by simp)
  have cX10 : y2.cell? ⟨w4.heap.size, 10, none⟩ = some (.slice ao34 m.high.length cap34) := X_y2.cell 10 (by simp)
  have cX11 : y2.cell? ⟨w4.heap.size, 11, none⟩ = some (.int .i64 m.scrap) := X_y2.cell 11 (by simp)
  refine (KI.out _ _ _ _ y2 VX_y2.out.in.all (HNC.out _ B_y2.out)).mono ?_
  rintro e w5 ⟨s6, p6, l6, h6, rfl, hs6, hb⟩
  have A_5 := A_y2.below hb A_y2.lt
  clear A_y2
  have W_5 := W_y2.below hb W_y2.lt
  clear W_y2
  have X_5 := X_y2.below hb X_y2.lt
  clear X_y2
  have VV_5 := hide (VV_y2.out.below hb)
  clear VV_y2
  have VW_5 := hide (VW_y2.out.below hb)
  clear VW_y2
  have VX_5 := hide (VX_y2.out.below hb)
  clear VX_y2
  have B_5 := hide (Below.step B_y2.out hb (Nat.le_refl _))
  clear B_y2
  have hz5 := hb.size
  clear hb
  have VGv_5 := hide hs6
  have ltGv := hs6.lt
  obtain ⟨ao61, cap61, rfl, -, -, -, -⟩ := id hs6.in.store
  obtain ⟨ao62, cap62, rfl, -, -, -, -⟩ := id hs6.in.pieces
  obtain ⟨ao63, cap63, rfl, -, -, -, -⟩ := id hs6.in.low
  obtain ⟨ao64, cap64, rfl, -, -, -, -⟩ := id hs6.in.high
  clear hs6
  unfold millV
  have cW0 : w5.cell? ⟨w3.heap.size, 0, none⟩ = some (.slice ao51 y.store.length cap51) := W_5.cell 0 (by simp)
  have cW1 : w5.cell? ⟨w3.heap.size, 1, none⟩ = some (.int .i64 y.rule.lc) := W_5.cell 1 (by simp)
  have cW2 : w5.cell? ⟨w3.heap.size, 2, none⟩ = some (.int .i64 y.rule.hc) := W_5.cell 2 (by simp)
  have cW3 : w5.cell? ⟨w3.heap.size, 3, none⟩ = some (.int .i64 y.rule.lm) := W_5.cell 3 (by simp)
  have cW4 : w5.cell? ⟨w3.heap.size, 4, none⟩ = some (.int .i64 y.rule.hm) := W_5.cell 4 (by simp)
  have cW5 : w5.cell? ⟨w3.heap.size, 5, none⟩ = some (.int .i64 y.rule.ls) := W_5.cell 5 (by simp)
  have cW6 : w5.cell? ⟨w3.heap.size, 6, none⟩ = some (.int .i64 y.rule.hs) := W_5.cell 6 (by simp)
  have cW7 : w5.cell? ⟨w3.heap.size, 7, none⟩ = some (.int .i64 y.strand) := W_5.cell 7 (by simp)
  have cW8 : w5.cell? ⟨w3.heap.size, 8, none⟩ = some (.slice ao52 y.pieces.length cap52) := W_5.cell 8 (by simp)
  have cW9 : w5.cell? ⟨w3.heap.size, 9, none⟩ = some (.slice ao53 y.low.length cap53) := W_5.cell 9 (by simp)
  have cW10 : w5.cell? ⟨w3.heap.size, 10, none⟩ = some (.slice ao54 y.high.length cap54) := W_5.cell 10 (by simp)
  have cW11 : w5.cell? ⟨w3.heap.size, 11, none⟩ = some (.int .i64 y.scrap) := W_5.cell 11 (by simp)
  have hqWy3 := W_5.lt
  go_wp2_with fail
  refine calls_at fun y3 hwy => ?_
  have G_y3 : RowL y3 (w5.heap.size) 31 [.slice ao61 y.store.length cap61, .int .i64 y.rule.lc, .int .i64 y.rule.hc, .int .i64 y.rule.lm, .int .i64 y.rule.hm, .int .i64 y.rule.ls, .int .i64 y.rule.hs, .int .i64 y.strand, .slice ao62 y.pieces.length cap62, .slice ao63 y.low.length cap63, .slice ao64 y.high.length cap64, .int .i64 y.scrap] := by rw [hwy]; exact RowL.new _ _ _
  have hby : Below w5.heap.size w5 y3 := by rw [hwy]; exact (Below.refl _ _).alloc (Nat.le_refl _) _
  have A_y3 := A_5.below hby A_5.lt
  clear A_5
  have W_y3 := W_5.below hby W_5.lt
  clear W_5
  have X_y3 := X_5.below hby X_5.lt
  clear X_5
  have VV_y3 := hide (VV_5.out.below hby)
  clear VV_5
  have VW_y3 := hide (VW_5.out.below hby)
  clear VW_5
  have VX_y3 := hide (VX_5.out.below hby)
  clear VX_5
  have VGv_y3 := hide (VGv_5.out.below hby)
  clear VGv_5
  have B_y3 := hide (Below.step B_5.out hby (Nat.le_refl _))
  clear B_5
  have hzy3 := hby.size
  have hly3 := G_y3.lt
  clear hwy hby
  clear cW0 cW1 cW2 cW3 cW4 cW5 cW6 cW7 cW8 cW9 cW10 cW11 hqWy3
  refine (KEY.out _ _ _ _ _ _ _ _ y3 VGv_y3.out.in.all VW_y3.out.in.all).mono ?_
  rintro e w6 ⟨rfl, hb⟩
  have A_6 := A_y3.below hb A_y3.lt
  clear A_y3
  have W_6 := W_y3.below hb W_y3.lt
  clear W_y3
  have X_6 := X_y3.below hb X_y3.lt
  clear X_y3
  have G_6 := G_y3.below hb G_y3.lt
  clear G_y3
  have VV_6 := hide (VV_y3.out.below hb)
  clear VV_y3
  have VW_6 := hide (VW_y3.out.below hb)
  clear VW_y3
  have VX_6 := hide (VX_y3.out.below hb)
  clear VX_y3
  have VGv_6 := hide (VGv_y3.out.below hb)
  clear VGv_y3
  have B_6 := hide (Below.step B_y3.out hb (Nat.le_refl _))
  clear B_y3
  have hz6 := hb.size
  clear hb
  have cX0 : w6.cell? ⟨w4.heap.size, 0, none⟩ = some (.slice ao31 m.store.length cap31) := X_6.cell 0 (by simp)
  have cX1 : w6.cell? ⟨w4.heap.size, 1, none⟩ = some (.int .i64 m.rule.lc) := X_6.cell 1 (by simp)
  have cX2 : w6.cell? ⟨w4.heap.size, 2, none⟩ = some (.int .i64 m.rule.hc) := X_6.cell 2 (by simp)
  have cX3 : w6.cell? ⟨w4.heap.size, 3, none⟩ = some (.int .i64 m.rule.lm) := X_6.cell 3 (by simp)
  have cX4 : w6.cell? ⟨w4.heap.size, 4, none⟩ = some (.int .i64 m.rule.hm) := X_6.cell 4 (by simp)
  have cX5 : w6.cell? ⟨w4.heap.size, 5, none⟩ = some (.int .i64 m.rule.ls) := X_6.cell 5 (by simp)
  have cX6 : w6.cell? ⟨w4.heap.size, 6, none⟩ = some (.int .i64 m.rule.hs) := X_6.cell 6 (by simp)
  have cX7 : w6.cell? ⟨w4.heap.size, 7, none⟩ = some (.int .i64 m.strand) := X_6.cell 7 (by simp)
  have cX8 : w6.cell? ⟨w4.heap.size, 8, none⟩ = some (.slice ao32 m.pieces.length cap32) := X_6.cell 8 (by simp)
  have cX9 : w6.cell? ⟨w4.heap.size, 9, none⟩ = some (.slice ao33 m.low.length cap33) := X_6.cell 9 (by simp)
  have cX10 : w6.cell? ⟨w4.heap.size, 10, none⟩ = some (.slice ao34 m.high.length cap34) := X_6.cell 10 (by simp)
  have cX11 : w6.cell? ⟨w4.heap.size, 11, none⟩ = some (.int .i64 m.scrap) := X_6.cell 11 (by simp)
  have cA0 : w6.cell? ⟨w.heap.size, 0, none⟩ = some (.slice ao1 m.store.length cap1) := A_6.cell 0 (by simp)
  have cA1 : w6.cell? ⟨w.heap.size, 1, none⟩ = some (.int .i64 m.rule.lc) := A_6.cell 1 (by simp)
  have cA2 : w6.cell? ⟨w.heap.size, 2, none⟩ = some (.int .i64 m.rule.hc) := A_6.cell 2 (by simp)
  have cA3 : w6.cell? ⟨w.heap.size, 3, none⟩ = some (.int .i64 m.rule.lm) := A_6.cell 3 (by simp)
  have cA4 : w6.cell? ⟨w.heap.size, 4, none⟩ = some (.int .i64 m.rule.hm) := A_6.cell 4 (by simp)
  have cA5 : w6.cell? ⟨w.heap.size, 5, none⟩ = some (.int .i64 m.rule.ls) := A_6.cell 5 (by simp)
  have cA6 : w6.cell? ⟨w.heap.size, 6, none⟩ = some (.int .i64 m.rule.hs) := A_6.cell 6 (by simp)
  have cA7 : w6.cell? ⟨w.heap.size, 7, none⟩ = some (.int .i64 m.strand) := A_6.cell 7 (by simp)
  have cA8 : w6.cell? ⟨w.heap.size, 8, none⟩ = some (.slice ao2 m.pieces.length cap2) := A_6.cell 8 (by simp)
  have cA9 : w6.cell? ⟨w.heap.size, 9, none⟩ = some (.slice ao3 m.low.length cap3) := A_6.cell 9 (by simp)
  have cA10 : w6.cell? ⟨w.heap.size, 10, none⟩ = some (.slice ao4 m.high.length cap4) := A_6.cell 10 (by simp)
  have cA11 : w6.cell? ⟨w.heap.size, 11, none⟩ = some (.int .i64 m.scrap) := A_6.cell 11 (by simp)
  go_wp2_with fail
  have hbd : Below w6.heap.size w6 w6.drew := (Below.refl _ _).drew
  have VV_d := hide (VV_6.out.below hbd)
  have VX_d := hide (VX_6.out.below hbd)
  have X_d := hide (X_6.below hbd X_6.lt)
  clear hbd
  go_cut [52] from 48 to 52 (fun v wr => v = .bool false ∧ Below w6.heap.size w6 wr)
  case first =>
    go_region_with (first
      | (go_at_call 31; refine (toMill_any _ _ _ _ m _ VV_d.out.all HSM.out).mono ?_; rintro e wa ⟨sa, pa, la, ha, rfl, hsa, hba⟩; have ca0 : wa.cell? ⟨w4.heap.size, 0, none⟩ = some (.slice ao31 m.store.length cap31) := (X_d.out.below hba X_d.out.lt).cell 0 (by simp); have ca1 : wa.cell? ⟨w4.heap.size, 1, none⟩ = some (.int .i64 m.rule.lc) := (X_d.out.below hba X_d.out.lt).cell 1 (by simp); have ca2 : wa.cell? ⟨w4.heap.size, 2, none⟩ = some (.int .i64 m.rule.hc) := (X_d.out.below hba X_d.out.lt).cell 2 (by simp); have ca3 : wa.cell? ⟨w4.heap.size, 3, none⟩ = some (.int .i64 m.rule.lm) := (X_d.out.below hba X_d.out.lt).cell 3 (by simp); have ca4 : wa.cell? ⟨w4.heap.size, 4, none⟩ = some (.int .i64 m.rule.hm) := (X_d.out.below hba X_d.out.lt).cell 4 (by simp); have ca5 : wa.cell? ⟨w4.heap.size, 5, none⟩ = some (.int .i64 m.rule.ls) := (X_d.out.below hba X_d.out.lt).cell 5 (by simp); have ca6 : wa.cell? ⟨w4.heap.size, 6, none⟩ = some (.int .i64 m.rule.hs) := (X_d.out.below hba X_d.out.lt).cell 6 (by simp); have ca7 : wa.cell? ⟨w4.heap.size, 7, none⟩ = some (.int .i64 m.strand) := (X_d.out.below hba X_d.out.lt).cell 7 (by simp); have ca8 : wa.cell? ⟨w4.heap.size, 8, none⟩ = some (.slice ao32 m.pieces.length cap32) := (X_d.out.below hba X_d.out.lt).cell 8 (by simp); have ca9 : wa.cell? ⟨w4.heap.size, 9, none⟩ = some (.slice ao33 m.low.length cap33) := (X_d.out.below hba X_d.out.lt).cell 9 (by simp); have ca10 : wa.cell? ⟨w4.heap.size, 10, none⟩ = some (.slice ao34 m.high.length cap34) := (X_d.out.below hba X_d.out.lt).cell 10 (by simp); have ca11 : wa.cell? ⟨w4.heap.size, 11, none⟩ = some (.int .i64 m.scrap) := (X_d.out.below hba X_d.out.lt).cell 11 (by simp))
      | (go_at_call 32; refine (eqMill_same _ _ _ _ _ _ _ _ m _ (VX_d.out.in.below hba).all hsa.in.all).mono ?_; rintro e wb ⟨rfl, hbb⟩))
    all_goals
      go_wp2_with fail
      go_meet
      exact ⟨rfl, Below.step (Below.step (Below.refl _ _).drew hba (by first | exact Nat.le_refl _ | simp)) hbb (by first | exact Nat.le_refl _ | simp)⟩
  obtain ⟨rfl, hb⟩ := hcut
  clear cX0 cX1 cX2 cX3 cX4 cX5 cX6 cX7 cX8 cX9 cX10 cX11 cA0 cA1 cA2 cA3 cA4 cA5 cA6 cA7 cA8 cA9 cA10 cA11
  have A_c := A_6.below hb A_6.lt
  clear A_6
  have W_c := W_6.below hb W_6.lt
  clear W_6
  have X_c := X_6.below hb X_6.lt
  clear X_6
  have G_c := G_6.below hb G_6.lt
  clear G_6
  have VV_c := hide (VV_6.out.below hb)
  clear VV_6
  have VW_c := hide (VW_6.out.below hb)
  clear VW_6
  have VX_c := hide (VX_6.out.below hb)
  clear VX_6
  have VGv_c := hide (VGv_6.out.below hb)
  clear VGv_6
  have B_c := hide (Below.step B_6.out hb (Nat.le_refl _))
  clear B_6
  have hzc := hb.size
  clear hb VV_d VX_d X_d
  have cX0 : wc.cell? ⟨w4.heap.size, 0, none⟩ = some (.slice ao31 m.store.length cap31) := X_c.cell 0 (by simp)
  have cX1 : wc.cell? ⟨w4.heap.size, 1, none⟩ = some (.int .i64 m.rule.lc) := X_c.cell 1 (by simp)
  have cX2 : wc.cell? ⟨w4.heap.size, 2, none⟩ = some (.int .i64 m.rule.hc) := X_c.cell 2 (by simp)
  have cX3 : wc.cell? ⟨w4.heap.size, 3, none⟩ = some (.int .i64 m.rule.lm) := X_c.cell 3 (by simp)
  have cX4 : wc.cell? ⟨w4.heap.size, 4, none⟩ = some (.int .i64 m.rule.hm) := X_c.cell 4 (by simp)
  have cX5 : wc.cell? ⟨w4.heap.size, 5, none⟩ = some (.int .i64 m.rule.ls) := X_c.cell 5 (by simp)
  have cX6 : wc.cell? ⟨w4.heap.size, 6, none⟩ = some (.int .i64 m.rule.hs) := X_c.cell 6 (by simp)
  have cX7 : wc.cell? ⟨w4.heap.size, 7, none⟩ = some (.int .i64 m.strand) := X_c.cell 7 (by simp)
  have cX8 : wc.cell? ⟨w4.heap.size, 8, none⟩ = some (.slice ao32 m.pieces.length cap32) := X_c.cell 8 (by simp)
  have cX9 : wc.cell? ⟨w4.heap.size, 9, none⟩ = some (.slice ao33 m.low.length cap33) := X_c.cell 9 (by simp)
  have cX10 : wc.cell? ⟨w4.heap.size, 10, none⟩ = some (.slice ao34 m.high.length cap34) := X_c.cell 10 (by simp)
  have cX11 : wc.cell? ⟨w4.heap.size, 11, none⟩ = some (.int .i64 m.scrap) := X_c.cell 11 (by simp)
  go_wp2_with fail
  clear cX0 cX1 cX2 cX3 cX4 cX5 cX6 cX7 cX8 cX9 cX10 cX11
  refine (KM.out _ _ _ _ _ _ wc VX_c.out).mono ?_
  clear VX_c
  rintro e u1 ⟨rfl, ho⟩
  have A_u1 := A_c.other ho (by omega)
  clear A_c
  have W_u1 := W_c.other ho (by omega)
  clear W_c
  have X_u1 := X_c.other ho (by omega)
  clear X_c
  have G_u1 := G_c.other ho (by omega)
  clear G_c
  have VV_u1 := hide (VV_c.out.other ho (by omega))
  clear VV_c
  have VW_u1 := hide (VW_c.out.other ho (by omega))
  clear VW_c
  have VGv_u1 := hide (VGv_c.out.other ho (by omega))
  clear VGv_c
  have B_u1 := hide (B_c.out.trans (ho.below (B := w.heap.size) (by omega) (by omega)))
  clear B_c
  have hzu1 := ho.size
  clear ho
  have cG0 : u1.cell? ⟨w5.heap.size, 0, none⟩ = some (.slice ao61 y.store.length cap61) := G_u1.cell 0 (by simp)
  have cG1 : u1.cell? ⟨w5.heap.size, 1, none⟩ = some (.int .i64 y.rule.lc) := G_u1.cell 1 (by simp)
  have cG2 : u1.cell? ⟨w5.heap.size, 2, none⟩ = some (.int .i64 y.rule.hc) := G_u1.cell 2 (by simp)
  have cG3 : u1.cell? ⟨w5.heap.size, 3, none⟩ = some (.int .i64 y.rule.lm) := G_u1.cell 3 (by simp)
  have cG4 : u1.cell? ⟨w5.heap.size, 4, none⟩ = some (.int .i64 y.rule.hm) := G_u1.cell 4 (by simp)
  have cG5 : u1.cell? ⟨w5.heap.size, 5, none⟩ = some (.int .i64 y.rule.ls) := G_u1.cell 5 (by simp)
  have cG6 : u1.cell? ⟨w5.heap.size, 6, none⟩ = some (.int .i64 y.rule.hs) := G_u1.cell 6 (by simp)
  have cG7 : u1.cell? ⟨w5.heap.size, 7, none⟩ = some (.int .i64 y.strand) := G_u1.cell 7 (by simp)
  have cG8 : u1.cell? ⟨w5.heap.size, 8, none⟩ = some (.slice ao62 y.pieces.length cap62) := G_u1.cell 8 (by simp)
  have cG9 : u1.cell? ⟨w5.heap.size, 9, none⟩ = some (.slice ao63 y.low.length cap63) := G_u1.cell 9 (by simp)
  have cG10 : u1.cell? ⟨w5.heap.size, 10, none⟩ = some (.slice ao64 y.high.length cap64) := G_u1.cell 10 (by simp)
  have cG11 : u1.cell? ⟨w5.heap.size, 11, none⟩ = some (.int .i64 y.scrap) := G_u1.cell 11 (by simp)
  have cW0 : u1.cell? ⟨w3.heap.size, 0, none⟩ = some (.slice ao51 y.store.length cap51) := W_u1.cell 0 (by simp)
  have cW1 : u1.cell? ⟨w3.heap.size, 1, none⟩ = some (.int .i64 y.rule.lc) := W_u1.cell 1 (by simp)
  have cW2 : u1.cell? ⟨w3.heap.size, 2, none⟩ = some (.int .i64 y.rule.hc) := W_u1.cell 2 (by simp)
  have cW3 : u1.cell? ⟨w3.heap.size, 3, none⟩ = some (.int .i64 y.rule.lm) := W_u1.cell 3 (by simp)
  have cW4 : u1.cell? ⟨w3.heap.size, 4, none⟩ = some (.int .i64 y.rule.hm) := W_u1.cell 4 (by simp)
  have cW5 : u1.cell? ⟨w3.heap.size, 5, none⟩ = some (.int .i64 y.rule.ls) := W_u1.cell 5 (by simp)
  have cW6 : u1.cell? ⟨w3.heap.size, 6, none⟩ = some (.int .i64 y.rule.hs) := W_u1.cell 6 (by simp)
  have cW7 : u1.cell? ⟨w3.heap.size, 7, none⟩ = some (.int .i64 y.strand) := W_u1.cell 7 (by simp)
  have cW8 : u1.cell? ⟨w3.heap.size, 8, none⟩ = some (.slice ao52 y.pieces.length cap52) := W_u1.cell 8 (by simp)
  have cW9 : u1.cell? ⟨w3.heap.size, 9, none⟩ = some (.slice ao53 y.low.length cap53) := W_u1.cell 9 (by simp)
  have cW10 : u1.cell? ⟨w3.heap.size, 10, none⟩ = some (.slice ao54 y.high.length cap54) := W_u1.cell 10 (by simp)
  have cW11 : u1.cell? ⟨w3.heap.size, 11, none⟩ = some (.int .i64 y.scrap) := W_u1.cell 11 (by simp)
  go_wp2_with fail
  clear cG0 cG1 cG2 cG3 cG4 cG5 cG6 cG7 cG8 cG9 cG10 cG11 cW0 cW1 cW2 cW3 cW4 cW5 cW6 cW7 cW8 cW9 cW10 cW11
  refine (KEY.out _ _ _ _ _ _ _ _ u1 VGv_u1.out.in.all VW_u1.out.in.all).mono ?_
  rintro e w7 ⟨rfl, hb⟩
  have A_7 := A_u1.below hb A_u1.lt
  clear A_u1
  have W_7 := W_u1.below hb W_u1.lt
  clear W_u1
  have X_7 := X_u1.below hb X_u1.lt
  clear X_u1
  have G_7 := G_u1.below hb G_u1.lt
  clear G_u1
  have VV_7 := hide (VV_u1.out.below hb)
  clear VV_u1
  have VW_7 := hide (VW_u1.out.below hb)
  clear VW_u1
  have VGv_7 := hide (VGv_u1.out.below hb)
  clear VGv_u1
  have B_7 := hide (Below.step B_u1.out hb (Nat.le_refl _))
  clear B_u1
  have hz7 := hb.size
  clear hb
  have cG0 : w7.cell? ⟨w5.heap.size, 0, none⟩ = some (.slice ao61 y.store.length cap61) := G_7.cell 0 (by simp)
  have cG1 : w7.cell? ⟨w5.heap.size, 1, none⟩ = some (.int .i64 y.rule.lc) := G_7.cell 1 (by simp)
  have cG2 : w7.cell? ⟨w5.heap.size, 2, none⟩ = some (.int .i64 y.rule.hc) := G_7.cell 2 (by simp)
  have cG3 : w7.cell? ⟨w5.heap.size, 3, none⟩ = some (.int .i64 y.rule.lm) := G_7.cell 3 (by simp)
  have cG4 : w7.cell? ⟨w5.heap.size, 4, none⟩ = some (.int .i64 y.rule.hm) := G_7.cell 4 (by simp)
  have cG5 : w7.cell? ⟨w5.heap.size, 5, none⟩ = some (.int .i64 y.rule.ls) := G_7.cell 5 (by simp)
  have cG6 : w7.cell? ⟨w5.heap.size, 6, none⟩ = some (.int .i64 y.rule.hs) := G_7.cell 6 (by simp)
  have cG7 : w7.cell? ⟨w5.heap.size, 7, none⟩ = some (.int .i64 y.strand) := G_7.cell 7 (by simp)
  have cG8 : w7.cell? ⟨w5.heap.size, 8, none⟩ = some (.slice ao62 y.pieces.length cap62) := G_7.cell 8 (by simp)
  have cG9 : w7.cell? ⟨w5.heap.size, 9, none⟩ = some (.slice ao63 y.low.length cap63) := G_7.cell 9 (by simp)
  have cG10 : w7.cell? ⟨w5.heap.size, 10, none⟩ = some (.slice ao64 y.high.length cap64) := G_7.cell 10 (by simp)
  have cG11 : w7.cell? ⟨w5.heap.size, 11, none⟩ = some (.int .i64 y.scrap) := G_7.cell 11 (by simp)
  go_wp2_with fail
  clear cG0 cG1 cG2 cG3 cG4 cG5 cG6 cG7 cG8 cG9 cG10 cG11
  refine (KMY.out _ _ _ _ _ _ w7 VGv_7.out).mono ?_
  clear VGv_7
  rintro e u3 ⟨rfl, ho, hmk⟩
  have A_u3 := A_7.other ho (by omega)
  clear A_7
  have W_u3 := W_7.other ho (by omega)
  clear W_7
  have X_u3 := X_7.other ho (by omega)
  clear X_7
  have G_u3 := G_7.other ho (by omega)
  clear G_7
  have VV_u3 := hide (VV_7.out.other ho (by omega))
  clear VV_7
  have VW_u3 := hide (VW_7.out.other ho (by omega))
  clear VW_7
  have VGv_u3 := hide hmk
  have B_u3 := hide (B_7.out.trans (ho.below (B := w.heap.size) (by omega) (by omega)))
  clear B_7
  have hzu3 := ho.size
  clear ho
  have cG0 : u3.cell? ⟨w5.heap.size, 0, none⟩ = some (.slice ao61 y.store.length cap61) := G_u3.cell 0 (by simp)
  have cG1 : u3.cell? ⟨w5.heap.size, 1, none⟩ = some (.int .i64 y.rule.lc) := G_u3.cell 1 (by simp)
  have cG2 : u3.cell? ⟨w5.heap.size, 2, none⟩ = some (.int .i64 y.rule.hc) := G_u3.cell 2 (by simp)
  have cG3 : u3.cell? ⟨w5.heap.size, 3, none⟩ = some (.int .i64 y.rule.lm) := G_u3.cell 3 (by simp)
  have cG4 : u3.cell? ⟨w5.heap.size, 4, none⟩ = some (.int .i64 y.rule.hm) := G_u3.cell 4 (by simp)
  have cG5 : u3.cell? ⟨w5.heap.size, 5, none⟩ = some (.int .i64 y.rule.ls) := G_u3.cell 5 (by simp)
  have cG6 : u3.cell? ⟨w5.heap.size, 6, none⟩ = some (.int .i64 y.rule.hs) := G_u3.cell 6 (by simp)
  have cG7 : u3.cell? ⟨w5.heap.size, 7, none⟩ = some (.int .i64 y.strand) := G_u3.cell 7 (by simp)
  have cG8 : u3.cell? ⟨w5.heap.size, 8, none⟩ = some (.slice ao62 y.pieces.length cap62) := G_u3.cell 8 (by simp)
  have cG9 : u3.cell? ⟨w5.heap.size, 9, none⟩ = some (.slice ao63 y.low.length cap63) := G_u3.cell 9 (by simp)
  have cG10 : u3.cell? ⟨w5.heap.size, 10, none⟩ = some (.slice ao64 y.high.length cap64) := G_u3.cell 10 (by simp)
  have cG11 : u3.cell? ⟨w5.heap.size, 11, none⟩ = some (.int .i64 y.scrap) := G_u3.cell 11 (by simp)
  clear hmk
  go_wp2_with fail
  clear cG0 cG1 cG2 cG3 cG4 cG5 cG6 cG7 cG8 cG9 cG10 cG11
  refine (KHY.out _ _ _ _ u3 VGv_u3.out.in.all).mono ?_
  rintro e w8 ⟨rfl, hb⟩
  have A_8 := A_u3.below hb A_u3.lt
  clear A_u3
  have W_8 := W_u3.below hb W_u3.lt
  clear W_u3
  have X_8 := X_u3.below hb X_u3.lt
  clear X_u3
  have G_8 := G_u3.below hb G_u3.lt
  clear G_u3
  have VV_8 := hide (VV_u3.out.below hb)
  clear VV_u3
  have VW_8 := hide (VW_u3.out.below hb)
  clear VW_u3
  have VGv_8 := hide (VGv_u3.out.below hb)
  clear VGv_u3
  have B_8 := hide (Below.step B_u3.out hb (Nat.le_refl _))
  clear B_u3
  have hz8 := hb.size
  clear hb
  have cA0 : w8.cell? ⟨w.heap.size, 0, none⟩ = some (.slice ao1 m.store.length cap1) := A_8.cell 0 (by simp)
  have cA1 : w8.cell? ⟨w.heap.size, 1, none⟩ = some (.int .i64 m.rule.lc) := A_8.cell 1 (by simp)
  have cA2 : w8.cell? ⟨w.heap.size, 2, none⟩ = some (.int .i64 m.rule.hc) := A_8.cell 2 (by simp)
  have cA3 : w8.cell? ⟨w.heap.size, 3, none⟩ = some (.int .i64 m.rule.lm) := A_8.cell 3 (by simp)
  have cA4 : w8.cell? ⟨w.heap.size, 4, none⟩ = some (.int .i64 m.rule.hm) := A_8.cell 4 (by simp)
  have cA5 : w8.cell? ⟨w.heap.size, 5, none⟩ = some (.int .i64 m.rule.ls) := A_8.cell 5 (by simp)
  have cA6 : w8.cell? ⟨w.heap.size, 6, none⟩ = some (.int .i64 m.rule.hs) := A_8.cell 6 (by simp)
  have cA7 : w8.cell? ⟨w.heap.size, 7, none⟩ = some (.int .i64 m.strand) := A_8.cell 7 (by simp)
  have cA8 : w8.cell? ⟨w.heap.size, 8, none⟩ = some (.slice ao2 m.pieces.length cap2) := A_8.cell 8 (by simp)
  have cA9 : w8.cell? ⟨w.heap.size, 9, none⟩ = some (.slice ao3 m.low.length cap3) := A_8.cell 9 (by simp)
  have cA10 : w8.cell? ⟨w.heap.size, 10, none⟩ = some (.slice ao4 m.high.length cap4) := A_8.cell 10 (by simp)
  have cA11 : w8.cell? ⟨w.heap.size, 11, none⟩ = some (.int .i64 m.scrap) := A_8.cell 11 (by simp)
  go_wp2_with fail
  clear cA0 cA1 cA2 cA3 cA4 cA5 cA6 cA7 cA8 cA9 cA10 cA11
  refine (toMill_any _ _ _ _ m w8 VV_8.out.all HSM.out).mono ?_
  rintro e w9 ⟨s7, p7, l7, h7, rfl, hs7, hb⟩
  have A_9 := A_8.below hb A_8.lt
  clear A_8
  have W_9 := W_8.below hb W_8.lt
  clear W_8
  have X_9 := X_8.below hb X_8.lt
  clear X_8
  have G_9 := G_8.below hb G_8.lt
  clear G_8
  have VV_9 := hide (VV_8.out.below hb)
  clear VV_8
  have VW_9 := hide (VW_8.out.below hb)
  clear VW_8
  have VGv_9 := hide (VGv_8.out.below hb)
  clear VGv_8
  have B_9 := hide (Below.step B_8.out hb (Nat.le_refl _))
  clear B_8
  have hz9 := hb.size
  clear hb
  have VM7_9 := hide hs7
  have ltM7 := hs7.lt
  obtain ⟨ao71, cap71, rfl, -, -, -, -⟩ := id hs7.in.store
  obtain ⟨ao72, cap72, rfl, -, -, -, -⟩ := id hs7.in.pieces
  obtain ⟨ao73, cap73, rfl, -, -, -, -⟩ := id hs7.in.low
  obtain ⟨ao74, cap74, rfl, -, -, -, -⟩ := id hs7.in.high
  clear hs7
  unfold millV
  go_wp2_with fail
  refine (KI.out _ _ _ _ w9 VM7_9.out.in.all (HNC.out _ B_9.out)).mono ?_
  clear VM7_9
  rintro e w10 ⟨s8, p8, l8, h8, rfl, hs8, hb⟩
  have A_10 := A_9.below hb A_9.lt
  clear A_9
  have W_10 := W_9.below hb W_9.lt
  clear W_9
  have X_10 := X_9.below hb X_9.lt
  clear X_9
  have G_10 := G_9.below hb G_9.lt
  clear G_9
  have VV_10 := hide (VV_9.out.below hb)
  clear VV_9
  have VW_10 := hide (VW_9.out.below hb)
  clear VW_9
  have VGv_10 := hide (VGv_9.out.below hb)
  clear VGv_9
  have B_10 := hide (Below.step B_9.out hb (Nat.le_refl _))
  clear B_9
  have hz10 := hb.size
  clear hb
  have VHv_10 := hide hs8
  have ltHv := hs8.lt
  obtain ⟨ao81, cap81, rfl, -, -, -, -⟩ := id hs8.in.store
  obtain ⟨ao82, cap82, rfl, -, -, -, -⟩ := id hs8.in.pieces
  obtain ⟨ao83, cap83, rfl, -, -, -, -⟩ := id hs8.in.low
  obtain ⟨ao84, cap84, rfl, -, -, -, -⟩ := id hs8.in.high
  clear hs8
  unfold millV
  have cW0 : w10.cell? ⟨w3.heap.size, 0, none⟩ = some (.slice ao51 y.store.length cap51) := W_10.cell 0 (by simp)
  have cW1 : w10.cell? ⟨w3.heap.size, 1, none⟩ = some (.int .i64 y.rule.lc) := W_10.cell 1 (by simp)
  have cW2 : w10.cell? ⟨w3.heap.size, 2, none⟩ = some (.int .i64 y.rule.hc) := W_10.cell 2 (by simp)
  have cW3 : w10.cell? ⟨w3.heap.size, 3, none⟩ = some (.int .i64 y.rule.lm) := W_10.cell 3 (by simp)
  have cW4 : w10.cell? ⟨w3.heap.size, 4, none⟩ = some (.int .i64 y.rule.hm) := W_10.cell 4 (by simp)
  have cW5 : w10.cell? ⟨w3.heap.size, 5, none⟩ = some (.int .i64 y.rule.ls) := W_10.cell 5 (by simp)
  have cW6 : w10.cell? ⟨w3.heap.size, 6, none⟩ = some (.int .i64 y.rule.hs) := W_10.cell 6 (by simp)
  have cW7 : w10.cell? ⟨w3.heap.size, 7, none⟩ = some (.int .i64 y.strand) := W_10.cell 7 (by simp)
  have cW8 : w10.cell? ⟨w3.heap.size, 8, none⟩ = some (.slice ao52 y.pieces.length cap52) := W_10.cell 8 (by simp)
  have cW9 : w10.cell? ⟨w3.heap.size, 9, none⟩ = some (.slice ao53 y.low.length cap53) := W_10.cell 9 (by simp)
  have cW10 : w10.cell? ⟨w3.heap.size, 10, none⟩ = some (.slice ao54 y.high.length cap54) := W_10.cell 10 (by simp)
  have cW11 : w10.cell? ⟨w3.heap.size, 11, none⟩ = some (.int .i64 y.scrap) := W_10.cell 11 (by simp)
  have hqWy4 := W_10.lt
  go_wp2_with fail
  refine calls_at fun y4 hwy => ?_
  have H_y4 : RowL y4 (w10.heap.size) 31 [.slice ao81 y.store.length cap81, .int .i64 y.rule.lc, .int .i64 y.rule.hc, .int .i64 y.rule.lm, .int .i64 y.rule.hm, .int .i64 y.rule.ls, .int .i64 y.rule.hs, .int .i64 y.strand, .slice ao82 y.pieces.length cap82, .slice ao83 y.low.length cap83, .slice ao84 y.high.length cap84, .int .i64 y.scrap] := by rw [hwy]; exact RowL.new _ _ _
  have hby : Below w10.heap.size w10 y4 := by rw [hwy]; exact (Below.refl _ _).alloc (Nat.le_refl _) _
  have A_y4 := A_10.below hby A_10.lt
  clear A_10
  have W_y4 := W_10.below hby W_10.lt
  clear W_10
  have X_y4 := X_10.below hby X_10.lt
  clear X_10
  have G_y4 := G_10.below hby G_10.lt
  clear G_10
  have VV_y4 := hide (VV_10.out.below hby)
  clear VV_10
  have VW_y4 := hide (VW_10.out.below hby)
  clear VW_10
  have VGv_y4 := hide (VGv_10.out.below hby)
  clear VGv_10
  have VHv_y4 := hide (VHv_10.out.below hby)
  clear VHv_10
  have B_y4 := hide (Below.step B_10.out hby (Nat.le_refl _))
  clear B_10
  have hzy4 := hby.size
  have hly4 := H_y4.lt
  clear hwy hby
  clear cW0 cW1 cW2 cW3 cW4 cW5 cW6 cW7 cW8 cW9 cW10 cW11 hqWy4
  have cG0 : y4.cell? ⟨w5.heap.size, 0, none⟩ = some (.slice ao61 y.store.length cap61) := G_y4.cell 0 (by simp)
  have cG1 : y4.cell? ⟨w5.heap.size, 1, none⟩ = some (.int .i64 y.rule.lc) := G_y4.cell 1 (by simp)
  have cG2 : y4.cell? ⟨w5.heap.size, 2, none⟩ = some (.int .i64 y.rule.hc) := G_y4.cell 2 (by simp)
  have cG3 : y4.cell? ⟨w5.heap.size, 3, none⟩ = some (.int .i64 y.rule.lm) := G_y4.cell 3 (by simp)
  have cG4 : y4.cell? ⟨w5.heap.size, 4, none⟩ = some (.int .i64 y.rule.hm) := G_y4.cell 4 (by simp)
  have cG5 : y4.cell? ⟨w5.heap.size, 5, none⟩ = some (.int .i64 y.rule.ls) := G_y4.cell 5 (by simp)
  have cG6 : y4.cell? ⟨w5.heap.size, 6, none⟩ = some (.int .i64 y.rule.hs) := G_y4.cell 6 (by simp)
  have cG7 : y4.cell? ⟨w5.heap.size, 7, none⟩ = some (.int .i64 y.strand) := G_y4.cell 7 (by simp)
  have cG8 : y4.cell? ⟨w5.heap.size, 8, none⟩ = some (.slice ao62 y.pieces.length cap62) := G_y4.cell 8 (by simp)
  have cG9 : y4.cell? ⟨w5.heap.size, 9, none⟩ = some (.slice ao63 y.low.length cap63) := G_y4.cell 9 (by simp)
  have cG10 : y4.cell? ⟨w5.heap.size, 10, none⟩ = some (.slice ao64 y.high.length cap64) := G_y4.cell 10 (by simp)
  have cG11 : y4.cell? ⟨w5.heap.size, 11, none⟩ = some (.int .i64 y.scrap) := G_y4.cell 11 (by simp)
  refine (KEY.out _ _ _ _ _ _ _ _ y4 VHv_y4.out.in.all VW_y4.out.in.all).mono ?_
  rintro e w11 ⟨rfl, hb⟩
  have A_11 := A_y4.below hb A_y4.lt
  clear A_y4
  have W_11 := W_y4.below hb W_y4.lt
  clear W_y4
  have X_11 := X_y4.below hb X_y4.lt
  clear X_y4
  have G_11 := G_y4.below hb G_y4.lt
  clear G_y4
  have H_11 := H_y4.below hb H_y4.lt
  clear H_y4
  have VV_11 := hide (VV_y4.out.below hb)
  clear VV_y4
  have VW_11 := hide (VW_y4.out.below hb)
  clear VW_y4
  have VGv_11 := hide (VGv_y4.out.below hb)
  clear VGv_y4
  have VHv_11 := hide (VHv_y4.out.below hb)
  clear VHv_y4
  have B_11 := hide (Below.step B_y4.out hb (Nat.le_refl _))
  clear B_y4
  have hz11 := hb.size
  clear hb
  have cG0 : w11.cell? ⟨w5.heap.size, 0, none⟩ = some (.slice ao61 y.store.length cap61) := G_11.cell 0 (by simp)
  have cG1 : w11.cell? ⟨w5.heap.size, 1, none⟩ = some (.int .i64 y.rule.lc) := G_11.cell 1 (by simp)
  have cG2 : w11.cell? ⟨w5.heap.size, 2, none⟩ = some (.int .i64 y.rule.hc) := G_11.cell 2 (by simp)
  have cG3 : w11.cell? ⟨w5.heap.size, 3, none⟩ = some (.int .i64 y.rule.lm) := G_11.cell 3 (by simp)
  have cG4 : w11.cell? ⟨w5.heap.size, 4, none⟩ = some (.int .i64 y.rule.hm) := G_11.cell 4 (by simp)
  have cG5 : w11.cell? ⟨w5.heap.size, 5, none⟩ = some (.int .i64 y.rule.ls) := G_11.cell 5 (by simp)
  have cG6 : w11.cell? ⟨w5.heap.size, 6, none⟩ = some (.int .i64 y.rule.hs) := G_11.cell 6 (by simp)
  have cG7 : w11.cell? ⟨w5.heap.size, 7, none⟩ = some (.int .i64 y.strand) := G_11.cell 7 (by simp)
  have cG8 : w11.cell? ⟨w5.heap.size, 8, none⟩ = some (.slice ao62 y.pieces.length cap62) := G_11.cell 8 (by simp)
  have cG9 : w11.cell? ⟨w5.heap.size, 9, none⟩ = some (.slice ao63 y.low.length cap63) := G_11.cell 9 (by simp)
  have cG10 : w11.cell? ⟨w5.heap.size, 10, none⟩ = some (.slice ao64 y.high.length cap64) := G_11.cell 10 (by simp)
  have cG11 : w11.cell? ⟨w5.heap.size, 11, none⟩ = some (.int .i64 y.scrap) := G_11.cell 11 (by simp)
  go_wp2_with fail
  clear cG0 cG1 cG2 cG3 cG4 cG5 cG6 cG7 cG8 cG9 cG10 cG11
  refine (KHY.out _ _ _ _ w11 VGv_11.out.in.all).mono ?_
  rintro e w12 ⟨rfl, hb⟩
  have A_12 := A_11.below hb A_11.lt
  clear A_11 A_12
  have W_12 := W_11.below hb W_11.lt
  clear W_11 W_12
  have X_12 := X_11.below hb X_11.lt
  clear X_11 X_12
  have G_12 := G_11.below hb G_11.lt
  clear G_11 G_12
  have H_12 := H_11.below hb H_11.lt
  clear H_11 H_12
  have VV_12 := hide (VV_11.out.below hb)
  clear VV_11 VV_12
  have VW_12 := hide (VW_11.out.below hb)
  clear VW_11 VW_12
  have VGv_12 := hide (VGv_11.out.below hb)
  clear VGv_11 VGv_12
  have VHv_12 := hide (VHv_11.out.below hb)
  clear VHv_11 VHv_12
  have B_12 := hide (Below.step B_11.out hb (Nat.le_refl _))
  clear B_11
  have hz12 := hb.size
  clear hb
  go_wp2_with fail
  go_ret
  exact ⟨rfl, B_12.out⟩
end Go.Proofs.YtmemgbklgcjobaaGreatDoor
