/-
  The walk over the law FnExactMillAsk: it answers true, whatever the mill and the line, and leaves all old memory alone.
-/
import Derived.Test.YtbafifilklfafaaDoorAskS
import Derived.Test.YtbafifilklfafaaDoorHelpO
import Derived.Deep.RegionWith
namespace Go.Proofs.YtbafifilklfafaaDoor
open Go.RowKit

set_option maxRecDepth 10000 in
set_option maxHeartbeats 1600000 in
theorem law_ExactMillAsk (s p l h : Value) (m : Mi) (t : ByteArray) (w : World) (H : MillIn 0 w.heap.size w s p l h m) (hpow : PowIs w) :
    Calls Tryd.prog 5 #[millV s p l h m, .string t] w fun e w' => e = .returned (.bool true) ∧ Below w.heap.size w w' := by
  obtain ⟨ao1, cap1, rfl, -, -, -, -⟩ := id H.store
  obtain ⟨ao2, cap2, rfl, -, -, -, -⟩ := id H.pieces
  obtain ⟨ao3, cap3, rfl, -, -, -, -⟩ := id H.low
  obtain ⟨ao4, cap4, rfl, -, -, -, -⟩ := id H.high
  obtain ⟨q, hq⟩ : ∃ q, askB m t = q := ⟨_, rfl⟩
  have KS : ∀ s p l h w, MillIn 0 w.heap.size w s p l h m → PowIs w → Calls Tryd.prog 17 #[millV s p l h m, .string t] w fun e w' => e = .returned (.string q) ∧ Below w.heap.size w w' := fun s p l h w H hp => hq ▸ ask_spec s p l h m t w H hp
  have KI : ∀ s p l h w, MillIn 0 w.heap.size w s p l h m → PowIs w → Calls Tryd.prog 19 #[millV s p l h m, .string t] w fun e w' => e = .returned (.string q) ∧ Below w.heap.size w w' := fun s p l h w H hp => hq ▸ ask_impl s p l h m t w H hp
  have KS := hide KS
  have KI := hide KI
  have hqq : (q.toList != q.toList) = false := by simp
  have HPW := hide hpow
  clear hpow
  by_cases hbt : 1048576 < t.size
  · have hbt2 : decide (1048576 < (t.size : Int)) = true := by simp; omega
    unfold millV
    go_enter Tryd.func5, Tryd.ntmps5
    go_wp2_with fail
    go_ret
    exact ⟨rfl, by go_grown⟩
  have hbt2 : ¬ (1048576 : Int) < (t.size : Int) := by omega
  clear hq
  unfold millV
  go_enter Tryd.func5, Tryd.ntmps5
  go_wp2_with fail
  refine calls_at fun wx hwx => ?_
  have A_0 : RowL wx (w.heap.size) 44 [.slice ao1 m.store.length cap1, .int .i64 m.rule.lc, .int .i64 m.rule.hc, .int .i64 m.rule.lm, .int .i64 m.rule.hm, .int .i64 m.rule.ls, .int .i64 m.rule.hs, .int .i64 m.strand, .slice ao2 m.pieces.length cap2, .slice ao3 m.low.length cap3, .slice ao4 m.high.length cap4, .int .i64 m.scrap] := by rw [hwx]; exact (RowL.new _ 44 [.slice ao1 m.store.length cap1, .int .i64 m.rule.lc, .int .i64 m.rule.hc, .int .i64 m.rule.lm, .int .i64 m.rule.hm, .int .i64 m.rule.ls, .int .i64 m.rule.hs, .int .i64 m.strand, .slice ao2 m.pieces.length cap2, .slice ao3 m.low.length cap3, .slice ao4 m.high.length cap4, .int .i64 m.scrap])
  have B_0 : Below w.heap.size w wx := by rw [hwx]; go_grown
  clear hwx
  have hL0 := A_0.lt
  have VV_0 := hide (H.below B_0)
  have KZ := szMill_any _ _ _ _ m 1048576 wx VV_0.out.all (by omega) (by omega)
  by_cases hbig : 1048576 < sizeM m
  · rw [szI_no (by omega)] at KZ
    refine KZ.mono ?_
    rintro e w1 ⟨rfl, hb⟩
    have HB := hide (Below.step B_0 hb (Nat.le_refl _))
    clear hb KZ
    go_wp2_with fail
    go_ret
    exact ⟨rfl, HB.out⟩
  rw [szI_yes (by omega)] at KZ
  obtain ⟨z, hz, hz0⟩ : ∃ z : Int, 1048576 - (sizeM m : Int) = z ∧ 0 ≤ z := ⟨_, rfl, by omega⟩
  rw [hz] at KZ
  have HSM := hide (show Small m by refine ⟨?_, ?_, ?_, ?_⟩ <;> unfold sizeM at hbig <;> omega)
  have HSZ := hide (show sizeM m ≤ 1048576 by omega)
  clear hz hbig
  refine (KZ).mono ?_
  rintro e w1 ⟨rfl, hb⟩
  have A_1 := A_0.below hb A_0.lt
  have VV_1 := hide (VV_0.out.below hb)
  have B_1 := hide (Below.step B_0 hb (Nat.le_refl _))
  have hz1 := hb.size
  clear hb
  have cA0 : w1.cell? ⟨w.heap.size, 0, none⟩ = some (.slice ao1 m.store.length cap1) := A_1.cell 0 (by simp)
  have cA1 : w1.cell? ⟨w.heap.size, 1, none⟩ = some (.int .i64 m.rule.lc) := A_1.cell 1 (by simp)
  have cA2 : w1.cell? ⟨w.heap.size, 2, none⟩ = some (.int .i64 m.rule.hc) := A_1.cell 2 (by simp)
  have cA3 : w1.cell? ⟨w.heap.size, 3, none⟩ = some (.int .i64 m.rule.lm) := A_1.cell 3 (by simp)
  have cA4 : w1.cell? ⟨w.heap.size, 4, none⟩ = some (.int .i64 m.rule.hm) := A_1.cell 4 (by simp)
  have cA5 : w1.cell? ⟨w.heap.size, 5, none⟩ = some (.int .i64 m.rule.ls) := A_1.cell 5 (by simp)
  have cA6 : w1.cell? ⟨w.heap.size, 6, none⟩ = some (.int .i64 m.rule.hs) := A_1.cell 6 (by simp)
  have cA7 : w1.cell? ⟨w.heap.size, 7, none⟩ = some (.int .i64 m.strand) := A_1.cell 7 (by simp)
  have cA8 : w1.cell? ⟨w.heap.size, 8, none⟩ = some (.slice ao2 m.pieces.length cap2) := A_1.cell 8 (by simp)
  have cA9 : w1.cell? ⟨w.heap.size, 9, none⟩ = some (.slice ao3 m.low.length cap3) := A_1.cell 9 (by simp)
  have cA10 : w1.cell? ⟨w.heap.size, 10, none⟩ = some (.slice ao4 m.high.length cap4) := A_1.cell 10 (by simp)
  have cA11 : w1.cell? ⟨w.heap.size, 11, none⟩ = some (.int .i64 m.scrap) := A_1.cell 11 (by simp)
  clear KZ
  go_wp2_with fail
  clear cA0 cA1 cA2 cA3 cA4 cA5 cA6 cA7 cA8 cA9 cA10 cA11
  refine (toMill_any _ _ _ _ m w1 VV_1.out.all HSM.out).mono ?_
  rintro e w2 ⟨s2, p2, l2, h2, rfl, hsep, hb⟩
  have A_2 := A_1.below hb A_1.lt
  have VV_2 := hide (VV_1.out.below hb)
  have B_2 := hide (Below.step B_1.out hb (Nat.le_refl _))
  have hz2 := hb.size
  clear hb
  have VM2_2 := hide hsep
  clear hsep
  unfold millV
  have cA0 : w2.cell? ⟨w.heap.size, 0, none⟩ = some (.slice ao1 m.store.length cap1) := A_2.cell 0 (by simp)
  have cA1 : w2.cell? ⟨w.heap.size, 1, none⟩ = some (.int .i64 m.rule.lc) := A_2.cell 1 (by simp)
  have cA2 : w2.cell? ⟨w.heap.size, 2, none⟩ = some (.int .i64 m.rule.hc) := A_2.cell 2 (by simp)
  have cA3 : w2.cell? ⟨w.heap.size, 3, none⟩ = some (.int .i64 m.rule.lm) := A_2.cell 3 (by simp)
  have cA4 : w2.cell? ⟨w.heap.size, 4, none⟩ = some (.int .i64 m.rule.hm) := A_2.cell 4 (by simp)
  have cA5 : w2.cell? ⟨w.heap.size, 5, none⟩ = some (.int .i64 m.rule.ls) := A_2.cell 5 (by simp)
  have cA6 : w2.cell? ⟨w.heap.size, 6, none⟩ = some (.int .i64 m.rule.hs) := A_2.cell 6 (by simp)
  have cA7 : w2.cell? ⟨w.heap.size, 7, none⟩ = some (.int .i64 m.strand) := A_2.cell 7 (by simp)
  have cA8 : w2.cell? ⟨w.heap.size, 8, none⟩ = some (.slice ao2 m.pieces.length cap2) := A_2.cell 8 (by simp)
  have cA9 : w2.cell? ⟨w.heap.size, 9, none⟩ = some (.slice ao3 m.low.length cap3) := A_2.cell 9 (by simp)
  have cA10 : w2.cell? ⟨w.heap.size, 10, none⟩ = some (.slice ao4 m.high.length cap4) := A_2.cell 10 (by simp)
  have cA11 : w2.cell? ⟨w.heap.size, 11, none⟩ = some (.int .i64 m.scrap) := A_2.cell 11 (by simp)
  go_wp2_with fail
  clear cA0 cA1 cA2 cA3 cA4 cA5 cA6 cA7 cA8 cA9 cA10 cA11
  refine (KS.out _ _ _ _ w2 VM2_2.out.in.all (HPW.out.stays B_2.out)).mono ?_
  rintro e w3 ⟨rfl, hb⟩
  have A_3 := A_2.below hb A_2.lt
  have VV_3 := hide (VV_2.out.below hb)
  have B_3 := hide (Below.step B_2.out hb (Nat.le_refl _))
  have hz3 := hb.size
  clear hb
  have cA0 : w3.cell? ⟨w.heap.size, 0, none⟩ = some (.slice ao1 m.store.length cap1) := A_3.cell 0 (by simp)
  have cA1 : w3.cell? ⟨w.heap.size, 1, none⟩ = some (.int .i64 m.rule.lc) := A_3.cell 1 (by simp)
  have cA2 : w3.cell? ⟨w.heap.size, 2, none⟩ = some (.int .i64 m.rule.hc) := A_3.cell 2 (by simp)
  have cA3 : w3.cell? ⟨w.heap.size, 3, none⟩ = some (.int .i64 m.rule.lm) := A_3.cell 3 (by simp)
  have cA4 : w3.cell? ⟨w.heap.size, 4, none⟩ = some (.int .i64 m.rule.hm) := A_3.cell 4 (by simp)
  have cA5 : w3.cell? ⟨w.heap.size, 5, none⟩ = some (.int .i64 m.rule.ls) := A_3.cell 5 (by simp)
  have cA6 : w3.cell? ⟨w.heap.size, 6, none⟩ = some (.int .i64 m.rule.hs) := A_3.cell 6 (by simp)
  have cA7 : w3.cell? ⟨w.heap.size, 7, none⟩ = some (.int .i64 m.strand) := A_3.cell 7 (by simp)
  have cA8 : w3.cell? ⟨w.heap.size, 8, none⟩ = some (.slice ao2 m.pieces.length cap2) := A_3.cell 8 (by simp)
  have cA9 : w3.cell? ⟨w.heap.size, 9, none⟩ = some (.slice ao3 m.low.length cap3) := A_3.cell 9 (by simp)
  have cA10 : w3.cell? ⟨w.heap.size, 10, none⟩ = some (.slice ao4 m.high.length cap4) := A_3.cell 10 (by simp)
  have cA11 : w3.cell? ⟨w.heap.size, 11, none⟩ = some (.int .i64 m.scrap) := A_3.cell 11 (by simp)
  go_wp2_with fail
  clear cA0 cA1 cA2 cA3 cA4 cA5 cA6 cA7 cA8 cA9 cA10 cA11
  refine (toMill_any _ _ _ _ m w3 VV_3.out.all HSM.out).mono ?_
  rintro e w4 ⟨s3, p3, l3, h3, rfl, hsep, hb⟩
  have A_4 := A_3.below hb A_3.lt
  have VV_4 := hide (VV_3.out.below hb)
  have B_4 := hide (Below.step B_3.out hb (Nat.le_refl _))
  have hz4 := hb.size
  clear hb
  have VM3_4 := hide hsep
  obtain ⟨ao31, cap31, rfl, -, -, -, -⟩ := id hsep.in.store
  obtain ⟨ao32, cap32, rfl, -, -, -, -⟩ := id hsep.in.pieces
  obtain ⟨ao33, cap33, rfl, -, -, -, -⟩ := id hsep.in.low
  obtain ⟨ao34, cap34, rfl, -, -, -, -⟩ := id hsep.in.high
  clear hsep
  unfold millV
  have cA0 : w4.cell? ⟨w.heap.size, 0, none⟩ = some (.slice ao1 m.store.length cap1) := A_4.cell 0 (by simp)
  have cA1 : w4.cell? ⟨w.heap.size, 1, none⟩ = some (.int .i64 m.rule.lc) := A_4.cell 1 (by simp)
  have cA2 : w4.cell? ⟨w.heap.size, 2, none⟩ = some (.int .i64 m.rule.hc) := A_4.cell 2 (by simp)
  have cA3 : w4.cell? ⟨w.heap.size, 3, none⟩ = some (.int .i64 m.rule.lm) := A_4.cell 3 (by simp)
  have cA4 : w4.cell? ⟨w.heap.size, 4, none⟩ = some (.int .i64 m.rule.hm) := A_4.cell 4 (by simp)
  have cA5 : w4.cell? ⟨w.heap.size, 5, none⟩ = some (.int .i64 m.rule.ls) := A_4.cell 5 (by simp)
  have cA6 : w4.cell? ⟨w.heap.size, 6, none⟩ = some (.int .i64 m.rule.hs) := A_4.cell 6 (by simp)
  have cA7 : w4.cell? ⟨w.heap.size, 7, none⟩ = some (.int .i64 m.strand) := A_4.cell 7 (by simp)
  have cA8 : w4.cell? ⟨w.heap.size, 8, none⟩ = some (.slice ao2 m.pieces.length cap2) := A_4.cell 8 (by simp)
  have cA9 : w4.cell? ⟨w.heap.size, 9, none⟩ = some (.slice ao3 m.low.length cap3) := A_4.cell 9 (by simp)
  have cA10 : w4.cell? ⟨w.heap.size, 10, none⟩ = some (.slice ao4 m.high.length cap4) := A_4.cell 10 (by simp)
  have cA11 : w4.cell? ⟨w.heap.size, 11, none⟩ = some (.int .i64 m.scrap) := A_4.cell 11 (by simp)
  go_wp2_with fail
  refine calls_at fun y hwy => ?_
  have X_y : RowL y (w4.heap.size) 52 [.slice ao31 m.store.length cap31, .int .i64 m.rule.lc, .int .i64 m.rule.hc, .int .i64 m.rule.lm, .int .i64 m.rule.hm, .int .i64 m.rule.ls, .int .i64 m.rule.hs, .int .i64 m.strand, .slice ao32 m.pieces.length cap32, .slice ao33 m.low.length cap33, .slice ao34 m.high.length cap34, .int .i64 m.scrap] := by rw [hwy]; exact RowL.new _ _ _
  have hby : Below w4.heap.size w4 y := by rw [hwy]; exact (Below.refl _ _).alloc (Nat.le_refl _) _
  have A_y := A_4.below hby A_4.lt
  have VV_y := hide (VV_4.out.below hby)
  have VM3_y := hide (VM3_4.out.below hby)
  have B_y := hide (Below.step B_4.out hby (Nat.le_refl _))
  have hzy := hby.size
  have hzX := X_y.lt
  clear hwy hby
  clear cA0 cA1 cA2 cA3 cA4 cA5 cA6 cA7 cA8 cA9 cA10 cA11
  refine (KI.out _ _ _ _ y VM3_y.out.in.all (HPW.out.stays B_y.out)).mono ?_
  rintro e w5 ⟨rfl, hb⟩
  have A_5 := A_y.below hb A_y.lt
  have X_5 := X_y.below hb X_y.lt
  have VV_5 := hide (VV_y.out.below hb)
  have VM3_5 := hide (VM3_y.out.below hb)
  have B_5 := hide (Below.step B_y.out hb (Nat.le_refl _))
  have hz5 := hb.size
  clear hb
  have cX0 : w5.cell? ⟨w4.heap.size, 0, none⟩ = some (.slice ao31 m.store.length cap31) := X_5.cell 0 (by simp)
  have cX1 : w5.cell? ⟨w4.heap.size, 1, none⟩ = some (.int .i64 m.rule.lc) := X_5.cell 1 (by simp)
  have cX2 : w5.cell? ⟨w4.heap.size, 2, none⟩ = some (.int .i64 m.rule.hc) := X_5.cell 2 (by simp)
  have cX3 : w5.cell? ⟨w4.heap.size, 3, none⟩ = some (.int .i64 m.rule.lm) := X_5.cell 3 (by simp)
  have cX4 : w5.cell? ⟨w4.heap.size, 4, none⟩ = some (.int .i64 m.rule.hm) := X_5.cell 4 (by simp)
  have cX5 : w5.cell? ⟨w4.heap.size, 5, none⟩ = some (.int .i64 m.rule.ls) := X_5.cell 5 (by simp)
  have cX6 : w5.cell? ⟨w4.heap.size, 6, none⟩ = some (.int .i64 m.rule.hs) := X_5.cell 6 (by simp)
  have cX7 : w5.cell? ⟨w4.heap.size, 7, none⟩ = some (.int .i64 m.strand) := X_5.cell 7 (by simp)
  have cX8 : w5.cell? ⟨w4.heap.size, 8, none⟩ = some (.slice ao32 m.pieces.length cap32) := X_5.cell 8 (by simp)
  have cX9 : w5.cell? ⟨w4.heap.size, 9, none⟩ = some (.slice ao33 m.low.length cap33) := X_5.cell 9 (by simp)
  have cX10 : w5.cell? ⟨w4.heap.size, 10, none⟩ = some (.slice ao34 m.high.length cap34) := X_5.cell 10 (by simp)
  have cX11 : w5.cell? ⟨w4.heap.size, 11, none⟩ = some (.int .i64 m.scrap) := X_5.cell 11 (by simp)
  have cA0 : w5.cell? ⟨w.heap.size, 0, none⟩ = some (.slice ao1 m.store.length cap1) := A_5.cell 0 (by simp)
  have cA1 : w5.cell? ⟨w.heap.size, 1, none⟩ = some (.int .i64 m.rule.lc) := A_5.cell 1 (by simp)
  have cA2 : w5.cell? ⟨w.heap.size, 2, none⟩ = some (.int .i64 m.rule.hc) := A_5.cell 2 (by simp)
  have cA3 : w5.cell? ⟨w.heap.size, 3, none⟩ = some (.int .i64 m.rule.lm) := A_5.cell 3 (by simp)
  have cA4 : w5.cell? ⟨w.heap.size, 4, none⟩ = some (.int .i64 m.rule.hm) := A_5.cell 4 (by simp)
  have cA5 : w5.cell? ⟨w.heap.size, 5, none⟩ = some (.int .i64 m.rule.ls) := A_5.cell 5 (by simp)
  have cA6 : w5.cell? ⟨w.heap.size, 6, none⟩ = some (.int .i64 m.rule.hs) := A_5.cell 6 (by simp)
  have cA7 : w5.cell? ⟨w.heap.size, 7, none⟩ = some (.int .i64 m.strand) := A_5.cell 7 (by simp)
  have cA8 : w5.cell? ⟨w.heap.size, 8, none⟩ = some (.slice ao2 m.pieces.length cap2) := A_5.cell 8 (by simp)
  have cA9 : w5.cell? ⟨w.heap.size, 9, none⟩ = some (.slice ao3 m.low.length cap3) := A_5.cell 9 (by simp)
  have cA10 : w5.cell? ⟨w.heap.size, 10, none⟩ = some (.slice ao4 m.high.length cap4) := A_5.cell 10 (by simp)
  have cA11 : w5.cell? ⟨w.heap.size, 11, none⟩ = some (.int .i64 m.scrap) := A_5.cell 11 (by simp)
  go_wp2_with fail
  have hbd : Below w5.heap.size w5 w5.drew := (Below.refl _ _).drew
  have VV_d := hide (VV_5.out.below hbd)
  have VM3_d := hide (VM3_5.out.below hbd)
  have A_d := hide (A_5.below hbd A_5.lt)
  have X_d := hide (X_5.below hbd X_5.lt)
  have B_d := hide (B_5.out.drew)
  clear hbd
  go_region_with (first
    | (go_at_call 18; refine (toMill_any _ _ _ _ m _ VV_d.out.all HSM.out).mono ?_; rintro e wa ⟨sa, pa, la, ha, rfl, hsa, hba⟩; have ca0 : wa.cell? ⟨w4.heap.size, 0, none⟩ = some (.slice ao31 m.store.length cap31) := (X_d.out.below hba X_d.out.lt).cell 0 (by simp); have ca1 : wa.cell? ⟨w4.heap.size, 1, none⟩ = some (.int .i64 m.rule.lc) := (X_d.out.below hba X_d.out.lt).cell 1 (by simp); have ca2 : wa.cell? ⟨w4.heap.size, 2, none⟩ = some (.int .i64 m.rule.hc) := (X_d.out.below hba X_d.out.lt).cell 2 (by simp); have ca3 : wa.cell? ⟨w4.heap.size, 3, none⟩ = some (.int .i64 m.rule.lm) := (X_d.out.below hba X_d.out.lt).cell 3 (by simp); have ca4 : wa.cell? ⟨w4.heap.size, 4, none⟩ = some (.int .i64 m.rule.hm) := (X_d.out.below hba X_d.out.lt).cell 4 (by simp); have ca5 : wa.cell? ⟨w4.heap.size, 5, none⟩ = some (.int .i64 m.rule.ls) := (X_d.out.below hba X_d.out.lt).cell 5 (by simp); have ca6 : wa.cell? ⟨w4.heap.size, 6, none⟩ = some (.int .i64 m.rule.hs) := (X_d.out.below hba X_d.out.lt).cell 6 (by simp); have ca7 : wa.cell? ⟨w4.heap.size, 7, none⟩ = some (.int .i64 m.strand) := (X_d.out.below hba X_d.out.lt).cell 7 (by simp); have ca8 : wa.cell? ⟨w4.heap.size, 8, none⟩ = some (.slice ao32 m.pieces.length cap32) := (X_d.out.below hba X_d.out.lt).cell 8 (by simp); have ca9 : wa.cell? ⟨w4.heap.size, 9, none⟩ = some (.slice ao33 m.low.length cap33) := (X_d.out.below hba X_d.out.lt).cell 9 (by simp); have ca10 : wa.cell? ⟨w4.heap.size, 10, none⟩ = some (.slice ao34 m.high.length cap34) := (X_d.out.below hba X_d.out.lt).cell 10 (by simp); have ca11 : wa.cell? ⟨w4.heap.size, 11, none⟩ = some (.int .i64 m.scrap) := (X_d.out.below hba X_d.out.lt).cell 11 (by simp))
    | (go_at_call 20; refine (eqMill_same _ _ _ _ _ _ _ _ m _ (VM3_d.out.in.below hba).all hsa.in.all).mono ?_; rintro e wb ⟨rfl, hbb⟩))
  all_goals
    have HF := hide (Below.step (Below.step B_d.out hba (Nat.le_refl _)) hbb (Nat.le_refl _))
    clear hba hbb hsa
    go_wp2_with fail
    go_ret
    exact ⟨rfl, HF.out⟩
end Go.Proofs.YtbafifilklfafaaDoor
