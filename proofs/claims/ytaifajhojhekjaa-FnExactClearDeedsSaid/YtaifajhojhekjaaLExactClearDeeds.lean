/-
  The walk over the law FnExactClearDeeds: it answers true, whatever the mill, and leaves all old memory alone.
-/
import Derived.Test.YtaifajhojhekjaaClearA
import Derived.Test.YtaifajhojhekjaaClearB
import Derived.Test.YtaifajhojhekjaaHelpO
import Derived.Deep.RegionWith
namespace Go.Proofs.Ytaifajhojhekjaa
open Go.RowKit

set_option maxRecDepth 10000 in
set_option maxHeartbeats 3200000 in
theorem law_ExactClearDeeds (s p l h : Value) (m : Mi) (w : World) (H : MillIn 0 w.heap.size w s p l h m) :
    Calls Try.prog 6 #[millV s p l h m] w fun e w' => e = .returned (.bool true) ∧ Below w.heap.size w w' := by
  obtain ⟨ao1, cap1, rfl, -, -, -, -⟩ := id H.store
  obtain ⟨ao2, cap2, rfl, -, -, -, -⟩ := id H.pieces
  obtain ⟨ao3, cap3, rfl, -, -, -, -⟩ := id H.low
  obtain ⟨ao4, cap4, rfl, -, -, -, -⟩ := id H.high
  have hql := clear_len m
  obtain ⟨q, hq⟩ : ∃ q, clearR m = q := ⟨_, rfl⟩
  have KS : ∀ s p l h w, MillIn 0 w.heap.size w s p l h m → Calls Try.prog 20 #[millV s p l h m] w fun e w' => ∃ v, e = .returned v ∧ JobsAt w.heap.size w'.heap.size w' v q ∧ Below w.heap.size w w' := fun s p l h w H => hq ▸ (clear_spec s p l h m w H).mono fun e w' ⟨v, h1, h2, h3⟩ => ⟨v, h1, ownD_at h2 rfl h3.size, h3⟩
  have KI : ∀ s p l h w, MillIn 0 w.heap.size w s p l h m → Calls Try.prog 21 #[millV s p l h m] w fun e w' => ∃ v, e = .returned v ∧ JobsAt w.heap.size w'.heap.size w' v q ∧ Below w.heap.size w w' := fun s p l h w H => hq ▸ (clear_impl s p l h m w H).mono fun e w' ⟨v, h1, h2, h3⟩ => ⟨v, h1, ownD_at h2 rfl h3.size, h3⟩
  have KS := hide KS
  have KI := hide KI
  rw [hq] at hql
  clear hq
  obtain ⟨n1, hn1, hn0⟩ : ∃ n : Int, 1 + 3 * (q.length : Int) = n ∧ 0 ≤ n := ⟨_, rfl, by omega⟩
  have hnn : (n1 != n1) = false := by simp
  have KE : ∀ (v v' : Value) (lo hi lo' hi' : Nat) (w : World), JobsAt lo hi w v q → JobsAt lo' hi' w v' q → Calls Try.prog 22 #[v, v'] w fun e w' => e = .returned (.bool true) ∧ Below w.heap.size w w' := fun v v' lo hi lo' hi' w a b => (eqMillDeedS_any v v' q q lo hi lo' hi' w a b).mono fun e w' ⟨h1, h2⟩ => ⟨by rw [h1]; simp, h2⟩
  have KK : ∀ (v : Value) (lo hi : Nat) (w : World), JobsAt lo hi w v q → Calls Try.prog 23 #[v, .int .i64 1] w fun e w' => e = .returned (.int .i64 n1) ∧ Other lo hi w w' ∧ ∃ ys, (ys.length = q.length ∧ ∀ (i : Nat) (_ : i < ys.length), ys[i] = mkJ (1 + 3 * (i : Int))) ∧ JobsAt lo hi w' v ys := fun v lo hi w a => (markMillDeedS_any v q lo hi 1 w a (by omega) (by omega) (by omega)).mono fun e w' ⟨h1, h2, ys, h3, h4, h5⟩ => ⟨by rw [h1, hn1], h2, ys, ⟨h3, h4⟩, h5⟩
  have KH : ∀ (v : Value) (ys : List J) (lo hi : Nat) (w : World), (ys.length = q.length ∧ ∀ (i : Nat) (_ : i < ys.length), ys[i] = mkJ (1 + 3 * (i : Int))) → JobsAt lo hi w v ys → Calls Try.prog 24 #[v, .int .i64 1] w fun e w' => e = .returned (.int .i64 n1) ∧ w = w' := fun v ys lo hi w a b => (heldMillDeedS_any v ys lo hi 1 w b (by omega) (by omega) (by omega) a.2).mono fun e w' ⟨h1, h2⟩ => ⟨by rw [h1, a.1, hn1], h2⟩
  have KE := hide KE
  have KK := hide KK
  have KH := hide KH
  clear hn1 hql
  unfold millV
  go_enter Try.func6, Try.ntmps6
  go_wp2_with fail
  refine calls_at fun wx hwx => ?_
  have A_0 : RowL wx (w.heap.size) 30 [.slice ao1 m.store.length cap1, .int .i64 m.rule.lc, .int .i64 m.rule.hc, .int .i64 m.rule.lm, .int .i64 m.rule.hm, .int .i64 m.rule.ls, .int .i64 m.rule.hs, .int .i64 m.strand, .slice ao2 m.pieces.length cap2, .slice ao3 m.low.length cap3, .slice ao4 m.high.length cap4, .int .i64 m.scrap] := by rw [hwx]; exact (RowL.new _ 30 [.slice ao1 m.store.length cap1, .int .i64 m.rule.lc, .int .i64 m.rule.hc, .int .i64 m.rule.lm, .int .i64 m.rule.hm, .int .i64 m.rule.ls, .int .i64 m.rule.hs, .int .i64 m.strand, .slice ao2 m.pieces.length cap2, .slice ao3 m.low.length cap3, .slice ao4 m.high.length cap4, .int .i64 m.scrap])
  have B_0 : Below w.heap.size w wx := by rw [hwx]; go_grown
  clear hwx
  have hL0 := A_0.lt
  have VV_0 := hide (H.below B_0)
  have KZ := szMill_any _ _ _ _ m 1048576 wx VV_0.out.all (by omega) (by omega)
  by_cases hbig : 1048576 < sizeM m
  · rw [szI_no (by omega)] at KZ
    refine KZ.mono ?_
    rintro e w1 ⟨rfl, hb⟩
    have HB := hide (Below.step B_0 hb (Nat.le_refl _))
    clear hb KZ
    go_wp2_with fail
    go_ret
    exact ⟨rfl, HB.out⟩
  rw [szI_yes (by omega)] at KZ
  obtain ⟨z, hz, hz0⟩ : ∃ z : Int, 1048576 - (sizeM m : Int) = z ∧ 0 ≤ z := ⟨_, rfl, by omega⟩
  rw [hz] at KZ
  have HSM := hide (show Small m by refine ⟨?_, ?_, ?_, ?_⟩ <;> unfold sizeM at hbig <;> omega)
  have hszm : sizeM m ≤ 1048576 := by omega
  obtain ⟨km, hkm, hkm0⟩ : ∃ k : Int, 1 + marksM m = k ∧ 0 ≤ k := ⟨_, rfl, by unfold marksM; omega⟩
  have KM : ∀ (s p l h : Value) (lo hi : Nat) (w : World), MillSep lo hi w s p l h m → Calls Try.prog 17 #[millV s p l h m, .int .i64 1] w fun e w' => e = .returned (.int .i64 km) ∧ Other lo hi w w' := fun s p l h lo hi w H => (markMill_any s p l h m lo hi w H hszm).mono fun e w' ⟨h1, h2, _⟩ => ⟨by rw [h1, hkm], h2⟩
  have KM := hide KM
  clear hz hbig hszm hkm
  refine (KZ).mono ?_
  rintro e w1 ⟨rfl, hb⟩
  have A_1 := A_0.below hb A_0.lt
  have VV_1 := hide (VV_0.out.below hb)
  have B_1 := hide (Below.step B_0 hb (Nat.le_refl _))
  have hz1 := hb.size
  clear hb
  have cA0 : w1.cell? ⟨w.heap.size, 0, none⟩ = some (.slice ao1 m.store.length cap1) := A_1.cell 0 (by simp)
  have cA1 : w1.cell? ⟨w.heap.size, 1, none⟩ = some (.int .i64 m.rule.lc) := A_1.cell 1 (by simp)
  have cA2 : w1.cell? ⟨w.heap.size, 2, none⟩ = some (.int .i64 m.rule.hc) := A_1.cell 2 (by simp)
  have cA3 : w1.cell? ⟨w.heap.size, 3, none⟩ = some (.int .i64 m.rule.lm) := A_1.cell 3 (by simp)
  have cA4 : w1.cell? ⟨w.heap.size, 4, none⟩ = some (.int .i64 m.rule.hm) := A_1.cell 4 (by simp)
  have cA5 : w1.cell? ⟨w.heap.size, 5, none⟩ = some (.int .i64 m.rule.ls) := A_1.cell 5 (by simp)
  have cA6 : w1.cell? ⟨w.heap.size, 6, none⟩ = some (.int .i64 m.rule.hs) := A_1.cell 6 (by simp)
  have cA7 : w1.cell? ⟨w.heap.size, 7, none⟩ = some (.int .i64 m.strand) := A_1.cell 7 (by simp)
  have cA8 : w1.cell? ⟨w.heap.size, 8, none⟩ = some (.slice ao2 m.pieces.length cap2) := A_1.cell 8 (by simp)
  have cA9 : w1.cell? ⟨w.heap.size, 9, none⟩ = some (.slice ao3 m.low.length cap3) := A_1.cell 9 (by simp)
  have cA10 : w1.cell? ⟨w.heap.size, 10, none⟩ = some (.slice ao4 m.high.length cap4) := A_1.cell 10 (by simp)
  have cA11 : w1.cell? ⟨w.heap.size, 11, none⟩ = some (.int .i64 m.scrap) := A_1.cell 11 (by simp)
  clear KZ
  go_wp2_with fail
  clear cA0 cA1 cA2 cA3 cA4 cA5 cA6 cA7 cA8 cA9 cA10 cA11
  refine (toMill_any _ _ _ _ m w1 VV_1.out.all HSM.out).mono ?_
  rintro e w2 ⟨s2, p2, l2, h2, rfl, hsep, hb⟩
  have A_2 := A_1.below hb A_1.lt
  have VV_2 := hide (VV_1.out.below hb)
  have B_2 := hide (Below.step B_1.out hb (Nat.le_refl _))
  have hz2 := hb.size
  clear hb
  have VM2_2 := hide hsep
  clear hsep
  unfold millV
  have cA0 : w2.cell? ⟨w.heap.size, 0, none⟩ = some (.slice ao1 m.store.length cap1) := A_2.cell 0 (by simp)
  have cA1 : w2.cell? ⟨w.heap.size, 1, none⟩ = some (.int .i64 m.rule.lc) := A_2.cell 1 (by simp)
  have cA2 : w2.cell? ⟨w.heap.size, 2, none⟩ = some (.int .i64 m.rule.hc) := A_2.cell 2 (by simp)
  have cA3 : w2.cell? ⟨w.heap.size, 3, none⟩ = some (.int .i64 m.rule.lm) := A_2.cell 3 (by simp)
  have cA4 : w2.cell? ⟨w.heap.size, 4, none⟩ = some (.int .i64 m.rule.hm) := A_2.cell 4 (by simp)
  have cA5 : w2.cell? ⟨w.heap.size, 5, none⟩ = some (.int .i64 m.rule.ls) := A_2.cell 5 (by simp)
  have cA6 : w2.cell? ⟨w.heap.size, 6, none⟩ = some (.int .i64 m.rule.hs) := A_2.cell 6 (by simp)
  have cA7 : w2.cell? ⟨w.heap.size, 7, none⟩ = some (.int .i64 m.strand) := A_2.cell 7 (by simp)
  have cA8 : w2.cell? ⟨w.heap.size, 8, none⟩ = some (.slice ao2 m.pieces.length cap2) := A_2.cell 8 (by simp)
  have cA9 : w2.cell? ⟨w.heap.size, 9, none⟩ = some (.slice ao3 m.low.length cap3) := A_2.cell 9 (by simp)
  have cA10 : w2.cell? ⟨w.heap.size, 10, none⟩ = some (.slice ao4 m.high.length cap4) := A_2.cell 10 (by simp)
  have cA11 : w2.cell? ⟨w.heap.size, 11, none⟩ = some (.int .i64 m.scrap) := A_2.cell 11 (by simp)
  go_wp2_with fail
  clear cA0 cA1 cA2 cA3 cA4 cA5 cA6 cA7 cA8 cA9 cA10 cA11
  refine (KS.out _ _ _ _ w2 VM2_2.out.in.all).mono ?_
  rintro e w3 ⟨v6, rfl, hn, hb⟩
  have A_3 := A_2.below hb A_2.lt
  have VV_3 := hide (VV_2.out.below hb)
  have VR_3 := hide hn
  have ltR := (hn).lt
  have B_3 := hide (Below.step B_2.out hb (Nat.le_refl _))
  have hz3 := hb.size
  clear hb
  have cA0 : w3.cell? ⟨w.heap.size, 0, none⟩ = some (.slice ao1 m.store.length cap1) := A_3.cell 0 (by simp)
  have cA1 : w3.cell? ⟨w.heap.size, 1, none⟩ = some (.int .i64 m.rule.lc) := A_3.cell 1 (by simp)
  have cA2 : w3.cell? ⟨w.heap.size, 2, none⟩ = some (.int .i64 m.rule.hc) := A_3.cell 2 (by simp)
  have cA3 : w3.cell? ⟨w.heap.size, 3, none⟩ = some (.int .i64 m.rule.lm) := A_3.cell 3 (by simp)
  have cA4 : w3.cell? ⟨w.heap.size, 4, none⟩ = some (.int .i64 m.rule.hm) := A_3.cell 4 (by simp)
  have cA5 : w3.cell? ⟨w.heap.size, 5, none⟩ = some (.int .i64 m.rule.ls) := A_3.cell 5 (by simp)
  have cA6 : w3.cell? ⟨w.heap.size, 6, none⟩ = some (.int .i64 m.rule.hs) := A_3.cell 6 (by simp)
  have cA7 : w3.cell? ⟨w.heap.size, 7, none⟩ = some (.int .i64 m.strand) := A_3.cell 7 (by simp)
  have cA8 : w3.cell? ⟨w.heap.size, 8, none⟩ = some (.slice ao2 m.pieces.length cap2) := A_3.cell 8 (by simp)
  have cA9 : w3.cell? ⟨w.heap.size, 9, none⟩ = some (.slice ao3 m.low.length cap3) := A_3.cell 9 (by simp)
  have cA10 : w3.cell? ⟨w.heap.size, 10, none⟩ = some (.slice ao4 m.high.length cap4) := A_3.cell 10 (by simp)
  have cA11 : w3.cell? ⟨w.heap.size, 11, none⟩ = some (.int .i64 m.scrap) := A_3.cell 11 (by simp)
  clear hn
  go_wp2_with fail
  clear cA0 cA1 cA2 cA3 cA4 cA5 cA6 cA7 cA8 cA9 cA10 cA11
  refine (toMill_any _ _ _ _ m w3 VV_3.out.all HSM.out).mono ?_
  rintro e w4 ⟨s3, p3, l3, h3, rfl, hsep, hb⟩
  have A_4 := A_3.below hb A_3.lt
  have VV_4 := hide (VV_3.out.below hb)
  have VR_4 := hide (VR_3.out.below hb)
  have B_4 := hide (Below.step B_3.out hb (Nat.le_refl _))
  have hz4 := hb.size
  clear hb
  have VM3_4 := hide hsep
  obtain ⟨ao31, cap31, rfl, -, -, -, -⟩ := id hsep.in.store
  obtain ⟨ao32, cap32, rfl, -, -, -, -⟩ := id hsep.in.pieces
  obtain ⟨ao33, cap33, rfl, -, -, -, -⟩ := id hsep.in.low
  obtain ⟨ao34, cap34, rfl, -, -, -, -⟩ := id hsep.in.high
  clear hsep
  unfold millV
  have cA0 : w4.cell? ⟨w.heap.size, 0, none⟩ = some (.slice ao1 m.store.length cap1) := A_4.cell 0 (by simp)
  have cA1 : w4.cell? ⟨w.heap.size, 1, none⟩ = some (.int .i64 m.rule.lc) := A_4.cell 1 (by simp)
  have cA2 : w4.cell? ⟨w.heap.size, 2, none⟩ = some (.int .i64 m.rule.hc) := A_4.cell 2 (by simp)
  have cA3 : w4.cell? ⟨w.heap.size, 3, none⟩ = some (.int .i64 m.rule.lm) := A_4.cell 3 (by simp)
  have cA4 : w4.cell? ⟨w.heap.size, 4, none⟩ = some (.int .i64 m.rule.hm) := A_4.cell 4 (by simp)
  have cA5 : w4.cell? ⟨w.heap.size, 5, none⟩ = some (.int .i64 m.rule.ls) := A_4.cell 5 (by simp)
  have cA6 : w4.cell? ⟨w.heap.size, 6, none⟩ = some (.int .i64 m.rule.hs) := A_4.cell 6 (by simp)
  have cA7 : w4.cell? ⟨w.heap.size, 7, none⟩ = some (.int .i64 m.strand) := A_4.cell 7 (by simp)
  have cA8 : w4.cell? ⟨w.heap.size, 8, none⟩ = some (.slice ao2 m.pieces.length cap2) := A_4.cell 8 (by simp)
  have cA9 : w4.cell? ⟨w.heap.size, 9, none⟩ = some (.slice ao3 m.low.length cap3) := A_4.cell 9 (by simp)
  have cA10 : w4.cell? ⟨w.heap.size, 10, none⟩ = some (.slice ao4 m.high.length cap4) := A_4.cell 10 (by simp)
  have cA11 : w4.cell? ⟨w.heap.size, 11, none⟩ = some (.int .i64 m.scrap) := A_4.cell 11 (by simp)
  go_wp2_with fail
  refine calls_at fun y hwy => ?_
  have X_y : RowL y (w4.heap.size) 38 [.slice ao31 m.store.length cap31, .int .i64 m.rule.lc, .int .i64 m.rule.hc, .int .i64 m.rule.lm, .int .i64 m.rule.hm, .int .i64 m.rule.ls, .int .i64 m.rule.hs, .int .i64 m.strand, .slice ao32 m.pieces.length cap32, .slice ao33 m.low.length cap33, .slice ao34 m.high.length cap34, .int .i64 m.scrap] := by rw [hwy]; exact RowL.new _ _ _
  have hby : Below w4.heap.size w4 y := by rw [hwy]; exact (Below.refl _ _).alloc (Nat.le_refl _) _
  have A_y := A_4.below hby A_4.lt
  have VV_y := hide (VV_4.out.below hby)
  have VR_y := hide (VR_4.out.below hby)
  have VM3_y := hide (VM3_4.out.below hby)
  have B_y := hide (Below.step B_4.out hby (Nat.le_refl _))
  have hzy := hby.size
  have hzX := X_y.lt
  clear hwy hby
  clear cA0 cA1 cA2 cA3 cA4 cA5 cA6 cA7 cA8 cA9 cA10 cA11
  refine (KI.out _ _ _ _ y VM3_y.out.in.all).mono ?_
  rintro e w5 ⟨v8, rfl, hn, hb⟩
  have A_5 := A_y.below hb A_y.lt
  have X_5 := X_y.below hb X_y.lt
  have VV_5 := hide (VV_y.out.below hb)
  have VR_5 := hide (VR_y.out.below hb)
  have VM3_5 := hide (VM3_y.out.below hb)
  have VG_5 := hide hn
  have ltG := (hn).lt
  have B_5 := hide (Below.step B_y.out hb (Nat.le_refl _))
  have hz5 := hb.size
  clear hb
  have cX0 : w5.cell? ⟨w4.heap.size, 0, none⟩ = some (.slice ao31 m.store.length cap31) := X_5.cell 0 (by simp)
  have cX1 : w5.cell? ⟨w4.heap.size, 1, none⟩ = some (.int .i64 m.rule.lc) := X_5.cell 1 (by simp)
  have cX2 : w5.cell? ⟨w4.heap.size, 2, none⟩ = some (.int .i64 m.rule.hc) := X_5.cell 2 (by simp)
  have cX3 : w5.cell? ⟨w4.heap.size, 3, none⟩ = some (.int .i64 m.rule.lm) := X_5.cell 3 (by simp)
  have cX4 : w5.cell? ⟨w4.heap.size, 4, none⟩ = some (.int .i64 m.rule.hm) := X_5.cell 4 (by simp)
  have cX5 : w5.cell? ⟨w4.heap.size, 5, none⟩ = some (.int .i64 m.rule.ls) := X_5.cell 5 (by simp)
  have cX6 : w5.cell? ⟨w4.heap.size, 6, none⟩ = some (.int .i64 m.rule.hs) := X_5.cell 6 (by simp)
  have cX7 : w5.cell? ⟨w4.heap.size, 7, none⟩ = some (.int .i64 m.strand) := X_5.cell 7 (by simp)
  have cX8 : w5.cell? ⟨w4.heap.size, 8, none⟩ = some (.slice ao32 m.pieces.length cap32) := X_5.cell 8 (by simp)
  have cX9 : w5.cell? ⟨w4.heap.size, 9, none⟩ = some (.slice ao33 m.low.length cap33) := X_5.cell 9 (by simp)
  have cX10 : w5.cell? ⟨w4.heap.size, 10, none⟩ = some (.slice ao34 m.high.length cap34) := X_5.cell 10 (by simp)
  have cX11 : w5.cell? ⟨w4.heap.size, 11, none⟩ = some (.int .i64 m.scrap) := X_5.cell 11 (by simp)
  have cA0 : w5.cell? ⟨w.heap.size, 0, none⟩ = some (.slice ao1 m.store.length cap1) := A_5.cell 0 (by simp)
  have cA1 : w5.cell? ⟨w.heap.size, 1, none⟩ = some (.int .i64 m.rule.lc) := A_5.cell 1 (by simp)
  have cA2 : w5.cell? ⟨w.heap.size, 2, none⟩ = some (.int .i64 m.rule.hc) := A_5.cell 2 (by simp)
  have cA3 : w5.cell? ⟨w.heap.size, 3, none⟩ = some (.int .i64 m.rule.lm) := A_5.cell 3 (by simp)
  have cA4 : w5.cell? ⟨w.heap.size, 4, none⟩ = some (.int .i64 m.rule.hm) := A_5.cell 4 (by simp)
  have cA5 : w5.cell? ⟨w.heap.size, 5, none⟩ = some (.int .i64 m.rule.ls) := A_5.cell 5 (by simp)
  have cA6 : w5.cell? ⟨w.heap.size, 6, none⟩ = some (.int .i64 m.rule.hs) := A_5.cell 6 (by simp)
  have cA7 : w5.cell? ⟨w.heap.size, 7, none⟩ = some (.int .i64 m.strand) := A_5.cell 7 (by simp)
  have cA8 : w5.cell? ⟨w.heap.size, 8, none⟩ = some (.slice ao2 m.pieces.length cap2) := A_5.cell 8 (by simp)
  have cA9 : w5.cell? ⟨w.heap.size, 9, none⟩ = some (.slice ao3 m.low.length cap3) := A_5.cell 9 (by simp)
  have cA10 : w5.cell? ⟨w.heap.size, 10, none⟩ = some (.slice ao4 m.high.length cap4) := A_5.cell 10 (by simp)
  have cA11 : w5.cell? ⟨w.heap.size, 11, none⟩ = some (.int .i64 m.scrap) := A_5.cell 11 (by simp)
  clear hn
  go_wp2_with fail
  clear cX0 cX1 cX2 cX3 cX4 cX5 cX6 cX7 cX8 cX9 cX10 cX11 cA0 cA1 cA2 cA3 cA4 cA5 cA6 cA7 cA8 cA9 cA10 cA11
  refine (KE.out _ _ _ _ _ _ w5 VG_5.out VR_5.out).mono ?_
  rintro e w6 ⟨rfl, hb⟩
  have A_6 := A_5.below hb A_5.lt
  have X_6 := X_5.below hb X_5.lt
  have VV_6 := hide (VV_5.out.below hb)
  have VR_6 := hide (VR_5.out.below hb)
  have VM3_6 := hide (VM3_5.out.below hb)
  have VG_6 := hide (VG_5.out.below hb)
  have B_6 := hide (Below.step B_5.out hb (Nat.le_refl _))
  have hz6 := hb.size
  clear hb
  have cX0 : w6.cell? ⟨w4.heap.size, 0, none⟩ = some (.slice ao31 m.store.length cap31) := X_6.cell 0 (by simp)
  have cX1 : w6.cell? ⟨w4.heap.size, 1, none⟩ = some (.int .i64 m.rule.lc) := X_6.cell 1 (by simp)
  have cX2 : w6.cell? ⟨w4.heap.size, 2, none⟩ = some (.int .i64 m.rule.hc) := X_6.cell 2 (by simp)
  have cX3 : w6.cell? ⟨w4.heap.size, 3, none⟩ = some (.int .i64 m.rule.lm) := X_6.cell 3 (by simp)
  have cX4 : w6.cell? ⟨w4.heap.size, 4, none⟩ = some (.int .i64 m.rule.hm) := X_6.cell 4 (by simp)
  have cX5 : w6.cell? ⟨w4.heap.size, 5, none⟩ = some (.int .i64 m.rule.ls) := X_6.cell 5 (by simp)
  have cX6 : w6.cell? ⟨w4.heap.size, 6, none⟩ = some (.int .i64 m.rule.hs) := X_6.cell 6 (by simp)
  have cX7 : w6.cell? ⟨w4.heap.size, 7, none⟩ = some (.int .i64 m.strand) := X_6.cell 7 (by simp)
  have cX8 : w6.cell? ⟨w4.heap.size, 8, none⟩ = some (.slice ao32 m.pieces.length cap32) := X_6.cell 8 (by simp)
  have cX9 : w6.cell? ⟨w4.heap.size, 9, none⟩ = some (.slice ao33 m.low.length cap33) := X_6.cell 9 (by simp)
  have cX10 : w6.cell? ⟨w4.heap.size, 10, none⟩ = some (.slice ao34 m.high.length cap34) := X_6.cell 10 (by simp)
  have cX11 : w6.cell? ⟨w4.heap.size, 11, none⟩ = some (.int .i64 m.scrap) := X_6.cell 11 (by simp)
  have cA0 : w6.cell? ⟨w.heap.size, 0, none⟩ = some (.slice ao1 m.store.length cap1) := A_6.cell 0 (by simp)
  have cA1 : w6.cell? ⟨w.heap.size, 1, none⟩ = some (.int .i64 m.rule.lc) := A_6.cell 1 (by simp)
  have cA2 : w6.cell? ⟨w.heap.size, 2, none⟩ = some (.int .i64 m.rule.hc) := A_6.cell 2 (by simp)
  have cA3 : w6.cell? ⟨w.heap.size, 3, none⟩ = some (.int .i64 m.rule.lm) := A_6.cell 3 (by simp)
  have cA4 : w6.cell? ⟨w.heap.size, 4, none⟩ = some (.int .i64 m.rule.hm) := A_6.cell 4 (by simp)
  have cA5 : w6.cell? ⟨w.heap.size, 5, none⟩ = some (.int .i64 m.rule.ls) := A_6.cell 5 (by simp)
  have cA6 : w6.cell? ⟨w.heap.size, 6, none⟩ = some (.int .i64 m.rule.hs) := A_6.cell 6 (by simp)
  have cA7 : w6.cell? ⟨w.heap.size, 7, none⟩ = some (.int .i64 m.strand) := A_6.cell 7 (by simp)
  have cA8 : w6.cell? ⟨w.heap.size, 8, none⟩ = some (.slice ao2 m.pieces.length cap2) := A_6.cell 8 (by simp)
  have cA9 : w6.cell? ⟨w.heap.size, 9, none⟩ = some (.slice ao3 m.low.length cap3) := A_6.cell 9 (by simp)
  have cA10 : w6.cell? ⟨w.heap.size, 10, none⟩ = some (.slice ao4 m.high.length cap4) := A_6.cell 10 (by simp)
  have cA11 : w6.cell? ⟨w.heap.size, 11, none⟩ = some (.int .i64 m.scrap) := A_6.cell 11 (by simp)
  go_wp2_with fail
  have hbd : Below w6.heap.size w6 w6.drew := (Below.refl _ _).drew
  have VV_d := hide (VV_6.out.below hbd)
  have VR_d := hide (VR_6.out.below hbd)
  have VM3_d := hide (VM3_6.out.below hbd)
  have VG_d := hide (VG_6.out.below hbd)
  have A_d := hide (A_6.below hbd A_6.lt)
  have X_d := hide (X_6.below hbd X_6.lt)
  have B_d := hide (B_6.out.drew)
  have hzd := hbd.size
  clear hbd
  go_region_with (first
    | (go_at_call 9; refine (toMill_any _ _ _ _ m _ VV_d.out.all HSM.out).mono ?_; rintro e wa ⟨sa, pa, la, ha, rfl, hsa, hba⟩; have ca0 : wa.cell? ⟨w4.heap.size, 0, none⟩ = some (.slice ao31 m.store.length cap31) := (X_d.out.below hba X_d.out.lt).cell 0 (by simp); have ca1 : wa.cell? ⟨w4.heap.size, 1, none⟩ = some (.int .i64 m.rule.lc) := (X_d.out.below hba X_d.out.lt).cell 1 (by simp); have ca2 : wa.cell? ⟨w4.heap.size, 2, none⟩ = some (.int .i64 m.rule.hc) := (X_d.out.below hba X_d.out.lt).cell 2 (by simp); have ca3 : wa.cell? ⟨w4.heap.size, 3, none⟩ = some (.int .i64 m.rule.lm) := (X_d.out.below hba X_d.out.lt).cell 3 (by simp); have ca4 : wa.cell? ⟨w4.heap.size, 4, none⟩ = some (.int .i64 m.rule.hm) := (X_d.out.below hba X_d.out.lt).cell 4 (by simp); have ca5 : wa.cell? ⟨w4.heap.size, 5, none⟩ = some (.int .i64 m.rule.ls) := (X_d.out.below hba X_d.out.lt).cell 5 (by simp); have ca6 : wa.cell? ⟨w4.heap.size, 6, none⟩ = some (.int .i64 m.rule.hs) := (X_d.out.below hba X_d.out.lt).cell 6 (by simp); have ca7 : wa.cell? ⟨w4.heap.size, 7, none⟩ = some (.int .i64 m.strand) := (X_d.out.below hba X_d.out.lt).cell 7 (by simp); have ca8 : wa.cell? ⟨w4.heap.size, 8, none⟩ = some (.slice ao32 m.pieces.length cap32) := (X_d.out.below hba X_d.out.lt).cell 8 (by simp); have ca9 : wa.cell? ⟨w4.heap.size, 9, none⟩ = some (.slice ao33 m.low.length cap33) := (X_d.out.below hba X_d.out.lt).cell 9 (by simp); have ca10 : wa.cell? ⟨w4.heap.size, 10, none⟩ = some (.slice ao34 m.high.length cap34) := (X_d.out.below hba X_d.out.lt).cell 10 (by simp); have ca11 : wa.cell? ⟨w4.heap.size, 11, none⟩ = some (.int .i64 m.scrap) := (X_d.out.below hba X_d.out.lt).cell 11 (by simp))
    | (go_at_call 11; refine (eqMill_same _ _ _ _ _ _ _ _ m _ (VM3_d.out.in.below hba).all hsa.in.all).mono ?_; rintro e wb ⟨rfl, hbb⟩))
  all_goals
    clear cX0 cX1 cX2 cX3 cX4 cX5 cX6 cX7 cX8 cX9 cX10 cX11 cA0 cA1 cA2 cA3 cA4 cA5 cA6 cA7 cA8 cA9 cA10 cA11
    have A_b := (A_d.out.below hba A_d.out.lt).below hbb (A_d.out.below hba A_d.out.lt).lt
    have X_b := (X_d.out.below hba X_d.out.lt).below hbb (X_d.out.below hba X_d.out.lt).lt
    have VV_b := hide ((VV_d.out.below hba).below hbb)
    have VR_b := hide ((VR_d.out.below hba).below hbb)
    have VM3_b := hide ((VM3_d.out.below hba).below hbb)
    have VG_b := hide ((VG_d.out.below hba).below hbb)
    have B_b := hide (Below.step (Below.step B_d.out hba (Nat.le_refl _)) hbb (Nat.le_refl _))
    have hzb := hbb.size
    have hza := hba.size
    have hL9 := A_b.lt
    have hL8 := X_b.lt
    clear hba hbb hsa
    clear ca0 ca1 ca2 ca3 ca4 ca5 ca6 ca7 ca8 ca9 ca10 ca11
    have cX0 : wb.cell? ⟨w4.heap.size, 0, none⟩ = some (.slice ao31 m.store.length cap31) := X_b.cell 0 (by simp)
    have cX1 : wb.cell? ⟨w4.heap.size, 1, none⟩ = some (.int .i64 m.rule.lc) := X_b.cell 1 (by simp)
    have cX2 : wb.cell? ⟨w4.heap.size, 2, none⟩ = some (.int .i64 m.rule.hc) := X_b.cell 2 (by simp)
    have cX3 : wb.cell? ⟨w4.heap.size, 3, none⟩ = some (.int .i64 m.rule.lm) := X_b.cell 3 (by simp)
    have cX4 : wb.cell? ⟨w4.heap.size, 4, none⟩ = some (.int .i64 m.rule.hm) := X_b.cell 4 (by simp)
    have cX5 : wb.cell? ⟨w4.heap.size, 5, none⟩ = some (.int .i64 m.rule.ls) := X_b.cell 5 (by simp)
    have cX6 : wb.cell? ⟨w4.heap.size, 6, none⟩ = some (.int .i64 m.rule.hs) := X_b.cell 6 (by simp)
    have cX7 : wb.cell? ⟨w4.heap.size, 7, none⟩ = some (.int .i64 m.strand) := X_b.cell 7 (by simp)
    have cX8 : wb.cell? ⟨w4.heap.size, 8, none⟩ = some (.slice ao32 m.pieces.length cap32) := X_b.cell 8 (by simp)
    have cX9 : wb.cell? ⟨w4.heap.size, 9, none⟩ = some (.slice ao33 m.low.length cap33) := X_b.cell 9 (by simp)
    have cX10 : wb.cell? ⟨w4.heap.size, 10, none⟩ = some (.slice ao34 m.high.length cap34) := X_b.cell 10 (by simp)
    have cX11 : wb.cell? ⟨w4.heap.size, 11, none⟩ = some (.int .i64 m.scrap) := X_b.cell 11 (by simp)
    go_wp2_with fail
    clear cX0 cX1 cX2 cX3 cX4 cX5 cX6 cX7 cX8 cX9 cX10 cX11
    refine (KM.out _ _ _ _ _ _ wb VM3_b.out).mono ?_
    rintro e u1 ⟨rfl, ho⟩
    have A_u1 := A_b.other ho (by omega)
    have X_u1 := X_b.other ho (by omega)
    have VV_u1 := hide (VV_b.out.other ho (by omega))
    have VR_u1 := hide (VR_b.out.other ho (by omega))
    have VG_u1 := hide (VG_b.out.other ho (by omega))
    have B_u1 := hide (B_b.out.trans (ho.below (B := w.heap.size) (by omega) (by omega)))
    have hzu1 := ho.size
    clear ho
    go_wp2_with fail
    refine (KE.out _ _ _ _ _ _ u1 VG_u1.out VR_u1.out).mono ?_
    rintro e w7 ⟨rfl, hb⟩
    have A_7 := A_u1.below hb A_u1.lt
    have X_7 := X_u1.below hb X_u1.lt
    have VV_7 := hide (VV_u1.out.below hb)
    have VR_7 := hide (VR_u1.out.below hb)
    have VG_7 := hide (VG_u1.out.below hb)
    have B_7 := hide (Below.step B_u1.out hb (Nat.le_refl _))
    have hz7 := hb.size
    clear hb
    go_wp2_with fail
    refine (KK.out _ _ _ w7 VG_7.out).mono ?_
    rintro e u2 ⟨rfl, ho, ys, hys, hn⟩
    have A_u2 := A_7.other ho (by omega)
    have X_u2 := X_7.other ho (by omega)
    have VV_u2 := hide (VV_7.out.other ho (by omega))
    have VR_u2 := hide (VR_7.out.other ho (by omega))
    have VG_u2 := hide hn
    have B_u2 := hide (B_7.out.trans (ho.below (B := w.heap.size) (by omega) (by omega)))
    have hzu2 := ho.size
    clear ho
    have HY := hide hys
    clear hn hys
    go_wp2_with fail
    refine (KH.out _ _ _ _ u2 HY.out VG_u2.out).mono ?_
    rintro e wq ⟨rfl, rfl⟩
    have cA0 : u2.cell? ⟨w.heap.size, 0, none⟩ = some (.slice ao1 m.store.length cap1) := A_u2.cell 0 (by simp)
    have cA1 : u2.cell? ⟨w.heap.size, 1, none⟩ = some (.int .i64 m.rule.lc) := A_u2.cell 1 (by simp)
    have cA2 : u2.cell? ⟨w.heap.size, 2, none⟩ = some (.int .i64 m.rule.hc) := A_u2.cell 2 (by simp)
    have cA3 : u2.cell? ⟨w.heap.size, 3, none⟩ = some (.int .i64 m.rule.lm) := A_u2.cell 3 (by simp)
    have cA4 : u2.cell? ⟨w.heap.size, 4, none⟩ = some (.int .i64 m.rule.hm) := A_u2.cell 4 (by simp)
    have cA5 : u2.cell? ⟨w.heap.size, 5, none⟩ = some (.int .i64 m.rule.ls) := A_u2.cell 5 (by simp)
    have cA6 : u2.cell? ⟨w.heap.size, 6, none⟩ = some (.int .i64 m.rule.hs) := A_u2.cell 6 (by simp)
    have cA7 : u2.cell? ⟨w.heap.size, 7, none⟩ = some (.int .i64 m.strand) := A_u2.cell 7 (by simp)
    have cA8 : u2.cell? ⟨w.heap.size, 8, none⟩ = some (.slice ao2 m.pieces.length cap2) := A_u2.cell 8 (by simp)
    have cA9 : u2.cell? ⟨w.heap.size, 9, none⟩ = some (.slice ao3 m.low.length cap3) := A_u2.cell 9 (by simp)
    have cA10 : u2.cell? ⟨w.heap.size, 10, none⟩ = some (.slice ao4 m.high.length cap4) := A_u2.cell 10 (by simp)
    have cA11 : u2.cell? ⟨w.heap.size, 11, none⟩ = some (.int .i64 m.scrap) := A_u2.cell 11 (by simp)
    go_wp2_with fail
    clear cA0 cA1 cA2 cA3 cA4 cA5 cA6 cA7 cA8 cA9 cA10 cA11
    refine (toMill_any _ _ _ _ m u2 VV_u2.out.all HSM.out).mono ?_
    rintro e w8 ⟨s4, p4, l4, h4, rfl, hsep, hb⟩
    have A_8 := A_u2.below hb A_u2.lt
    have X_8 := X_u2.below hb X_u2.lt
    have VV_8 := hide (VV_u2.out.below hb)
    have VR_8 := hide (VR_u2.out.below hb)
    have VG_8 := hide (VG_u2.out.below hb)
    have B_8 := hide (Below.step B_u2.out hb (Nat.le_refl _))
    have hz8 := hb.size
    clear hb
    have VM4_8 := hide hsep
    clear hsep
    unfold millV
    go_wp2_with fail
    refine (KI.out _ _ _ _ w8 VM4_8.out.in.all).mono ?_
    rintro e w9 ⟨v12, rfl, hn, hb⟩
    have A_9 := A_8.below hb A_8.lt
    have X_9 := X_8.below hb X_8.lt
    have VV_9 := hide (VV_8.out.below hb)
    have VR_9 := hide (VR_8.out.below hb)
    have VG_9 := hide (VG_8.out.below hb)
    have VS_9 := hide hn
    have ltS := (hn).lt
    have B_9 := hide (Below.step B_8.out hb (Nat.le_refl _))
    have hz9 := hb.size
    clear hb
    clear hn
    go_wp2_with fail
    refine (KE.out _ _ _ _ _ _ w9 VS_9.out VR_9.out).mono ?_
    rintro e w10 ⟨rfl, hb⟩
    have A_10 := A_9.below hb A_9.lt
    have X_10 := X_9.below hb X_9.lt
    have VV_10 := hide (VV_9.out.below hb)
    have VR_10 := hide (VR_9.out.below hb)
    have VG_10 := hide (VG_9.out.below hb)
    have VS_10 := hide (VS_9.out.below hb)
    have B_10 := hide (Below.step B_9.out hb (Nat.le_refl _))
    have hz10 := hb.size
    clear hb
    go_wp2_with fail
    refine (KH.out _ _ _ _ w10 HY.out VG_10.out).mono ?_
    rintro e wq ⟨rfl, rfl⟩
    go_wp2_with fail
    go_ret
    exact ⟨rfl, B_10.out⟩
end Go.Proofs.Ytaifajhojhekjaa
