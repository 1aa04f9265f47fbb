/-
  The walk over the law FnExactMillRun: it answers true, whatever the arguments, and leaves all old memory alone.
-/
import Derived.Test.YtajjnciookhamaaGreatM45
import Derived.Test.YtajjnciookhamaaGreatM46
import Derived.Test.YtajjnciookhamaaGreatM34
import Derived.Test.YtajjnciookhamaaGreatM36
import Derived.Deep.RegionWith
import Derived.Deep.RegionHeld
import Derived.Deep.CutRange
namespace Go.Proofs.YtajjnciookhamaaGreat
open Go.RowKit

set_option linter.unusedVariables false in
set_option linter.unusedSimpArgs false in
set_option maxRecDepth 10000 in
set_option maxHeartbeats 16000000 in
theorem law_ExactMillRun (s p l h : Value) (m : Mi) (v : Value) (js : List J) (w : World) (H : MillIn 0 w.heap.size w s p l h m) (Hj : JobsAt 0 w.heap.size w v js) (hr : ∀ j ∈ js, j.d ≤ 9223372036854775807 ∧ j.g ≤ 9223372036854775807) :
    Calls Tryz.prog 4 #[millV s p l h m, v] w fun e w' => e = .returned (.bool true) ∧ Below w.heap.size w w' := by
  obtain ⟨ao1, cap1, rfl, -, -, -, -⟩ := id H.store
  obtain ⟨ao2, cap2, rfl, -, -, -, -⟩ := id H.pieces
  obtain ⟨ao3, cap3, rfl, -, -, -, -⟩ := id H.low
  obtain ⟨ao4, cap4, rfl, -, -, -, -⟩ := id H.high
  have hys := small_run m js
  obtain ⟨⟨y, n⟩, hy⟩ : ∃ z, runR m js = z := ⟨_, rfl⟩
  obtain ⟨aoj, capj, rfl, -, -, -, -⟩ := id Hj
  have HR := hide hr
  have KS : ∀ s p l h w, MillIn 0 w.heap.size w s p l h m → ∀ v, JobsAt 0 w.heap.size w v js → Calls Tryz.prog 14 #[millV s p l h m, v] w fun e w' => ∃ s' p' l' h', e = .returned (.tuple #[millV s' p' l' h' y, .int .i64 n]) ∧ MillSep w.heap.size w'.heap.size w' s' p' l' h' y ∧ Below w.heap.size w w' := fun s p l h w H v hj => (run_spec s p l h v m js w H hj (fun j hj => HR.out j hj)).mono fun e w' ⟨s', p', l', h', he, G, hb⟩ => by
    rw [hy] at he G
    exact ⟨s', p', l', h', he, G.sep, hb⟩
  have KS := hide KS
  have KI : ∀ s p l h w, MillIn 0 w.heap.size w s p l h m → ∀ v, JobsAt 0 w.heap.size w v js → Calls Tryz.prog 16 #[millV s p l h m, v] w fun e w' => ∃ s' p' l' h', e = .returned (.tuple #[millV s' p' l' h' y, .int .i64 n]) ∧ MillSep w.heap.size w'.heap.size w' s' p' l' h' y ∧ Below w.heap.size w w' := fun s p l h w H v hj => (run_impl s p l h v m js w H hj (fun j hj => HR.out j hj)).mono fun e w' ⟨s', p', l', h', he, G, hb⟩ => by
    rw [hy] at he G
    exact ⟨s', p', l', h', he, G.sep, hb⟩
  have KI := hide KI
  rw [hy] at hys
  have hys : sizeM y ≤ 1000 := hys
  clear hy hr
  obtain ⟨ky, hky, hky0⟩ : ∃ k : Int, 1 + marksM y = k ∧ 0 ≤ k := ⟨_, rfl, by have := marks_bd (m := y) (by omega); omega⟩
  have KMY : ∀ (s p l h : Value) (lo hi : Nat) (w : World), MillSep lo hi w s p l h y → Calls Tryz.prog 11 #[millV s p l h y, .int .i64 1] w fun e w' => e = .returned (.int .i64 ky) ∧ Other lo hi w w' ∧ MillSep lo hi w' s p l h (markedM 1 y) := fun s p l h lo hi w H => (markMill_any s p l h y lo hi w H (by omega)).mono fun e w' ⟨h1, h2, h3⟩ => ⟨by rw [h1, hky], h2, h3⟩
  have KHY : ∀ (s p l h : Value) (w : World), MillIn 0 w.heap.size w s p l h (markedM 1 y) → Calls Tryz.prog 12 #[millV s p l h y, .int .i64 1] w fun e w' => e = .returned (.int .i64 ky) ∧ Below w.heap.size w w' := fun s p l h w H => (heldMill_any s p l h y w H (by omega)).mono fun e w' ⟨h1, h2⟩ => ⟨by rw [h1, hky], h2⟩
  have KEY : ∀ (s p l h s' p' l' h' : Value) (w : World), MillIn 0 w.heap.size w s p l h y → MillIn 0 w.heap.size w s' p' l' h' y → Calls Tryz.prog 10 #[millV s p l h y, millV s' p' l' h' y] w fun e w' => e = .returned (.bool true) ∧ Below w.heap.size w w' := fun s p l h s' p' l' h' w a b => eqMill_same s p l h s' p' l' h' y w a b
  have KMY := hide KMY
  have KHY := hide KHY
  have KEY := hide KEY
  have hkk : (ky != ky) = false := by simp
  have hnn : (n != n) = false := by simp
  clear hky hys
  unfold millV
  go_enter Tryz.func4, Tryz.ntmps4
  go_wp2_with fail
  refine calls_at fun wx hwx => ?_
  have A_0 : RowL wx (w.heap.size) 30 [.slice ao1 m.store.length cap1, .int .i64 m.rule.lc, .int .i64 m.rule.hc, .int .i64 m.rule.lm, .int .i64 m.rule.hm, .int .i64 m.rule.ls, .int .i64 m.rule.hs, .int .i64 m.strand, .slice ao2 m.pieces.length cap2, .slice ao3 m.low.length cap3, .slice ao4 m.high.length cap4, .int .i64 m.scrap] := by rw [hwx]; exact (RowL.new _ 30 [.slice ao1 m.store.length cap1, .int .i64 m.rule.lc, .int .i64 m.rule.hc, .int .i64 m.rule.lm, .int .i64 m.rule.hm, .int .i64 m.rule.ls, .int .i64 m.rule.hs, .int .i64 m.strand, .slice ao2 m.pieces.length cap2, .slice ao3 m.low.length cap3, .slice ao4 m.high.length cap4, .int .i64 m.scrap])
  have B_0 : Below w.heap.size w wx := by rw [hwx]; go_grown
  clear hwx
  have hL0 := A_0.lt
  have VV_0 := hide (H.below B_0)
  have VJ_0 := hide (Hj.below B_0)
  have KZ := szMill_any _ _ _ _ m 1048576 wx VV_0.out.all (by omega) (by omega)
  by_cases hbig : 1048576 < sizeM m
  · rw [szI_no (by omega)] at KZ
    refine KZ.mono ?_
    rintro e w1 ⟨rfl, hb⟩
    have HB := hide (Below.step B_0 hb (Nat.le_refl _))
    clear hb KZ
    go_wp2_with fail
    go_ret
    exact ⟨rfl, HB.out⟩
  rw [szI_yes (by omega)] at KZ
  obtain ⟨z, hz, hz0, hz1m⟩ : ∃ z : Int, 1048576 - (sizeM m : Int) = z ∧ 0 ≤ z ∧ z ≤ 1048576 := ⟨_, rfl, by omega, by omega⟩
  rw [hz] at KZ
  have HSM := hide (show Small m by refine ⟨?_, ?_, ?_, ?_⟩ <;> unfold sizeM at hbig <;> omega)
  have hszm : sizeM m ≤ 1048576 := by omega
  obtain ⟨km, hkm, hkm0, hkm1⟩ : ∃ k : Int, 1 + marksM m = k ∧ 0 ≤ k ∧ k ≤ 16777216 := ⟨_, rfl, by have := marks_bd hszm; omega, by have := marks_bd hszm; omega⟩
  have KM : ∀ (s p l h : Value) (lo hi : Nat) (w : World), MillSep lo hi w s p l h m → Calls Tryz.prog 11 #[millV s p l h m, .int .i64 1] w fun e w' => e = .returned (.int .i64 km) ∧ Other lo hi w w' := fun s p l h lo hi w H => (markMill_any s p l h m lo hi w H hszm).mono fun e w' ⟨h1, h2, _⟩ => ⟨by rw [h1, hkm], h2⟩
  have KM := hide KM
  clear hz hbig hszm hkm
  refine (KZ).mono ?_
  rintro e w1 ⟨rfl, hb⟩
  have A_1 := A_0.below hb A_0.lt
  clear A_0
  have VV_1 := hide (VV_0.out.below hb)
  clear VV_0
  have VJ_1 := hide (VJ_0.out.below hb)
  clear VJ_0
  have B_1 := hide (Below.step B_0 hb (Nat.le_refl _))
  clear B_0
  have hz1 := hb.size
  clear hb
  have cA0 := A_1.c 0 rfl
  have cA1 := A_1.c 1 rfl
  have cA2 := A_1.c 2 rfl
  have cA3 := A_1.c 3 rfl
  have cA4 := A_1.c 4 rfl
  have cA5 := A_1.c 5 rfl
  have cA6 := A_1.c 6 rfl
  have cA7 := A_1.c 7 rfl
  have cA8 := A_1.c 8 rfl
  have cA9 := A_1.c 9 rfl
  have cA10 := A_1.c 10 rfl
  have cA11 := A_1.c 11 rfl
  clear KZ
  go_wp2_with fail
  have KJ := szMillDeedS_any _ js _ _ z w1 VJ_1.out (by omega) (by omega)
  by_cases hjl : z < (js.length : Int)
  · rw [szI_no hjl] at KJ
    refine KJ.mono ?_
    rintro e w9 ⟨rfl, rfl⟩
    clear KJ
    go_wp2_with fail
    go_ret
    exact ⟨rfl, B_1.out⟩
  rw [szI_yes (by omega)] at KJ
  obtain ⟨z2, hz2e, hz20⟩ : ∃ z2 : Int, z - (js.length : Int) = z2 ∧ 0 ≤ z2 := ⟨_, rfl, by omega⟩
  rw [hz2e] at KJ
  have hjs : js.length ≤ 1048576 := by omega
  clear hz2e
  refine KJ.mono ?_
  rintro e w9 ⟨rfl, rfl⟩
  clear KJ
  go_wp2_with fail
  have KTJ : ∀ (v : Value) (lo hi : Nat) (w : World), JobsAt lo hi w v js → Calls Tryz.prog 15 #[v] w fun e w' => ∃ v', e = .returned v' ∧ JobsAt w.heap.size w'.heap.size w' v' js ∧ Below w.heap.size w w' := fun v lo hi w a => (toMillDeedS_any v js lo hi w a (by omega)).mono fun e w' ⟨v', h1, h2, h3⟩ => ⟨v', h1, h2.mono (Nat.le_refl _) h2.lt (Nat.le_refl _), h3⟩
  have KEJ : ∀ (v v' : Value) (lo hi lo' hi' : Nat) (w : World), JobsAt lo hi w v js → JobsAt lo' hi' w v' js → Calls Tryz.prog 17 #[v, v'] w fun e w' => e = .returned (.bool true) ∧ Below w.heap.size w w' := fun v v' lo hi lo' hi' w a b => (eqMillDeedS_any v v' js js lo hi lo' hi' w a b).mono fun e w' ⟨h1, h2⟩ => ⟨by rw [h1]; simp, h2⟩
  obtain ⟨kj, hkj, hkj0⟩ : ∃ k : Int, km + 3 * (js.length : Int) = k ∧ 0 ≤ k := ⟨_, rfl, by omega⟩
  have KMJ : ∀ (v : Value) (lo hi : Nat) (w : World), JobsAt lo hi w v js → Calls Tryz.prog 18 #[v, .int .i64 km] w fun e w' => e = .returned (.int .i64 kj) ∧ Other lo hi w w' := fun v lo hi w a => (markMillDeedS_any v js lo hi km w a (by omega) (by omega) (by omega)).mono fun e w' ⟨h1, h2, _⟩ => ⟨by rw [h1, hkj], h2⟩
  have KTJ := hide KTJ
  have KEJ := hide KEJ
  have KMJ := hide KMJ
  have hkjn : ¬ kj < 0 := by omega
  have hjl0 : ¬ z2 < 0 := by omega
  clear hkj hjs
  have hkmn : ¬ km < 0 := by omega
  have hkyn : ¬ ky < 0 := by omega
  refine (toMill_any _ _ _ _ m w1 VV_1.out.all HSM.out).mono ?_
  rintro e w2 ⟨s2, p2, l2, h2, rfl, hs2, hb⟩
  have A_2 := A_1.below hb A_1.lt
  clear A_1
  have VV_2 := hide (VV_1.out.below hb)
  clear VV_1
  have VJ_2 := hide (VJ_1.out.below hb)
  clear VJ_1
  have B_2 := hide (Below.step B_1.out hb (Nat.le_refl _))
  clear B_1
  have hz2 := hb.size
  clear hb
  have VM2_2 := hide hs2
  have ltM2 := hs2.lt
  obtain ⟨ao21, cap21, rfl, -, -, -, -⟩ := id hs2.in.store
  obtain ⟨ao22, cap22, rfl, -, -, -, -⟩ := id hs2.in.pieces
  obtain ⟨ao23, cap23, rfl, -, -, -, -⟩ := id hs2.in.low
  obtain ⟨ao24, cap24, rfl, -, -, -, -⟩ := id hs2.in.high
  clear hs2
  unfold millV
  go_wp2_with fail
  refine (KTJ.out _ _ _ w2 VJ_2.out).mono ?_
  rintro e w3 ⟨j2, rfl, hjn, hb⟩
  have A_3 := A_2.below hb A_2.lt
  clear A_2
  have VV_3 := hide (VV_2.out.below hb)
  clear VV_2
  have VJ_3 := hide (VJ_2.out.below hb)
  clear VJ_2
  have VM2_3 := hide (VM2_2.out.below hb)
  clear VM2_2
  have VJ2_3 := hide hjn
  have ltJ2 := (hjn).lt
  have B_3 := hide (Below.step B_2.out hb (Nat.le_refl _))
  clear B_2
  have hz3 := hb.size
  clear hb
  clear hjn
  obtain ⟨aoj2, capj2, rfl, -, -, -, -⟩ := id VJ2_3.out
  go_wp2_with fail
  refine (KS.out _ _ _ _ w3 VM2_3.out.in.all _ (VJ2_3.out.mono (Nat.zero_le _) VJ2_3.out.lt (Nat.le_refl _))).mono ?_
  clear VM2_3 VJ2_3
  rintro e w4 ⟨s5, p5, l5, h5, rfl, hs5, hb⟩
  have A_4 := A_3.below hb A_3.lt
  clear A_3
  have VV_4 := hide (VV_3.out.below hb)
  clear VV_3
  have VJ_4 := hide (VJ_3.out.below hb)
  clear VJ_3
  have B_4 := hide (Below.step B_3.out hb (Nat.le_refl _))
  clear B_3
  have hz4 := hb.size
  clear hb
  have VW_4 := hide hs5
  have ltW := hs5.lt
  obtain ⟨ao51, cap51, rfl, -, -, -, -⟩ := id hs5.in.store
  obtain ⟨ao52, cap52, rfl, -, -, -, -⟩ := id hs5.in.pieces
  obtain ⟨ao53, cap53, rfl, -, -, -, -⟩ := id hs5.in.low
  obtain ⟨ao54, cap54, rfl, -, -, -, -⟩ := id hs5.in.high
  clear hs5
  unfold millV
  have cA0 := A_4.c 0 rfl
  have cA1 := A_4.c 1 rfl
  have cA2 := A_4.c 2 rfl
  have cA3 := A_4.c 3 rfl
  have cA4 := A_4.c 4 rfl
  have cA5 := A_4.c 5 rfl
  have cA6 := A_4.c 6 rfl
  have cA7 := A_4.c 7 rfl
  have cA8 := A_4.c 8 rfl
  have cA9 := A_4.c 9 rfl
  have cA10 := A_4.c 10 rfl
  have cA11 := A_4.c 11 rfl
  have hqAy1 := A_4.lt
  go_wp2_with fail
  refine calls_at fun y1 hwy => ?_
  have W_y1 : RowL y1 (w4.heap.size) 39 [.slice ao51 y.store.length cap51, .int .i64 y.rule.lc, .int .i64 y.rule.hc, .int .i64 y.rule.lm, .int .i64 y.rule.hm, .int .i64 y.rule.ls, .int .i64 y.rule.hs, .int .i64 y.strand, .slice ao52 y.pieces.length cap52, .slice ao53 y.low.length cap53, .slice ao54 y.high.length cap54, .int .i64 y.scrap] := by rw [hwy]; exact RowL.new _ _ _
  have hby : Below w4.heap.size w4 y1 := by rw [hwy]; exact (Below.refl _ _).alloc (Nat.le_refl _) _
  have A_y1 := A_4.below hby A_4.lt
  clear A_4
  have VV_y1 := hide (VV_4.out.below hby)
  clear VV_4
  have VJ_y1 := hide (VJ_4.out.below hby)
  clear VJ_4
  have VW_y1 := hide (VW_4.out.below hby)
  clear VW_4
  have B_y1 := hide (Below.step B_4.out hby (Nat.le_refl _))
  clear B_4
  have hzy1 := hby.size
  have hly1 := W_y1.lt
  clear hwy hby
  clear cA0 cA1 cA2 cA3 cA4 cA5 cA6 cA7 cA8 cA9 cA10 cA11 hqAy1
  refine (toMill_any _ _ _ _ m y1 VV_y1.out.all HSM.out).mono ?_
  rintro e w5 ⟨s3, p3, l3, h3, rfl, hs3, hb⟩
  have A_5 := A_y1.below hb A_y1.lt
  clear A_y1
  have W_5 := W_y1.below hb W_y1.lt
  clear W_y1
  have VV_5 := hide (VV_y1.out.below hb)
  clear VV_y1
  have VJ_5 := hide (VJ_y1.out.below hb)
  clear VJ_y1
  have VW_5 := hide (VW_y1.out.below hb)
  clear VW_y1
  have B_5 := hide (Below.step B_y1.out hb (Nat.le_refl _))
  clear B_y1
  have hz5 := hb.size
  clear hb
  have VX_5 := hide hs3
  have ltX := hs3.lt
  obtain ⟨ao31, cap31, rfl, -, -, -, -⟩ := id hs3.in.store
  obtain ⟨ao32, cap32, rfl, -, -, -, -⟩ := id hs3.in.pieces
  obtain ⟨ao33, cap33, rfl, -, -, -, -⟩ := id hs3.in.low
  obtain ⟨ao34, cap34, rfl, -, -, -, -⟩ := id hs3.in.high
  clear hs3
  unfold millV
  go_wp2_with fail
  refine calls_at fun y2 hwy => ?_
  have X_y2 : RowL y2 (w5.heap.size) 39 [.slice ao31 m.store.length cap31, .int .i64 m.rule.lc, .int .i64 m.rule.hc, .int .i64 m.rule.lm, .int .i64 m.rule.hm, .int .i64 m.rule.ls, .int .i64 m.rule.hs, .int .i64 m.strand, .slice ao32 m.pieces.length cap32, .slice ao33 m.low.length cap33, .slice ao34 m.high.length cap34, .int .i64 m.scrap] := by rw [hwy]; exact RowL.new _ _ _
  have hby : Below w5.heap.size w5 y2 := by rw [hwy]; exact (Below.refl _ _).alloc (Nat.le_refl _) _
  have A_y2 := A_5.below hby A_5.lt
  clear A_5
  have W_y2 := W_5.below hby W_5.lt
  clear W_5
  have VV_y2 := hide (VV_5.out.below hby)
  clear VV_5
  have VJ_y2 := hide (VJ_5.out.below hby)
  clear VJ_5
  have VW_y2 := hide (VW_5.out.below hby)
  clear VW_5
  have VX_y2 := hide (VX_5.out.below hby)
  clear VX_5
  have B_y2 := hide (Below.step B_5.out hby (Nat.le_refl _))
  clear B_5
  have hzy2 := hby.size
  have hly2 := X_y2.lt
  clear hwy hby
  refine (KTJ.out _ _ _ y2 VJ_y2.out).mono ?_
  rintro e w6 ⟨j3, rfl, hjn, hb⟩
  have A_6 := A_y2.below hb A_y2.lt
  clear A_y2
  have W_6 := W_y2.below hb W_y2.lt
  clear W_y2
  have X_6 := X_y2.below hb X_y2.lt
  clear X_y2
  have VV_6 := hide (VV_y2.out.below hb)
  clear VV_y2
  have VJ_6 := hide (VJ_y2.out.below hb)
  clear VJ_y2
  have VW_6 := hide (VW_y2.out.below hb)
  clear VW_y2
  have VX_6 := hide (VX_y2.out.below hb)
  clear VX_y2
  have VXJ_6 := hide hjn
  have ltXJ := (hjn).lt
  have B_6 := hide (Below.step B_y2.out hb (Nat.le_refl _))
  clear B_y2
  have hz6 := hb.size
  clear hb
  clear hjn
  obtain ⟨aoj3, capj3, rfl, -, -, -, -⟩ := id VXJ_6.out
  have cX0 := X_6.c 0 rfl
  have cX1 := X_6.c 1 rfl
  have cX2 := X_6.c 2 rfl
  have cX3 := X_6.c 3 rfl
  have cX4 := X_6.c 4 rfl
  have cX5 := X_6.c 5 rfl
  have cX6 := X_6.c 6 rfl
  have cX7 := X_6.c 7 rfl
  have cX8 := X_6.c 8 rfl
  have cX9 := X_6.c 9 rfl
  have cX10 := X_6.c 10 rfl
  have cX11 := X_6.c 11 rfl
  go_wp2_with fail
  clear cX0 cX1 cX2 cX3 cX4 cX5 cX6 cX7 cX8 cX9 cX10 cX11
  refine (KI.out _ _ _ _ w6 VX_6.out.in.all _ (VXJ_6.out.mono (Nat.zero_le _) VXJ_6.out.lt (Nat.le_refl _))).mono ?_
  rintro e w7 ⟨s6, p6, l6, h6, rfl, hs6, hb⟩
  have A_7 := A_6.below hb A_6.lt
  clear A_6
  have W_7 := W_6.below hb W_6.lt
  clear W_6
  have X_7 := X_6.below hb X_6.lt
  clear X_6
  have VV_7 := hide (VV_6.out.below hb)
  clear VV_6
  have VJ_7 := hide (VJ_6.out.below hb)
  clear VJ_6
  have VW_7 := hide (VW_6.out.below hb)
  clear VW_6
  have VX_7 := hide (VX_6.out.below hb)
  clear VX_6
  have VXJ_7 := hide (VXJ_6.out.below hb)
  clear VXJ_6
  have B_7 := hide (Below.step B_6.out hb (Nat.le_refl _))
  clear B_6
  have hz7 := hb.size
  clear hb
  have VGv_7 := hide hs6
  have ltGv := hs6.lt
  obtain ⟨ao61, cap61, rfl, -, -, -, -⟩ := id hs6.in.store
  obtain ⟨ao62, cap62, rfl, -, -, -, -⟩ := id hs6.in.pieces
  obtain ⟨ao63, cap63, rfl, -, -, -, -⟩ := id hs6.in.low
  obtain ⟨ao64, cap64, rfl, -, -, -, -⟩ := id hs6.in.high
  clear hs6
  unfold millV
  have cW0 := W_7.c 0 rfl
  have cW1 := W_7.c 1 rfl
  have cW2 := W_7.c 2 rfl
  have cW3 := W_7.c 3 rfl
  have cW4 := W_7.c 4 rfl
  have cW5 := W_7.c 5 rfl
  have cW6 := W_7.c 6 rfl
  have cW7 := W_7.c 7 rfl
  have cW8 := W_7.c 8 rfl
  have cW9 := W_7.c 9 rfl
  have cW10 := W_7.c 10 rfl
  have cW11 := W_7.c 11 rfl
  have hqWy3 := W_7.lt
  go_wp2_with fail
  refine calls_at fun y3 hwy => ?_
  have G_y3 : RowL y3 (w7.heap.size) 39 [.slice ao61 y.store.length cap61, .int .i64 y.rule.lc, .int .i64 y.rule.hc, .int .i64 y.rule.lm, .int .i64 y.rule.hm, .int .i64 y.rule.ls, .int .i64 y.rule.hs, .int .i64 y.strand, .slice ao62 y.pieces.length cap62, .slice ao63 y.low.length cap63, .slice ao64 y.high.length cap64, .int .i64 y.scrap] := by rw [hwy]; exact RowL.new _ _ _
  have hby : Below w7.heap.size w7 y3 := by rw [hwy]; exact (Below.refl _ _).alloc (Nat.le_refl _) _
  have A_y3 := A_7.below hby A_7.lt
  clear A_7
  have W_y3 := W_7.below hby W_7.lt
  clear W_7
  have X_y3 := X_7.below hby X_7.lt
  clear X_7
  have VV_y3 := hide (VV_7.out.below hby)
  clear VV_7
  have VJ_y3 := hide (VJ_7.out.below hby)
  clear VJ_7
  have VW_y3 := hide (VW_7.out.below hby)
  clear VW_7
  have VX_y3 := hide (VX_7.out.below hby)
  clear VX_7
  have VXJ_y3 := hide (VXJ_7.out.below hby)
  clear VXJ_7
  have VGv_y3 := hide (VGv_7.out.below hby)
  clear VGv_7
  have B_y3 := hide (Below.step B_7.out hby (Nat.le_refl _))
  clear B_7
  have hzy3 := hby.size
  have hly3 := G_y3.lt
  clear hwy hby
  clear cW0 cW1 cW2 cW3 cW4 cW5 cW6 cW7 cW8 cW9 cW10 cW11 hqWy3
  refine (KEY.out _ _ _ _ _ _ _ _ y3 VGv_y3.out.in.all VW_y3.out.in.all).mono ?_
  rintro e w8 ⟨rfl, hb⟩
  have A_8 := A_y3.below hb A_y3.lt
  clear A_y3
  have W_8 := W_y3.below hb W_y3.lt
  clear W_y3
  have X_8 := X_y3.below hb X_y3.lt
  clear X_y3
  have G_8 := G_y3.below hb G_y3.lt
  clear G_y3
  have VV_8 := hide (VV_y3.out.below hb)
  clear VV_y3
  have VJ_8 := hide (VJ_y3.out.below hb)
  clear VJ_y3
  have VW_8 := hide (VW_y3.out.below hb)
  clear VW_y3
  have VX_8 := hide (VX_y3.out.below hb)
  clear VX_y3
  have VXJ_8 := hide (VXJ_y3.out.below hb)
  clear VXJ_y3
  have VGv_8 := hide (VGv_y3.out.below hb)
  clear VGv_y3
  have B_8 := hide (Below.step B_y3.out hb (Nat.le_refl _))
  clear B_y3
  have hz8 := hb.size
  clear hb
  have cX0 := X_8.c 0 rfl
  have cX1 := X_8.c 1 rfl
  have cX2 := X_8.c 2 rfl
  have cX3 := X_8.c 3 rfl
  have cX4 := X_8.c 4 rfl
  have cX5 := X_8.c 5 rfl
  have cX6 := X_8.c 6 rfl
  have cX7 := X_8.c 7 rfl
  have cX8 := X_8.c 8 rfl
  have cX9 := X_8.c 9 rfl
  have cX10 := X_8.c 10 rfl
  have cX11 := X_8.c 11 rfl
  have cA0 := A_8.c 0 rfl
  have cA1 := A_8.c 1 rfl
  have cA2 := A_8.c 2 rfl
  have cA3 := A_8.c 3 rfl
  have cA4 := A_8.c 4 rfl
  have cA5 := A_8.c 5 rfl
  have cA6 := A_8.c 6 rfl
  have cA7 := A_8.c 7 rfl
  have cA8 := A_8.c 8 rfl
  have cA9 := A_8.c 9 rfl
  have cA10 := A_8.c 10 rfl
  have cA11 := A_8.c 11 rfl
  go_wp2_with fail
  have hbd : Below w8.heap.size w8 w8.drew := (Below.refl _ _).drew
  have VV_d := hide (VV_8.out.below hbd)
  have VX_d := hide (VX_8.out.below hbd)
  have X_d := hide (X_8.below hbd X_8.lt)
  clear hbd
  go_cut [58] from 54 to 58 (fun v wr => v = .bool false ∧ Below w8.heap.size w8 wr)
  case first =>
    go_region_with (first
      | (go_at_call 7; refine (toMill_any _ _ _ _ m _ VV_d.out.all HSM.out).mono ?_; rintro e wa ⟨sa, pa, la, ha, rfl, hsa, hba⟩; have ca0 : wa.cell? ⟨w5.heap.size, 0, none⟩ = some (.slice ao31 m.store.length cap31) := (X_d.out.below hba X_d.out.lt).cell 0 (by simp); have ca1 : wa.cell? ⟨w5.heap.size, 1, none⟩ = some (.int .i64 m.rule.lc) := (X_d.out.below hba X_d.out.lt).cell 1 (by simp); have ca2 : wa.cell? ⟨w5.heap.size, 2, none⟩ = some (.int .i64 m.rule.hc) := (X_d.out.below hba X_d.out.lt).cell 2 (by simp); have ca3 : wa.cell? ⟨w5.heap.size, 3, none⟩ = some (.int .i64 m.rule.lm) := (X_d.out.below hba X_d.out.lt).cell 3 (by simp); have ca4 : wa.cell? ⟨w5.heap.size, 4, none⟩ = some (.int .i64 m.rule.hm) := (X_d.out.below hba X_d.out.lt).cell 4 (by simp); have ca5 : wa.cell? ⟨w5.heap.size, 5, none⟩ = some (.int .i64 m.rule.ls) := (X_d.out.below hba X_d.out.lt).cell 5 (by simp); have ca6 : wa.cell? ⟨w5.heap.size, 6, none⟩ = some (.int .i64 m.rule.hs) := (X_d.out.below hba X_d.out.lt).cell 6 (by simp); have ca7 : wa.cell? ⟨w5.heap.size, 7, none⟩ = some (.int .i64 m.strand) := (X_d.out.below hba X_d.out.lt).cell 7 (by simp); have ca8 : wa.cell? ⟨w5.heap.size, 8, none⟩ = some (.slice ao32 m.pieces.length cap32) := (X_d.out.below hba X_d.out.lt).cell 8 (by simp); have ca9 : wa.cell? ⟨w5.heap.size, 9, none⟩ = some (.slice ao33 m.low.length cap33) := (X_d.out.below hba X_d.out.lt).cell 9 (by simp); have ca10 : wa.cell? ⟨w5.heap.size, 10, none⟩ = some (.slice ao34 m.high.length cap34) := (X_d.out.below hba X_d.out.lt).cell 10 (by simp); have ca11 : wa.cell? ⟨w5.heap.size, 11, none⟩ = some (.int .i64 m.scrap) := (X_d.out.below hba X_d.out.lt).cell 11 (by simp))
      | (go_at_call 10; refine (eqMill_same _ _ _ _ _ _ _ _ m _ (VX_d.out.in.below hba).all hsa.in.all).mono ?_; rintro e wb ⟨rfl, hbb⟩))
    all_goals
      go_wp2_with fail
      go_meet
      exact ⟨rfl, Below.step (Below.step (Below.refl _ _).drew hba (by first | exact Nat.le_refl _ | simp)) hbb (by first | exact Nat.le_refl _ | simp)⟩
  obtain ⟨rfl, hb⟩ := hcut
  clear cX0 cX1 cX2 cX3 cX4 cX5 cX6 cX7 cX8 cX9 cX10 cX11 cA0 cA1 cA2 cA3 cA4 cA5 cA6 cA7 cA8 cA9 cA10 cA11
  have A_c := A_8.below hb A_8.lt
  clear A_8
  have W_c := W_8.below hb W_8.lt
  clear W_8
  have X_c := X_8.below hb X_8.lt
  clear X_8
  have G_c := G_8.below hb G_8.lt
  clear G_8
  have VV_c := hide (VV_8.out.below hb)
  clear VV_8
  have VJ_c := hide (VJ_8.out.below hb)
  clear VJ_8
  have VW_c := hide (VW_8.out.below hb)
  clear VW_8
  have VX_c := hide (VX_8.out.below hb)
  clear VX_8
  have VXJ_c := hide (VXJ_8.out.below hb)
  clear VXJ_8
  have VGv_c := hide (VGv_8.out.below hb)
  clear VGv_8
  have B_c := hide (Below.step B_8.out hb (Nat.le_refl _))
  clear B_8
  have hzc := hb.size
  clear hb VV_d VX_d X_d
  go_wp2_with fail
  refine (KTJ.out _ _ _ wc VJ_c.out).mono ?_
  rintro e w9 ⟨j7, rfl, hjn, hb⟩
  have A_9 := A_c.below hb A_c.lt
  clear A_c
  have W_9 := W_c.below hb W_c.lt
  clear W_c
  have X_9 := X_c.below hb X_c.lt
  clear X_c
  have G_9 := G_c.below hb G_c.lt
  clear G_c
  have VV_9 := hide (VV_c.out.below hb)
  clear VV_c
  have VJ_9 := hide (VJ_c.out.below hb)
  clear VJ_c
  have VW_9 := hide (VW_c.out.below hb)
  clear VW_c
  have VX_9 := hide (VX_c.out.below hb)
  clear VX_c
  have VXJ_9 := hide (VXJ_c.out.below hb)
  clear VXJ_c
  have VGv_9 := hide (VGv_c.out.below hb)
  clear VGv_c
  have VJD_9 := hide hjn
  have ltJD := (hjn).lt
  have B_9 := hide (Below.step B_c.out hb (Nat.le_refl _))
  clear B_c
  have hz9 := hb.size
  clear hb
  clear hjn
  obtain ⟨aoj7, capj7, rfl, -, -, -, -⟩ := id VJD_9.out
  go_wp2_with fail
  refine (KEJ.out _ _ _ _ _ _ w9 VXJ_9.out VJD_9.out).mono ?_
  clear VJD_9
  rintro e w10 ⟨rfl, hb⟩
  have A_10 := A_9.below hb A_9.lt
  clear A_9
  have W_10 := W_9.below hb W_9.lt
  clear W_9
  have X_10 := X_9.below hb X_9.lt
  clear X_9
  have G_10 := G_9.below hb G_9.lt
  clear G_9
  have VV_10 := hide (VV_9.out.below hb)
  clear VV_9
  have VJ_10 := hide (VJ_9.out.below hb)
  clear VJ_9
  have VW_10 := hide (VW_9.out.below hb)
  clear VW_9
  have VX_10 := hide (VX_9.out.below hb)
  clear VX_9
  have VXJ_10 := hide (VXJ_9.out.below hb)
  clear VXJ_9
  have VGv_10 := hide (VGv_9.out.below hb)
  clear VGv_9
  have B_10 := hide (Below.step B_9.out hb (Nat.le_refl _))
  clear B_9
  have hz10 := hb.size
  clear hb
  have cX0 := X_10.c 0 rfl
  have cX1 := X_10.c 1 rfl
  have cX2 := X_10.c 2 rfl
  have cX3 := X_10.c 3 rfl
  have cX4 := X_10.c 4 rfl
  have cX5 := X_10.c 5 rfl
  have cX6 := X_10.c 6 rfl
  have cX7 := X_10.c 7 rfl
  have cX8 := X_10.c 8 rfl
  have cX9 := X_10.c 9 rfl
  have cX10 := X_10.c 10 rfl
  have cX11 := X_10.c 11 rfl
  go_wp2_with fail
  clear cX0 cX1 cX2 cX3 cX4 cX5 cX6 cX7 cX8 cX9 cX10 cX11
  refine (KM.out _ _ _ _ _ _ w10 VX_10.out).mono ?_
  clear VX_10
  rintro e u1 ⟨rfl, ho⟩
  have A_u1 := A_10.other ho (by omega)
  clear A_10
  have W_u1 := W_10.other ho (by omega)
  clear W_10
  have X_u1 := X_10.other ho (by omega)
  clear X_10
  have G_u1 := G_10.other ho (by omega)
  clear G_10
  have VV_u1 := hide (VV_10.out.other ho (by omega))
  clear VV_10
  have VJ_u1 := hide (VJ_10.out.other ho (by omega))
  clear VJ_10
  have VW_u1 := hide (VW_10.out.other ho (by omega))
  clear VW_10
  have VXJ_u1 := hide (VXJ_10.out.other ho (by omega))
  clear VXJ_10
  have VGv_u1 := hide (VGv_10.out.other ho (by omega))
  clear VGv_10
  have B_u1 := hide (B_10.out.trans (ho.below (B := w.heap.size) (by omega) (by omega)))
  clear B_10
  have hzu1 := ho.size
  clear ho
  go_wp2_with fail
  refine (KMJ.out _ _ _ u1 VXJ_u1.out).mono ?_
  clear VXJ_u1
  rintro e u2 ⟨rfl, ho⟩
  have A_u2 := A_u1.other ho (by omega)
  clear A_u1
  have W_u2 := W_u1.other ho (by omega)
  clear W_u1
  have X_u2 := X_u1.other ho (by omega)
  clear X_u1
  have G_u2 := G_u1.other ho (by omega)
  clear G_u1
  have VV_u2 := hide (VV_u1.out.other ho (by omega))
  clear VV_u1
  have VJ_u2 := hide (VJ_u1.out.other ho (by omega))
  clear VJ_u1
  have VW_u2 := hide (VW_u1.out.other ho (by omega))
  clear VW_u1
  have VGv_u2 := hide (VGv_u1.out.other ho (by omega))
  clear VGv_u1
  have B_u2 := hide (B_u1.out.trans (ho.below (B := w.heap.size) (by omega) (by omega)))
  clear B_u1
  have hzu2 := ho.size
  clear ho
  have cG0 := G_u2.c 0 rfl
  have cG1 := G_u2.c 1 rfl
  have cG2 := G_u2.c 2 rfl
  have cG3 := G_u2.c 3 rfl
  have cG4 := G_u2.c 4 rfl
  have cG5 := G_u2.c 5 rfl
  have cG6 := G_u2.c 6 rfl
  have cG7 := G_u2.c 7 rfl
  have cG8 := G_u2.c 8 rfl
  have cG9 := G_u2.c 9 rfl
  have cG10 := G_u2.c 10 rfl
  have cG11 := G_u2.c 11 rfl
  have cW0 := W_u2.c 0 rfl
  have cW1 := W_u2.c 1 rfl
  have cW2 := W_u2.c 2 rfl
  have cW3 := W_u2.c 3 rfl
  have cW4 := W_u2.c 4 rfl
  have cW5 := W_u2.c 5 rfl
  have cW6 := W_u2.c 6 rfl
  have cW7 := W_u2.c 7 rfl
  have cW8 := W_u2.c 8 rfl
  have cW9 := W_u2.c 9 rfl
  have cW10 := W_u2.c 10 rfl
  have cW11 := W_u2.c 11 rfl
  go_wp2_with fail
  clear cG0 cG1 cG2 cG3 cG4 cG5 cG6 cG7 cG8 cG9 cG10 cG11 cW0 cW1 cW2 cW3 cW4 cW5 cW6 cW7 cW8 cW9 cW10 cW11
  refine (KEY.out _ _ _ _ _ _ _ _ u2 VGv_u2.out.in.all VW_u2.out.in.all).mono ?_
  rintro e w11 ⟨rfl, hb⟩
  have A_11 := A_u2.below hb A_u2.lt
  clear A_u2
  have W_11 := W_u2.below hb W_u2.lt
  clear W_u2
  have X_11 := X_u2.below hb X_u2.lt
  clear X_u2
  have G_11 := G_u2.below hb G_u2.lt
  clear G_u2
  have VV_11 := hide (VV_u2.out.below hb)
  clear VV_u2
  have VJ_11 := hide (VJ_u2.out.below hb)
  clear VJ_u2
  have VW_11 := hide (VW_u2.out.below hb)
  clear VW_u2
  have VGv_11 := hide (VGv_u2.out.below hb)
  clear VGv_u2
  have B_11 := hide (Below.step B_u2.out hb (Nat.le_refl _))
  clear B_u2
  have hz11 := hb.size
  clear hb
  have cG0 := G_11.c 0 rfl
  have cG1 := G_11.c 1 rfl
  have cG2 := G_11.c 2 rfl
  have cG3 := G_11.c 3 rfl
  have cG4 := G_11.c 4 rfl
  have cG5 := G_11.c 5 rfl
  have cG6 := G_11.c 6 rfl
  have cG7 := G_11.c 7 rfl
  have cG8 := G_11.c 8 rfl
  have cG9 := G_11.c 9 rfl
  have cG10 := G_11.c 10 rfl
  have cG11 := G_11.c 11 rfl
  go_wp2_with fail
  clear cG0 cG1 cG2 cG3 cG4 cG5 cG6 cG7 cG8 cG9 cG10 cG11
  refine (KMY.out _ _ _ _ _ _ w11 VGv_11.out).mono ?_
  clear VGv_11
  rintro e u3 ⟨rfl, ho, hmk⟩
  have A_u3 := A_11.other ho (by omega)
  clear A_11
  have W_u3 := W_11.other ho (by omega)
  clear W_11
  have X_u3 := X_11.other ho (by omega)
  clear X_11
  have G_u3 := G_11.other ho (by omega)
  clear G_11
  have VV_u3 := hide (VV_11.out.other ho (by omega))
  clear VV_11
  have VJ_u3 := hide (VJ_11.out.other ho (by omega))
  clear VJ_11
  have VW_u3 := hide (VW_11.out.other ho (by omega))
  clear VW_11
  have VGv_u3 := hide hmk
  have B_u3 := hide (B_11.out.trans (ho.below (B := w.heap.size) (by omega) (by omega)))
  clear B_11
  have hzu3 := ho.size
  clear ho
  have cG0 := G_u3.c 0 rfl
  have cG1 := G_u3.c 1 rfl
  have cG2 := G_u3.c 2 rfl
  have cG3 := G_u3.c 3 rfl
  have cG4 := G_u3.c 4 rfl
  have cG5 := G_u3.c 5 rfl
  have cG6 := G_u3.c 6 rfl
  have cG7 := G_u3.c 7 rfl
  have cG8 := G_u3.c 8 rfl
  have cG9 := G_u3.c 9 rfl
  have cG10 := G_u3.c 10 rfl
  have cG11 := G_u3.c 11 rfl
  clear hmk
  go_wp2_with fail
  clear cG0 cG1 cG2 cG3 cG4 cG5 cG6 cG7 cG8 cG9 cG10 cG11
  refine (KHY.out _ _ _ _ u3 VGv_u3.out.in.all).mono ?_
  rintro e w12 ⟨rfl, hb⟩
  have A_12 := A_u3.below hb A_u3.lt
  clear A_u3
  have W_12 := W_u3.below hb W_u3.lt
  clear W_u3
  have X_12 := X_u3.below hb X_u3.lt
  clear X_u3
  have G_12 := G_u3.below hb G_u3.lt
  clear G_u3
  have VV_12 := hide (VV_u3.out.below hb)
  clear VV_u3
  have VJ_12 := hide (VJ_u3.out.below hb)
  clear VJ_u3
  have VW_12 := hide (VW_u3.out.below hb)
  clear VW_u3
  have VGv_12 := hide (VGv_u3.out.below hb)
  clear VGv_u3
  have B_12 := hide (Below.step B_u3.out hb (Nat.le_refl _))
  clear B_u3
  have hz12 := hb.size
  clear hb
  have cA0 := A_12.c 0 rfl
  have cA1 := A_12.c 1 rfl
  have cA2 := A_12.c 2 rfl
  have cA3 := A_12.c 3 rfl
  have cA4 := A_12.c 4 rfl
  have cA5 := A_12.c 5 rfl
  have cA6 := A_12.c 6 rfl
  have cA7 := A_12.c 7 rfl
  have cA8 := A_12.c 8 rfl
  have cA9 := A_12.c 9 rfl
  have cA10 := A_12.c 10 rfl
  have cA11 := A_12.c 11 rfl
  go_wp2_with fail
  clear cA0 cA1 cA2 cA3 cA4 cA5 cA6 cA7 cA8 cA9 cA10 cA11
  refine (toMill_any _ _ _ _ m w12 VV_12.out.all HSM.out).mono ?_
  rintro e w13 ⟨s7, p7, l7, h7, rfl, hs7, hb⟩
  have A_13 := A_12.below hb A_12.lt
  clear A_12
  have W_13 := W_12.below hb W_12.lt
  clear W_12
  have X_13 := X_12.below hb X_12.lt
  clear X_12
  have G_13 := G_12.below hb G_12.lt
  clear G_12
  have VV_13 := hide (VV_12.out.below hb)
  clear VV_12
  have VJ_13 := hide (VJ_12.out.below hb)
  clear VJ_12
  have VW_13 := hide (VW_12.out.below hb)
  clear VW_12
  have VGv_13 := hide (VGv_12.out.below hb)
  clear VGv_12
  have B_13 := hide (Below.step B_12.out hb (Nat.le_refl _))
  clear B_12
  have hz13 := hb.size
  clear hb
  have VM7_13 := hide hs7
  have ltM7 := hs7.lt
  obtain ⟨ao71, cap71, rfl, -, -, -, -⟩ := id hs7.in.store
  obtain ⟨ao72, cap72, rfl, -, -, -, -⟩ := id hs7.in.pieces
  obtain ⟨ao73, cap73, rfl, -, -, -, -⟩ := id hs7.in.low
  obtain ⟨ao74, cap74, rfl, -, -, -, -⟩ := id hs7.in.high
  clear hs7
  unfold millV
  go_wp2_with fail
  refine (KTJ.out _ _ _ w13 VJ_13.out).mono ?_
  rintro e w14 ⟨j8, rfl, hjn, hb⟩
  have A_14 := A_13.below hb A_13.lt
  clear A_13
  have W_14 := W_13.below hb W_13.lt
  clear W_13
  have X_14 := X_13.below hb X_13.lt
  clear X_13
  have G_14 := G_13.below hb G_13.lt
  clear G_13
  have VV_14 := hide (VV_13.out.below hb)
  clear VV_13
  have VJ_14 := hide (VJ_13.out.below hb)
  clear VJ_13
  have VW_14 := hide (VW_13.out.below hb)
  clear VW_13
  have VGv_14 := hide (VGv_13.out.below hb)
  clear VGv_13
  have VM7_14 := hide (VM7_13.out.below hb)
  clear VM7_13
  have VJ8_14 := hide hjn
  have ltJ8 := (hjn).lt
  have B_14 := hide (Below.step B_13.out hb (Nat.le_refl _))
  clear B_13
  have hz14 := hb.size
  clear hb
  clear hjn
  obtain ⟨aoj8, capj8, rfl, -, -, -, -⟩ := id VJ8_14.out
  go_wp2_with fail
  refine (KI.out _ _ _ _ w14 VM7_14.out.in.all _ (VJ8_14.out.mono (Nat.zero_le _) VJ8_14.out.lt (Nat.le_refl _))).mono ?_
  clear VM7_14 VJ8_14
  rintro e w15 ⟨s8, p8, l8, h8, rfl, hs8, hb⟩
  have A_15 := A_14.below hb A_14.lt
  clear A_14
  have W_15 := W_14.below hb W_14.lt
  clear W_14
  have X_15 := X_14.below hb X_14.lt
  clear X_14
  have G_15 := G_14.below hb G_14.lt
  clear G_14
  have VV_15 := hide (VV_14.out.below hb)
  clear VV_14
  have VJ_15 := hide (VJ_14.out.below hb)
  clear VJ_14
  have VW_15 := hide (VW_14.out.below hb)
  clear VW_14
  have VGv_15 := hide (VGv_14.out.below hb)
  clear VGv_14
  have B_15 := hide (Below.step B_14.out hb (Nat.le_refl _))
  clear B_14
  have hz15 := hb.size
  clear hb
  have VHv_15 := hide hs8
  have ltHv := hs8.lt
  obtain ⟨ao81, cap81, rfl, -, -, -, -⟩ := id hs8.in.store
  obtain ⟨ao82, cap82, rfl, -, -, -, -⟩ := id hs8.in.pieces
  obtain ⟨ao83, cap83, rfl, -, -, -, -⟩ := id hs8.in.low
  obtain ⟨ao84, cap84, rfl, -, -, -, -⟩ := id hs8.in.high
  clear hs8
  unfold millV
  have cW0 := W_15.c 0 rfl
  have cW1 := W_15.c 1 rfl
  have cW2 := W_15.c 2 rfl
  have cW3 := W_15.c 3 rfl
  have cW4 := W_15.c 4 rfl
  have cW5 := W_15.c 5 rfl
  have cW6 := W_15.c 6 rfl
  have cW7 := W_15.c 7 rfl
  have cW8 := W_15.c 8 rfl
  have cW9 := W_15.c 9 rfl
  have cW10 := W_15.c 10 rfl
  have cW11 := W_15.c 11 rfl
  have hqWy4 := W_15.lt
  go_wp2_with fail
  refine calls_at fun y4 hwy => ?_
  have H_y4 : RowL y4 (w15.heap.size) 39 [.slice ao81 y.store.length cap81, .int .i64 y.rule.lc, .int .i64 y.rule.hc, .int .i64 y.rule.lm, .int .i64 y.rule.hm, .int .i64 y.rule.ls, .int .i64 y.rule.hs, .int .i64 y.strand, .slice ao82 y.pieces.length cap82, .slice ao83 y.low.length cap83, .slice ao84 y.high.length cap84, .int .i64 y.scrap] := by rw [hwy]; exact RowL.new _ _ _
  have hby : Below w15.heap.size w15 y4 := by rw [hwy]; exact (Below.refl _ _).alloc (Nat.le_refl _) _
  have A_y4 := A_15.below hby A_15.lt
  clear A_15
  have W_y4 := W_15.below hby W_15.lt
  clear W_15
  have X_y4 := X_15.below hby X_15.lt
  clear X_15
  have G_y4 := G_15.below hby G_15.lt
  clear G_15
  have VV_y4 := hide (VV_15.out.below hby)
  clear VV_15
  have VJ_y4 := hide (VJ_15.out.below hby)
  clear VJ_15
  have VW_y4 := hide (VW_15.out.below hby)
  clear VW_15
  have VGv_y4 := hide (VGv_15.out.below hby)
  clear VGv_15
  have VHv_y4 := hide (VHv_15.out.below hby)
  clear VHv_15
  have B_y4 := hide (Below.step B_15.out hby (Nat.le_refl _))
  clear B_15
  have hzy4 := hby.size
  have hly4 := H_y4.lt
  clear hwy hby
  clear cW0 cW1 cW2 cW3 cW4 cW5 cW6 cW7 cW8 cW9 cW10 cW11 hqWy4
  have cG0 := G_y4.c 0 rfl
  have cG1 := G_y4.c 1 rfl
  have cG2 := G_y4.c 2 rfl
  have cG3 := G_y4.c 3 rfl
  have cG4 := G_y4.c 4 rfl
  have cG5 := G_y4.c 5 rfl
  have cG6 := G_y4.c 6 rfl
  have cG7 := G_y4.c 7 rfl
  have cG8 := G_y4.c 8 rfl
  have cG9 := G_y4.c 9 rfl
  have cG10 := G_y4.c 10 rfl
  have cG11 := G_y4.c 11 rfl
  refine (KEY.out _ _ _ _ _ _ _ _ y4 VHv_y4.out.in.all VW_y4.out.in.all).mono ?_
  rintro e w16 ⟨rfl, hb⟩
  have A_16 := A_y4.below hb A_y4.lt
  clear A_y4
  have W_16 := W_y4.below hb W_y4.lt
  clear W_y4
  have X_16 := X_y4.below hb X_y4.lt
  clear X_y4
  have G_16 := G_y4.below hb G_y4.lt
  clear G_y4
  have H_16 := H_y4.below hb H_y4.lt
  clear H_y4
  have VV_16 := hide (VV_y4.out.below hb)
  clear VV_y4
  have VJ_16 := hide (VJ_y4.out.below hb)
  clear VJ_y4
  have VW_16 := hide (VW_y4.out.below hb)
  clear VW_y4
  have VGv_16 := hide (VGv_y4.out.below hb)
  clear VGv_y4
  have VHv_16 := hide (VHv_y4.out.below hb)
  clear VHv_y4
  have B_16 := hide (Below.step B_y4.out hb (Nat.le_refl _))
  clear B_y4
  have hz16 := hb.size
  clear hb
  have cG0 := G_16.c 0 rfl
  have cG1 := G_16.c 1 rfl
  have cG2 := G_16.c 2 rfl
  have cG3 := G_16.c 3 rfl
  have cG4 := G_16.c 4 rfl
  have cG5 := G_16.c 5 rfl
  have cG6 := G_16.c 6 rfl
  have cG7 := G_16.c 7 rfl
  have cG8 := G_16.c 8 rfl
  have cG9 := G_16.c 9 rfl
  have cG10 := G_16.c 10 rfl
  have cG11 := G_16.c 11 rfl
  go_wp2_with fail
  clear cG0 cG1 cG2 cG3 cG4 cG5 cG6 cG7 cG8 cG9 cG10 cG11
  refine (KHY.out _ _ _ _ w16 VGv_16.out.in.all).mono ?_
  rintro e w17 ⟨rfl, hb⟩
  have A_17 := A_16.below hb A_16.lt
  clear A_16 A_17
  have W_17 := W_16.below hb W_16.lt
  clear W_16 W_17
  have X_17 := X_16.below hb X_16.lt
  clear X_16 X_17
  have G_17 := G_16.below hb G_16.lt
  clear G_16 G_17
  have H_17 := H_16.below hb H_16.lt
  clear H_16 H_17
  have VV_17 := hide (VV_16.out.below hb)
  clear VV_16 VV_17
  have VJ_17 := hide (VJ_16.out.below hb)
  clear VJ_16 VJ_17
  have VW_17 := hide (VW_16.out.below hb)
  clear VW_16 VW_17
  have VGv_17 := hide (VGv_16.out.below hb)
  clear VGv_16 VGv_17
  have VHv_17 := hide (VHv_16.out.below hb)
  clear VHv_16 VHv_17
  have B_17 := hide (Below.step B_16.out hb (Nat.le_refl _))
  clear B_16
  have hz17 := hb.size
  clear hb
  go_wp2_with fail
  go_ret
  exact ⟨rfl, B_17.out⟩
end Go.Proofs.YtajjnciookhamaaGreat
