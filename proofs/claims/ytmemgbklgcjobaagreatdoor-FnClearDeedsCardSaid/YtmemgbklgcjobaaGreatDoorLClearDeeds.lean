/-
  The walk over the law FnClearDeeds: it answers true, whatever the code.
-/
import Derived.Test.YtmemgbklgcjobaaGreatDoorB46
import Derived.Deep.RegionHeld
namespace Go.Proofs.YtmemgbklgcjobaaGreatDoor
open Go.RowKit

set_option linter.unusedVariables false in
set_option linter.unusedSimpArgs false in
set_option maxRecDepth 10000 in
set_option maxHeartbeats 3200000 in
theorem law_ClearDeeds (v : Value) (n : Nat) (w : World) (h : BytesAt 0 w.heap.size w v n) :
    Calls Tryz.prog 10 #[v] w fun e w' => e = .returned (.bool true) ∧ Below w.heap.size w w' := by
  obtain ⟨ao, cap, rfl, hnc, hcap, -, -⟩ := id h
  have HB := hide h
  clear h
  by_cases hlong : 1048576 < n
  · go_enter Tryz.func10, Tryz.ntmps10
    go_wp2_with fail
    go_ret
    exact ⟨rfl, by go_grown⟩
  go_enter Tryz.func10, Tryz.ntmps10
  go_wp2_with fail
  refine (drawClearDeeds _ n _ HB.out).mono ?_
  rintro e w1 ⟨s, p, l, h, m, rfl, hG, hf, hb⟩
  obtain ⟨ao1, cap1, rfl, -, -, -, -⟩ := id hG.all.store
  obtain ⟨ao2, cap2, rfl, -, -, -, -⟩ := id hG.all.pieces
  obtain ⟨ao3, cap3, rfl, -, -, -, -⟩ := id hG.all.low
  obtain ⟨ao4, cap4, rfl, -, -, -, -⟩ := id hG.all.high
  have B_1 := hide hb
  have VV_1 := hide hG
  have hz1 := hb.size
  clear hb hG
  unfold millV
  go_wp2_with fail
  refine calls_at fun wx hwx => ?_
  have M_wx : RowL wx (w1.heap.size) 31 [.slice ao1 m.store.length cap1, .int .i64 m.rule.lc, .int .i64 m.rule.hc, .int .i64 m.rule.lm, .int .i64 m.rule.hm, .int .i64 m.rule.ls, .int .i64 m.rule.hs, .int .i64 m.strand, .slice ao2 m.pieces.length cap2, .slice ao3 m.low.length cap3, .slice ao4 m.high.length cap4, .int .i64 m.scrap] := by rw [hwx]; exact (RowL.new _ 31 [.slice ao1 m.store.length cap1, .int .i64 m.rule.lc, .int .i64 m.rule.hc, .int .i64 m.rule.lm, .int .i64 m.rule.hm, .int .i64 m.rule.ls, .int .i64 m.rule.hs, .int .i64 m.strand, .slice ao2 m.pieces.length cap2, .slice ao3 m.low.length cap3, .slice ao4 m.high.length cap4, .int .i64 m.scrap])
  have hb : Below w1.heap.size w1 wx := by rw [hwx]; exact ((Below.refl _ _).alloc (Nat.le_refl _) _)
  clear hwx
  have VV_wx := hide (VV_1.out.below hb)
  have B_wx := hide (Below.step B_1.out hb (Nat.le_refl _))
  have hzwx := hb.size
  have hLwx := M_wx.lt
  clear hb
  cases hv : millB m with
  | false =>
    have hxs : clearR m = [] := clear_bad hv
    have KI := clear_impl _ _ _ _ m wx VV_wx.out.all
    rw [hxs] at KI
    refine (KI).mono ?_
    rintro e w2 ⟨v1, rfl, hv1, hb⟩
    have M_2 := M_wx.below hb M_wx.lt
    have VV_2 := hide (VV_wx.out.below hb)
    have B_2 := hide (Below.step B_wx.out hb (Nat.le_refl _))
    have hz2 := hb.size
    clear hb
    have cM0 : w2.cell? ⟨w1.heap.size, 0, none⟩ = some (.slice ao1 m.store.length cap1) := M_2.cell 0 (by simp)
    have cM1 : w2.cell? ⟨w1.heap.size, 1, none⟩ = some (.int .i64 m.rule.lc) := M_2.cell 1 (by simp)
    have cM2 : w2.cell? ⟨w1.heap.size, 2, none⟩ = some (.int .i64 m.rule.hc) := M_2.cell 2 (by simp)
    have cM3 : w2.cell? ⟨w1.heap.size, 3, none⟩ = some (.int .i64 m.rule.lm) := M_2.cell 3 (by simp)
    have cM4 : w2.cell? ⟨w1.heap.size, 4, none⟩ = some (.int .i64 m.rule.hm) := M_2.cell 4 (by simp)
    have cM5 : w2.cell? ⟨w1.heap.size, 5, none⟩ = some (.int .i64 m.rule.ls) := M_2.cell 5 (by simp)
    have cM6 : w2.cell? ⟨w1.heap.size, 6, none⟩ = some (.int .i64 m.rule.hs) := M_2.cell 6 (by simp)
    have cM7 : w2.cell? ⟨w1.heap.size, 7, none⟩ = some (.int .i64 m.strand) := M_2.cell 7 (by simp)
    have cM8 : w2.cell? ⟨w1.heap.size, 8, none⟩ = some (.slice ao2 m.pieces.length cap2) := M_2.cell 8 (by simp)
    have cM9 : w2.cell? ⟨w1.heap.size, 9, none⟩ = some (.slice ao3 m.low.length cap3) := M_2.cell 9 (by simp)
    have cM10 : w2.cell? ⟨w1.heap.size, 10, none⟩ = some (.slice ao4 m.high.length cap4) := M_2.cell 10 (by simp)
    have cM11 : w2.cell? ⟨w1.heap.size, 11, none⟩ = some (.int .i64 m.scrap) := M_2.cell 11 (by simp)
    obtain ⟨ai, ci, rfl, -, -⟩ := own_slice hv1
    have VI_1 := hide (ownD_at hv1 rfl (by omega))
    clear hv1 KI
    go_wp2_with fail
    have KS := clear_spec _ _ _ _ m w2 VV_2.out.all
    rw [hxs] at KS
    refine (KS).mono ?_
    rintro e w3 ⟨v2, rfl, hv2, hb⟩
    have M_3 := M_2.below hb M_2.lt
    have VV_3 := hide (VV_2.out.below hb)
    have VI_3 := hide (VI_1.out.below hb)
    have B_3 := hide (Below.step B_2.out hb (Nat.le_refl _))
    have hz3 := hb.size
    clear hb
    have VJ_2 := hide (ownD_at hv2 rfl (by omega))
    clear hv2 KS
    go_wp2_with fail
    refine (sameDeeds_same _ _ _ _ _ _ _ w3 VI_3.out VJ_2.out).mono ?_
    rintro e w4 ⟨rfl, hb⟩
    have M_4 := M_3.below hb M_3.lt
    have VV_4 := hide (VV_3.out.below hb)
    have VI_4 := hide (VI_3.out.below hb)
    have B_4 := hide (Below.step B_3.out hb (Nat.le_refl _))
    have hz4 := hb.size
    clear hb
    have cM0 : w4.cell? ⟨w1.heap.size, 0, none⟩ = some (.slice ao1 m.store.length cap1) := M_4.cell 0 (by simp)
    have cM1 : w4.cell? ⟨w1.heap.size, 1, none⟩ = some (.int .i64 m.rule.lc) := M_4.cell 1 (by simp)
    have cM2 : w4.cell? ⟨w1.heap.size, 2, none⟩ = some (.int .i64 m.rule.hc) := M_4.cell 2 (by simp)
    have cM3 : w4.cell? ⟨w1.heap.size, 3, none⟩ = some (.int .i64 m.rule.lm) := M_4.cell 3 (by simp)
    have cM4 : w4.cell? ⟨w1.heap.size, 4, none⟩ = some (.int .i64 m.rule.hm) := M_4.cell 4 (by simp)
    have cM5 : w4.cell? ⟨w1.heap.size, 5, none⟩ = some (.int .i64 m.rule.ls) := M_4.cell 5 (by simp)
    have cM6 : w4.cell? ⟨w1.heap.size, 6, none⟩ = some (.int .i64 m.rule.hs) := M_4.cell 6 (by simp)
    have cM7 : w4.cell? ⟨w1.heap.size, 7, none⟩ = some (.int .i64 m.strand) := M_4.cell 7 (by simp)
    have cM8 : w4.cell? ⟨w1.heap.size, 8, none⟩ = some (.slice ao2 m.pieces.length cap2) := M_4.cell 8 (by simp)
    have cM9 : w4.cell? ⟨w1.heap.size, 9, none⟩ = some (.slice ao3 m.low.length cap3) := M_4.cell 9 (by simp)
    have cM10 : w4.cell? ⟨w1.heap.size, 10, none⟩ = some (.slice ao4 m.high.length cap4) := M_4.cell 10 (by simp)
    have cM11 : w4.cell? ⟨w1.heap.size, 11, none⟩ = some (.int .i64 m.scrap) := M_4.cell 11 (by simp)
    go_wp2_with fail
    have KV := mill_spec _ _ _ _ m w4 VV_4.out.all
    rw [hv] at KV
    refine (KV).mono ?_
    rintro e w5 ⟨rfl, hb⟩
    have M_5 := M_4.below hb M_4.lt
    have VV_5 := hide (VV_4.out.below hb)
    have VI_5 := hide (VI_4.out.below hb)
    have B_5 := hide (Below.step B_4.out hb (Nat.le_refl _))
    have hz5 := hb.size
    clear hb
    go_wp2_with fail
    refine (alive_any w5).mono ?_
    rintro e w6 ⟨rfl, hb⟩
    have M_6 := M_5.below hb M_5.lt
    have VV_6 := hide (VV_5.out.below hb)
    have VI_6 := hide (VI_5.out.below hb)
    have B_6 := hide (Below.step B_5.out hb (Nat.le_refl _))
    have hz6 := hb.size
    clear hb
    go_wp2_with fail
    go_ret
    exact ⟨rfl, B_6.out⟩
  | true =>
    have hcl := clear_law hv
    have hsm := clear_small hv
    have hln := clear_len m
    obtain ⟨xs, hxs⟩ : ∃ xs, clearR m = xs := ⟨_, rfl⟩
    rw [hxs] at hcl hsm hln
    obtain ⟨⟨y, n9⟩, hy⟩ : ∃ z, runR m xs = z := ⟨_, rfl⟩
    rw [hy] at hcl
    obtain ⟨e1, e2, e3, e4, e5⟩ := hcl
    simp only at e1 e2 e3 e4 e5
    subst e1
    have HSM := hide hsm
    have HE2 := hide e2
    have HE3 := hide e3
    have HE4 := hide e4
    have HE5 := hide e5
    clear hsm e2 e3 e4 e5
    have KI := clear_impl _ _ _ _ m wx VV_wx.out.all
    rw [hxs] at KI
    refine (KI).mono ?_
    rintro e w2 ⟨v1, rfl, hv1, hb⟩
    have M_2 := M_wx.below hb M_wx.lt
    have VV_2 := hide (VV_wx.out.below hb)
    have B_2 := hide (Below.step B_wx.out hb (Nat.le_refl _))
    have hz2 := hb.size
    clear hb
    have cM0 : w2.cell? ⟨w1.heap.size, 0, none⟩ = some (.slice ao1 m.store.length cap1) := M_2.cell 0 (by simp)
    have cM1 : w2.cell? ⟨w1.heap.size, 1, none⟩ = some (.int .i64 m.rule.lc) := M_2.cell 1 (by simp)
    have cM2 : w2.cell? ⟨w1.heap.size, 2, none⟩ = some (.int .i64 m.rule.hc) := M_2.cell 2 (by simp)
    have cM3 : w2.cell? ⟨w1.heap.size, 3, none⟩ = some (.int .i64 m.rule.lm) := M_2.cell 3 (by simp)
    have cM4 : w2.cell? ⟨w1.heap.size, 4, none⟩ = some (.int .i64 m.rule.hm) := M_2.cell 4 (by simp)
    have cM5 : w2.cell? ⟨w1.heap.size, 5, none⟩ = some (.int .i64 m.rule.ls) := M_2.cell 5 (by simp)
    have cM6 : w2.cell? ⟨w1.heap.size, 6, none⟩ = some (.int .i64 m.rule.hs) := M_2.cell 6 (by simp)
    have cM7 : w2.cell? ⟨w1.heap.size, 7, none⟩ = some (.int .i64 m.strand) := M_2.cell 7 (by simp)
    have cM8 : w2.cell? ⟨w1.heap.size, 8, none⟩ = some (.slice ao2 m.pieces.length cap2) := M_2.cell 8 (by simp)
    have cM9 : w2.cell? ⟨w1.heap.size, 9, none⟩ = some (.slice ao3 m.low.length cap3) := M_2.cell 9 (by simp)
    have cM10 : w2.cell? ⟨w1.heap.size, 10, none⟩ = some (.slice ao4 m.high.length cap4) := M_2.cell 10 (by simp)
    have cM11 : w2.cell? ⟨w1.heap.size, 11, none⟩ = some (.int .i64 m.scrap) := M_2.cell 11 (by simp)
    obtain ⟨ai, ci, rfl, -, -⟩ := own_slice hv1
    have VI_1 := hide (ownD_at hv1 rfl (by omega))
    clear hv1 KI
    go_wp2_with fail
    have KS := clear_spec _ _ _ _ m w2 VV_2.out.all
    rw [hxs] at KS
    refine (KS).mono ?_
    rintro e w3 ⟨v2, rfl, hv2, hb⟩
    have M_3 := M_2.below hb M_2.lt
    have VV_3 := hide (VV_2.out.below hb)
    have VI_3 := hide (VI_1.out.below hb)
    have B_3 := hide (Below.step B_2.out hb (Nat.le_refl _))
    have hz3 := hb.size
    clear hb
    have VJ_2 := hide (ownD_at hv2 rfl (by omega))
    clear hv2 KS
    go_wp2_with fail
    refine (sameDeeds_same _ _ _ _ _ _ _ w3 VI_3.out VJ_2.out).mono ?_
    rintro e w4 ⟨rfl, hb⟩
    have M_4 := M_3.below hb M_3.lt
    have VV_4 := hide (VV_3.out.below hb)
    have VI_4 := hide (VI_3.out.below hb)
    have B_4 := hide (Below.step B_3.out hb (Nat.le_refl _))
    have hz4 := hb.size
    clear hb
    have cM0 : w4.cell? ⟨w1.heap.size, 0, none⟩ = some (.slice ao1 m.store.length cap1) := M_4.cell 0 (by simp)
    have cM1 : w4.cell? ⟨w1.heap.size, 1, none⟩ = some (.int .i64 m.rule.lc) := M_4.cell 1 (by simp)
    have cM2 : w4.cell? ⟨w1.heap.size, 2, none⟩ = some (.int .i64 m.rule.hc) := M_4.cell 2 (by simp)
    have cM3 : w4.cell? ⟨w1.heap.size, 3, none⟩ = some (.int .i64 m.rule.lm) := M_4.cell 3 (by simp)
    have cM4 : w4.cell? ⟨w1.heap.size, 4, none⟩ = some (.int .i64 m.rule.hm) := M_4.cell 4 (by simp)
    have cM5 : w4.cell? ⟨w1.heap.size, 5, none⟩ = some (.int .i64 m.rule.ls) := M_4.cell 5 (by simp)
    have cM6 : w4.cell? ⟨w1.heap.size, 6, none⟩ = some (.int .i64 m.rule.hs) := M_4.cell 6 (by simp)
    have cM7 : w4.cell? ⟨w1.heap.size, 7, none⟩ = some (.int .i64 m.strand) := M_4.cell 7 (by simp)
    have cM8 : w4.cell? ⟨w1.heap.size, 8, none⟩ = some (.slice ao2 m.pieces.length cap2) := M_4.cell 8 (by simp)
    have cM9 : w4.cell? ⟨w1.heap.size, 9, none⟩ = some (.slice ao3 m.low.length cap3) := M_4.cell 9 (by simp)
    have cM10 : w4.cell? ⟨w1.heap.size, 10, none⟩ = some (.slice ao4 m.high.length cap4) := M_4.cell 10 (by simp)
    have cM11 : w4.cell? ⟨w1.heap.size, 11, none⟩ = some (.int .i64 m.scrap) := M_4.cell 11 (by simp)
    go_wp2_with fail
    have KV := mill_spec _ _ _ _ m w4 VV_4.out.all
    rw [hv] at KV
    refine (KV).mono ?_
    rintro e w5 ⟨rfl, hb⟩
    have M_5 := M_4.below hb M_4.lt
    have VV_5 := hide (VV_4.out.below hb)
    have VI_5 := hide (VI_4.out.below hb)
    have B_5 := hide (Below.step B_4.out hb (Nat.le_refl _))
    have hz5 := hb.size
    clear hb
    have cM0 : w5.cell? ⟨w1.heap.size, 0, none⟩ = some (.slice ao1 m.store.length cap1) := M_5.cell 0 (by simp)
    have cM1 : w5.cell? ⟨w1.heap.size, 1, none⟩ = some (.int .i64 m.rule.lc) := M_5.cell 1 (by simp)
    have cM2 : w5.cell? ⟨w1.heap.size, 2, none⟩ = some (.int .i64 m.rule.hc) := M_5.cell 2 (by simp)
    have cM3 : w5.cell? ⟨w1.heap.size, 3, none⟩ = some (.int .i64 m.rule.lm) := M_5.cell 3 (by simp)
    have cM4 : w5.cell? ⟨w1.heap.size, 4, none⟩ = some (.int .i64 m.rule.hm) := M_5.cell 4 (by simp)
    have cM5 : w5.cell? ⟨w1.heap.size, 5, none⟩ = some (.int .i64 m.rule.ls) := M_5.cell 5 (by simp)
    have cM6 : w5.cell? ⟨w1.heap.size, 6, none⟩ = some (.int .i64 m.rule.hs) := M_5.cell 6 (by simp)
    have cM7 : w5.cell? ⟨w1.heap.size, 7, none⟩ = some (.int .i64 m.strand) := M_5.cell 7 (by simp)
    have cM8 : w5.cell? ⟨w1.heap.size, 8, none⟩ = some (.slice ao2 m.pieces.length cap2) := M_5.cell 8 (by simp)
    have cM9 : w5.cell? ⟨w1.heap.size, 9, none⟩ = some (.slice ao3 m.low.length cap3) := M_5.cell 9 (by simp)
    have cM10 : w5.cell? ⟨w1.heap.size, 10, none⟩ = some (.slice ao4 m.high.length cap4) := M_5.cell 10 (by simp)
    have cM11 : w5.cell? ⟨w1.heap.size, 11, none⟩ = some (.int .i64 m.scrap) := M_5.cell 11 (by simp)
    go_wp2_with fail
    have KR := run_impl _ _ _ _ _ m xs w5 VV_5.out.all (VI_5.out.mono (Nat.zero_le _) (by omega) (Nat.le_refl _)) HSM.out
    rw [hy] at KR
    unfold millV at KR
    refine (KR).mono ?_
    rintro e w6 ⟨s6, p6, l6, h6, rfl, G6, hb⟩
    have M_6 := M_5.below hb M_5.lt
    have VV_6 := hide (VV_5.out.below hb)
    have VI_6 := hide (VI_5.out.below hb)
    have B_6 := hide (Below.step B_5.out hb (Nat.le_refl _))
    have hz6 := hb.size
    clear hb
    obtain ⟨ao61, cap61, rfl, -, -⟩ := G6.so.form
    obtain ⟨ao62, cap62, rfl, -, -⟩ := G6.po.form
    obtain ⟨ao63, cap63, rfl, -, -⟩ := G6.lo.form
    obtain ⟨ao64, cap64, rfl, -, -⟩ := G6.ho.form
    have VY_6 := hide G6
    have lt6 := G6.all.store.lt
    clear G6
    unfold millV
    go_wp2_with fail
    obtain ⟨y1, hwy⟩ : ∃ q : World, q = w6.alloc (.cells #[.slice ao61 y.store.length cap61, .int .i64 y.rule.lc, .int .i64 y.rule.hc, .int .i64 y.rule.lm, .int .i64 y.rule.hm, .int .i64 y.rule.ls, .int .i64 y.rule.hs, .int .i64 y.strand, .slice ao62 y.pieces.length cap62, .slice ao63 y.low.length cap63, .slice ao64 y.high.length cap64, .int .i64 y.scrap] 31) := ⟨_, rfl⟩
    rw [← hwy]
    have X_y1 : RowL y1 (w6.heap.size) 31 [.slice ao61 y.store.length cap61, .int .i64 y.rule.lc, .int .i64 y.rule.hc, .int .i64 y.rule.lm, .int .i64 y.rule.hm, .int .i64 y.rule.ls, .int .i64 y.rule.hs, .int .i64 y.strand, .slice ao62 y.pieces.length cap62, .slice ao63 y.low.length cap63, .slice ao64 y.high.length cap64, .int .i64 y.scrap] := by rw [hwy]; exact RowL.new _ _ _
    have hb : Below w6.heap.size w6 y1 := by rw [hwy]; go_grown
    clear hwy
    have M_y1 := M_6.below hb M_6.lt
    have VV_y1 := hide (VV_6.out.below hb)
    have VI_y1 := hide (VI_6.out.below hb)
    have VY_y1 := hide (VY_6.out.below hb)
    have B_y1 := hide (Below.step B_6.out hb (Nat.le_refl _))
    have hzy1 := hb.size
    have hly1 := X_y1.lt
    clear hb
    clear KR KV hv hxs hy
    have q4 : (y.strand == m.strand) = true := by rw [HE4.out]; simp
    have q5 : (y.scrap == m.scrap) = true := by rw [HE5.out]; simp
    have hI : ((World.drew y1).cell? ⟨w1.heap.size, 0, none⟩ = some (.slice ao1 m.store.length cap1) ∧ (World.drew y1).cell? ⟨w1.heap.size, 1, none⟩ = some (.int .i64 m.rule.lc) ∧ (World.drew y1).cell? ⟨w1.heap.size, 2, none⟩ = some (.int .i64 m.rule.hc) ∧ (World.drew y1).cell? ⟨w1.heap.size, 3, none⟩ = some (.int .i64 m.rule.lm) ∧ (World.drew y1).cell? ⟨w1.heap.size, 4, none⟩ = some (.int .i64 m.rule.hm) ∧ (World.drew y1).cell? ⟨w1.heap.size, 5, none⟩ = some (.int .i64 m.rule.ls) ∧ (World.drew y1).cell? ⟨w1.heap.size, 6, none⟩ = some (.int .i64 m.rule.hs) ∧ (World.drew y1).cell? ⟨w1.heap.size, 7, none⟩ = some (.int .i64 m.strand) ∧ (World.drew y1).cell? ⟨w1.heap.size, 8, none⟩ = some (.slice ao2 m.pieces.length cap2) ∧ (World.drew y1).cell? ⟨w1.heap.size, 9, none⟩ = some (.slice ao3 m.low.length cap3) ∧ (World.drew y1).cell? ⟨w1.heap.size, 10, none⟩ = some (.slice ao4 m.high.length cap4) ∧ (World.drew y1).cell? ⟨w1.heap.size, 11, none⟩ = some (.int .i64 m.scrap)) ∧ ((World.drew y1).cell? ⟨w6.heap.size, 0, none⟩ = some (.slice ao61 y.store.length cap61) ∧ (World.drew y1).cell? ⟨w6.heap.size, 1, none⟩ = some (.int .i64 y.rule.lc) ∧ (World.drew y1).cell? ⟨w6.heap.size, 2, none⟩ = some (.int .i64 y.rule.hc) ∧ (World.drew y1).cell? ⟨w6.heap.size, 3, none⟩ = some (.int .i64 y.rule.lm) ∧ (World.drew y1).cell? ⟨w6.heap.size, 4, none⟩ = some (.int .i64 y.rule.hm) ∧ (World.drew y1).cell? ⟨w6.heap.size, 5, none⟩ = some (.int .i64 y.rule.ls) ∧ (World.drew y1).cell? ⟨w6.heap.size, 6, none⟩ = some (.int .i64 y.rule.hs) ∧ (World.drew y1).cell? ⟨w6.heap.size, 7, none⟩ = some (.int .i64 y.strand) ∧ (World.drew y1).cell? ⟨w6.heap.size, 8, none⟩ = some (.slice ao62 y.pieces.length cap62) ∧ (World.drew y1).cell? ⟨w6.heap.size, 9, none⟩ = some (.slice ao63 y.low.length cap63) ∧ (World.drew y1).cell? ⟨w6.heap.size, 10, none⟩ = some (.slice ao64 y.high.length cap64) ∧ (World.drew y1).cell? ⟨w6.heap.size, 11, none⟩ = some (.int .i64 y.scrap)) := ⟨row12_all M_y1, row12_all X_y1⟩
    have hb : Below y1.heap.size y1 (World.drew y1) := (Below.refl _ _).drew
    have M_d := M_y1.drew
    have X_d := X_y1.drew
    have VV_d := hide (VV_y1.out.below hb)
    have VI_d := hide (VI_y1.out.below hb)
    have VY_d := hide (VY_y1.out.below hb)
    have B_d := hide (Below.step B_y1.out hb (Nat.le_refl _))
    clear hb
    go_region_held (fun W => (W.cell? ⟨w1.heap.size, 0, none⟩ = some (.slice ao1 m.store.length cap1) ∧ W.cell? ⟨w1.heap.size, 1, none⟩ = some (.int .i64 m.rule.lc) ∧ W.cell? ⟨w1.heap.size, 2, none⟩ = some (.int .i64 m.rule.hc) ∧ W.cell? ⟨w1.heap.size, 3, none⟩ = some (.int .i64 m.rule.lm) ∧ W.cell? ⟨w1.heap.size, 4, none⟩ = some (.int .i64 m.rule.hm) ∧ W.cell? ⟨w1.heap.size, 5, none⟩ = some (.int .i64 m.rule.ls) ∧ W.cell? ⟨w1.heap.size, 6, none⟩ = some (.int .i64 m.rule.hs) ∧ W.cell? ⟨w1.heap.size, 7, none⟩ = some (.int .i64 m.strand) ∧ W.cell? ⟨w1.heap.size, 8, none⟩ = some (.slice ao2 m.pieces.length cap2) ∧ W.cell? ⟨w1.heap.size, 9, none⟩ = some (.slice ao3 m.low.length cap3) ∧ W.cell? ⟨w1.heap.size, 10, none⟩ = some (.slice ao4 m.high.length cap4) ∧ W.cell? ⟨w1.heap.size, 11, none⟩ = some (.int .i64 m.scrap)) ∧ (W.cell? ⟨w6.heap.size, 0, none⟩ = some (.slice ao61 y.store.length cap61) ∧ W.cell? ⟨w6.heap.size, 1, none⟩ = some (.int .i64 y.rule.lc) ∧ W.cell? ⟨w6.heap.size, 2, none⟩ = some (.int .i64 y.rule.hc) ∧ W.cell? ⟨w6.heap.size, 3, none⟩ = some (.int .i64 y.rule.lm) ∧ W.cell? ⟨w6.heap.size, 4, none⟩ = some (.int .i64 y.rule.hm) ∧ W.cell? ⟨w6.heap.size, 5, none⟩ = some (.int .i64 y.rule.ls) ∧ W.cell? ⟨w6.heap.size, 6, none⟩ = some (.int .i64 y.rule.hs) ∧ W.cell? ⟨w6.heap.size, 7, none⟩ = some (.int .i64 y.strand) ∧ W.cell? ⟨w6.heap.size, 8, none⟩ = some (.slice ao62 y.pieces.length cap62) ∧ W.cell? ⟨w6.heap.size, 9, none⟩ = some (.slice ao63 y.low.length cap63) ∧ W.cell? ⟨w6.heap.size, 10, none⟩ = some (.slice ao64 y.high.length cap64) ∧ W.cell? ⟨w6.heap.size, 11, none⟩ = some (.int .i64 y.scrap))) (first | (with_reducible exact hI) | (with_reducible exact hS0) | (with_reducible exact hS1)) (first
      | (go_at_call 37; refine (coils_impl _ _ y.low y.high _ VY_k0.out.all.low VY_k0.out.all.high).mono ?_; rintro e k1 ⟨v8, rfl, hv8, hb⟩; have M_k1 := M_k0.below hb M_k0.lt; have X_k1 := X_k0.below hb X_k0.lt; have VV_k1 := hide (VV_k0.out.below hb); have VI_k1 := hide (VI_k0.out.below hb); have VY_k1 := hide (VY_k0.out.below hb); obtain ⟨ai8, ci8, rfl, -, -⟩ := own_slice hv8; clear hv8; rw [HE3.out]; have B_k1 := hide (Below.step B_k0.out hb (Nat.le_refl _)); have hzk1 := hb.size; have hS1 : (k1.cell? ⟨w1.heap.size, 0, none⟩ = some (.slice ao1 m.store.length cap1) ∧ k1.cell? ⟨w1.heap.size, 1, none⟩ = some (.int .i64 m.rule.lc) ∧ k1.cell? ⟨w1.heap.size, 2, none⟩ = some (.int .i64 m.rule.hc) ∧ k1.cell? ⟨w1.heap.size, 3, none⟩ = some (.int .i64 m.rule.lm) ∧ k1.cell? ⟨w1.heap.size, 4, none⟩ = some (.int .i64 m.rule.hm) ∧ k1.cell? ⟨w1.heap.size, 5, none⟩ = some (.int .i64 m.rule.ls) ∧ k1.cell? ⟨w1.heap.size, 6, none⟩ = some (.int .i64 m.rule.hs) ∧ k1.cell? ⟨w1.heap.size, 7, none⟩ = some (.int .i64 m.strand) ∧ k1.cell? ⟨w1.heap.size, 8, none⟩ = some (.slice ao2 m.pieces.length cap2) ∧ k1.cell? ⟨w1.heap.size, 9, none⟩ = some (.slice ao3 m.low.length cap3) ∧ k1.cell? ⟨w1.heap.size, 10, none⟩ = some (.slice ao4 m.high.length cap4) ∧ k1.cell? ⟨w1.heap.size, 11, none⟩ = some (.int .i64 m.scrap)) ∧ (k1.cell? ⟨w6.heap.size, 0, none⟩ = some (.slice ao61 y.store.length cap61) ∧ k1.cell? ⟨w6.heap.size, 1, none⟩ = some (.int .i64 y.rule.lc) ∧ k1.cell? ⟨w6.heap.size, 2, none⟩ = some (.int .i64 y.rule.hc) ∧ k1.cell? ⟨w6.heap.size, 3, none⟩ = some (.int .i64 y.rule.lm) ∧ k1.cell? ⟨w6.heap.size, 4, none⟩ = some (.int .i64 y.rule.hm) ∧ k1.cell? ⟨w6.heap.size, 5, none⟩ = some (.int .i64 y.rule.ls) ∧ k1.cell? ⟨w6.heap.size, 6, none⟩ = some (.int .i64 y.rule.hs) ∧ k1.cell? ⟨w6.heap.size, 7, none⟩ = some (.int .i64 y.strand) ∧ k1.cell? ⟨w6.heap.size, 8, none⟩ = some (.slice ao62 y.pieces.length cap62) ∧ k1.cell? ⟨w6.heap.size, 9, none⟩ = some (.slice ao63 y.low.length cap63) ∧ k1.cell? ⟨w6.heap.size, 10, none⟩ = some (.slice ao64 y.high.length cap64) ∧ k1.cell? ⟨w6.heap.size, 11, none⟩ = some (.int .i64 y.scrap)) := ⟨row12_all M_k1, row12_all X_k1⟩; clear hb)
      | (go_at_call 29; refine (pieces_impl _ _ _ _ y 2 _ VY_d.out.all).mono ?_; rintro e k0 ⟨v7, rfl, hv7, hb⟩; have M_k0 := M_d.below hb M_d.lt; have X_k0 := X_d.below hb X_d.lt; have VV_k0 := hide (VV_d.out.below hb); have VI_k0 := hide (VI_d.out.below hb); have VY_k0 := hide (VY_d.out.below hb); obtain ⟨ai7, ci7, rfl, -, -⟩ := own_slice hv7; clear hv7; rw [HE2.out]; have B_k0 := hide (Below.step B_d.out hb (Nat.le_refl _)); have hzk0 := hb.size; have hS0 : (k0.cell? ⟨w1.heap.size, 0, none⟩ = some (.slice ao1 m.store.length cap1) ∧ k0.cell? ⟨w1.heap.size, 1, none⟩ = some (.int .i64 m.rule.lc) ∧ k0.cell? ⟨w1.heap.size, 2, none⟩ = some (.int .i64 m.rule.hc) ∧ k0.cell? ⟨w1.heap.size, 3, none⟩ = some (.int .i64 m.rule.lm) ∧ k0.cell? ⟨w1.heap.size, 4, none⟩ = some (.int .i64 m.rule.hm) ∧ k0.cell? ⟨w1.heap.size, 5, none⟩ = some (.int .i64 m.rule.ls) ∧ k0.cell? ⟨w1.heap.size, 6, none⟩ = some (.int .i64 m.rule.hs) ∧ k0.cell? ⟨w1.heap.size, 7, none⟩ = some (.int .i64 m.strand) ∧ k0.cell? ⟨w1.heap.size, 8, none⟩ = some (.slice ao2 m.pieces.length cap2) ∧ k0.cell? ⟨w1.heap.size, 9, none⟩ = some (.slice ao3 m.low.length cap3) ∧ k0.cell? ⟨w1.heap.size, 10, none⟩ = some (.slice ao4 m.high.length cap4) ∧ k0.cell? ⟨w1.heap.size, 11, none⟩ = some (.int .i64 m.scrap)) ∧ (k0.cell? ⟨w6.heap.size, 0, none⟩ = some (.slice ao61 y.store.length cap61) ∧ k0.cell? ⟨w6.heap.size, 1, none⟩ = some (.int .i64 y.rule.lc) ∧ k0.cell? ⟨w6.heap.size, 2, none⟩ = some (.int .i64 y.rule.hc) ∧ k0.cell? ⟨w6.heap.size, 3, none⟩ = some (.int .i64 y.rule.lm) ∧ k0.cell? ⟨w6.heap.size, 4, none⟩ = some (.int .i64 y.rule.hm) ∧ k0.cell? ⟨w6.heap.size, 5, none⟩ = some (.int .i64 y.rule.ls) ∧ k0.cell? ⟨w6.heap.size, 6, none⟩ = some (.int .i64 y.rule.hs) ∧ k0.cell? ⟨w6.heap.size, 7, none⟩ = some (.int .i64 y.strand) ∧ k0.cell? ⟨w6.heap.size, 8, none⟩ = some (.slice ao62 y.pieces.length cap62) ∧ k0.cell? ⟨w6.heap.size, 9, none⟩ = some (.slice ao63 y.low.length cap63) ∧ k0.cell? ⟨w6.heap.size, 10, none⟩ = some (.slice ao64 y.high.length cap64) ∧ k0.cell? ⟨w6.heap.size, 11, none⟩ = some (.int .i64 y.scrap)) := ⟨row12_all M_k0, row12_all X_k0⟩; clear hb))
    clear hI hS0 hS1
    go_wp2_with fail
    go_ret
    exact ⟨rfl, B_k1.out⟩
end Go.Proofs.YtmemgbklgcjobaaGreatDoor
