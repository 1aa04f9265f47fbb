/-
  The walk over the law FnPiecesIn: it answers true, whatever the code.
-/
import Derived.Test.YtmemgbklgcjobaaGreatDoorB47
import Derived.Deep.RegionHeld
namespace Go.Proofs.YtmemgbklgcjobaaGreatDoor
open Go.RowKit

set_option linter.unusedVariables false in
set_option linter.unusedSimpArgs false in
set_option maxRecDepth 10000 in
set_option maxHeartbeats 3200000 in
theorem law_PiecesIn (v : Value) (n : Nat) (w : World) (h : BytesAt 0 w.heap.size w v n) :
    Calls Tryz.prog 8 #[v] w fun e w' => e = .returned (.bool true) ∧ Below w.heap.size w w' := by
  obtain ⟨ao, cap, rfl, hnc, hcap, -, -⟩ := id h
  have HB := hide h
  clear h
  by_cases hlong : 1048576 < n
  · go_enter Tryz.func8, Tryz.ntmps8
    go_wp2_with fail
    go_ret
    exact ⟨rfl, by go_grown⟩
  go_enter Tryz.func8, Tryz.ntmps8
  go_wp2_with fail
  refine (drawPiecesIn _ n _ HB.out).mono ?_
  rintro e w1 ⟨s, p, l, h, m, q, rfl, hG, hf, hb⟩
  obtain ⟨ao1, cap1, rfl, -, -, -, -⟩ := id hG.all.store
  obtain ⟨ao2, cap2, rfl, -, -, -, -⟩ := id hG.all.pieces
  obtain ⟨ao3, cap3, rfl, -, -, -, -⟩ := id hG.all.low
  obtain ⟨ao4, cap4, rfl, -, -, -, -⟩ := id hG.all.high
  have B_1 := hide hb
  have VV_1 := hide hG
  have hz1 := hb.size
  clear hb hG
  unfold millV
  go_wp2_with fail
  refine calls_at fun wx hwx => ?_
  have M_wx : RowL wx (w1.heap.size) 31 [.slice ao1 m.store.length cap1, .int .i64 m.rule.lc, .int .i64 m.rule.hc, .int .i64 m.rule.lm, .int .i64 m.rule.hm, .int .i64 m.rule.ls, .int .i64 m.rule.hs, .int .i64 m.strand, .slice ao2 m.pieces.length cap2, .slice ao3 m.low.length cap3, .slice ao4 m.high.length cap4, .int .i64 m.scrap] := by rw [hwx]; exact (RowL.new _ 31 [.slice ao1 m.store.length cap1, .int .i64 m.rule.lc, .int .i64 m.rule.hc, .int .i64 m.rule.lm, .int .i64 m.rule.hm, .int .i64 m.rule.ls, .int .i64 m.rule.hs, .int .i64 m.strand, .slice ao2 m.pieces.length cap2, .slice ao3 m.low.length cap3, .slice ao4 m.high.length cap4, .int .i64 m.scrap])
  have hb : Below w1.heap.size w1 wx := by rw [hwx]; exact ((Below.refl _ _).alloc (Nat.le_refl _) _)
  clear hwx
  have VV_wx := hide (VV_1.out.below hb)
  have B_wx := hide (Below.step B_1.out hb (Nat.le_refl _))
  have hzwx := hb.size
  have hLwx := M_wx.lt
  clear hb
  have HP := hide (pieces_lt m q)
  cases hv : millB m with
  | false =>
    have hxs : piecesR m q = [] := by unfold piecesR; rw [hv]; rfl
    have KI := pieces_impl _ _ _ _ m q wx VV_wx.out.all
    rw [hxs] at KI
    refine (KI).mono ?_
    rintro e w2 ⟨v1, rfl, hv1, hb⟩
    have M_2 := M_wx.below hb M_wx.lt
    have VV_2 := hide (VV_wx.out.below hb)
    have B_2 := hide (Below.step B_wx.out hb (Nat.le_refl _))
    have hz2 := hb.size
    clear hb
    have cM0 : w2.cell? ⟨w1.heap.size, 0, none⟩ = some (.slice ao1 m.store.length cap1) := M_2.cell 0 (by simp)
    have cM1 : w2.cell? ⟨w1.heap.size, 1, none⟩ = some (.int .i64 m.rule.lc) := M_2.cell 1 (by simp)
    have cM2 : w2.cell? ⟨w1.heap.size, 2, none⟩ = some (.int .i64 m.rule.hc) := M_2.cell 2 (by simp)
    have cM3 : w2.cell? ⟨w1.heap.size, 3, none⟩ = some (.int .i64 m.rule.lm) := M_2.cell 3 (by simp)
    have cM4 : w2.cell? ⟨w1.heap.size, 4, none⟩ = some (.int .i64 m.rule.hm) := M_2.cell 4 (by simp)
    have cM5 : w2.cell? ⟨w1.heap.size, 5, none⟩ = some (.int .i64 m.rule.ls) := M_2.cell 5 (by simp)
    have cM6 : w2.cell? ⟨w1.heap.size, 6, none⟩ = some (.int .i64 m.rule.hs) := M_2.cell 6 (by simp)
    have cM7 : w2.cell? ⟨w1.heap.size, 7, none⟩ = some (.int .i64 m.strand) := M_2.cell 7 (by simp)
    have cM8 : w2.cell? ⟨w1.heap.size, 8, none⟩ = some (.slice ao2 m.pieces.length cap2) := M_2.cell 8 (by simp)
    have cM9 : w2.cell? ⟨w1.heap.size, 9, none⟩ = some (.slice ao3 m.low.length cap3) := M_2.cell 9 (by simp)
    have cM10 : w2.cell? ⟨w1.heap.size, 10, none⟩ = some (.slice ao4 m.high.length cap4) := M_2.cell 10 (by simp)
    have cM11 : w2.cell? ⟨w1.heap.size, 11, none⟩ = some (.int .i64 m.scrap) := M_2.cell 11 (by simp)
    obtain ⟨ai, ci, rfl, -, -⟩ := own_slice hv1
    have VI_2 := hide (ownE_ints (OwnE.own hv1) rfl (by omega))
    clear hv1 KI
    go_wp2_with fail
    have KS := pieces_spec _ _ _ _ m q w2 VV_2.out.all
    rw [hxs] at KS
    refine (KS).mono ?_
    rintro e w3 ⟨v2, rfl, hv2, hb⟩
    have M_3 := M_2.below hb M_2.lt
    have VV_3 := hide (VV_2.out.below hb)
    have VI_3 := hide (VI_2.out.below hb)
    have B_3 := hide (Below.step B_2.out hb (Nat.le_refl _))
    have hz3 := hb.size
    clear hb
    have VJ_3 := hide (ownE_ints (OwnE.own hv2) rfl (by omega))
    clear hv2 KS
    go_wp2_with fail
    have KQ := sameInts_any _ _ _ _ _ _ _ _ w3 VI_3.out VJ_3.out
    rw [decide_eq_true (rfl : ([] : List Int) = [])] at KQ
    refine (KQ).mono ?_
    rintro e w4 ⟨rfl, hb⟩
    have M_4 := M_3.below hb M_3.lt
    have VV_4 := hide (VV_3.out.below hb)
    have VI_4 := hide (VI_3.out.below hb)
    have B_4 := hide (Below.step B_3.out hb (Nat.le_refl _))
    have hz4 := hb.size
    clear hb
    have cM0 : w4.cell? ⟨w1.heap.size, 0, none⟩ = some (.slice ao1 m.store.length cap1) := M_4.cell 0 (by simp)
    have cM1 : w4.cell? ⟨w1.heap.size, 1, none⟩ = some (.int .i64 m.rule.lc) := M_4.cell 1 (by simp)
    have cM2 : w4.cell? ⟨w1.heap.size, 2, none⟩ = some (.int .i64 m.rule.hc) := M_4.cell 2 (by simp)
    have cM3 : w4.cell? ⟨w1.heap.size, 3, none⟩ = some (.int .i64 m.rule.lm) := M_4.cell 3 (by simp)
    have cM4 : w4.cell? ⟨w1.heap.size, 4, none⟩ = some (.int .i64 m.rule.hm) := M_4.cell 4 (by simp)
    have cM5 : w4.cell? ⟨w1.heap.size, 5, none⟩ = some (.int .i64 m.rule.ls) := M_4.cell 5 (by simp)
    have cM6 : w4.cell? ⟨w1.heap.size, 6, none⟩ = some (.int .i64 m.rule.hs) := M_4.cell 6 (by simp)
    have cM7 : w4.cell? ⟨w1.heap.size, 7, none⟩ = some (.int .i64 m.strand) := M_4.cell 7 (by simp)
    have cM8 : w4.cell? ⟨w1.heap.size, 8, none⟩ = some (.slice ao2 m.pieces.length cap2) := M_4.cell 8 (by simp)
    have cM9 : w4.cell? ⟨w1.heap.size, 9, none⟩ = some (.slice ao3 m.low.length cap3) := M_4.cell 9 (by simp)
    have cM10 : w4.cell? ⟨w1.heap.size, 10, none⟩ = some (.slice ao4 m.high.length cap4) := M_4.cell 10 (by simp)
    have cM11 : w4.cell? ⟨w1.heap.size, 11, none⟩ = some (.int .i64 m.scrap) := M_4.cell 11 (by simp)
    go_wp2_with fail
    have KV := mill_spec _ _ _ _ m w4 VV_4.out.all
    rw [hv] at KV
    refine (KV).mono ?_
    rintro e w5 ⟨rfl, hb⟩
    have M_5 := M_4.below hb M_4.lt
    have VV_5 := hide (VV_4.out.below hb)
    have VI_5 := hide (VI_4.out.below hb)
    have B_5 := hide (Below.step B_4.out hb (Nat.le_refl _))
    have hz5 := hb.size
    clear hb
    go_wp2_with fail
    refine (alive_any w5).mono ?_
    rintro e w6 ⟨rfl, hb⟩
    have M_6 := M_5.below hb M_5.lt
    have VV_6 := hide (VV_5.out.below hb)
    have VI_6 := hide (VI_5.out.below hb)
    have B_6 := hide (Below.step B_5.out hb (Nat.le_refl _))
    have hz6 := hb.size
    clear hb
    go_wp2_with fail
    go_ret
    exact ⟨rfl, B_6.out⟩
  | true =>
    have h3 := hide (pieces_three hv)
    have KI := pieces_impl _ _ _ _ m q wx VV_wx.out.all
    obtain ⟨xs, hxs⟩ : ∃ xs, piecesR m q = xs := ⟨_, rfl⟩
    rw [hxs] at KI HP
    refine (KI).mono ?_
    rintro e w2 ⟨v1, rfl, hv1, hb⟩
    have M_2 := M_wx.below hb M_wx.lt
    have VV_2 := hide (VV_wx.out.below hb)
    have B_2 := hide (Below.step B_wx.out hb (Nat.le_refl _))
    have hz2 := hb.size
    clear hb
    have cM0 : w2.cell? ⟨w1.heap.size, 0, none⟩ = some (.slice ao1 m.store.length cap1) := M_2.cell 0 (by simp)
    have cM1 : w2.cell? ⟨w1.heap.size, 1, none⟩ = some (.int .i64 m.rule.lc) := M_2.cell 1 (by simp)
    have cM2 : w2.cell? ⟨w1.heap.size, 2, none⟩ = some (.int .i64 m.rule.hc) := M_2.cell 2 (by simp)
    have cM3 : w2.cell? ⟨w1.heap.size, 3, none⟩ = some (.int .i64 m.rule.lm) := M_2.cell 3 (by simp)
    have cM4 : w2.cell? ⟨w1.heap.size, 4, none⟩ = some (.int .i64 m.rule.hm) := M_2.cell 4 (by simp)
    have cM5 : w2.cell? ⟨w1.heap.size, 5, none⟩ = some (.int .i64 m.rule.ls) := M_2.cell 5 (by simp)
    have cM6 : w2.cell? ⟨w1.heap.size, 6, none⟩ = some (.int .i64 m.rule.hs) := M_2.cell 6 (by simp)
    have cM7 : w2.cell? ⟨w1.heap.size, 7, none⟩ = some (.int .i64 m.strand) := M_2.cell 7 (by simp)
    have cM8 : w2.cell? ⟨w1.heap.size, 8, none⟩ = some (.slice ao2 m.pieces.length cap2) := M_2.cell 8 (by simp)
    have cM9 : w2.cell? ⟨w1.heap.size, 9, none⟩ = some (.slice ao3 m.low.length cap3) := M_2.cell 9 (by simp)
    have cM10 : w2.cell? ⟨w1.heap.size, 10, none⟩ = some (.slice ao4 m.high.length cap4) := M_2.cell 10 (by simp)
    have cM11 : w2.cell? ⟨w1.heap.size, 11, none⟩ = some (.int .i64 m.scrap) := M_2.cell 11 (by simp)
    obtain ⟨ai, ci, rfl, -, -⟩ := own_slice hv1
    have VI_2 := hide (ownE_ints (OwnE.own hv1) rfl (by omega))
    clear hv1 KI
    go_wp2_with fail
    have KS := pieces_spec _ _ _ _ m q w2 VV_2.out.all
    rw [hxs] at KS
    refine (KS).mono ?_
    rintro e w3 ⟨v2, rfl, hv2, hb⟩
    have M_3 := M_2.below hb M_2.lt
    have VV_3 := hide (VV_2.out.below hb)
    have VI_3 := hide (VI_2.out.below hb)
    have B_3 := hide (Below.step B_2.out hb (Nat.le_refl _))
    have hz3 := hb.size
    clear hb
    have VJ_3 := hide (ownE_ints (OwnE.own hv2) rfl (by omega))
    clear hv2 KS
    go_wp2_with fail
    have KQ := sameInts_any _ _ _ _ _ _ _ _ w3 VI_3.out VJ_3.out
    rw [decide_eq_true (rfl : (xs : List Int) = xs)] at KQ
    refine (KQ).mono ?_
    rintro e w4 ⟨rfl, hb⟩
    have M_4 := M_3.below hb M_3.lt
    have VV_4 := hide (VV_3.out.below hb)
    have VI_4 := hide (VI_3.out.below hb)
    have B_4 := hide (Below.step B_3.out hb (Nat.le_refl _))
    have hz4 := hb.size
    clear hb
    have cM0 : w4.cell? ⟨w1.heap.size, 0, none⟩ = some (.slice ao1 m.store.length cap1) := M_4.cell 0 (by simp)
    have cM1 : w4.cell? ⟨w1.heap.size, 1, none⟩ = some (.int .i64 m.rule.lc) := M_4.cell 1 (by simp)
    have cM2 : w4.cell? ⟨w1.heap.size, 2, none⟩ = some (.int .i64 m.rule.hc) := M_4.cell 2 (by simp)
    have cM3 : w4.cell? ⟨w1.heap.size, 3, none⟩ = some (.int .i64 m.rule.lm) := M_4.cell 3 (by simp)
    have cM4 : w4.cell? ⟨w1.heap.size, 4, none⟩ = some (.int .i64 m.rule.hm) := M_4.cell 4 (by simp)
    have cM5 : w4.cell? ⟨w1.heap.size, 5, none⟩ = some (.int .i64 m.rule.ls) := M_4.cell 5 (by simp)
    have cM6 : w4.cell? ⟨w1.heap.size, 6, none⟩ = some (.int .i64 m.rule.hs) := M_4.cell 6 (by simp)
    have cM7 : w4.cell? ⟨w1.heap.size, 7, none⟩ = some (.int .i64 m.strand) := M_4.cell 7 (by simp)
    have cM8 : w4.cell? ⟨w1.heap.size, 8, none⟩ = some (.slice ao2 m.pieces.length cap2) := M_4.cell 8 (by simp)
    have cM9 : w4.cell? ⟨w1.heap.size, 9, none⟩ = some (.slice ao3 m.low.length cap3) := M_4.cell 9 (by simp)
    have cM10 : w4.cell? ⟨w1.heap.size, 10, none⟩ = some (.slice ao4 m.high.length cap4) := M_4.cell 10 (by simp)
    have cM11 : w4.cell? ⟨w1.heap.size, 11, none⟩ = some (.int .i64 m.scrap) := M_4.cell 11 (by simp)
    go_wp2_with fail
    have KV := mill_spec _ _ _ _ m w4 VV_4.out.all
    rw [hv] at KV
    refine (KV).mono ?_
    rintro e w5 ⟨rfl, hb⟩
    have M_5 := M_4.below hb M_4.lt
    have VV_5 := hide (VV_4.out.below hb)
    have VI_5 := hide (VI_4.out.below hb)
    have B_5 := hide (Below.step B_4.out hb (Nat.le_refl _))
    have hz5 := hb.size
    clear hb
    have cM0 : w5.cell? ⟨w1.heap.size, 0, none⟩ = some (.slice ao1 m.store.length cap1) := M_5.cell 0 (by simp)
    have cM1 : w5.cell? ⟨w1.heap.size, 1, none⟩ = some (.int .i64 m.rule.lc) := M_5.cell 1 (by simp)
    have cM2 : w5.cell? ⟨w1.heap.size, 2, none⟩ = some (.int .i64 m.rule.hc) := M_5.cell 2 (by simp)
    have cM3 : w5.cell? ⟨w1.heap.size, 3, none⟩ = some (.int .i64 m.rule.lm) := M_5.cell 3 (by simp)
    have cM4 : w5.cell? ⟨w1.heap.size, 4, none⟩ = some (.int .i64 m.rule.hm) := M_5.cell 4 (by simp)
    have cM5 : w5.cell? ⟨w1.heap.size, 5, none⟩ = some (.int .i64 m.rule.ls) := M_5.cell 5 (by simp)
    have cM6 : w5.cell? ⟨w1.heap.size, 6, none⟩ = some (.int .i64 m.rule.hs) := M_5.cell 6 (by simp)
    have cM7 : w5.cell? ⟨w1.heap.size, 7, none⟩ = some (.int .i64 m.strand) := M_5.cell 7 (by simp)
    have cM8 : w5.cell? ⟨w1.heap.size, 8, none⟩ = some (.slice ao2 m.pieces.length cap2) := M_5.cell 8 (by simp)
    have cM9 : w5.cell? ⟨w1.heap.size, 9, none⟩ = some (.slice ao3 m.low.length cap3) := M_5.cell 9 (by simp)
    have cM10 : w5.cell? ⟨w1.heap.size, 10, none⟩ = some (.slice ao4 m.high.length cap4) := M_5.cell 10 (by simp)
    have cM11 : w5.cell? ⟨w1.heap.size, 11, none⟩ = some (.int .i64 m.scrap) := M_5.cell 11 (by simp)
    go_wp2_with fail
    clear cM0 cM1 cM2 cM3 cM4 cM5 cM6 cM7 cM8 cM9 cM10 cM11
    have hI : ((World.drew w5).cell? ⟨w1.heap.size, 0, none⟩ = some (.slice ao1 m.store.length cap1) ∧ (World.drew w5).cell? ⟨w1.heap.size, 1, none⟩ = some (.int .i64 m.rule.lc) ∧ (World.drew w5).cell? ⟨w1.heap.size, 2, none⟩ = some (.int .i64 m.rule.hc) ∧ (World.drew w5).cell? ⟨w1.heap.size, 3, none⟩ = some (.int .i64 m.rule.lm) ∧ (World.drew w5).cell? ⟨w1.heap.size, 4, none⟩ = some (.int .i64 m.rule.hm) ∧ (World.drew w5).cell? ⟨w1.heap.size, 5, none⟩ = some (.int .i64 m.rule.ls) ∧ (World.drew w5).cell? ⟨w1.heap.size, 6, none⟩ = some (.int .i64 m.rule.hs) ∧ (World.drew w5).cell? ⟨w1.heap.size, 7, none⟩ = some (.int .i64 m.strand) ∧ (World.drew w5).cell? ⟨w1.heap.size, 8, none⟩ = some (.slice ao2 m.pieces.length cap2) ∧ (World.drew w5).cell? ⟨w1.heap.size, 9, none⟩ = some (.slice ao3 m.low.length cap3) ∧ (World.drew w5).cell? ⟨w1.heap.size, 10, none⟩ = some (.slice ao4 m.high.length cap4) ∧ (World.drew w5).cell? ⟨w1.heap.size, 11, none⟩ = some (.int .i64 m.scrap)) := row12_all M_5
    have hb : Below w5.heap.size w5 (World.drew w5) := (Below.refl _ _).drew
    have M_d := M_5.drew
    have VV_d := hide (VV_5.out.below hb)
    have VI_d := hide (VI_5.out.below hb)
    have B_d := hide (Below.step B_5.out hb (Nat.le_refl _))
    clear hb
    go_region_held (fun W => (W.cell? ⟨w1.heap.size, 0, none⟩ = some (.slice ao1 m.store.length cap1) ∧ W.cell? ⟨w1.heap.size, 1, none⟩ = some (.int .i64 m.rule.lc) ∧ W.cell? ⟨w1.heap.size, 2, none⟩ = some (.int .i64 m.rule.hc) ∧ W.cell? ⟨w1.heap.size, 3, none⟩ = some (.int .i64 m.rule.lm) ∧ W.cell? ⟨w1.heap.size, 4, none⟩ = some (.int .i64 m.rule.hm) ∧ W.cell? ⟨w1.heap.size, 5, none⟩ = some (.int .i64 m.rule.ls) ∧ W.cell? ⟨w1.heap.size, 6, none⟩ = some (.int .i64 m.rule.hs) ∧ W.cell? ⟨w1.heap.size, 7, none⟩ = some (.int .i64 m.strand) ∧ W.cell? ⟨w1.heap.size, 8, none⟩ = some (.slice ao2 m.pieces.length cap2) ∧ W.cell? ⟨w1.heap.size, 9, none⟩ = some (.slice ao3 m.low.length cap3) ∧ W.cell? ⟨w1.heap.size, 10, none⟩ = some (.slice ao4 m.high.length cap4) ∧ W.cell? ⟨w1.heap.size, 11, none⟩ = some (.int .i64 m.scrap))) (first | (with_reducible exact hI) | (with_reducible exact hS0) | (with_reducible exact hS1) | (with_reducible exact hS2)) (first
      | (go_at_call 29; refine (pieces_impl _ _ _ _ m 2 _ VV_k1.out.all).mono ?_; rintro e k2 ⟨v5, rfl, hv5, hb⟩; have M_k2 := M_k1.below hb M_k1.lt; have VV_k2 := hide (VV_k1.out.below hb); have VI_k2 := hide (VI_k1.out.below hb); obtain ⟨ai5, ci5, rfl, -, -⟩ := own_slice hv5; clear hv5; have B_k2 := hide (Below.step B_k1.out hb (Nat.le_refl _)); have hzk2 := hb.size; have hS2 : (k2.cell? ⟨w1.heap.size, 0, none⟩ = some (.slice ao1 m.store.length cap1) ∧ k2.cell? ⟨w1.heap.size, 1, none⟩ = some (.int .i64 m.rule.lc) ∧ k2.cell? ⟨w1.heap.size, 2, none⟩ = some (.int .i64 m.rule.hc) ∧ k2.cell? ⟨w1.heap.size, 3, none⟩ = some (.int .i64 m.rule.lm) ∧ k2.cell? ⟨w1.heap.size, 4, none⟩ = some (.int .i64 m.rule.hm) ∧ k2.cell? ⟨w1.heap.size, 5, none⟩ = some (.int .i64 m.rule.ls) ∧ k2.cell? ⟨w1.heap.size, 6, none⟩ = some (.int .i64 m.rule.hs) ∧ k2.cell? ⟨w1.heap.size, 7, none⟩ = some (.int .i64 m.strand) ∧ k2.cell? ⟨w1.heap.size, 8, none⟩ = some (.slice ao2 m.pieces.length cap2) ∧ k2.cell? ⟨w1.heap.size, 9, none⟩ = some (.slice ao3 m.low.length cap3) ∧ k2.cell? ⟨w1.heap.size, 10, none⟩ = some (.slice ao4 m.high.length cap4) ∧ k2.cell? ⟨w1.heap.size, 11, none⟩ = some (.int .i64 m.scrap)) := row12_all M_k2; clear hb)
      | (go_at_call 29; refine (pieces_impl _ _ _ _ m 1 _ VV_k0.out.all).mono ?_; rintro e k1 ⟨v4, rfl, hv4, hb⟩; have M_k1 := M_k0.below hb M_k0.lt; have VV_k1 := hide (VV_k0.out.below hb); have VI_k1 := hide (VI_k0.out.below hb); obtain ⟨ai4, ci4, rfl, -, -⟩ := own_slice hv4; clear hv4; have B_k1 := hide (Below.step B_k0.out hb (Nat.le_refl _)); have hzk1 := hb.size; have hS1 : (k1.cell? ⟨w1.heap.size, 0, none⟩ = some (.slice ao1 m.store.length cap1) ∧ k1.cell? ⟨w1.heap.size, 1, none⟩ = some (.int .i64 m.rule.lc) ∧ k1.cell? ⟨w1.heap.size, 2, none⟩ = some (.int .i64 m.rule.hc) ∧ k1.cell? ⟨w1.heap.size, 3, none⟩ = some (.int .i64 m.rule.lm) ∧ k1.cell? ⟨w1.heap.size, 4, none⟩ = some (.int .i64 m.rule.hm) ∧ k1.cell? ⟨w1.heap.size, 5, none⟩ = some (.int .i64 m.rule.ls) ∧ k1.cell? ⟨w1.heap.size, 6, none⟩ = some (.int .i64 m.rule.hs) ∧ k1.cell? ⟨w1.heap.size, 7, none⟩ = some (.int .i64 m.strand) ∧ k1.cell? ⟨w1.heap.size, 8, none⟩ = some (.slice ao2 m.pieces.length cap2) ∧ k1.cell? ⟨w1.heap.size, 9, none⟩ = some (.slice ao3 m.low.length cap3) ∧ k1.cell? ⟨w1.heap.size, 10, none⟩ = some (.slice ao4 m.high.length cap4) ∧ k1.cell? ⟨w1.heap.size, 11, none⟩ = some (.int .i64 m.scrap)) := row12_all M_k1; clear hb)
      | (go_at_call 29; refine (pieces_impl _ _ _ _ m 0 _ VV_d.out.all).mono ?_; rintro e k0 ⟨v3, rfl, hv3, hb⟩; have M_k0 := M_d.below hb M_d.lt; have VV_k0 := hide (VV_d.out.below hb); have VI_k0 := hide (VI_d.out.below hb); obtain ⟨ai3, ci3, rfl, -, -⟩ := own_slice hv3; clear hv3; have B_k0 := hide (Below.step B_d.out hb (Nat.le_refl _)); have hzk0 := hb.size; have hS0 : (k0.cell? ⟨w1.heap.size, 0, none⟩ = some (.slice ao1 m.store.length cap1) ∧ k0.cell? ⟨w1.heap.size, 1, none⟩ = some (.int .i64 m.rule.lc) ∧ k0.cell? ⟨w1.heap.size, 2, none⟩ = some (.int .i64 m.rule.hc) ∧ k0.cell? ⟨w1.heap.size, 3, none⟩ = some (.int .i64 m.rule.lm) ∧ k0.cell? ⟨w1.heap.size, 4, none⟩ = some (.int .i64 m.rule.hm) ∧ k0.cell? ⟨w1.heap.size, 5, none⟩ = some (.int .i64 m.rule.ls) ∧ k0.cell? ⟨w1.heap.size, 6, none⟩ = some (.int .i64 m.rule.hs) ∧ k0.cell? ⟨w1.heap.size, 7, none⟩ = some (.int .i64 m.strand) ∧ k0.cell? ⟨w1.heap.size, 8, none⟩ = some (.slice ao2 m.pieces.length cap2) ∧ k0.cell? ⟨w1.heap.size, 9, none⟩ = some (.slice ao3 m.low.length cap3) ∧ k0.cell? ⟨w1.heap.size, 10, none⟩ = some (.slice ao4 m.high.length cap4) ∧ k0.cell? ⟨w1.heap.size, 11, none⟩ = some (.int .i64 m.scrap)) := row12_all M_k0; clear hb))
    clear hI hS0 hS1 hS2
    have b0 := pieces_few (m := m) 0
    have b1 := pieces_few (m := m) 1
    have b2 := pieces_few (m := m) 2
    have h3o := h3.out
    generalize (piecesR m 0).length = n0 at b0 h3o ⊢
    generalize (piecesR m 1).length = n1 at b1 h3o ⊢
    generalize (piecesR m 2).length = n2 at b2 h3o ⊢
    have hE : (((n0 : Int) + (n1 : Int) + (n2 : Int)) == (m.pieces.length : Int)) = true := by rw [beq_iff_eq]; omega
    have cM8 : k2.cell? ⟨w1.heap.size, 8, none⟩ = some (.slice ao2 m.pieces.length cap2) := M_k2.cell 8 (by simp)
    go_wp2_with fail
    refine (ascend_yes _ xs _ _ k2 VI_k2.out HP.out).mono ?_
    rintro e w6 ⟨rfl, hb⟩
    have M_6 := M_k2.below hb M_k2.lt
    have VV_6 := hide (VV_k2.out.below hb)
    have VI_6 := hide (VI_k2.out.below hb)
    have B_6 := hide (Below.step B_k2.out hb (Nat.le_refl _))
    have hz6 := hb.size
    clear hb
    go_wp2_with fail
    go_ret
    exact ⟨rfl, B_6.out⟩
end Go.Proofs.YtmemgbklgcjobaaGreatDoor
