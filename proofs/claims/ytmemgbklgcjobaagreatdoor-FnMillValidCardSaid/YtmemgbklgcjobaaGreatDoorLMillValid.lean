/-
  The walk over the law FnMillValid: it answers true, whatever the code.
-/
import Derived.Test.YtmemgbklgcjobaaGreatDoorB47
import Derived.Deep.RegionHeld
namespace Go.Proofs.YtmemgbklgcjobaaGreatDoor
open Go.RowKit

/-- Equal lists are the same. -/
theorem sameInts_eq (v v' : Value) (xs ys : List Int) (lo hi lo' hi' : Nat) (w : World) (h : IntsAt lo hi w v xs) (h' : IntsAt lo' hi' w v' ys) (e : xs = ys) :
    Calls Tryz.prog 36 #[v, v'] w fun e w' => e = .returned (.bool true) ∧ Below w.heap.size w w' :=
  (sameInts_any v v' xs ys lo hi lo' hi' w h h').mono fun _ _ ⟨he, hb⟩ => ⟨by rw [he, decide_eq_true e], hb⟩
set_option linter.unusedVariables false in
set_option linter.unusedSimpArgs false in
set_option maxRecDepth 10000 in
set_option maxHeartbeats 3200000 in
theorem law_MillValid (v : Value) (n : Nat) (w : World) (h : BytesAt 0 w.heap.size w v n) :
    Calls Tryz.prog 6 #[v] w fun e w' => e = .returned (.bool true) ∧ Below w.heap.size w w' := by
  obtain ⟨ao, cap, rfl, hnc, hcap, -, -⟩ := id h
  have HB := hide h
  clear h
  by_cases hlong : 1048576 < n
  · go_enter Tryz.func6, Tryz.ntmps6
    go_wp2_with fail
    go_ret
    exact ⟨rfl, by go_grown⟩
  go_enter Tryz.func6, Tryz.ntmps6
  go_wp2_with fail
  refine (drawMillValid _ n _ HB.out).mono ?_
  rintro e w1 ⟨s, p, l, h, m, rfl, hG, hf, hb⟩
  obtain ⟨ao1, cap1, rfl, -, -, -, -⟩ := id hG.all.store
  obtain ⟨ao2, cap2, rfl, -, -, -, -⟩ := id hG.all.pieces
  obtain ⟨ao3, cap3, rfl, -, -, -, -⟩ := id hG.all.low
  obtain ⟨ao4, cap4, rfl, -, -, -, -⟩ := id hG.all.high
  have B_1 := hide hb
  have VV_1 := hide hG
  have hz1 := hb.size
  clear hb hG
  unfold millV
  go_wp2_with fail
  have KZ := hide (show ∀ W : World, Calls Tryz.prog 28 #[.agg #[.slice none 0 0, .int .i64 0, .int .i64 0, .int .i64 0, .int .i64 0, .int .i64 0, .int .i64 0, .int .i64 0, .slice none 0 0, .slice none 0 0, .slice none 0 0, .int .i64 0]] W fun e w' => e = .returned (.bool false) ∧ Below W.heap.size W w' from fun W => by
    have h := mill_impl _ _ _ _ mi0 W (millGot_zero (Nat.le_refl _) mi0 rfl rfl rfl rfl).all
    rw [mi0_no] at h
    exact h)
  refine calls_at fun wx hwx => ?_
  have M_wx : RowL wx (w1.heap.size) 31 [.slice ao1 m.store.length cap1, .int .i64 m.rule.lc, .int .i64 m.rule.hc, .int .i64 m.rule.lm, .int .i64 m.rule.hm, .int .i64 m.rule.ls, .int .i64 m.rule.hs, .int .i64 m.strand, .slice ao2 m.pieces.length cap2, .slice ao3 m.low.length cap3, .slice ao4 m.high.length cap4, .int .i64 m.scrap] := by rw [hwx]; exact (RowL.new _ 31 [.slice ao1 m.store.length cap1, .int .i64 m.rule.lc, .int .i64 m.rule.hc, .int .i64 m.rule.lm, .int .i64 m.rule.hm, .int .i64 m.rule.ls, .int .i64 m.rule.hs, .int .i64 m.strand, .slice ao2 m.pieces.length cap2, .slice ao3 m.low.length cap3, .slice ao4 m.high.length cap4, .int .i64 m.scrap])
  have hb : Below w1.heap.size w1 wx := by rw [hwx]; exact ((Below.refl _ _).alloc (Nat.le_refl _) _)
  clear hwx
  have VV_wx := hide (VV_1.out.below hb)
  have B_wx := hide (Below.step B_1.out hb (Nat.le_refl _))
  have hzwx := hb.size
  have hLwx := M_wx.lt
  clear hb
  cases hv : millB m with
  | false =>
    have KI := mill_impl _ _ _ _ m wx VV_wx.out.all
    rw [hv] at KI
    refine (KI).mono ?_
    rintro e w2 ⟨rfl, hb⟩
    have M_2 := M_wx.below hb M_wx.lt
    have VV_2 := hide (VV_wx.out.below hb)
    have B_2 := hide (Below.step B_wx.out hb (Nat.le_refl _))
    have hz2 := hb.size
    clear hb
    have cM0 : w2.cell? ⟨w1.heap.size, 0, none⟩ = some (.slice ao1 m.store.length cap1) := M_2.cell 0 (by simp)
    have cM1 : w2.cell? ⟨w1.heap.size, 1, none⟩ = some (.int .i64 m.rule.lc) := M_2.cell 1 (by simp)
    have cM2 : w2.cell? ⟨w1.heap.size, 2, none⟩ = some (.int .i64 m.rule.hc) := M_2.cell 2 (by simp)
    have cM3 : w2.cell? ⟨w1.heap.size, 3, none⟩ = some (.int .i64 m.rule.lm) := M_2.cell 3 (by simp)
    have cM4 : w2.cell? ⟨w1.heap.size, 4, none⟩ = some (.int .i64 m.rule.hm) := M_2.cell 4 (by simp)
    have cM5 : w2.cell? ⟨w1.heap.size, 5, none⟩ = some (.int .i64 m.rule.ls) := M_2.cell 5 (by simp)
    have cM6 : w2.cell? ⟨w1.heap.size, 6, none⟩ = some (.int .i64 m.rule.hs) := M_2.cell 6 (by simp)
    have cM7 : w2.cell? ⟨w1.heap.size, 7, none⟩ = some (.int .i64 m.strand) := M_2.cell 7 (by simp)
    have cM8 : w2.cell? ⟨w1.heap.size, 8, none⟩ = some (.slice ao2 m.pieces.length cap2) := M_2.cell 8 (by simp)
    have cM9 : w2.cell? ⟨w1.heap.size, 9, none⟩ = some (.slice ao3 m.low.length cap3) := M_2.cell 9 (by simp)
    have cM10 : w2.cell? ⟨w1.heap.size, 10, none⟩ = some (.slice ao4 m.high.length cap4) := M_2.cell 10 (by simp)
    have cM11 : w2.cell? ⟨w1.heap.size, 11, none⟩ = some (.int .i64 m.scrap) := M_2.cell 11 (by simp)
    go_wp2_with fail
    have KS := mill_spec _ _ _ _ m w2 VV_2.out.all
    rw [hv] at KS
    refine (KS).mono ?_
    rintro e w3 ⟨rfl, hb⟩
    have M_3 := M_2.below hb M_2.lt
    have VV_3 := hide (VV_2.out.below hb)
    have B_3 := hide (Below.step B_2.out hb (Nat.le_refl _))
    have hz3 := hb.size
    clear hb
    go_wp2_with fail
    refine (KZ.out w3).mono ?_
    rintro e w4 ⟨rfl, hb⟩
    have M_4 := M_3.below hb M_3.lt
    have VV_4 := hide (VV_3.out.below hb)
    have B_4 := hide (Below.step B_3.out hb (Nat.le_refl _))
    have hz4 := hb.size
    clear hb
    go_wp2_with fail
    refine (alive_any w4).mono ?_
    rintro e w5 ⟨rfl, hb⟩
    have M_5 := M_4.below hb M_4.lt
    have VV_5 := hide (VV_4.out.below hb)
    have B_5 := hide (Below.step B_4.out hb (Nat.le_refl _))
    have hz5 := hb.size
    clear hb
    go_wp2_with fail
    go_ret
    exact ⟨rfl, B_5.out⟩
  | true =>
    have KI := mill_impl _ _ _ _ m wx VV_wx.out.all
    rw [hv] at KI
    refine (KI).mono ?_
    rintro e w2 ⟨rfl, hb⟩
    have M_2 := M_wx.below hb M_wx.lt
    have VV_2 := hide (VV_wx.out.below hb)
    have B_2 := hide (Below.step B_wx.out hb (Nat.le_refl _))
    have hz2 := hb.size
    clear hb
    have cM0 : w2.cell? ⟨w1.heap.size, 0, none⟩ = some (.slice ao1 m.store.length cap1) := M_2.cell 0 (by simp)
    have cM1 : w2.cell? ⟨w1.heap.size, 1, none⟩ = some (.int .i64 m.rule.lc) := M_2.cell 1 (by simp)
    have cM2 : w2.cell? ⟨w1.heap.size, 2, none⟩ = some (.int .i64 m.rule.hc) := M_2.cell 2 (by simp)
    have cM3 : w2.cell? ⟨w1.heap.size, 3, none⟩ = some (.int .i64 m.rule.lm) := M_2.cell 3 (by simp)
    have cM4 : w2.cell? ⟨w1.heap.size, 4, none⟩ = some (.int .i64 m.rule.hm) := M_2.cell 4 (by simp)
    have cM5 : w2.cell? ⟨w1.heap.size, 5, none⟩ = some (.int .i64 m.rule.ls) := M_2.cell 5 (by simp)
    have cM6 : w2.cell? ⟨w1.heap.size, 6, none⟩ = some (.int .i64 m.rule.hs) := M_2.cell 6 (by simp)
    have cM7 : w2.cell? ⟨w1.heap.size, 7, none⟩ = some (.int .i64 m.strand) := M_2.cell 7 (by simp)
    have cM8 : w2.cell? ⟨w1.heap.size, 8, none⟩ = some (.slice ao2 m.pieces.length cap2) := M_2.cell 8 (by simp)
    have cM9 : w2.cell? ⟨w1.heap.size, 9, none⟩ = some (.slice ao3 m.low.length cap3) := M_2.cell 9 (by simp)
    have cM10 : w2.cell? ⟨w1.heap.size, 10, none⟩ = some (.slice ao4 m.high.length cap4) := M_2.cell 10 (by simp)
    have cM11 : w2.cell? ⟨w1.heap.size, 11, none⟩ = some (.int .i64 m.scrap) := M_2.cell 11 (by simp)
    go_wp2_with fail
    have KS := mill_spec _ _ _ _ m w2 VV_2.out.all
    rw [hv] at KS
    have HD := hide (valid_dry hv)
    have HI := hide (valid_ids hv)
    have HV := hide hv
    clear hv KI
    refine (KS).mono ?_
    rintro e w3 ⟨rfl, hb⟩
    have M_3 := M_2.below hb M_2.lt
    have VV_3 := hide (VV_2.out.below hb)
    have B_3 := hide (Below.step B_2.out hb (Nat.le_refl _))
    have hz3 := hb.size
    clear hb
    have cM0 : w3.cell? ⟨w1.heap.size, 0, none⟩ = some (.slice ao1 m.store.length cap1) := M_3.cell 0 (by simp)
    have cM1 : w3.cell? ⟨w1.heap.size, 1, none⟩ = some (.int .i64 m.rule.lc) := M_3.cell 1 (by simp)
    have cM2 : w3.cell? ⟨w1.heap.size, 2, none⟩ = some (.int .i64 m.rule.hc) := M_3.cell 2 (by simp)
    have cM3 : w3.cell? ⟨w1.heap.size, 3, none⟩ = some (.int .i64 m.rule.lm) := M_3.cell 3 (by simp)
    have cM4 : w3.cell? ⟨w1.heap.size, 4, none⟩ = some (.int .i64 m.rule.hm) := M_3.cell 4 (by simp)
    have cM5 : w3.cell? ⟨w1.heap.size, 5, none⟩ = some (.int .i64 m.rule.ls) := M_3.cell 5 (by simp)
    have cM6 : w3.cell? ⟨w1.heap.size, 6, none⟩ = some (.int .i64 m.rule.hs) := M_3.cell 6 (by simp)
    have cM7 : w3.cell? ⟨w1.heap.size, 7, none⟩ = some (.int .i64 m.strand) := M_3.cell 7 (by simp)
    have cM8 : w3.cell? ⟨w1.heap.size, 8, none⟩ = some (.slice ao2 m.pieces.length cap2) := M_3.cell 8 (by simp)
    have cM9 : w3.cell? ⟨w1.heap.size, 9, none⟩ = some (.slice ao3 m.low.length cap3) := M_3.cell 9 (by simp)
    have cM10 : w3.cell? ⟨w1.heap.size, 10, none⟩ = some (.slice ao4 m.high.length cap4) := M_3.cell 10 (by simp)
    have cM11 : w3.cell? ⟨w1.heap.size, 11, none⟩ = some (.int .i64 m.scrap) := M_3.cell 11 (by simp)
    go_wp2_with fail
    clear cM0 cM1 cM2 cM3 cM4 cM5 cM6 cM7 cM8 cM9 cM10 cM11
    obtain ⟨y1, hwy⟩ : ∃ q : World, q = w3.alloc (.cells #[.slice ao1 m.store.length cap1, .int .i64 m.rule.lc, .int .i64 m.rule.hc, .int .i64 m.rule.lm, .int .i64 m.rule.hm, .int .i64 m.rule.ls, .int .i64 m.rule.hs, .int .i64 0, .slice ao2 m.pieces.length cap2, .slice ao3 m.low.length cap3, .slice ao4 m.high.length cap4, .int .i64 m.scrap] 31) := ⟨_, rfl⟩
    rw [← hwy]
    have X_y1 : RowL y1 (w3.heap.size) 31 [.slice ao1 m.store.length cap1, .int .i64 m.rule.lc, .int .i64 m.rule.hc, .int .i64 m.rule.lm, .int .i64 m.rule.hm, .int .i64 m.rule.ls, .int .i64 m.rule.hs, .int .i64 0, .slice ao2 m.pieces.length cap2, .slice ao3 m.low.length cap3, .slice ao4 m.high.length cap4, .int .i64 m.scrap] := by rw [hwy]; exact RowL.new _ _ _
    have hb : Below w3.heap.size w3 y1 := by rw [hwy]; go_grown
    clear hwy
    have M_y1 := M_3.below hb M_3.lt
    have VV_y1 := hide (VV_3.out.below hb)
    have B_y1 := hide (Below.step B_3.out hb (Nat.le_refl _))
    have hzy1 := hb.size
    have hXl := X_y1.lt
    clear hb
    have hI : ((World.drew y1).cell? ⟨w1.heap.size, 0, none⟩ = some (.slice ao1 m.store.length cap1) ∧ (World.drew y1).cell? ⟨w1.heap.size, 1, none⟩ = some (.int .i64 m.rule.lc) ∧ (World.drew y1).cell? ⟨w1.heap.size, 2, none⟩ = some (.int .i64 m.rule.hc) ∧ (World.drew y1).cell? ⟨w1.heap.size, 3, none⟩ = some (.int .i64 m.rule.lm) ∧ (World.drew y1).cell? ⟨w1.heap.size, 4, none⟩ = some (.int .i64 m.rule.hm) ∧ (World.drew y1).cell? ⟨w1.heap.size, 5, none⟩ = some (.int .i64 m.rule.ls) ∧ (World.drew y1).cell? ⟨w1.heap.size, 6, none⟩ = some (.int .i64 m.rule.hs) ∧ (World.drew y1).cell? ⟨w1.heap.size, 7, none⟩ = some (.int .i64 m.strand) ∧ (World.drew y1).cell? ⟨w1.heap.size, 8, none⟩ = some (.slice ao2 m.pieces.length cap2) ∧ (World.drew y1).cell? ⟨w1.heap.size, 9, none⟩ = some (.slice ao3 m.low.length cap3) ∧ (World.drew y1).cell? ⟨w1.heap.size, 10, none⟩ = some (.slice ao4 m.high.length cap4) ∧ (World.drew y1).cell? ⟨w1.heap.size, 11, none⟩ = some (.int .i64 m.scrap)) ∧ ((World.drew y1).cell? ⟨w3.heap.size, 0, none⟩ = some (.slice ao1 m.store.length cap1) ∧ (World.drew y1).cell? ⟨w3.heap.size, 1, none⟩ = some (.int .i64 m.rule.lc) ∧ (World.drew y1).cell? ⟨w3.heap.size, 2, none⟩ = some (.int .i64 m.rule.hc) ∧ (World.drew y1).cell? ⟨w3.heap.size, 3, none⟩ = some (.int .i64 m.rule.lm) ∧ (World.drew y1).cell? ⟨w3.heap.size, 4, none⟩ = some (.int .i64 m.rule.hm) ∧ (World.drew y1).cell? ⟨w3.heap.size, 5, none⟩ = some (.int .i64 m.rule.ls) ∧ (World.drew y1).cell? ⟨w3.heap.size, 6, none⟩ = some (.int .i64 m.rule.hs) ∧ (World.drew y1).cell? ⟨w3.heap.size, 7, none⟩ = some (.int .i64 0) ∧ (World.drew y1).cell? ⟨w3.heap.size, 8, none⟩ = some (.slice ao2 m.pieces.length cap2) ∧ (World.drew y1).cell? ⟨w3.heap.size, 9, none⟩ = some (.slice ao3 m.low.length cap3) ∧ (World.drew y1).cell? ⟨w3.heap.size, 10, none⟩ = some (.slice ao4 m.high.length cap4) ∧ (World.drew y1).cell? ⟨w3.heap.size, 11, none⟩ = some (.int .i64 m.scrap)) := ⟨row12_all M_y1, row12_all X_y1⟩
    have hb : Below y1.heap.size y1 (World.drew y1) := (Below.refl _ _).drew
    have M_d := M_y1.drew
    have X_d := X_y1.drew
    have VV_d := hide (VV_y1.out.below hb)
    have B_d := hide (Below.step B_y1.out hb (Nat.le_refl _))
    clear hb
    go_region_held (fun W => (W.cell? ⟨w1.heap.size, 0, none⟩ = some (.slice ao1 m.store.length cap1) ∧ W.cell? ⟨w1.heap.size, 1, none⟩ = some (.int .i64 m.rule.lc) ∧ W.cell? ⟨w1.heap.size, 2, none⟩ = some (.int .i64 m.rule.hc) ∧ W.cell? ⟨w1.heap.size, 3, none⟩ = some (.int .i64 m.rule.lm) ∧ W.cell? ⟨w1.heap.size, 4, none⟩ = some (.int .i64 m.rule.hm) ∧ W.cell? ⟨w1.heap.size, 5, none⟩ = some (.int .i64 m.rule.ls) ∧ W.cell? ⟨w1.heap.size, 6, none⟩ = some (.int .i64 m.rule.hs) ∧ W.cell? ⟨w1.heap.size, 7, none⟩ = some (.int .i64 m.strand) ∧ W.cell? ⟨w1.heap.size, 8, none⟩ = some (.slice ao2 m.pieces.length cap2) ∧ W.cell? ⟨w1.heap.size, 9, none⟩ = some (.slice ao3 m.low.length cap3) ∧ W.cell? ⟨w1.heap.size, 10, none⟩ = some (.slice ao4 m.high.length cap4) ∧ W.cell? ⟨w1.heap.size, 11, none⟩ = some (.int .i64 m.scrap)) ∧ (W.cell? ⟨w3.heap.size, 0, none⟩ = some (.slice ao1 m.store.length cap1) ∧ W.cell? ⟨w3.heap.size, 1, none⟩ = some (.int .i64 m.rule.lc) ∧ W.cell? ⟨w3.heap.size, 2, none⟩ = some (.int .i64 m.rule.hc) ∧ W.cell? ⟨w3.heap.size, 3, none⟩ = some (.int .i64 m.rule.lm) ∧ W.cell? ⟨w3.heap.size, 4, none⟩ = some (.int .i64 m.rule.hm) ∧ W.cell? ⟨w3.heap.size, 5, none⟩ = some (.int .i64 m.rule.ls) ∧ W.cell? ⟨w3.heap.size, 6, none⟩ = some (.int .i64 m.rule.hs) ∧ W.cell? ⟨w3.heap.size, 7, none⟩ = some (.int .i64 0) ∧ W.cell? ⟨w3.heap.size, 8, none⟩ = some (.slice ao2 m.pieces.length cap2) ∧ W.cell? ⟨w3.heap.size, 9, none⟩ = some (.slice ao3 m.low.length cap3) ∧ W.cell? ⟨w3.heap.size, 10, none⟩ = some (.slice ao4 m.high.length cap4) ∧ W.cell? ⟨w3.heap.size, 11, none⟩ = some (.int .i64 m.scrap))) (first | (with_reducible exact hI) | (with_reducible exact hS0) | (with_reducible exact hS1) | (with_reducible exact hS2) | (with_reducible exact hS3)) (first
      | (go_at_call 28; refine (mill_impl _ _ _ _ { m with strand := 0 } _ (VV_k2.out.nums m.rule 0 m.scrap).all).mono ?_; rintro e k3 ⟨rfl, hb⟩; have M_k3 := M_k2.below hb M_k2.lt; have X_k3 := X_k2.below hb X_k2.lt; have VV_k3 := hide (VV_k2.out.below hb); have VI_k3 := hide (VI_k2.out.below hb); have VJ_k3 := hide (VJ_k2.out.below hb); have B_k3 := hide (Below.step B_k2.out hb (Nat.le_refl _)); have hzk3 := hb.size; have hS3 : (k3.cell? ⟨w1.heap.size, 0, none⟩ = some (.slice ao1 m.store.length cap1) ∧ k3.cell? ⟨w1.heap.size, 1, none⟩ = some (.int .i64 m.rule.lc) ∧ k3.cell? ⟨w1.heap.size, 2, none⟩ = some (.int .i64 m.rule.hc) ∧ k3.cell? ⟨w1.heap.size, 3, none⟩ = some (.int .i64 m.rule.lm) ∧ k3.cell? ⟨w1.heap.size, 4, none⟩ = some (.int .i64 m.rule.hm) ∧ k3.cell? ⟨w1.heap.size, 5, none⟩ = some (.int .i64 m.rule.ls) ∧ k3.cell? ⟨w1.heap.size, 6, none⟩ = some (.int .i64 m.rule.hs) ∧ k3.cell? ⟨w1.heap.size, 7, none⟩ = some (.int .i64 m.strand) ∧ k3.cell? ⟨w1.heap.size, 8, none⟩ = some (.slice ao2 m.pieces.length cap2) ∧ k3.cell? ⟨w1.heap.size, 9, none⟩ = some (.slice ao3 m.low.length cap3) ∧ k3.cell? ⟨w1.heap.size, 10, none⟩ = some (.slice ao4 m.high.length cap4) ∧ k3.cell? ⟨w1.heap.size, 11, none⟩ = some (.int .i64 m.scrap)) ∧ (k3.cell? ⟨w3.heap.size, 0, none⟩ = some (.slice ao1 m.store.length cap1) ∧ k3.cell? ⟨w3.heap.size, 1, none⟩ = some (.int .i64 m.rule.lc) ∧ k3.cell? ⟨w3.heap.size, 2, none⟩ = some (.int .i64 m.rule.hc) ∧ k3.cell? ⟨w3.heap.size, 3, none⟩ = some (.int .i64 m.rule.lm) ∧ k3.cell? ⟨w3.heap.size, 4, none⟩ = some (.int .i64 m.rule.hm) ∧ k3.cell? ⟨w3.heap.size, 5, none⟩ = some (.int .i64 m.rule.ls) ∧ k3.cell? ⟨w3.heap.size, 6, none⟩ = some (.int .i64 m.rule.hs) ∧ k3.cell? ⟨w3.heap.size, 7, none⟩ = some (.int .i64 0) ∧ k3.cell? ⟨w3.heap.size, 8, none⟩ = some (.slice ao2 m.pieces.length cap2) ∧ k3.cell? ⟨w3.heap.size, 9, none⟩ = some (.slice ao3 m.low.length cap3) ∧ k3.cell? ⟨w3.heap.size, 10, none⟩ = some (.slice ao4 m.high.length cap4) ∧ k3.cell? ⟨w3.heap.size, 11, none⟩ = some (.int .i64 m.scrap)) := ⟨row12_all M_k3, row12_all X_k3⟩; clear hb)
      | (go_at_call 36; refine (sameInts_eq _ _ _ _ _ _ _ _ _ VI_k1.out VJ_k1.out HI.out.symm).mono ?_; rintro e k2 ⟨rfl, hb⟩; have M_k2 := M_k1.below hb M_k1.lt; have X_k2 := X_k1.below hb X_k1.lt; have VV_k2 := hide (VV_k1.out.below hb); have VI_k2 := hide (VI_k1.out.below hb); have VJ_k2 := hide (VJ_k1.out.below hb); have B_k2 := hide (Below.step B_k1.out hb (Nat.le_refl _)); have hzk2 := hb.size; have hS2 : (k2.cell? ⟨w1.heap.size, 0, none⟩ = some (.slice ao1 m.store.length cap1) ∧ k2.cell? ⟨w1.heap.size, 1, none⟩ = some (.int .i64 m.rule.lc) ∧ k2.cell? ⟨w1.heap.size, 2, none⟩ = some (.int .i64 m.rule.hc) ∧ k2.cell? ⟨w1.heap.size, 3, none⟩ = some (.int .i64 m.rule.lm) ∧ k2.cell? ⟨w1.heap.size, 4, none⟩ = some (.int .i64 m.rule.hm) ∧ k2.cell? ⟨w1.heap.size, 5, none⟩ = some (.int .i64 m.rule.ls) ∧ k2.cell? ⟨w1.heap.size, 6, none⟩ = some (.int .i64 m.rule.hs) ∧ k2.cell? ⟨w1.heap.size, 7, none⟩ = some (.int .i64 m.strand) ∧ k2.cell? ⟨w1.heap.size, 8, none⟩ = some (.slice ao2 m.pieces.length cap2) ∧ k2.cell? ⟨w1.heap.size, 9, none⟩ = some (.slice ao3 m.low.length cap3) ∧ k2.cell? ⟨w1.heap.size, 10, none⟩ = some (.slice ao4 m.high.length cap4) ∧ k2.cell? ⟨w1.heap.size, 11, none⟩ = some (.int .i64 m.scrap)) ∧ (k2.cell? ⟨w3.heap.size, 0, none⟩ = some (.slice ao1 m.store.length cap1) ∧ k2.cell? ⟨w3.heap.size, 1, none⟩ = some (.int .i64 m.rule.lc) ∧ k2.cell? ⟨w3.heap.size, 2, none⟩ = some (.int .i64 m.rule.hc) ∧ k2.cell? ⟨w3.heap.size, 3, none⟩ = some (.int .i64 m.rule.lm) ∧ k2.cell? ⟨w3.heap.size, 4, none⟩ = some (.int .i64 m.rule.hm) ∧ k2.cell? ⟨w3.heap.size, 5, none⟩ = some (.int .i64 m.rule.ls) ∧ k2.cell? ⟨w3.heap.size, 6, none⟩ = some (.int .i64 m.rule.hs) ∧ k2.cell? ⟨w3.heap.size, 7, none⟩ = some (.int .i64 0) ∧ k2.cell? ⟨w3.heap.size, 8, none⟩ = some (.slice ao2 m.pieces.length cap2) ∧ k2.cell? ⟨w3.heap.size, 9, none⟩ = some (.slice ao3 m.low.length cap3) ∧ k2.cell? ⟨w3.heap.size, 10, none⟩ = some (.slice ao4 m.high.length cap4) ∧ k2.cell? ⟨w3.heap.size, 11, none⟩ = some (.int .i64 m.scrap)) := ⟨row12_all M_k2, row12_all X_k2⟩; clear hb)
      | (go_at_call 29; refine (pieces_impl _ _ _ _ m 1 _ VV_k0.out.all).mono ?_; rintro e k1 ⟨v2, rfl, hv2, hb⟩; have M_k1 := M_k0.below hb M_k0.lt; have X_k1 := X_k0.below hb X_k0.lt; have VV_k1 := hide (VV_k0.out.below hb); have VI_k1 := hide (VI_k0.out.below hb); have VJ_k1 := hide (ownE_ints (OwnE.own hv2) rfl hb.size); have B_k1 := hide (Below.step B_k0.out hb (Nat.le_refl _)); have hzk1 := hb.size; have hS1 : (k1.cell? ⟨w1.heap.size, 0, none⟩ = some (.slice ao1 m.store.length cap1) ∧ k1.cell? ⟨w1.heap.size, 1, none⟩ = some (.int .i64 m.rule.lc) ∧ k1.cell? ⟨w1.heap.size, 2, none⟩ = some (.int .i64 m.rule.hc) ∧ k1.cell? ⟨w1.heap.size, 3, none⟩ = some (.int .i64 m.rule.lm) ∧ k1.cell? ⟨w1.heap.size, 4, none⟩ = some (.int .i64 m.rule.hm) ∧ k1.cell? ⟨w1.heap.size, 5, none⟩ = some (.int .i64 m.rule.ls) ∧ k1.cell? ⟨w1.heap.size, 6, none⟩ = some (.int .i64 m.rule.hs) ∧ k1.cell? ⟨w1.heap.size, 7, none⟩ = some (.int .i64 m.strand) ∧ k1.cell? ⟨w1.heap.size, 8, none⟩ = some (.slice ao2 m.pieces.length cap2) ∧ k1.cell? ⟨w1.heap.size, 9, none⟩ = some (.slice ao3 m.low.length cap3) ∧ k1.cell? ⟨w1.heap.size, 10, none⟩ = some (.slice ao4 m.high.length cap4) ∧ k1.cell? ⟨w1.heap.size, 11, none⟩ = some (.int .i64 m.scrap)) ∧ (k1.cell? ⟨w3.heap.size, 0, none⟩ = some (.slice ao1 m.store.length cap1) ∧ k1.cell? ⟨w3.heap.size, 1, none⟩ = some (.int .i64 m.rule.lc) ∧ k1.cell? ⟨w3.heap.size, 2, none⟩ = some (.int .i64 m.rule.hc) ∧ k1.cell? ⟨w3.heap.size, 3, none⟩ = some (.int .i64 m.rule.lm) ∧ k1.cell? ⟨w3.heap.size, 4, none⟩ = some (.int .i64 m.rule.hm) ∧ k1.cell? ⟨w3.heap.size, 5, none⟩ = some (.int .i64 m.rule.ls) ∧ k1.cell? ⟨w3.heap.size, 6, none⟩ = some (.int .i64 m.rule.hs) ∧ k1.cell? ⟨w3.heap.size, 7, none⟩ = some (.int .i64 0) ∧ k1.cell? ⟨w3.heap.size, 8, none⟩ = some (.slice ao2 m.pieces.length cap2) ∧ k1.cell? ⟨w3.heap.size, 9, none⟩ = some (.slice ao3 m.low.length cap3) ∧ k1.cell? ⟨w3.heap.size, 10, none⟩ = some (.slice ao4 m.high.length cap4) ∧ k1.cell? ⟨w3.heap.size, 11, none⟩ = some (.int .i64 m.scrap)) := ⟨row12_all M_k1, row12_all X_k1⟩; clear hb)
      | (go_at_call 37; refine (coils_impl _ _ m.low m.high _ VV_d.out.all.low VV_d.out.all.high).mono ?_; rintro e k0 ⟨v1, rfl, hv1, hb⟩; have M_k0 := M_d.below hb M_d.lt; have X_k0 := X_d.below hb X_d.lt; have VV_k0 := hide (VV_d.out.below hb); have VI_k0 := hide (ownE_ints (OwnE.own hv1) rfl hb.size); have B_k0 := hide (Below.step B_d.out hb (Nat.le_refl _)); have hzk0 := hb.size; have hS0 : (k0.cell? ⟨w1.heap.size, 0, none⟩ = some (.slice ao1 m.store.length cap1) ∧ k0.cell? ⟨w1.heap.size, 1, none⟩ = some (.int .i64 m.rule.lc) ∧ k0.cell? ⟨w1.heap.size, 2, none⟩ = some (.int .i64 m.rule.hc) ∧ k0.cell? ⟨w1.heap.size, 3, none⟩ = some (.int .i64 m.rule.lm) ∧ k0.cell? ⟨w1.heap.size, 4, none⟩ = some (.int .i64 m.rule.hm) ∧ k0.cell? ⟨w1.heap.size, 5, none⟩ = some (.int .i64 m.rule.ls) ∧ k0.cell? ⟨w1.heap.size, 6, none⟩ = some (.int .i64 m.rule.hs) ∧ k0.cell? ⟨w1.heap.size, 7, none⟩ = some (.int .i64 m.strand) ∧ k0.cell? ⟨w1.heap.size, 8, none⟩ = some (.slice ao2 m.pieces.length cap2) ∧ k0.cell? ⟨w1.heap.size, 9, none⟩ = some (.slice ao3 m.low.length cap3) ∧ k0.cell? ⟨w1.heap.size, 10, none⟩ = some (.slice ao4 m.high.length cap4) ∧ k0.cell? ⟨w1.heap.size, 11, none⟩ = some (.int .i64 m.scrap)) ∧ (k0.cell? ⟨w3.heap.size, 0, none⟩ = some (.slice ao1 m.store.length cap1) ∧ k0.cell? ⟨w3.heap.size, 1, none⟩ = some (.int .i64 m.rule.lc) ∧ k0.cell? ⟨w3.heap.size, 2, none⟩ = some (.int .i64 m.rule.hc) ∧ k0.cell? ⟨w3.heap.size, 3, none⟩ = some (.int .i64 m.rule.lm) ∧ k0.cell? ⟨w3.heap.size, 4, none⟩ = some (.int .i64 m.rule.hm) ∧ k0.cell? ⟨w3.heap.size, 5, none⟩ = some (.int .i64 m.rule.ls) ∧ k0.cell? ⟨w3.heap.size, 6, none⟩ = some (.int .i64 m.rule.hs) ∧ k0.cell? ⟨w3.heap.size, 7, none⟩ = some (.int .i64 0) ∧ k0.cell? ⟨w3.heap.size, 8, none⟩ = some (.slice ao2 m.pieces.length cap2) ∧ k0.cell? ⟨w3.heap.size, 9, none⟩ = some (.slice ao3 m.low.length cap3) ∧ k0.cell? ⟨w3.heap.size, 10, none⟩ = some (.slice ao4 m.high.length cap4) ∧ k0.cell? ⟨w3.heap.size, 11, none⟩ = some (.int .i64 m.scrap)) := ⟨row12_all M_k0, row12_all X_k0⟩; clear hb))
    clear hI hS0 hS1 hS2 hS3
    go_wp2_with fail
    go_ret
    exact ⟨by have := HD.out; simp [this], B_k3.out⟩
end Go.Proofs.YtmemgbklgcjobaaGreatDoor
