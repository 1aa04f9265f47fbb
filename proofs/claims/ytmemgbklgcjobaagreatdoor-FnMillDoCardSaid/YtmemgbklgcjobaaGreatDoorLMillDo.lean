/-
  The walk over the law FnMillDo: it answers true, whatever the code.
-/
import Derived.Test.YtmemgbklgcjobaaGreatDoorDrawMK
import Derived.Test.YtmemgbklgcjobaaGreatDoorB32
import Derived.Test.YtmemgbklgcjobaaGreatDoorB40
import Derived.Test.YtmemgbklgcjobaaGreatDoorB44
import Derived.Test.YtmemgbklgcjobaaGreatDoorFlawP
import Derived.Deep.RegionHeld
import Derived.BigQuiet
namespace Go.Proofs.YtmemgbklgcjobaaGreatDoor
open Go.RowKit

set_option linter.unusedVariables false in
set_option linter.unusedSimpArgs false in
set_option maxRecDepth 10000 in
set_option maxHeartbeats 3200000 in
theorem law_MillDo (v : Value) (n : Nat) (w : World) (h : BytesAt 0 w.heap.size w v n) :
    Calls Tryz.prog 9 #[v] w fun e w' => e = .returned (.bool true) ∧ Below w.heap.size w w' := by
  obtain ⟨ao, cap, rfl, hnc, hcap, -, -⟩ := id h
  have HB := hide h
  clear h
  by_cases hlong : 1048576 < n
  · go_enter Tryz.func9, Tryz.ntmps9
    go_wp2_with fail
    go_ret
    exact ⟨rfl, by go_grown⟩
  go_enter Tryz.func9, Tryz.ntmps9
  go_wp2_with fail
  refine (drawMillDo _ n _ HB.out).mono ?_
  rintro e w1 ⟨s, p, l, h, m, d, rfl, hd1, hd2, hG, hf, hb⟩
  obtain ⟨ao1, cap1, rfl, -, -, -, -⟩ := id hG.all.store
  obtain ⟨ao2, cap2, rfl, -, -, -, -⟩ := id hG.all.pieces
  obtain ⟨ao3, cap3, rfl, -, -, -, -⟩ := id hG.all.low
  obtain ⟨ao4, cap4, rfl, -, -, -, -⟩ := id hG.all.high
  have B_1 := hide hb
  have VV_1 := hide hG
  have hz1 := hb.size
  clear hb hG
  unfold millV
  go_wp2_with fail
  refine calls_at fun wx hwx => ?_
  have M_wx : RowL wx (w1.heap.size) 31 [.slice ao1 m.store.length cap1, .int .i64 m.rule.lc, .int .i64 m.rule.hc, .int .i64 m.rule.lm, .int .i64 m.rule.hm, .int .i64 m.rule.ls, .int .i64 m.rule.hs, .int .i64 m.strand, .slice ao2 m.pieces.length cap2, .slice ao3 m.low.length cap3, .slice ao4 m.high.length cap4, .int .i64 m.scrap] := by rw [hwx]; exact ((RowL.new _ 31 [.slice ao1 m.store.length cap1, .int .i64 m.rule.lc, .int .i64 m.rule.hc, .int .i64 m.rule.lm, .int .i64 m.rule.hm, .int .i64 m.rule.ls, .int .i64 m.rule.hs, .int .i64 m.strand, .slice ao2 m.pieces.length cap2, .slice ao3 m.low.length cap3, .slice ao4 m.high.length cap4, .int .i64 m.scrap]).alloc _)
  have D_wx : RowL wx (w1.heap.size + 1) 48 [.int .i64 d.s, .int .i64 d.d, .int .i64 d.g] := by rw [hwx]; simpa using (RowL.new (World.alloc _ _) 48 [.int .i64 d.s, .int .i64 d.d, .int .i64 d.g])
  have hb : Below w1.heap.size w1 wx := by rw [hwx]; exact (((Below.refl _ _).alloc (Nat.le_refl _) _).alloc (by simp) _)
  clear hwx
  have VV_wx := hide (VV_1.out.below hb)
  have B_wx := hide (Below.step B_1.out hb (Nat.le_refl _))
  have hzwx := hb.size
  have hLwx := D_wx.lt
  clear hb
  obtain ⟨⟨x, ok⟩, hx⟩ : ∃ z, doR m d = z := ⟨_, rfl⟩
  have KI := do_impl _ _ _ _ m d wx VV_wx.out.all hd1 hd2
  rw [hx] at KI
  unfold millV at KI
  refine (KI).mono ?_
  rintro e w2 ⟨s5, p5, l5, h5, he5, G5, hb⟩
  have M_2 := M_wx.below hb M_wx.lt
  have D_2 := D_wx.below hb D_wx.lt
  have VV_2 := hide (VV_wx.out.below hb)
  have B_2 := hide (Below.step B_wx.out hb (Nat.le_refl _))
  have hz2 := hb.size
  clear hb
  have he5 : e = .returned (.tuple #[millV s5 p5 l5 h5 x, .bool ok]) := he5
  subst he5
  have G5 : MillGot _ w2 s5 p5 l5 h5 x := G5
  obtain ⟨ao51, cap51, rfl, -, -⟩ := G5.so.form
  obtain ⟨ao52, cap52, rfl, -, -⟩ := G5.po.form
  obtain ⟨ao53, cap53, rfl, -, -⟩ := G5.lo.form
  obtain ⟨ao54, cap54, rfl, -, -⟩ := G5.ho.form
  have VX_2 := hide G5
  clear G5
  have cM0 : w2.cell? ⟨w1.heap.size, 0, none⟩ = some (.slice ao1 m.store.length cap1) := M_2.cell 0 (by simp)
  have cM1 : w2.cell? ⟨w1.heap.size, 1, none⟩ = some (.int .i64 m.rule.lc) := M_2.cell 1 (by simp)
  have cM2 : w2.cell? ⟨w1.heap.size, 2, none⟩ = some (.int .i64 m.rule.hc) := M_2.cell 2 (by simp)
  have cM3 : w2.cell? ⟨w1.heap.size, 3, none⟩ = some (.int .i64 m.rule.lm) := M_2.cell 3 (by simp)
  have cM4 : w2.cell? ⟨w1.heap.size, 4, none⟩ = some (.int .i64 m.rule.hm) := M_2.cell 4 (by simp)
  have cM5 : w2.cell? ⟨w1.heap.size, 5, none⟩ = some (.int .i64 m.rule.ls) := M_2.cell 5 (by simp)
  have cM6 : w2.cell? ⟨w1.heap.size, 6, none⟩ = some (.int .i64 m.rule.hs) := M_2.cell 6 (by simp)
  have cM7 : w2.cell? ⟨w1.heap.size, 7, none⟩ = some (.int .i64 m.strand) := M_2.cell 7 (by simp)
  have cM8 : w2.cell? ⟨w1.heap.size, 8, none⟩ = some (.slice ao2 m.pieces.length cap2) := M_2.cell 8 (by simp)
  have cM9 : w2.cell? ⟨w1.heap.size, 9, none⟩ = some (.slice ao3 m.low.length cap3) := M_2.cell 9 (by simp)
  have cM10 : w2.cell? ⟨w1.heap.size, 10, none⟩ = some (.slice ao4 m.high.length cap4) := M_2.cell 10 (by simp)
  have cM11 : w2.cell? ⟨w1.heap.size, 11, none⟩ = some (.int .i64 m.scrap) := M_2.cell 11 (by simp)
  have cD0 : w2.cell? ⟨w1.heap.size + 1, 0, none⟩ = some (.int .i64 d.s) := D_2.cell 0 (by simp)
  have cD1 : w2.cell? ⟨w1.heap.size + 1, 1, none⟩ = some (.int .i64 d.d) := D_2.cell 1 (by simp)
  have cD2 : w2.cell? ⟨w1.heap.size + 1, 2, none⟩ = some (.int .i64 d.g) := D_2.cell 2 (by simp)
  have hqD2 := D_2.lt
  have hqM2 := M_2.lt
  unfold millV
  go_wp2_with fail
  clear cM0 cM1 cM2 cM3 cM4 cM5 cM6 cM7 cM8 cM9 cM10 cM11 cD0 cD1 cD2
  refine calls_at fun y1 hwx => ?_
  have X_y1 : RowL y1 (w2.heap.size) 31 [.slice ao51 x.store.length cap51, .int .i64 x.rule.lc, .int .i64 x.rule.hc, .int .i64 x.rule.lm, .int .i64 x.rule.hm, .int .i64 x.rule.ls, .int .i64 x.rule.hs, .int .i64 x.strand, .slice ao52 x.pieces.length cap52, .slice ao53 x.low.length cap53, .slice ao54 x.high.length cap54, .int .i64 x.scrap] := by rw [hwx]; exact (RowL.new _ 31 [.slice ao51 x.store.length cap51, .int .i64 x.rule.lc, .int .i64 x.rule.hc, .int .i64 x.rule.lm, .int .i64 x.rule.hm, .int .i64 x.rule.ls, .int .i64 x.rule.hs, .int .i64 x.strand, .slice ao52 x.pieces.length cap52, .slice ao53 x.low.length cap53, .slice ao54 x.high.length cap54, .int .i64 x.scrap])
  have hb : Below w2.heap.size w2 y1 := by rw [hwx]; exact ((Below.refl _ _).alloc (Nat.le_refl _) _)
  clear hwx
  have M_y1 := M_2.below hb M_2.lt
  have D_y1 := D_2.below hb D_2.lt
  have VV_y1 := hide (VV_2.out.below hb)
  have VX_y1 := hide (VX_2.out.below hb)
  have B_y1 := hide (Below.step B_2.out hb (Nat.le_refl _))
  have hzy1 := hb.size
  have hLy1 := X_y1.lt
  clear hb
  have KS := do_spec _ _ _ _ m d y1 VV_y1.out.all hd1 hd2
  rw [hx] at KS
  unfold millV at KS
  refine (KS).mono ?_
  rintro e w3 ⟨s6, p6, l6, h6, he6, G6, hb⟩
  have M_3 := M_y1.below hb M_y1.lt
  have D_3 := D_y1.below hb D_y1.lt
  have X_3 := X_y1.below hb X_y1.lt
  have VV_3 := hide (VV_y1.out.below hb)
  have VX_3 := hide (VX_y1.out.below hb)
  have B_3 := hide (Below.step B_y1.out hb (Nat.le_refl _))
  have hz3 := hb.size
  clear hb
  have he6 : e = .returned (.tuple #[millV s6 p6 l6 h6 x, .bool ok]) := he6
  subst he6
  have G6 : MillGot _ w3 s6 p6 l6 h6 x := G6
  obtain ⟨ao61, cap61, rfl, -, -⟩ := G6.so.form
  obtain ⟨ao62, cap62, rfl, -, -⟩ := G6.po.form
  obtain ⟨ao63, cap63, rfl, -, -⟩ := G6.lo.form
  obtain ⟨ao64, cap64, rfl, -, -⟩ := G6.ho.form
  have VY_3 := hide G6
  clear G6
  have cX0 : w3.cell? ⟨w2.heap.size, 0, none⟩ = some (.slice ao51 x.store.length cap51) := X_3.cell 0 (by simp)
  have cX1 : w3.cell? ⟨w2.heap.size, 1, none⟩ = some (.int .i64 x.rule.lc) := X_3.cell 1 (by simp)
  have cX2 : w3.cell? ⟨w2.heap.size, 2, none⟩ = some (.int .i64 x.rule.hc) := X_3.cell 2 (by simp)
  have cX3 : w3.cell? ⟨w2.heap.size, 3, none⟩ = some (.int .i64 x.rule.lm) := X_3.cell 3 (by simp)
  have cX4 : w3.cell? ⟨w2.heap.size, 4, none⟩ = some (.int .i64 x.rule.hm) := X_3.cell 4 (by simp)
  have cX5 : w3.cell? ⟨w2.heap.size, 5, none⟩ = some (.int .i64 x.rule.ls) := X_3.cell 5 (by simp)
  have cX6 : w3.cell? ⟨w2.heap.size, 6, none⟩ = some (.int .i64 x.rule.hs) := X_3.cell 6 (by simp)
  have cX7 : w3.cell? ⟨w2.heap.size, 7, none⟩ = some (.int .i64 x.strand) := X_3.cell 7 (by simp)
  have cX8 : w3.cell? ⟨w2.heap.size, 8, none⟩ = some (.slice ao52 x.pieces.length cap52) := X_3.cell 8 (by simp)
  have cX9 : w3.cell? ⟨w2.heap.size, 9, none⟩ = some (.slice ao53 x.low.length cap53) := X_3.cell 9 (by simp)
  have cX10 : w3.cell? ⟨w2.heap.size, 10, none⟩ = some (.slice ao54 x.high.length cap54) := X_3.cell 10 (by simp)
  have cX11 : w3.cell? ⟨w2.heap.size, 11, none⟩ = some (.int .i64 x.scrap) := X_3.cell 11 (by simp)
  have hqX3 := X_3.lt
  unfold millV
  go_wp2_with fail
  clear cX0 cX1 cX2 cX3 cX4 cX5 cX6 cX7 cX8 cX9 cX10 cX11
  refine calls_at fun y2 hwx => ?_
  have Y_y2 : RowL y2 (w3.heap.size) 31 [.slice ao61 x.store.length cap61, .int .i64 x.rule.lc, .int .i64 x.rule.hc, .int .i64 x.rule.lm, .int .i64 x.rule.hm, .int .i64 x.rule.ls, .int .i64 x.rule.hs, .int .i64 x.strand, .slice ao62 x.pieces.length cap62, .slice ao63 x.low.length cap63, .slice ao64 x.high.length cap64, .int .i64 x.scrap] := by rw [hwx]; exact (RowL.new _ 31 [.slice ao61 x.store.length cap61, .int .i64 x.rule.lc, .int .i64 x.rule.hc, .int .i64 x.rule.lm, .int .i64 x.rule.hm, .int .i64 x.rule.ls, .int .i64 x.rule.hs, .int .i64 x.strand, .slice ao62 x.pieces.length cap62, .slice ao63 x.low.length cap63, .slice ao64 x.high.length cap64, .int .i64 x.scrap])
  have hb : Below w3.heap.size w3 y2 := by rw [hwx]; exact ((Below.refl _ _).alloc (Nat.le_refl _) _)
  clear hwx
  have M_y2 := M_3.below hb M_3.lt
  have D_y2 := D_3.below hb D_3.lt
  have X_y2 := X_3.below hb X_3.lt
  have VV_y2 := hide (VV_3.out.below hb)
  have VX_y2 := hide (VX_3.out.below hb)
  have VY_y2 := hide (VY_3.out.below hb)
  have B_y2 := hide (Below.step B_3.out hb (Nat.le_refl _))
  have hzy2 := hb.size
  have hLy2 := Y_y2.lt
  clear hb
  have KQ := sameMill_any _ _ _ _ _ _ _ _ x x y2 VX_y2.out.all VY_y2.out.all
  rw [decide_eq_true (rfl : x = x)] at KQ
  unfold millV at KQ
  refine (KQ).mono ?_
  rintro e w4 ⟨rfl, hb⟩
  have M_4 := M_y2.below hb M_y2.lt
  have D_4 := D_y2.below hb D_y2.lt
  have X_4 := X_y2.below hb X_y2.lt
  have Y_4 := Y_y2.below hb Y_y2.lt
  have VV_4 := hide (VV_y2.out.below hb)
  have VX_4 := hide (VX_y2.out.below hb)
  have VY_4 := hide (VY_y2.out.below hb)
  have B_4 := hide (Below.step B_y2.out hb (Nat.le_refl _))
  have hz4 := hb.size
  clear hb
  clear KI KS KQ
  cases ok with
  | false =>
    have hsm := do_same (m := m) (d := d) (by rw [hx])
    rw [hx] at hsm
    have hsm : x = m ∨ millB m = false := hsm
    have cX0 : w4.cell? ⟨w2.heap.size, 0, none⟩ = some (.slice ao51 x.store.length cap51) := X_4.cell 0 (by simp)
    have cX1 : w4.cell? ⟨w2.heap.size, 1, none⟩ = some (.int .i64 x.rule.lc) := X_4.cell 1 (by simp)
    have cX2 : w4.cell? ⟨w2.heap.size, 2, none⟩ = some (.int .i64 x.rule.hc) := X_4.cell 2 (by simp)
    have cX3 : w4.cell? ⟨w2.heap.size, 3, none⟩ = some (.int .i64 x.rule.lm) := X_4.cell 3 (by simp)
    have cX4 : w4.cell? ⟨w2.heap.size, 4, none⟩ = some (.int .i64 x.rule.hm) := X_4.cell 4 (by simp)
    have cX5 : w4.cell? ⟨w2.heap.size, 5, none⟩ = some (.int .i64 x.rule.ls) := X_4.cell 5 (by simp)
    have cX6 : w4.cell? ⟨w2.heap.size, 6, none⟩ = some (.int .i64 x.rule.hs) := X_4.cell 6 (by simp)
    have cX7 : w4.cell? ⟨w2.heap.size, 7, none⟩ = some (.int .i64 x.strand) := X_4.cell 7 (by simp)
    have cX8 : w4.cell? ⟨w2.heap.size, 8, none⟩ = some (.slice ao52 x.pieces.length cap52) := X_4.cell 8 (by simp)
    have cX9 : w4.cell? ⟨w2.heap.size, 9, none⟩ = some (.slice ao53 x.low.length cap53) := X_4.cell 9 (by simp)
    have cX10 : w4.cell? ⟨w2.heap.size, 10, none⟩ = some (.slice ao54 x.high.length cap54) := X_4.cell 10 (by simp)
    have cX11 : w4.cell? ⟨w2.heap.size, 11, none⟩ = some (.int .i64 x.scrap) := X_4.cell 11 (by simp)
    have cM0 : w4.cell? ⟨w1.heap.size, 0, none⟩ = some (.slice ao1 m.store.length cap1) := M_4.cell 0 (by simp)
    have cM1 : w4.cell? ⟨w1.heap.size, 1, none⟩ = some (.int .i64 m.rule.lc) := M_4.cell 1 (by simp)
    have cM2 : w4.cell? ⟨w1.heap.size, 2, none⟩ = some (.int .i64 m.rule.hc) := M_4.cell 2 (by simp)
    have cM3 : w4.cell? ⟨w1.heap.size, 3, none⟩ = some (.int .i64 m.rule.lm) := M_4.cell 3 (by simp)
    have cM4 : w4.cell? ⟨w1.heap.size, 4, none⟩ = some (.int .i64 m.rule.hm) := M_4.cell 4 (by simp)
    have cM5 : w4.cell? ⟨w1.heap.size, 5, none⟩ = some (.int .i64 m.rule.ls) := M_4.cell 5 (by simp)
    have cM6 : w4.cell? ⟨w1.heap.size, 6, none⟩ = some (.int .i64 m.rule.hs) := M_4.cell 6 (by simp)
    have cM7 : w4.cell? ⟨w1.heap.size, 7, none⟩ = some (.int .i64 m.strand) := M_4.cell 7 (by simp)
    have cM8 : w4.cell? ⟨w1.heap.size, 8, none⟩ = some (.slice ao2 m.pieces.length cap2) := M_4.cell 8 (by simp)
    have cM9 : w4.cell? ⟨w1.heap.size, 9, none⟩ = some (.slice ao3 m.low.length cap3) := M_4.cell 9 (by simp)
    have cM10 : w4.cell? ⟨w1.heap.size, 10, none⟩ = some (.slice ao4 m.high.length cap4) := M_4.cell 10 (by simp)
    have cM11 : w4.cell? ⟨w1.heap.size, 11, none⟩ = some (.int .i64 m.scrap) := M_4.cell 11 (by simp)
    go_wp2_with fail
    clear cX0 cX1 cX2 cX3 cX4 cX5 cX6 cX7 cX8 cX9 cX10 cX11 cM0 cM1 cM2 cM3 cM4 cM5 cM6 cM7 cM8 cM9 cM10 cM11
    have KM := sameMill_any _ _ _ _ _ _ _ _ x m w4 VX_4.out.all VV_4.out.all
    unfold millV at KM
    by_cases hxm : x = m
    · rw [decide_eq_true hxm] at KM
      refine (KM).mono ?_
      rintro e w5 ⟨rfl, hb⟩
      have M_5 := M_4.below hb M_4.lt
      have D_5 := D_4.below hb D_4.lt
      have X_5 := X_4.below hb X_4.lt
      have Y_5 := Y_4.below hb Y_4.lt
      have VV_5 := hide (VV_4.out.below hb)
      have VX_5 := hide (VX_4.out.below hb)
      have VY_5 := hide (VY_4.out.below hb)
      have B_5 := hide (Below.step B_4.out hb (Nat.le_refl _))
      have hz5 := hb.size
      clear hb
      go_wp2_with fail
      refine (alive_any w5).mono ?_
      rintro e w6 ⟨rfl, hb⟩
      have M_6 := M_5.below hb M_5.lt
      have D_6 := D_5.below hb D_5.lt
      have X_6 := X_5.below hb X_5.lt
      have Y_6 := Y_5.below hb Y_5.lt
      have VV_6 := hide (VV_5.out.below hb)
      have VX_6 := hide (VX_5.out.below hb)
      have VY_6 := hide (VY_5.out.below hb)
      have B_6 := hide (Below.step B_5.out hb (Nat.le_refl _))
      have hz6 := hb.size
      clear hb
      go_wp2_with fail
      go_ret
      exact ⟨rfl, B_6.out⟩
    · rw [decide_eq_false hxm] at KM
      have hv : millB m = false := hsm.resolve_left hxm
      refine (KM).mono ?_
      rintro e w5 ⟨rfl, hb⟩
      have M_5 := M_4.below hb M_4.lt
      have D_5 := D_4.below hb D_4.lt
      have X_5 := X_4.below hb X_4.lt
      have Y_5 := Y_4.below hb Y_4.lt
      have VV_5 := hide (VV_4.out.below hb)
      have VX_5 := hide (VX_4.out.below hb)
      have VY_5 := hide (VY_4.out.below hb)
      have B_5 := hide (Below.step B_4.out hb (Nat.le_refl _))
      have hz5 := hb.size
      clear hb
      have cM0 : w5.cell? ⟨w1.heap.size, 0, none⟩ = some (.slice ao1 m.store.length cap1) := M_5.cell 0 (by simp)
      have cM1 : w5.cell? ⟨w1.heap.size, 1, none⟩ = some (.int .i64 m.rule.lc) := M_5.cell 1 (by simp)
      have cM2 : w5.cell? ⟨w1.heap.size, 2, none⟩ = some (.int .i64 m.rule.hc) := M_5.cell 2 (by simp)
      have cM3 : w5.cell? ⟨w1.heap.size, 3, none⟩ = some (.int .i64 m.rule.lm) := M_5.cell 3 (by simp)
      have cM4 : w5.cell? ⟨w1.heap.size, 4, none⟩ = some (.int .i64 m.rule.hm) := M_5.cell 4 (by simp)
      have cM5 : w5.cell? ⟨w1.heap.size, 5, none⟩ = some (.int .i64 m.rule.ls) := M_5.cell 5 (by simp)
      have cM6 : w5.cell? ⟨w1.heap.size, 6, none⟩ = some (.int .i64 m.rule.hs) := M_5.cell 6 (by simp)
      have cM7 : w5.cell? ⟨w1.heap.size, 7, none⟩ = some (.int .i64 m.strand) := M_5.cell 7 (by simp)
      have cM8 : w5.cell? ⟨w1.heap.size, 8, none⟩ = some (.slice ao2 m.pieces.length cap2) := M_5.cell 8 (by simp)
      have cM9 : w5.cell? ⟨w1.heap.size, 9, none⟩ = some (.slice ao3 m.low.length cap3) := M_5.cell 9 (by simp)
      have cM10 : w5.cell? ⟨w1.heap.size, 10, none⟩ = some (.slice ao4 m.high.length cap4) := M_5.cell 10 (by simp)
      have cM11 : w5.cell? ⟨w1.heap.size, 11, none⟩ = some (.int .i64 m.scrap) := M_5.cell 11 (by simp)
      go_wp2_with fail
      have KV := mill_impl _ _ _ _ m w5 VV_5.out.all
      rw [hv] at KV
      unfold millV at KV
      refine (KV).mono ?_
      rintro e w6 ⟨rfl, hb⟩
      have M_6 := M_5.below hb M_5.lt
      have D_6 := D_5.below hb D_5.lt
      have X_6 := X_5.below hb X_5.lt
      have Y_6 := Y_5.below hb Y_5.lt
      have VV_6 := hide (VV_5.out.below hb)
      have VX_6 := hide (VX_5.out.below hb)
      have VY_6 := hide (VY_5.out.below hb)
      have B_6 := hide (Below.step B_5.out hb (Nat.le_refl _))
      have hz6 := hb.size
      clear hb
      go_wp2_with fail
      refine (alive_any w6).mono ?_
      rintro e w7 ⟨rfl, hb⟩
      have M_7 := M_6.below hb M_6.lt
      have D_7 := D_6.below hb D_6.lt
      have X_7 := X_6.below hb X_6.lt
      have Y_7 := Y_6.below hb Y_6.lt
      have VV_7 := hide (VV_6.out.below hb)
      have VX_7 := hide (VX_6.out.below hb)
      have VY_7 := hide (VY_6.out.below hb)
      have B_7 := hide (Below.step B_6.out hb (Nat.le_refl _))
      have hz7 := hb.size
      clear hb
      go_wp2_with fail
      go_ret
      exact ⟨rfl, B_7.out⟩
  | true =>
    have hv : millB m = true := by
      cases hv : millB m
      · rw [do_bad hv] at hx; cases hx
      · rfl
    have hl := do_law hv (d := d) (by rw [hx])
    rw [hx] at hl
    obtain ⟨hd, hvx, hms⟩ := hl
    have hd : Done m x := hd
    have hvx : millB x = true := hvx
    have hms : massR x = massR m := hms
    have hlen := hd.len
    have hpcs := hide hd.pcs
    have hne := hide hd.ne
    have hplen := VV_4.out.all.pieces.len
    obtain ⟨g1, g2, g3, g4, g5, g6⟩ : (x.rule.lc == m.rule.lc) = true ∧ (x.rule.hc == m.rule.hc) = true ∧ (x.rule.lm == m.rule.lm) = true ∧ (x.rule.hm == m.rule.hm) = true ∧ (x.rule.ls == m.rule.ls) = true ∧ (x.rule.hs == m.rule.hs) = true := by rw [hd.rule]; simp
    clear hd hx
    go_wp2_with fail
    go_loopw [9] (fun i wr => ∃ k : Nat, k ≤ m.pieces.length ∧ i = .int .i64 (k : Int) ∧ Below w4.heap.size w4 wr) (fun i _ => m.pieces.length - (intOf i).toNat)
    case atStart => exact ⟨0, Nat.zero_le _, rfl, Below.refl _ _⟩
    case round =>
      obtain ⟨k, hk, rfl, hb⟩ := hrel
      have HBr := hide hb
      have M_wr := M_4.below hb M_4.lt
      have D_wr := D_4.below hb D_4.lt
      have X_wr := X_4.below hb X_4.lt
      have Y_wr := Y_4.below hb Y_4.lt
      have VV_wr := hide (VV_4.out.below hb)
      have VX_wr := hide (VX_4.out.below hb)
      have VY_wr := hide (VY_4.out.below hb)
      have B_wr := hide (Below.step B_4.out hb (Nat.le_refl _))
      have hzwr := hb.size
      clear hb
      by_cases hlt : k < m.pieces.length
      · skip
        have cM8 : wr.cell? ⟨w1.heap.size, 8, none⟩ = some (.slice ao2 m.pieces.length cap2) := M_wr.cell 8 (by simp)
        have cX8 : wr.cell? ⟨w2.heap.size, 8, none⟩ = some (.slice ao52 x.pieces.length cap52) := X_wr.cell 8 (by simp)
        obtain ⟨b1, o1, c1, e1, -, -, p1, p2⟩ := pc_at VV_wr.out.all.pieces hlt
        simp only [Value.slice.injEq, true_and] at e1
        obtain ⟨rfl, rfl⟩ := e1
        obtain ⟨b2, o2, c2, e2, -, -, r1, r2⟩ := pc_at VX_wr.out.all.pieces (show k < x.pieces.length by omega)
        simp only [Value.slice.injEq, true_and] at e2
        obtain ⟨rfl, rfl⟩ := e2
        obtain ⟨q1, q2⟩ := hpcs.out k hlt
        have hlx : k < x.pieces.length := by omega
        obtain ⟨u1, hu1⟩ : ∃ z, (m.pieces.getD k pc0).l = z := ⟨_, rfl⟩
        obtain ⟨u2, hu2⟩ : ∃ z, (m.pieces.getD k pc0).s = z := ⟨_, rfl⟩
        obtain ⟨u3, hu3⟩ : ∃ z, (x.pieces.getD k pc0).s = z := ⟨_, rfl⟩
        rw [hu1] at p1 q1
        rw [hu2] at p2 q2
        rw [q1] at r1
        rw [hu3] at r2 q2
        have hsB : decide (u3 < u2) = false := by simp; omega
        have hlB : (u1 != u1) = false := by simp
        clear hu1 hu2 hu3 q1 q2
        go_wp2_with fail
        go_quiet (fail)
        go_wp2_with fail
        go_roundw
        case rel => exact ⟨k + 1, by omega, by go_num, below_drewN HBr.out _⟩
        case measure => simp [intOf] <;> omega
      · obtain rfl : k = m.pieces.length := by omega
        have cM8 : wr.cell? ⟨w1.heap.size, 8, none⟩ = some (.slice ao2 m.pieces.length cap2) := M_wr.cell 8 (by simp)
        go_wp2_with fail
        clear cM8
        have hI : ((World.drew wr).cell? ⟨w1.heap.size, 0, none⟩ = some (.slice ao1 m.store.length cap1) ∧ (World.drew wr).cell? ⟨w1.heap.size, 1, none⟩ = some (.int .i64 m.rule.lc) ∧ (World.drew wr).cell? ⟨w1.heap.size, 2, none⟩ = some (.int .i64 m.rule.hc) ∧ (World.drew wr).cell? ⟨w1.heap.size, 3, none⟩ = some (.int .i64 m.rule.lm) ∧ (World.drew wr).cell? ⟨w1.heap.size, 4, none⟩ = some (.int .i64 m.rule.hm) ∧ (World.drew wr).cell? ⟨w1.heap.size, 5, none⟩ = some (.int .i64 m.rule.ls) ∧ (World.drew wr).cell? ⟨w1.heap.size, 6, none⟩ = some (.int .i64 m.rule.hs) ∧ (World.drew wr).cell? ⟨w1.heap.size, 7, none⟩ = some (.int .i64 m.strand) ∧ (World.drew wr).cell? ⟨w1.heap.size, 8, none⟩ = some (.slice ao2 m.pieces.length cap2) ∧ (World.drew wr).cell? ⟨w1.heap.size, 9, none⟩ = some (.slice ao3 m.low.length cap3) ∧ (World.drew wr).cell? ⟨w1.heap.size, 10, none⟩ = some (.slice ao4 m.high.length cap4) ∧ (World.drew wr).cell? ⟨w1.heap.size, 11, none⟩ = some (.int .i64 m.scrap)) ∧ ((World.drew wr).cell? ⟨w2.heap.size, 0, none⟩ = some (.slice ao51 x.store.length cap51) ∧ (World.drew wr).cell? ⟨w2.heap.size, 1, none⟩ = some (.int .i64 x.rule.lc) ∧ (World.drew wr).cell? ⟨w2.heap.size, 2, none⟩ = some (.int .i64 x.rule.hc) ∧ (World.drew wr).cell? ⟨w2.heap.size, 3, none⟩ = some (.int .i64 x.rule.lm) ∧ (World.drew wr).cell? ⟨w2.heap.size, 4, none⟩ = some (.int .i64 x.rule.hm) ∧ (World.drew wr).cell? ⟨w2.heap.size, 5, none⟩ = some (.int .i64 x.rule.ls) ∧ (World.drew wr).cell? ⟨w2.heap.size, 6, none⟩ = some (.int .i64 x.rule.hs) ∧ (World.drew wr).cell? ⟨w2.heap.size, 7, none⟩ = some (.int .i64 x.strand) ∧ (World.drew wr).cell? ⟨w2.heap.size, 8, none⟩ = some (.slice ao52 x.pieces.length cap52) ∧ (World.drew wr).cell? ⟨w2.heap.size, 9, none⟩ = some (.slice ao53 x.low.length cap53) ∧ (World.drew wr).cell? ⟨w2.heap.size, 10, none⟩ = some (.slice ao54 x.high.length cap54) ∧ (World.drew wr).cell? ⟨w2.heap.size, 11, none⟩ = some (.int .i64 x.scrap)) := ⟨row12_all M_wr, row12_all X_wr⟩
        have hb : Below wr.heap.size wr (World.drew wr) := (Below.refl _ _).drew
        have M_d := M_wr.drew
        have D_d := D_wr.drew
        have X_d := X_wr.drew
        have Y_d := Y_wr.drew
        have VV_d := hide (VV_wr.out.below hb)
        have VX_d := hide (VX_wr.out.below hb)
        have VY_d := hide (VY_wr.out.below hb)
        have B_d := hide (Below.step B_wr.out hb (Nat.le_refl _))
        clear hb
        go_region_held (fun W => (W.cell? ⟨w1.heap.size, 0, none⟩ = some (.slice ao1 m.store.length cap1) ∧ W.cell? ⟨w1.heap.size, 1, none⟩ = some (.int .i64 m.rule.lc) ∧ W.cell? ⟨w1.heap.size, 2, none⟩ = some (.int .i64 m.rule.hc) ∧ W.cell? ⟨w1.heap.size, 3, none⟩ = some (.int .i64 m.rule.lm) ∧ W.cell? ⟨w1.heap.size, 4, none⟩ = some (.int .i64 m.rule.hm) ∧ W.cell? ⟨w1.heap.size, 5, none⟩ = some (.int .i64 m.rule.ls) ∧ W.cell? ⟨w1.heap.size, 6, none⟩ = some (.int .i64 m.rule.hs) ∧ W.cell? ⟨w1.heap.size, 7, none⟩ = some (.int .i64 m.strand) ∧ W.cell? ⟨w1.heap.size, 8, none⟩ = some (.slice ao2 m.pieces.length cap2) ∧ W.cell? ⟨w1.heap.size, 9, none⟩ = some (.slice ao3 m.low.length cap3) ∧ W.cell? ⟨w1.heap.size, 10, none⟩ = some (.slice ao4 m.high.length cap4) ∧ W.cell? ⟨w1.heap.size, 11, none⟩ = some (.int .i64 m.scrap)) ∧ (W.cell? ⟨w2.heap.size, 0, none⟩ = some (.slice ao51 x.store.length cap51) ∧ W.cell? ⟨w2.heap.size, 1, none⟩ = some (.int .i64 x.rule.lc) ∧ W.cell? ⟨w2.heap.size, 2, none⟩ = some (.int .i64 x.rule.hc) ∧ W.cell? ⟨w2.heap.size, 3, none⟩ = some (.int .i64 x.rule.lm) ∧ W.cell? ⟨w2.heap.size, 4, none⟩ = some (.int .i64 x.rule.hm) ∧ W.cell? ⟨w2.heap.size, 5, none⟩ = some (.int .i64 x.rule.ls) ∧ W.cell? ⟨w2.heap.size, 6, none⟩ = some (.int .i64 x.rule.hs) ∧ W.cell? ⟨w2.heap.size, 7, none⟩ = some (.int .i64 x.strand) ∧ W.cell? ⟨w2.heap.size, 8, none⟩ = some (.slice ao52 x.pieces.length cap52) ∧ W.cell? ⟨w2.heap.size, 9, none⟩ = some (.slice ao53 x.low.length cap53) ∧ W.cell? ⟨w2.heap.size, 10, none⟩ = some (.slice ao54 x.high.length cap54) ∧ W.cell? ⟨w2.heap.size, 11, none⟩ = some (.int .i64 x.scrap))) (first | (with_reducible exact hI) | (with_reducible exact hS0) | (with_reducible exact hS1) | (with_reducible exact hS2) | (with_reducible exact hS3)) (first
          | (go_at_call 23; refine (mass_impl _ _ _ _ m _ VV_k2.out.all).mono ?_; rintro e k3 ⟨rfl, hb⟩; have M_k3 := M_k2.below hb M_k2.lt; have D_k3 := D_k2.below hb D_k2.lt; have X_k3 := X_k2.below hb X_k2.lt; have Y_k3 := Y_k2.below hb Y_k2.lt; have VV_k3 := hide (VV_k2.out.below hb); have VX_k3 := hide (VX_k2.out.below hb); have VY_k3 := hide (VY_k2.out.below hb); have B_k3 := hide (Below.step B_k2.out hb (Nat.le_refl _)); have hzk3 := hb.size; have hS3 : (k3.cell? ⟨w1.heap.size, 0, none⟩ = some (.slice ao1 m.store.length cap1) ∧ k3.cell? ⟨w1.heap.size, 1, none⟩ = some (.int .i64 m.rule.lc) ∧ k3.cell? ⟨w1.heap.size, 2, none⟩ = some (.int .i64 m.rule.hc) ∧ k3.cell? ⟨w1.heap.size, 3, none⟩ = some (.int .i64 m.rule.lm) ∧ k3.cell? ⟨w1.heap.size, 4, none⟩ = some (.int .i64 m.rule.hm) ∧ k3.cell? ⟨w1.heap.size, 5, none⟩ = some (.int .i64 m.rule.ls) ∧ k3.cell? ⟨w1.heap.size, 6, none⟩ = some (.int .i64 m.rule.hs) ∧ k3.cell? ⟨w1.heap.size, 7, none⟩ = some (.int .i64 m.strand) ∧ k3.cell? ⟨w1.heap.size, 8, none⟩ = some (.slice ao2 m.pieces.length cap2) ∧ k3.cell? ⟨w1.heap.size, 9, none⟩ = some (.slice ao3 m.low.length cap3) ∧ k3.cell? ⟨w1.heap.size, 10, none⟩ = some (.slice ao4 m.high.length cap4) ∧ k3.cell? ⟨w1.heap.size, 11, none⟩ = some (.int .i64 m.scrap)) ∧ (k3.cell? ⟨w2.heap.size, 0, none⟩ = some (.slice ao51 x.store.length cap51) ∧ k3.cell? ⟨w2.heap.size, 1, none⟩ = some (.int .i64 x.rule.lc) ∧ k3.cell? ⟨w2.heap.size, 2, none⟩ = some (.int .i64 x.rule.hc) ∧ k3.cell? ⟨w2.heap.size, 3, none⟩ = some (.int .i64 x.rule.lm) ∧ k3.cell? ⟨w2.heap.size, 4, none⟩ = some (.int .i64 x.rule.hm) ∧ k3.cell? ⟨w2.heap.size, 5, none⟩ = some (.int .i64 x.rule.ls) ∧ k3.cell? ⟨w2.heap.size, 6, none⟩ = some (.int .i64 x.rule.hs) ∧ k3.cell? ⟨w2.heap.size, 7, none⟩ = some (.int .i64 x.strand) ∧ k3.cell? ⟨w2.heap.size, 8, none⟩ = some (.slice ao52 x.pieces.length cap52) ∧ k3.cell? ⟨w2.heap.size, 9, none⟩ = some (.slice ao53 x.low.length cap53) ∧ k3.cell? ⟨w2.heap.size, 10, none⟩ = some (.slice ao54 x.high.length cap54) ∧ k3.cell? ⟨w2.heap.size, 11, none⟩ = some (.int .i64 x.scrap)) := ⟨row12_all M_k3, row12_all X_k3⟩; clear hb)
          | (go_at_call 23; refine (ms_is (mass_impl _ _ _ _ x _ VX_k1.out.all) hms).mono ?_; rintro e k2 ⟨rfl, hb⟩; have M_k2 := M_k1.below hb M_k1.lt; have D_k2 := D_k1.below hb D_k1.lt; have X_k2 := X_k1.below hb X_k1.lt; have Y_k2 := Y_k1.below hb Y_k1.lt; have VV_k2 := hide (VV_k1.out.below hb); have VX_k2 := hide (VX_k1.out.below hb); have VY_k2 := hide (VY_k1.out.below hb); have B_k2 := hide (Below.step B_k1.out hb (Nat.le_refl _)); have hzk2 := hb.size; have hS2 : (k2.cell? ⟨w1.heap.size, 0, none⟩ = some (.slice ao1 m.store.length cap1) ∧ k2.cell? ⟨w1.heap.size, 1, none⟩ = some (.int .i64 m.rule.lc) ∧ k2.cell? ⟨w1.heap.size, 2, none⟩ = some (.int .i64 m.rule.hc) ∧ k2.cell? ⟨w1.heap.size, 3, none⟩ = some (.int .i64 m.rule.lm) ∧ k2.cell? ⟨w1.heap.size, 4, none⟩ = some (.int .i64 m.rule.hm) ∧ k2.cell? ⟨w1.heap.size, 5, none⟩ = some (.int .i64 m.rule.ls) ∧ k2.cell? ⟨w1.heap.size, 6, none⟩ = some (.int .i64 m.rule.hs) ∧ k2.cell? ⟨w1.heap.size, 7, none⟩ = some (.int .i64 m.strand) ∧ k2.cell? ⟨w1.heap.size, 8, none⟩ = some (.slice ao2 m.pieces.length cap2) ∧ k2.cell? ⟨w1.heap.size, 9, none⟩ = some (.slice ao3 m.low.length cap3) ∧ k2.cell? ⟨w1.heap.size, 10, none⟩ = some (.slice ao4 m.high.length cap4) ∧ k2.cell? ⟨w1.heap.size, 11, none⟩ = some (.int .i64 m.scrap)) ∧ (k2.cell? ⟨w2.heap.size, 0, none⟩ = some (.slice ao51 x.store.length cap51) ∧ k2.cell? ⟨w2.heap.size, 1, none⟩ = some (.int .i64 x.rule.lc) ∧ k2.cell? ⟨w2.heap.size, 2, none⟩ = some (.int .i64 x.rule.hc) ∧ k2.cell? ⟨w2.heap.size, 3, none⟩ = some (.int .i64 x.rule.lm) ∧ k2.cell? ⟨w2.heap.size, 4, none⟩ = some (.int .i64 x.rule.hm) ∧ k2.cell? ⟨w2.heap.size, 5, none⟩ = some (.int .i64 x.rule.ls) ∧ k2.cell? ⟨w2.heap.size, 6, none⟩ = some (.int .i64 x.rule.hs) ∧ k2.cell? ⟨w2.heap.size, 7, none⟩ = some (.int .i64 x.strand) ∧ k2.cell? ⟨w2.heap.size, 8, none⟩ = some (.slice ao52 x.pieces.length cap52) ∧ k2.cell? ⟨w2.heap.size, 9, none⟩ = some (.slice ao53 x.low.length cap53) ∧ k2.cell? ⟨w2.heap.size, 10, none⟩ = some (.slice ao54 x.high.length cap54) ∧ k2.cell? ⟨w2.heap.size, 11, none⟩ = some (.int .i64 x.scrap)) := ⟨row12_all M_k2, row12_all X_k2⟩; clear hb)
          | (go_at_call 17; refine (sm_no (sameMill_any _ _ _ _ _ _ _ _ x m _ VX_k0.out.all VV_k0.out.all) hne.out).mono ?_; rintro e k1 ⟨rfl, hb⟩; have M_k1 := M_k0.below hb M_k0.lt; have D_k1 := D_k0.below hb D_k0.lt; have X_k1 := X_k0.below hb X_k0.lt; have Y_k1 := Y_k0.below hb Y_k0.lt; have VV_k1 := hide (VV_k0.out.below hb); have VX_k1 := hide (VX_k0.out.below hb); have VY_k1 := hide (VY_k0.out.below hb); have B_k1 := hide (Below.step B_k0.out hb (Nat.le_refl _)); have hzk1 := hb.size; have hS1 : (k1.cell? ⟨w1.heap.size, 0, none⟩ = some (.slice ao1 m.store.length cap1) ∧ k1.cell? ⟨w1.heap.size, 1, none⟩ = some (.int .i64 m.rule.lc) ∧ k1.cell? ⟨w1.heap.size, 2, none⟩ = some (.int .i64 m.rule.hc) ∧ k1.cell? ⟨w1.heap.size, 3, none⟩ = some (.int .i64 m.rule.lm) ∧ k1.cell? ⟨w1.heap.size, 4, none⟩ = some (.int .i64 m.rule.hm) ∧ k1.cell? ⟨w1.heap.size, 5, none⟩ = some (.int .i64 m.rule.ls) ∧ k1.cell? ⟨w1.heap.size, 6, none⟩ = some (.int .i64 m.rule.hs) ∧ k1.cell? ⟨w1.heap.size, 7, none⟩ = some (.int .i64 m.strand) ∧ k1.cell? ⟨w1.heap.size, 8, none⟩ = some (.slice ao2 m.pieces.length cap2) ∧ k1.cell? ⟨w1.heap.size, 9, none⟩ = some (.slice ao3 m.low.length cap3) ∧ k1.cell? ⟨w1.heap.size, 10, none⟩ = some (.slice ao4 m.high.length cap4) ∧ k1.cell? ⟨w1.heap.size, 11, none⟩ = some (.int .i64 m.scrap)) ∧ (k1.cell? ⟨w2.heap.size, 0, none⟩ = some (.slice ao51 x.store.length cap51) ∧ k1.cell? ⟨w2.heap.size, 1, none⟩ = some (.int .i64 x.rule.lc) ∧ k1.cell? ⟨w2.heap.size, 2, none⟩ = some (.int .i64 x.rule.hc) ∧ k1.cell? ⟨w2.heap.size, 3, none⟩ = some (.int .i64 x.rule.lm) ∧ k1.cell? ⟨w2.heap.size, 4, none⟩ = some (.int .i64 x.rule.hm) ∧ k1.cell? ⟨w2.heap.size, 5, none⟩ = some (.int .i64 x.rule.ls) ∧ k1.cell? ⟨w2.heap.size, 6, none⟩ = some (.int .i64 x.rule.hs) ∧ k1.cell? ⟨w2.heap.size, 7, none⟩ = some (.int .i64 x.strand) ∧ k1.cell? ⟨w2.heap.size, 8, none⟩ = some (.slice ao52 x.pieces.length cap52) ∧ k1.cell? ⟨w2.heap.size, 9, none⟩ = some (.slice ao53 x.low.length cap53) ∧ k1.cell? ⟨w2.heap.size, 10, none⟩ = some (.slice ao54 x.high.length cap54) ∧ k1.cell? ⟨w2.heap.size, 11, none⟩ = some (.int .i64 x.scrap)) := ⟨row12_all M_k1, row12_all X_k1⟩; clear hb)
          | (go_at_call 28; refine (mv_yes (mill_impl _ _ _ _ x _ VX_d.out.all) hvx).mono ?_; rintro e k0 ⟨rfl, hb⟩; have M_k0 := M_d.below hb M_d.lt; have D_k0 := D_d.below hb D_d.lt; have X_k0 := X_d.below hb X_d.lt; have Y_k0 := Y_d.below hb Y_d.lt; have VV_k0 := hide (VV_d.out.below hb); have VX_k0 := hide (VX_d.out.below hb); have VY_k0 := hide (VY_d.out.below hb); have B_k0 := hide (Below.step B_d.out hb (Nat.le_refl _)); have hzk0 := hb.size; have hS0 : (k0.cell? ⟨w1.heap.size, 0, none⟩ = some (.slice ao1 m.store.length cap1) ∧ k0.cell? ⟨w1.heap.size, 1, none⟩ = some (.int .i64 m.rule.lc) ∧ k0.cell? ⟨w1.heap.size, 2, none⟩ = some (.int .i64 m.rule.hc) ∧ k0.cell? ⟨w1.heap.size, 3, none⟩ = some (.int .i64 m.rule.lm) ∧ k0.cell? ⟨w1.heap.size, 4, none⟩ = some (.int .i64 m.rule.hm) ∧ k0.cell? ⟨w1.heap.size, 5, none⟩ = some (.int .i64 m.rule.ls) ∧ k0.cell? ⟨w1.heap.size, 6, none⟩ = some (.int .i64 m.rule.hs) ∧ k0.cell? ⟨w1.heap.size, 7, none⟩ = some (.int .i64 m.strand) ∧ k0.cell? ⟨w1.heap.size, 8, none⟩ = some (.slice ao2 m.pieces.length cap2) ∧ k0.cell? ⟨w1.heap.size, 9, none⟩ = some (.slice ao3 m.low.length cap3) ∧ k0.cell? ⟨w1.heap.size, 10, none⟩ = some (.slice ao4 m.high.length cap4) ∧ k0.cell? ⟨w1.heap.size, 11, none⟩ = some (.int .i64 m.scrap)) ∧ (k0.cell? ⟨w2.heap.size, 0, none⟩ = some (.slice ao51 x.store.length cap51) ∧ k0.cell? ⟨w2.heap.size, 1, none⟩ = some (.int .i64 x.rule.lc) ∧ k0.cell? ⟨w2.heap.size, 2, none⟩ = some (.int .i64 x.rule.hc) ∧ k0.cell? ⟨w2.heap.size, 3, none⟩ = some (.int .i64 x.rule.lm) ∧ k0.cell? ⟨w2.heap.size, 4, none⟩ = some (.int .i64 x.rule.hm) ∧ k0.cell? ⟨w2.heap.size, 5, none⟩ = some (.int .i64 x.rule.ls) ∧ k0.cell? ⟨w2.heap.size, 6, none⟩ = some (.int .i64 x.rule.hs) ∧ k0.cell? ⟨w2.heap.size, 7, none⟩ = some (.int .i64 x.strand) ∧ k0.cell? ⟨w2.heap.size, 8, none⟩ = some (.slice ao52 x.pieces.length cap52) ∧ k0.cell? ⟨w2.heap.size, 9, none⟩ = some (.slice ao53 x.low.length cap53) ∧ k0.cell? ⟨w2.heap.size, 10, none⟩ = some (.slice ao54 x.high.length cap54) ∧ k0.cell? ⟨w2.heap.size, 11, none⟩ = some (.int .i64 x.scrap)) := ⟨row12_all M_k0, row12_all X_k0⟩; clear hb))
        clear hI hS0 hS1 hS2 hS3
        have hmm : (massR m == massR m) = true := by simp
        go_wp2_with fail
        go_ret
        exact ⟨rfl, B_k3.out⟩
end Go.Proofs.YtmemgbklgcjobaaGreatDoor
