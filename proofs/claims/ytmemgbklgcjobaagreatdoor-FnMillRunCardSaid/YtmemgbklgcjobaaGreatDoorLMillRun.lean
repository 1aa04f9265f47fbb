/-
  The walk over the law FnMillRun: it answers true, whatever the code.
-/
import Derived.Test.YtmemgbklgcjobaaGreatDoorDrawMR
import Derived.Test.YtmemgbklgcjobaaGreatDoorB48
import Derived.Test.YtmemgbklgcjobaaGreatDoorFlawP
import Derived.Deep.RegionHeld
import Derived.Deep.CutRange
namespace Go.Proofs.YtmemgbklgcjobaaGreatDoor
open Go.RowKit

theorem JobsAt.dropIf {lo hi b n cap k : Nat} {w : World} {xs : List J} (h : JobsAt lo hi w (.slice (some ⟨b, 0, none⟩) n cap) xs) (hk : k ≤ n) (hc : n ≤ cap) : JobsAt lo hi w (.slice (if cap = k then some ⟨b, 0, none⟩ else some ⟨b, k * 3, none⟩) (n - k) (cap - k)) (xs.drop k) := by
  have h2 := JobsAt.drop h hk hc
  rw [Nat.zero_add] at h2
  split
  · obtain ⟨ao', cap', e, a1, a2, a3, a4⟩ := h
    simp only [Value.slice.injEq] at e
    obtain ⟨rfl, rfl, rfl⟩ := e
    refine ⟨_, cap - k, by rw [List.length_drop], by rw [List.length_drop]; omega, by omega, a3, fun hn => ?_⟩
    rw [List.length_drop] at hn
    omega
  · exact h2
set_option linter.unusedVariables false in
set_option linter.unusedSimpArgs false in
set_option maxRecDepth 10000 in
set_option maxHeartbeats 3200000 in
theorem law_MillRun (v : Value) (n : Nat) (w : World) (h : BytesAt 0 w.heap.size w v n) :
    Calls Tryz.prog 11 #[v] w fun e w' => e = .returned (.bool true) ∧ Below w.heap.size w w' := by
  obtain ⟨ao, cap, rfl, hnc, hcap, -, -⟩ := id h
  have HB := hide h
  clear h
  by_cases hlong : 1048576 < n
  · go_enter Tryz.func11, Tryz.ntmps11
    go_wp2_with fail
    go_ret
    exact ⟨rfl, by go_grown⟩
  go_enter Tryz.func11, Tryz.ntmps11
  go_wp2_with fail
  refine (drawMillRun _ n _ HB.out).mono ?_
  rintro e w1 ⟨s, p, l, h, m, gj, capj, js, rfl, hjl, hjs, hJ, hG, hf, hb⟩
  obtain ⟨ao1, cap1, rfl, -, -, -, -⟩ := id hG.all.store
  obtain ⟨ao2, cap2, rfl, -, -, -, -⟩ := id hG.all.pieces
  obtain ⟨ao3, cap3, rfl, -, -, -, -⟩ := id hG.all.low
  obtain ⟨ao4, cap4, rfl, -, -, -, -⟩ := id hG.all.high
  have B_1 := hide hb
  have VV_1 := hide hG
  have hz1 := hb.size
  clear hb hG
  obtain ⟨aoj, capj2, ej, hjc, hjc2, -, -⟩ := id hJ
  obtain rfl : capj = capj2 := by injection ej
  clear ej
  have VJ_1 := hide hJ
  have HJS := hide hjs
  clear hJ hjs
  unfold millV
  go_wp2_with fail
  refine calls_at fun wx hwx => ?_
  have M_wx : RowL wx (w1.heap.size) 31 [.slice ao1 m.store.length cap1, .int .i64 m.rule.lc, .int .i64 m.rule.hc, .int .i64 m.rule.lm, .int .i64 m.rule.hm, .int .i64 m.rule.ls, .int .i64 m.rule.hs, .int .i64 m.strand, .slice ao2 m.pieces.length cap2, .slice ao3 m.low.length cap3, .slice ao4 m.high.length cap4, .int .i64 m.scrap] := by rw [hwx]; exact (RowL.new _ 31 [.slice ao1 m.store.length cap1, .int .i64 m.rule.lc, .int .i64 m.rule.hc, .int .i64 m.rule.lm, .int .i64 m.rule.hm, .int .i64 m.rule.ls, .int .i64 m.rule.hs, .int .i64 m.strand, .slice ao2 m.pieces.length cap2, .slice ao3 m.low.length cap3, .slice ao4 m.high.length cap4, .int .i64 m.scrap])
  have hb : Below w1.heap.size w1 wx := by rw [hwx]; exact ((Below.refl _ _).alloc (Nat.le_refl _) _)
  clear hwx
  have VV_wx := hide (VV_1.out.below hb)
  have VJ_wx := hide (VJ_1.out.below hb)
  have B_wx := hide (Below.step B_1.out hb (Nat.le_refl _))
  have hzwx := hb.size
  have hLwx := M_wx.lt
  clear hb
  obtain ⟨⟨x, nn⟩, hx⟩ : ∃ z, runR m js = z := ⟨_, rfl⟩
  have HX := hide hx
  have KI := run_impl _ _ _ _ _ m js wx VV_wx.out.all (VJ_wx.out.mono (Nat.zero_le _) (by omega) (Nat.le_refl _)) HJS.out
  rw [hx] at KI
  unfold millV at KI
  refine (KI).mono ?_
  rintro e w2 ⟨s5, p5, l5, h5, he5, G5, hb⟩
  have M_2 := M_wx.below hb M_wx.lt
  have VV_2 := hide (VV_wx.out.below hb)
  have VJ_2 := hide (VJ_wx.out.below hb)
  have B_2 := hide (Below.step B_wx.out hb (Nat.le_refl _))
  have hz2 := hb.size
  clear hb
  have he5 : e = .returned (.tuple #[millV s5 p5 l5 h5 x, .int .i64 nn]) := he5
  subst he5
  have G5 : MillGot _ w2 s5 p5 l5 h5 x := G5
  obtain ⟨ao51, cap51, rfl, -, -⟩ := G5.so.form
  obtain ⟨ao52, cap52, rfl, -, -⟩ := G5.po.form
  obtain ⟨ao53, cap53, rfl, -, -⟩ := G5.lo.form
  obtain ⟨ao54, cap54, rfl, -, -⟩ := G5.ho.form
  have VX_2 := hide G5
  clear G5
  have cM0 : w2.cell? ⟨w1.heap.size, 0, none⟩ = some (.slice ao1 m.store.length cap1) := M_2.cell 0 (by simp)
  have cM1 : w2.cell? ⟨w1.heap.size, 1, none⟩ = some (.int .i64 m.rule.lc) := M_2.cell 1 (by simp)
  have cM2 : w2.cell? ⟨w1.heap.size, 2, none⟩ = some (.int .i64 m.rule.hc) := M_2.cell 2 (by simp)
  have cM3 : w2.cell? ⟨w1.heap.size, 3, none⟩ = some (.int .i64 m.rule.lm) := M_2.cell 3 (by simp)
  have cM4 : w2.cell? ⟨w1.heap.size, 4, none⟩ = some (.int .i64 m.rule.hm) := M_2.cell 4 (by simp)
  have cM5 : w2.cell? ⟨w1.heap.size, 5, none⟩ = some (.int .i64 m.rule.ls) := M_2.cell 5 (by simp)
  have cM6 : w2.cell? ⟨w1.heap.size, 6, none⟩ = some (.int .i64 m.rule.hs) := M_2.cell 6 (by simp)
  have cM7 : w2.cell? ⟨w1.heap.size, 7, none⟩ = some (.int .i64 m.strand) := M_2.cell 7 (by simp)
  have cM8 : w2.cell? ⟨w1.heap.size, 8, none⟩ = some (.slice ao2 m.pieces.length cap2) := M_2.cell 8 (by simp)
  have cM9 : w2.cell? ⟨w1.heap.size, 9, none⟩ = some (.slice ao3 m.low.length cap3) := M_2.cell 9 (by simp)
  have cM10 : w2.cell? ⟨w1.heap.size, 10, none⟩ = some (.slice ao4 m.high.length cap4) := M_2.cell 10 (by simp)
  have cM11 : w2.cell? ⟨w1.heap.size, 11, none⟩ = some (.int .i64 m.scrap) := M_2.cell 11 (by simp)
  have hqM2 := M_2.lt
  unfold millV
  go_wp2_with fail
  clear cM0 cM1 cM2 cM3 cM4 cM5 cM6 cM7 cM8 cM9 cM10 cM11
  refine calls_at fun y1 hwx => ?_
  have X_y1 : RowL y1 (w2.heap.size) 31 [.slice ao51 x.store.length cap51, .int .i64 x.rule.lc, .int .i64 x.rule.hc, .int .i64 x.rule.lm, .int .i64 x.rule.hm, .int .i64 x.rule.ls, .int .i64 x.rule.hs, .int .i64 x.strand, .slice ao52 x.pieces.length cap52, .slice ao53 x.low.length cap53, .slice ao54 x.high.length cap54, .int .i64 x.scrap] := by rw [hwx]; exact (RowL.new _ 31 [.slice ao51 x.store.length cap51, .int .i64 x.rule.lc, .int .i64 x.rule.hc, .int .i64 x.rule.lm, .int .i64 x.rule.hm, .int .i64 x.rule.ls, .int .i64 x.rule.hs, .int .i64 x.strand, .slice ao52 x.pieces.length cap52, .slice ao53 x.low.length cap53, .slice ao54 x.high.length cap54, .int .i64 x.scrap])
  have hb : Below w2.heap.size w2 y1 := by rw [hwx]; exact ((Below.refl _ _).alloc (Nat.le_refl _) _)
  clear hwx
  have M_y1 := M_2.below hb M_2.lt
  have VV_y1 := hide (VV_2.out.below hb)
  have VJ_y1 := hide (VJ_2.out.below hb)
  have VX_y1 := hide (VX_2.out.below hb)
  have B_y1 := hide (Below.step B_2.out hb (Nat.le_refl _))
  have hzy1 := hb.size
  have hLy1 := X_y1.lt
  clear hb
  have KS := run_spec _ _ _ _ _ m js y1 VV_y1.out.all (VJ_y1.out.mono (Nat.zero_le _) (by omega) (Nat.le_refl _)) HJS.out
  rw [hx] at KS
  unfold millV at KS
  refine (KS).mono ?_
  rintro e w3 ⟨s6, p6, l6, h6, he6, G6, hb⟩
  have M_3 := M_y1.below hb M_y1.lt
  have X_3 := X_y1.below hb X_y1.lt
  have VV_3 := hide (VV_y1.out.below hb)
  have VJ_3 := hide (VJ_y1.out.below hb)
  have VX_3 := hide (VX_y1.out.below hb)
  have B_3 := hide (Below.step B_y1.out hb (Nat.le_refl _))
  have hz3 := hb.size
  clear hb
  have he6 : e = .returned (.tuple #[millV s6 p6 l6 h6 x, .int .i64 nn]) := he6
  subst he6
  have G6 : MillGot _ w3 s6 p6 l6 h6 x := G6
  obtain ⟨ao61, cap61, rfl, -, -⟩ := G6.so.form
  obtain ⟨ao62, cap62, rfl, -, -⟩ := G6.po.form
  obtain ⟨ao63, cap63, rfl, -, -⟩ := G6.lo.form
  obtain ⟨ao64, cap64, rfl, -, -⟩ := G6.ho.form
  have VY_3 := hide G6
  clear G6
  have cX0 : w3.cell? ⟨w2.heap.size, 0, none⟩ = some (.slice ao51 x.store.length cap51) := X_3.cell 0 (by simp)
  have cX1 : w3.cell? ⟨w2.heap.size, 1, none⟩ = some (.int .i64 x.rule.lc) := X_3.cell 1 (by simp)
  have cX2 : w3.cell? ⟨w2.heap.size, 2, none⟩ = some (.int .i64 x.rule.hc) := X_3.cell 2 (by simp)
  have cX3 : w3.cell? ⟨w2.heap.size, 3, none⟩ = some (.int .i64 x.rule.lm) := X_3.cell 3 (by simp)
  have cX4 : w3.cell? ⟨w2.heap.size, 4, none⟩ = some (.int .i64 x.rule.hm) := X_3.cell 4 (by simp)
  have cX5 : w3.cell? ⟨w2.heap.size, 5, none⟩ = some (.int .i64 x.rule.ls) := X_3.cell 5 (by simp)
  have cX6 : w3.cell? ⟨w2.heap.size, 6, none⟩ = some (.int .i64 x.rule.hs) := X_3.cell 6 (by simp)
  have cX7 : w3.cell? ⟨w2.heap.size, 7, none⟩ = some (.int .i64 x.strand) := X_3.cell 7 (by simp)
  have cX8 : w3.cell? ⟨w2.heap.size, 8, none⟩ = some (.slice ao52 x.pieces.length cap52) := X_3.cell 8 (by simp)
  have cX9 : w3.cell? ⟨w2.heap.size, 9, none⟩ = some (.slice ao53 x.low.length cap53) := X_3.cell 9 (by simp)
  have cX10 : w3.cell? ⟨w2.heap.size, 10, none⟩ = some (.slice ao54 x.high.length cap54) := X_3.cell 10 (by simp)
  have cX11 : w3.cell? ⟨w2.heap.size, 11, none⟩ = some (.int .i64 x.scrap) := X_3.cell 11 (by simp)
  have hqX3 := X_3.lt
  unfold millV
  go_wp2_with fail
  clear cX0 cX1 cX2 cX3 cX4 cX5 cX6 cX7 cX8 cX9 cX10 cX11
  refine calls_at fun y2 hwx => ?_
  have Y_y2 : RowL y2 (w3.heap.size) 31 [.slice ao61 x.store.length cap61, .int .i64 x.rule.lc, .int .i64 x.rule.hc, .int .i64 x.rule.lm, .int .i64 x.rule.hm, .int .i64 x.rule.ls, .int .i64 x.rule.hs, .int .i64 x.strand, .slice ao62 x.pieces.length cap62, .slice ao63 x.low.length cap63, .slice ao64 x.high.length cap64, .int .i64 x.scrap] := by rw [hwx]; exact (RowL.new _ 31 [.slice ao61 x.store.length cap61, .int .i64 x.rule.lc, .int .i64 x.rule.hc, .int .i64 x.rule.lm, .int .i64 x.rule.hm, .int .i64 x.rule.ls, .int .i64 x.rule.hs, .int .i64 x.strand, .slice ao62 x.pieces.length cap62, .slice ao63 x.low.length cap63, .slice ao64 x.high.length cap64, .int .i64 x.scrap])
  have hb : Below w3.heap.size w3 y2 := by rw [hwx]; exact ((Below.refl _ _).alloc (Nat.le_refl _) _)
  clear hwx
  have M_y2 := M_3.below hb M_3.lt
  have X_y2 := X_3.below hb X_3.lt
  have VV_y2 := hide (VV_3.out.below hb)
  have VJ_y2 := hide (VJ_3.out.below hb)
  have VX_y2 := hide (VX_3.out.below hb)
  have VY_y2 := hide (VY_3.out.below hb)
  have B_y2 := hide (Below.step B_3.out hb (Nat.le_refl _))
  have hzy2 := hb.size
  have hLy2 := Y_y2.lt
  clear hb
  have KQ := sameMill_any _ _ _ _ _ _ _ _ x x y2 VX_y2.out.all VY_y2.out.all
  rw [decide_eq_true (rfl : x = x)] at KQ
  unfold millV at KQ
  have hnn : (nn != nn) = false := by simp
  refine (KQ).mono ?_
  rintro e w4 ⟨rfl, hb⟩
  have M_4 := M_y2.below hb M_y2.lt
  have X_4 := X_y2.below hb X_y2.lt
  have Y_4 := Y_y2.below hb Y_y2.lt
  have VV_4 := hide (VV_y2.out.below hb)
  have VJ_4 := hide (VJ_y2.out.below hb)
  have VX_4 := hide (VX_y2.out.below hb)
  have B_4 := hide (Below.step B_y2.out hb (Nat.le_refl _))
  have hz4 := hb.size
  clear hb
  have cM0 : w4.cell? ⟨w1.heap.size, 0, none⟩ = some (.slice ao1 m.store.length cap1) := M_4.cell 0 (by simp)
  have cM1 : w4.cell? ⟨w1.heap.size, 1, none⟩ = some (.int .i64 m.rule.lc) := M_4.cell 1 (by simp)
  have cM2 : w4.cell? ⟨w1.heap.size, 2, none⟩ = some (.int .i64 m.rule.hc) := M_4.cell 2 (by simp)
  have cM3 : w4.cell? ⟨w1.heap.size, 3, none⟩ = some (.int .i64 m.rule.lm) := M_4.cell 3 (by simp)
  have cM4 : w4.cell? ⟨w1.heap.size, 4, none⟩ = some (.int .i64 m.rule.hm) := M_4.cell 4 (by simp)
  have cM5 : w4.cell? ⟨w1.heap.size, 5, none⟩ = some (.int .i64 m.rule.ls) := M_4.cell 5 (by simp)
  have cM6 : w4.cell? ⟨w1.heap.size, 6, none⟩ = some (.int .i64 m.rule.hs) := M_4.cell 6 (by simp)
  have cM7 : w4.cell? ⟨w1.heap.size, 7, none⟩ = some (.int .i64 m.strand) := M_4.cell 7 (by simp)
  have cM8 : w4.cell? ⟨w1.heap.size, 8, none⟩ = some (.slice ao2 m.pieces.length cap2) := M_4.cell 8 (by simp)
  have cM9 : w4.cell? ⟨w1.heap.size, 9, none⟩ = some (.slice ao3 m.low.length cap3) := M_4.cell 9 (by simp)
  have cM10 : w4.cell? ⟨w1.heap.size, 10, none⟩ = some (.slice ao4 m.high.length cap4) := M_4.cell 10 (by simp)
  have cM11 : w4.cell? ⟨w1.heap.size, 11, none⟩ = some (.int .i64 m.scrap) := M_4.cell 11 (by simp)
  go_wp2_with fail
  clear cM0 cM1 cM2 cM3 cM4 cM5 cM6 cM7 cM8 cM9 cM10 cM11
  clear KI KS KQ hx
  have KV := mill_spec _ _ _ _ m w4 VV_4.out.all
  unfold millV at KV
  by_cases hg : millB m = true ∧ js.length ≤ 99
  rotate_left
  · have hbad := run_bad (m := m) (l := js) (by
      cases h : millB m with
      | false => exact .inl rfl
      | true => exact .inr (Nat.lt_of_not_le fun h2 => hg ⟨h, h2⟩))
    rw [HX.out, Prod.mk.injEq] at hbad
    obtain ⟨hx0, rfl⟩ := hbad
    have HX0 := hide hx0
    clear hx0
    have hsplit : millB m = false ∨ (millB m = true ∧ 99 < js.length) := by
      cases h : millB m with
      | false => exact .inl rfl
      | true => exact .inr ⟨rfl, Nat.lt_of_not_le fun h2 => hg ⟨h, h2⟩⟩
    rcases hsplit with hv | ⟨hv, h99⟩
    · rw [hv] at KV
      refine (KV).mono ?_
      rintro e w5 ⟨rfl, hb⟩
      have M_5 := M_4.below hb M_4.lt
      have X_5 := X_4.below hb X_4.lt
      have Y_5 := Y_4.below hb Y_4.lt
      have VV_5 := hide (VV_4.out.below hb)
      have VJ_5 := hide (VJ_4.out.below hb)
      have VX_5 := hide (VX_4.out.below hb)
      have B_5 := hide (Below.step B_4.out hb (Nat.le_refl _))
      have hz5 := hb.size
      clear hb
      have cX0 : w5.cell? ⟨w2.heap.size, 0, none⟩ = some (.slice ao51 x.store.length cap51) := X_5.cell 0 (by simp)
      have cX1 : w5.cell? ⟨w2.heap.size, 1, none⟩ = some (.int .i64 x.rule.lc) := X_5.cell 1 (by simp)
      have cX2 : w5.cell? ⟨w2.heap.size, 2, none⟩ = some (.int .i64 x.rule.hc) := X_5.cell 2 (by simp)
      have cX3 : w5.cell? ⟨w2.heap.size, 3, none⟩ = some (.int .i64 x.rule.lm) := X_5.cell 3 (by simp)
      have cX4 : w5.cell? ⟨w2.heap.size, 4, none⟩ = some (.int .i64 x.rule.hm) := X_5.cell 4 (by simp)
      have cX5 : w5.cell? ⟨w2.heap.size, 5, none⟩ = some (.int .i64 x.rule.ls) := X_5.cell 5 (by simp)
      have cX6 : w5.cell? ⟨w2.heap.size, 6, none⟩ = some (.int .i64 x.rule.hs) := X_5.cell 6 (by simp)
      have cX7 : w5.cell? ⟨w2.heap.size, 7, none⟩ = some (.int .i64 x.strand) := X_5.cell 7 (by simp)
      have cX8 : w5.cell? ⟨w2.heap.size, 8, none⟩ = some (.slice ao52 x.pieces.length cap52) := X_5.cell 8 (by simp)
      have cX9 : w5.cell? ⟨w2.heap.size, 9, none⟩ = some (.slice ao53 x.low.length cap53) := X_5.cell 9 (by simp)
      have cX10 : w5.cell? ⟨w2.heap.size, 10, none⟩ = some (.slice ao54 x.high.length cap54) := X_5.cell 10 (by simp)
      have cX11 : w5.cell? ⟨w2.heap.size, 11, none⟩ = some (.int .i64 x.scrap) := X_5.cell 11 (by simp)
      go_wp2_with fail
      clear cX0 cX1 cX2 cX3 cX4 cX5 cX6 cX7 cX8 cX9 cX10 cX11
      have KN := noMill_any _ _ _ _ x w5 VX_5.out.all
      rw [decide_eq_true HX0.out] at KN
      unfold millV at KN
      refine (KN).mono ?_
      rintro e w6 ⟨rfl, hb⟩
      have M_6 := M_5.below hb M_5.lt
      have X_6 := X_5.below hb X_5.lt
      have Y_6 := Y_5.below hb Y_5.lt
      have VV_6 := hide (VV_5.out.below hb)
      have VJ_6 := hide (VJ_5.out.below hb)
      have VX_6 := hide (VX_5.out.below hb)
      have B_6 := hide (Below.step B_5.out hb (Nat.le_refl _))
      have hz6 := hb.size
      clear hb
      go_wp2_with fail
      refine (alive_any w6).mono ?_
      rintro e w7 ⟨rfl, hb⟩
      have M_7 := M_6.below hb M_6.lt
      have X_7 := X_6.below hb X_6.lt
      have Y_7 := Y_6.below hb Y_6.lt
      have VV_7 := hide (VV_6.out.below hb)
      have VJ_7 := hide (VJ_6.out.below hb)
      have VX_7 := hide (VX_6.out.below hb)
      have B_7 := hide (Below.step B_6.out hb (Nat.le_refl _))
      have hz7 := hb.size
      clear hb
      go_wp2_with fail
      go_ret
      exact ⟨rfl, B_7.out⟩
    · rw [hv] at KV
      have hlB : decide ((99 : Int) < (js.length : Int)) = true := by simp; omega
      refine (KV).mono ?_
      rintro e w5 ⟨rfl, hb⟩
      have M_5 := M_4.below hb M_4.lt
      have X_5 := X_4.below hb X_4.lt
      have Y_5 := Y_4.below hb Y_4.lt
      have VV_5 := hide (VV_4.out.below hb)
      have VJ_5 := hide (VJ_4.out.below hb)
      have VX_5 := hide (VX_4.out.below hb)
      have B_5 := hide (Below.step B_4.out hb (Nat.le_refl _))
      have hz5 := hb.size
      clear hb
      have cX0 : w5.cell? ⟨w2.heap.size, 0, none⟩ = some (.slice ao51 x.store.length cap51) := X_5.cell 0 (by simp)
      have cX1 : w5.cell? ⟨w2.heap.size, 1, none⟩ = some (.int .i64 x.rule.lc) := X_5.cell 1 (by simp)
      have cX2 : w5.cell? ⟨w2.heap.size, 2, none⟩ = some (.int .i64 x.rule.hc) := X_5.cell 2 (by simp)
      have cX3 : w5.cell? ⟨w2.heap.size, 3, none⟩ = some (.int .i64 x.rule.lm) := X_5.cell 3 (by simp)
      have cX4 : w5.cell? ⟨w2.heap.size, 4, none⟩ = some (.int .i64 x.rule.hm) := X_5.cell 4 (by simp)
      have cX5 : w5.cell? ⟨w2.heap.size, 5, none⟩ = some (.int .i64 x.rule.ls) := X_5.cell 5 (by simp)
      have cX6 : w5.cell? ⟨w2.heap.size, 6, none⟩ = some (.int .i64 x.rule.hs) := X_5.cell 6 (by simp)
      have cX7 : w5.cell? ⟨w2.heap.size, 7, none⟩ = some (.int .i64 x.strand) := X_5.cell 7 (by simp)
      have cX8 : w5.cell? ⟨w2.heap.size, 8, none⟩ = some (.slice ao52 x.pieces.length cap52) := X_5.cell 8 (by simp)
      have cX9 : w5.cell? ⟨w2.heap.size, 9, none⟩ = some (.slice ao53 x.low.length cap53) := X_5.cell 9 (by simp)
      have cX10 : w5.cell? ⟨w2.heap.size, 10, none⟩ = some (.slice ao54 x.high.length cap54) := X_5.cell 10 (by simp)
      have cX11 : w5.cell? ⟨w2.heap.size, 11, none⟩ = some (.int .i64 x.scrap) := X_5.cell 11 (by simp)
      go_wp2_with fail
      clear cX0 cX1 cX2 cX3 cX4 cX5 cX6 cX7 cX8 cX9 cX10 cX11
      have KN := noMill_any _ _ _ _ x w5 VX_5.out.all
      rw [decide_eq_true HX0.out] at KN
      unfold millV at KN
      refine (KN).mono ?_
      rintro e w6 ⟨rfl, hb⟩
      have M_6 := M_5.below hb M_5.lt
      have X_6 := X_5.below hb X_5.lt
      have Y_6 := Y_5.below hb Y_5.lt
      have VV_6 := hide (VV_5.out.below hb)
      have VJ_6 := hide (VJ_5.out.below hb)
      have VX_6 := hide (VX_5.out.below hb)
      have B_6 := hide (Below.step B_5.out hb (Nat.le_refl _))
      have hz6 := hb.size
      clear hb
      go_wp2_with fail
      refine (alive_any w6).mono ?_
      rintro e w7 ⟨rfl, hb⟩
      have M_7 := M_6.below hb M_6.lt
      have X_7 := X_6.below hb X_6.lt
      have Y_7 := Y_6.below hb Y_6.lt
      have VV_7 := hide (VV_6.out.below hb)
      have VJ_7 := hide (VJ_6.out.below hb)
      have VX_7 := hide (VX_6.out.below hb)
      have B_7 := hide (Below.step B_6.out hb (Nat.le_refl _))
      have hz7 := hb.size
      clear hb
      go_wp2_with fail
      go_ret
      exact ⟨rfl, B_7.out⟩
  obtain ⟨hv, h99⟩ := hg
  rw [hv] at KV
  have hlB : decide ((99 : Int) < (js.length : Int)) = false := by simp; omega
  obtain ⟨half, hhf⟩ : ∃ k, js.length / 2 = k := ⟨_, rfl⟩
  have hh1 : half ≤ js.length := by omega
  have hdiv : ((js.length : Int)).tdiv 2 = (half : Int) := by rw [← hhf]; exact (Int.ofNat_tdiv _ _).symm
  have hh1I : (half : Int) ≤ (js.length : Int) := by omega
  have hh0I : (0 : Int) ≤ (half : Int) := by omega
  have hhc : (half : Int) ≤ (capj : Int) := by omega
  obtain ⟨⟨z, pp⟩, hz⟩ : ∃ q, runR m (js.take half) = q := ⟨_, rfl⟩
  obtain ⟨⟨z2, qq⟩, hz2⟩ : ∃ q, runR z (js.drop half) = q := ⟨_, rfl⟩
  have hrh := run_half hv h99 half
  have hnp := run_num m (js.take half)
  have hnq := run_num z (js.drop half)
  have hrv := run_valid hv h99
  rw [hz] at hrh hnp
  rw [hz2] at hrh hnq
  rw [HX.out] at hrh hrv
  obtain ⟨hz2x, hsum⟩ := hrh
  simp only at hz2x hsum hnp hnq hrv
  have hz2x := hz2x.symm
  subst hz2x
  obtain ⟨hvx, hms⟩ := hrv
  rw [List.length_take] at hnp
  rw [List.length_drop] at hnq
  have hw : IntKind.i64.wrap (pp + qq) = nn := by rw [hsum]; exact IntWalk.i64_in _ (by omega)
  have hwn : IntKind.i64.wrap nn = nn := by rw [← hsum]; exact IntWalk.i64_in _ (by omega)
  have hnnB : (nn == nn) = true := by simp
  clear hsum
  have HZ := hide hz
  have HZ2 := hide hz2
  have HVX := hide hvx
  have HMS := hide hms
  clear hz hz2 hvx hms hhf HX
  refine (KV).mono ?_
  rintro e w5 ⟨rfl, hb⟩
  have M_5 := M_4.below hb M_4.lt
  have X_5 := X_4.below hb X_4.lt
  have Y_5 := Y_4.below hb Y_4.lt
  have VV_5 := hide (VV_4.out.below hb)
  have VJ_5 := hide (VJ_4.out.below hb)
  have VX_5 := hide (VX_4.out.below hb)
  have B_5 := hide (Below.step B_4.out hb (Nat.le_refl _))
  have hz5 := hb.size
  clear hb
  clear KV
  go_wp2_with fail
  have cM0 : w5.cell? ⟨w1.heap.size, 0, none⟩ = some (.slice ao1 m.store.length cap1) := M_5.cell 0 (by simp)
  have cM1 : w5.cell? ⟨w1.heap.size, 1, none⟩ = some (.int .i64 m.rule.lc) := M_5.cell 1 (by simp)
  have cM2 : w5.cell? ⟨w1.heap.size, 2, none⟩ = some (.int .i64 m.rule.hc) := M_5.cell 2 (by simp)
  have cM3 : w5.cell? ⟨w1.heap.size, 3, none⟩ = some (.int .i64 m.rule.lm) := M_5.cell 3 (by simp)
  have cM4 : w5.cell? ⟨w1.heap.size, 4, none⟩ = some (.int .i64 m.rule.hm) := M_5.cell 4 (by simp)
  have cM5 : w5.cell? ⟨w1.heap.size, 5, none⟩ = some (.int .i64 m.rule.ls) := M_5.cell 5 (by simp)
  have cM6 : w5.cell? ⟨w1.heap.size, 6, none⟩ = some (.int .i64 m.rule.hs) := M_5.cell 6 (by simp)
  have cM7 : w5.cell? ⟨w1.heap.size, 7, none⟩ = some (.int .i64 m.strand) := M_5.cell 7 (by simp)
  have cM8 : w5.cell? ⟨w1.heap.size, 8, none⟩ = some (.slice ao2 m.pieces.length cap2) := M_5.cell 8 (by simp)
  have cM9 : w5.cell? ⟨w1.heap.size, 9, none⟩ = some (.slice ao3 m.low.length cap3) := M_5.cell 9 (by simp)
  have cM10 : w5.cell? ⟨w1.heap.size, 10, none⟩ = some (.slice ao4 m.high.length cap4) := M_5.cell 10 (by simp)
  have cM11 : w5.cell? ⟨w1.heap.size, 11, none⟩ = some (.int .i64 m.scrap) := M_5.cell 11 (by simp)
  clear cM0 cM1 cM2 cM3 cM4 cM5 cM6 cM7 cM8 cM9 cM10 cM11
  have hI : Below w5.heap.size w5 (World.drew w5) := (Below.refl _ _).drew
  have hI2 : ∀ o : Obj, Below w5.heap.size w5 (World.drew (w5.alloc o)) := fun o => ((Below.refl _ _).alloc (Nat.le_refl _) o).drew
  have hlAa := M_5.lt
  have R_q := hide M_5
  have HS : Hid (∀ X : World, Below w5.heap.size w5 X → X.cell? ⟨w1.heap.size, 0, none⟩ = some (.slice ao1 m.store.length cap1) ∧ X.cell? ⟨w1.heap.size, 1, none⟩ = some (.int .i64 m.rule.lc) ∧ X.cell? ⟨w1.heap.size, 2, none⟩ = some (.int .i64 m.rule.hc) ∧ X.cell? ⟨w1.heap.size, 3, none⟩ = some (.int .i64 m.rule.lm) ∧ X.cell? ⟨w1.heap.size, 4, none⟩ = some (.int .i64 m.rule.hm) ∧ X.cell? ⟨w1.heap.size, 5, none⟩ = some (.int .i64 m.rule.ls) ∧ X.cell? ⟨w1.heap.size, 6, none⟩ = some (.int .i64 m.rule.hs) ∧ X.cell? ⟨w1.heap.size, 7, none⟩ = some (.int .i64 m.strand) ∧ X.cell? ⟨w1.heap.size, 8, none⟩ = some (.slice ao2 m.pieces.length cap2) ∧ X.cell? ⟨w1.heap.size, 9, none⟩ = some (.slice ao3 m.low.length cap3) ∧ X.cell? ⟨w1.heap.size, 10, none⟩ = some (.slice ao4 m.high.length cap4) ∧ X.cell? ⟨w1.heap.size, 11, none⟩ = some (.int .i64 m.scrap)) := hide (fun X q => row12_cells (R_q.out.below q hlAa))
  have KZR : Hid (∀ X : World, RowL (X.alloc (.cells #[.slice none 0 0, .int .i64 0, .int .i64 0, .int .i64 0, .int .i64 0, .int .i64 0, .int .i64 0, .int .i64 0, .slice none 0 0, .slice none 0 0, .slice none 0 0, .int .i64 0] 31)) X.heap.size 31 [.slice none 0 0, .int .i64 0, .int .i64 0, .int .i64 0, .int .i64 0, .int .i64 0, .int .i64 0, .int .i64 0, .slice none 0 0, .slice none 0 0, .slice none 0 0, .int .i64 0]) := hide (fun X => RowL.new X 31 [.slice none 0 0, .int .i64 0, .int .i64 0, .int .i64 0, .int .i64 0, .int .i64 0, .int .i64 0, .int .i64 0, .slice none 0 0, .slice none 0 0, .slice none 0 0, .int .i64 0])
  have HNEW : Hid (∀ (q : World) (s7 p7 l7 h7 : Value) (b7 : Nat), w5.heap.size ≤ b7 → Below w5.heap.size w5 q → MillGot b7 q s7 p7 l7 h7 z → BoxM w5.heap.size (q.alloc (.cells #[s7, .int .i64 z.rule.lc, .int .i64 z.rule.hc, .int .i64 z.rule.lm, .int .i64 z.rule.hm, .int .i64 z.rule.ls, .int .i64 z.rule.hs, .int .i64 z.strand, p7, l7, h7, .int .i64 z.scrap] 31)) z (.pointer (some ⟨q.heap.size, 0, none⟩)) ∧ Below w5.heap.size w5 (q.alloc (.cells #[s7, .int .i64 z.rule.lc, .int .i64 z.rule.hc, .int .i64 z.rule.lm, .int .i64 z.rule.hm, .int .i64 z.rule.ls, .int .i64 z.rule.hs, .int .i64 z.strand, p7, l7, h7, .int .i64 z.scrap] 31))) := hide (fun q s7 p7 l7 h7 b7 hb hw G => ⟨boxM_new G hb hw.size, hw.alloc hw.size _⟩)
  have HOLD : Hid (∀ (q : World) (s7 p7 l7 h7 : Value), Below (World.drew (w5.alloc (.cells #[.slice none 0 0, .int .i64 0, .int .i64 0, .int .i64 0, .int .i64 0, .int .i64 0, .int .i64 0, .int .i64 0, .slice none 0 0, .slice none 0 0, .slice none 0 0, .int .i64 0] 31))).heap.size (World.drew (w5.alloc (.cells #[.slice none 0 0, .int .i64 0, .int .i64 0, .int .i64 0, .int .i64 0, .int .i64 0, .int .i64 0, .int .i64 0, .slice none 0 0, .slice none 0 0, .slice none 0 0, .int .i64 0] 31))) q → MillGot (World.drew (w5.alloc (.cells #[.slice none 0 0, .int .i64 0, .int .i64 0, .int .i64 0, .int .i64 0, .int .i64 0, .int .i64 0, .int .i64 0, .slice none 0 0, .slice none 0 0, .slice none 0 0, .int .i64 0] 31))).heap.size q s7 p7 l7 h7 z → BoxM w5.heap.size (((((((((((((q).setCell ⟨w5.heap.size, 0, none⟩ s7).setCell ⟨w5.heap.size, 1, none⟩ (.int .i64 z.rule.lc)).setCell ⟨w5.heap.size, 2, none⟩ (.int .i64 z.rule.hc)).setCell ⟨w5.heap.size, 3, none⟩ (.int .i64 z.rule.lm)).setCell ⟨w5.heap.size, 4, none⟩ (.int .i64 z.rule.hm)).setCell ⟨w5.heap.size, 5, none⟩ (.int .i64 z.rule.ls)).setCell ⟨w5.heap.size, 6, none⟩ (.int .i64 z.rule.hs)).setCell ⟨w5.heap.size, 7, none⟩ (.int .i64 z.strand)).setCell ⟨w5.heap.size, 8, none⟩ p7).setCell ⟨w5.heap.size, 9, none⟩ l7).setCell ⟨w5.heap.size, 10, none⟩ h7).setCell ⟨w5.heap.size, 11, none⟩ (.int .i64 z.scrap)) z (.pointer (some ⟨w5.heap.size, 0, none⟩)) ∧ Below w5.heap.size w5 (((((((((((((q).setCell ⟨w5.heap.size, 0, none⟩ s7).setCell ⟨w5.heap.size, 1, none⟩ (.int .i64 z.rule.lc)).setCell ⟨w5.heap.size, 2, none⟩ (.int .i64 z.rule.hc)).setCell ⟨w5.heap.size, 3, none⟩ (.int .i64 z.rule.lm)).setCell ⟨w5.heap.size, 4, none⟩ (.int .i64 z.rule.hm)).setCell ⟨w5.heap.size, 5, none⟩ (.int .i64 z.rule.ls)).setCell ⟨w5.heap.size, 6, none⟩ (.int .i64 z.rule.hs)).setCell ⟨w5.heap.size, 7, none⟩ (.int .i64 z.strand)).setCell ⟨w5.heap.size, 8, none⟩ p7).setCell ⟨w5.heap.size, 9, none⟩ l7).setCell ⟨w5.heap.size, 10, none⟩ h7).setCell ⟨w5.heap.size, 11, none⟩ (.int .i64 z.scrap))) := hide (fun q s7 p7 l7 h7 hb G =>
    have hs : Below w5.heap.size w5 q := (((Below.refl _ _).alloc (Nat.le_refl _) _).drew).trans (hb.mono (by simp))
    ⟨boxM_old (((KZR.out w5).drew).below hb (by simp)) rfl G (Nat.le_refl _) (by simp), hs.trans ((other12 w5.heap.size q _ _ _ _ _ _ _ _ _ _ _ _).below (Nat.le_refl _) hs.size)⟩)
  have HK := hide (fun (X : World) (q : Below w5.heap.size w5 X) => (by have h := run_impl _ _ _ _ _ m (js.take half) X (VV_5.out.below q).all ((JobsAt.take (VJ_5.out.below q) hh1).mono (Nat.zero_le _) (by have := q.size; omega) (Nat.le_refl _)) (fun j hj => HJS.out j (List.mem_of_mem_take hj)); rw [HZ.out] at h; exact h : Calls Tryz.prog 22 _ X (RunGot X.heap.size (z, pp) X)))
  go_cut [10, 11] from 63 to 70 (fun bx sv W => BoxM w5.heap.size W z bx ∧ sv = .int .i64 pp ∧ Below w5.heap.size w5 W)
  case first =>
    go_region_held (fun X => X.cell? ⟨w1.heap.size, 0, none⟩ = some (.slice ao1 m.store.length cap1) ∧ X.cell? ⟨w1.heap.size, 1, none⟩ = some (.int .i64 m.rule.lc) ∧ X.cell? ⟨w1.heap.size, 2, none⟩ = some (.int .i64 m.rule.hc) ∧ X.cell? ⟨w1.heap.size, 3, none⟩ = some (.int .i64 m.rule.lm) ∧ X.cell? ⟨w1.heap.size, 4, none⟩ = some (.int .i64 m.rule.hm) ∧ X.cell? ⟨w1.heap.size, 5, none⟩ = some (.int .i64 m.rule.ls) ∧ X.cell? ⟨w1.heap.size, 6, none⟩ = some (.int .i64 m.rule.hs) ∧ X.cell? ⟨w1.heap.size, 7, none⟩ = some (.int .i64 m.strand) ∧ X.cell? ⟨w1.heap.size, 8, none⟩ = some (.slice ao2 m.pieces.length cap2) ∧ X.cell? ⟨w1.heap.size, 9, none⟩ = some (.slice ao3 m.low.length cap3) ∧ X.cell? ⟨w1.heap.size, 10, none⟩ = some (.slice ao4 m.high.length cap4) ∧ X.cell? ⟨w1.heap.size, 11, none⟩ = some (.int .i64 m.scrap)) (first | (with_reducible exact HS.out _ hI) | (with_reducible exact HS.out _ (hI2 _)) | (with_reducible exact HS.out _ hB7) | (with_reducible exact HS.out _ (hB7.alloc hB7.size _)) | (with_reducible exact HS.out _ (hB7.trans ((other12 _ _ _ _ _ _ _ _ _ _ _ _ _ _).below (by omega) hB7.size)))) (first
      | (go_at_call 22; (first | (have hk := HK.out _ hI; (try unfold millV at hk); with_reducible refine hk.mono ?_) | (have hk := HK.out _ (hI2 (.cells #[.slice none 0 0, .int .i64 0, .int .i64 0, .int .i64 0, .int .i64 0, .int .i64 0, .int .i64 0, .int .i64 0, .slice none 0 0, .slice none 0 0, .slice none 0 0, .int .i64 0] 31)); (try unfold millV at hk); with_reducible refine hk.mono ?_)); clear hk; rintro e q7 ⟨s7, p7, l7, h7, he7, G7, hb7⟩; have he7 : e = .returned (.tuple #[millV s7 p7 l7 h7 z, .int .i64 pp]) := he7; have G7 : MillGot _ q7 s7 p7 l7 h7 z := G7; subst he7; have hB7 : Below w5.heap.size w5 q7 := (by first | with_reducible exact Below.step hI hb7 (Nat.le_refl _) | with_reducible exact Below.step (hI2 _) hb7 (Nat.le_refl _)); have hzz7 := hB7.size; obtain ⟨hc7, hf7⟩ := bcell hb7; have hzy7 := hb7.size; (try simp at hzy7); obtain ⟨as7, cs7, hs7, -, -⟩ := G7.so.form; obtain ⟨ap7, cp7, hp7, -, -⟩ := G7.po.form; obtain ⟨al7, cl7, hl7, -, -⟩ := G7.lo.form; obtain ⟨ah7, ch7, hh7, -, -⟩ := G7.ho.form; subst hs7 hp7 hl7 hh7; (try unfold millV)))
    all_goals
      go_wp2_with fail
      go_meet
      first
        | (have hx := HNEW.out q7 _ _ _ _ _ (by first | omega | (simp; done) | (simp; omega)) hB7 G7
           with_reducible exact ⟨hx.1, rfl, hx.2⟩)
        | (have hx := HOLD.out q7 _ _ _ _ hb7 G7
           with_reducible exact ⟨hx.1, rfl, hx.2⟩)
  obtain ⟨⟨ga, sa, pa, la, ha, rfl, hga, hrow, Ga⟩, rfl, hb⟩ := hcut
  obtain ⟨ca, rfl⟩ : ∃ q : World, q = wc := ⟨_, rfl⟩
  have M_ca := M_5.below hb M_5.lt
  have X_ca := X_5.below hb X_5.lt
  have Y_ca := Y_5.below hb Y_5.lt
  have VV_ca := hide (VV_5.out.below hb)
  have VJ_ca := hide (VJ_5.out.below hb)
  have VX_ca := hide (VX_5.out.below hb)
  have B_ca := hide (Below.step B_5.out hb (Nat.le_refl _))
  have hzca := hb.size
  have hrlca := hrow.lt
  obtain ⟨aoa1, capa1, rfl, -, -⟩ := Ga.so.form
  obtain ⟨aoa2, capa2, rfl, -, -⟩ := Ga.po.form
  obtain ⟨aoa3, capa3, rfl, -, -⟩ := Ga.lo.form
  obtain ⟨aoa4, capa4, rfl, -, -⟩ := Ga.ho.form
  have VZ_ca := hide Ga
  have Z_ca : RowL ca ga 31 [.slice aoa1 z.store.length capa1, .int .i64 z.rule.lc, .int .i64 z.rule.hc, .int .i64 z.rule.lm, .int .i64 z.rule.hm, .int .i64 z.rule.ls, .int .i64 z.rule.hs, .int .i64 z.strand, .slice aoa2 z.pieces.length capa2, .slice aoa3 z.low.length capa3, .slice aoa4 z.high.length capa4, .int .i64 z.scrap] := hrow
  clear hb hI hI2 R_q KZR HK HS HNEW HOLD hrow Ga
  have cZ0 : ca.cell? ⟨ga, 0, none⟩ = some (.slice aoa1 z.store.length capa1) := Z_ca.cell 0 (by simp)
  have cZ1 : ca.cell? ⟨ga, 1, none⟩ = some (.int .i64 z.rule.lc) := Z_ca.cell 1 (by simp)
  have cZ2 : ca.cell? ⟨ga, 2, none⟩ = some (.int .i64 z.rule.hc) := Z_ca.cell 2 (by simp)
  have cZ3 : ca.cell? ⟨ga, 3, none⟩ = some (.int .i64 z.rule.lm) := Z_ca.cell 3 (by simp)
  have cZ4 : ca.cell? ⟨ga, 4, none⟩ = some (.int .i64 z.rule.hm) := Z_ca.cell 4 (by simp)
  have cZ5 : ca.cell? ⟨ga, 5, none⟩ = some (.int .i64 z.rule.ls) := Z_ca.cell 5 (by simp)
  have cZ6 : ca.cell? ⟨ga, 6, none⟩ = some (.int .i64 z.rule.hs) := Z_ca.cell 6 (by simp)
  have cZ7 : ca.cell? ⟨ga, 7, none⟩ = some (.int .i64 z.strand) := Z_ca.cell 7 (by simp)
  have cZ8 : ca.cell? ⟨ga, 8, none⟩ = some (.slice aoa2 z.pieces.length capa2) := Z_ca.cell 8 (by simp)
  have cZ9 : ca.cell? ⟨ga, 9, none⟩ = some (.slice aoa3 z.low.length capa3) := Z_ca.cell 9 (by simp)
  have cZ10 : ca.cell? ⟨ga, 10, none⟩ = some (.slice aoa4 z.high.length capa4) := Z_ca.cell 10 (by simp)
  have cZ11 : ca.cell? ⟨ga, 11, none⟩ = some (.int .i64 z.scrap) := Z_ca.cell 11 (by simp)
  go_wp2_with fail
  clear cZ0 cZ1 cZ2 cZ3 cZ4 cZ5 cZ6 cZ7 cZ8 cZ9 cZ10 cZ11
  have hI : Below ca.heap.size ca (World.drew ca) := (Below.refl _ _).drew
  have hI2 : ∀ o : Obj, Below ca.heap.size ca (World.drew (ca.alloc o)) := fun o => ((Below.refl _ _).alloc (Nat.le_refl _) o).drew
  have hlAb := Z_ca.lt
  have R_q := hide Z_ca
  have HS : Hid (∀ X : World, Below ca.heap.size ca X → X.cell? ⟨ga, 0, none⟩ = some (.slice aoa1 z.store.length capa1) ∧ X.cell? ⟨ga, 1, none⟩ = some (.int .i64 z.rule.lc) ∧ X.cell? ⟨ga, 2, none⟩ = some (.int .i64 z.rule.hc) ∧ X.cell? ⟨ga, 3, none⟩ = some (.int .i64 z.rule.lm) ∧ X.cell? ⟨ga, 4, none⟩ = some (.int .i64 z.rule.hm) ∧ X.cell? ⟨ga, 5, none⟩ = some (.int .i64 z.rule.ls) ∧ X.cell? ⟨ga, 6, none⟩ = some (.int .i64 z.rule.hs) ∧ X.cell? ⟨ga, 7, none⟩ = some (.int .i64 z.strand) ∧ X.cell? ⟨ga, 8, none⟩ = some (.slice aoa2 z.pieces.length capa2) ∧ X.cell? ⟨ga, 9, none⟩ = some (.slice aoa3 z.low.length capa3) ∧ X.cell? ⟨ga, 10, none⟩ = some (.slice aoa4 z.high.length capa4) ∧ X.cell? ⟨ga, 11, none⟩ = some (.int .i64 z.scrap)) := hide (fun X q => row12_cells (R_q.out.below q hlAb))
  have KZR : Hid (∀ X : World, RowL (X.alloc (.cells #[.slice none 0 0, .int .i64 0, .int .i64 0, .int .i64 0, .int .i64 0, .int .i64 0, .int .i64 0, .int .i64 0, .slice none 0 0, .slice none 0 0, .slice none 0 0, .int .i64 0] 31)) X.heap.size 31 [.slice none 0 0, .int .i64 0, .int .i64 0, .int .i64 0, .int .i64 0, .int .i64 0, .int .i64 0, .int .i64 0, .slice none 0 0, .slice none 0 0, .slice none 0 0, .int .i64 0]) := hide (fun X => RowL.new X 31 [.slice none 0 0, .int .i64 0, .int .i64 0, .int .i64 0, .int .i64 0, .int .i64 0, .int .i64 0, .int .i64 0, .slice none 0 0, .slice none 0 0, .slice none 0 0, .int .i64 0])
  have HNEW : Hid (∀ (q : World) (s7 p7 l7 h7 : Value) (b7 : Nat), ca.heap.size ≤ b7 → Below ca.heap.size ca q → MillGot b7 q s7 p7 l7 h7 x → BoxM ca.heap.size (q.alloc (.cells #[s7, .int .i64 x.rule.lc, .int .i64 x.rule.hc, .int .i64 x.rule.lm, .int .i64 x.rule.hm, .int .i64 x.rule.ls, .int .i64 x.rule.hs, .int .i64 x.strand, p7, l7, h7, .int .i64 x.scrap] 31)) x (.pointer (some ⟨q.heap.size, 0, none⟩)) ∧ Below ca.heap.size ca (q.alloc (.cells #[s7, .int .i64 x.rule.lc, .int .i64 x.rule.hc, .int .i64 x.rule.lm, .int .i64 x.rule.hm, .int .i64 x.rule.ls, .int .i64 x.rule.hs, .int .i64 x.strand, p7, l7, h7, .int .i64 x.scrap] 31))) := hide (fun q s7 p7 l7 h7 b7 hb hw G => ⟨boxM_new G hb hw.size, hw.alloc hw.size _⟩)
  have HOLD : Hid (∀ (q : World) (s7 p7 l7 h7 : Value), Below (World.drew (ca.alloc (.cells #[.slice none 0 0, .int .i64 0, .int .i64 0, .int .i64 0, .int .i64 0, .int .i64 0, .int .i64 0, .int .i64 0, .slice none 0 0, .slice none 0 0, .slice none 0 0, .int .i64 0] 31))).heap.size (World.drew (ca.alloc (.cells #[.slice none 0 0, .int .i64 0, .int .i64 0, .int .i64 0, .int .i64 0, .int .i64 0, .int .i64 0, .int .i64 0, .slice none 0 0, .slice none 0 0, .slice none 0 0, .int .i64 0] 31))) q → MillGot (World.drew (ca.alloc (.cells #[.slice none 0 0, .int .i64 0, .int .i64 0, .int .i64 0, .int .i64 0, .int .i64 0, .int .i64 0, .int .i64 0, .slice none 0 0, .slice none 0 0, .slice none 0 0, .int .i64 0] 31))).heap.size q s7 p7 l7 h7 x → BoxM ca.heap.size (((((((((((((q).setCell ⟨ca.heap.size, 0, none⟩ s7).setCell ⟨ca.heap.size, 1, none⟩ (.int .i64 x.rule.lc)).setCell ⟨ca.heap.size, 2, none⟩ (.int .i64 x.rule.hc)).setCell ⟨ca.heap.size, 3, none⟩ (.int .i64 x.rule.lm)).setCell ⟨ca.heap.size, 4, none⟩ (.int .i64 x.rule.hm)).setCell ⟨ca.heap.size, 5, none⟩ (.int .i64 x.rule.ls)).setCell ⟨ca.heap.size, 6, none⟩ (.int .i64 x.rule.hs)).setCell ⟨ca.heap.size, 7, none⟩ (.int .i64 x.strand)).setCell ⟨ca.heap.size, 8, none⟩ p7).setCell ⟨ca.heap.size, 9, none⟩ l7).setCell ⟨ca.heap.size, 10, none⟩ h7).setCell ⟨ca.heap.size, 11, none⟩ (.int .i64 x.scrap)) x (.pointer (some ⟨ca.heap.size, 0, none⟩)) ∧ Below ca.heap.size ca (((((((((((((q).setCell ⟨ca.heap.size, 0, none⟩ s7).setCell ⟨ca.heap.size, 1, none⟩ (.int .i64 x.rule.lc)).setCell ⟨ca.heap.size, 2, none⟩ (.int .i64 x.rule.hc)).setCell ⟨ca.heap.size, 3, none⟩ (.int .i64 x.rule.lm)).setCell ⟨ca.heap.size, 4, none⟩ (.int .i64 x.rule.hm)).setCell ⟨ca.heap.size, 5, none⟩ (.int .i64 x.rule.ls)).setCell ⟨ca.heap.size, 6, none⟩ (.int .i64 x.rule.hs)).setCell ⟨ca.heap.size, 7, none⟩ (.int .i64 x.strand)).setCell ⟨ca.heap.size, 8, none⟩ p7).setCell ⟨ca.heap.size, 9, none⟩ l7).setCell ⟨ca.heap.size, 10, none⟩ h7).setCell ⟨ca.heap.size, 11, none⟩ (.int .i64 x.scrap))) := hide (fun q s7 p7 l7 h7 hb G =>
    have hs : Below ca.heap.size ca q := (((Below.refl _ _).alloc (Nat.le_refl _) _).drew).trans (hb.mono (by simp))
    ⟨boxM_old (((KZR.out ca).drew).below hb (by simp)) rfl G (Nat.le_refl _) (by simp), hs.trans ((other12 ca.heap.size q _ _ _ _ _ _ _ _ _ _ _ _).below (Nat.le_refl _) hs.size)⟩)
  have HK := hide (fun (X : World) (q : Below ca.heap.size ca X) => (by have h := run_impl _ _ _ _ _ z (js.drop half) X (VZ_ca.out.below q).all ((JobsAt.dropIf (VJ_ca.out.below q) hh1 hjc).mono (Nat.zero_le _) (by have := q.size; omega) (Nat.le_refl _)) (fun j hj => HJS.out j (List.mem_of_mem_drop hj)); rw [HZ2.out] at h; exact h : Calls Tryz.prog 22 _ X (RunGot X.heap.size (x, qq) X)))
  go_cut [12, 13] from 71 to 78 (fun bx sv W => BoxM ca.heap.size W x bx ∧ sv = .int .i64 qq ∧ Below ca.heap.size ca W)
  case first =>
    by_cases hch : capj = half
    · skip
      subst hch
      simp only [↓reduceIte, Nat.sub_self, Nat.sub_eq_zero_of_le hjc] at HK
      go_region_held (fun X => X.cell? ⟨ga, 0, none⟩ = some (.slice aoa1 z.store.length capa1) ∧ X.cell? ⟨ga, 1, none⟩ = some (.int .i64 z.rule.lc) ∧ X.cell? ⟨ga, 2, none⟩ = some (.int .i64 z.rule.hc) ∧ X.cell? ⟨ga, 3, none⟩ = some (.int .i64 z.rule.lm) ∧ X.cell? ⟨ga, 4, none⟩ = some (.int .i64 z.rule.hm) ∧ X.cell? ⟨ga, 5, none⟩ = some (.int .i64 z.rule.ls) ∧ X.cell? ⟨ga, 6, none⟩ = some (.int .i64 z.rule.hs) ∧ X.cell? ⟨ga, 7, none⟩ = some (.int .i64 z.strand) ∧ X.cell? ⟨ga, 8, none⟩ = some (.slice aoa2 z.pieces.length capa2) ∧ X.cell? ⟨ga, 9, none⟩ = some (.slice aoa3 z.low.length capa3) ∧ X.cell? ⟨ga, 10, none⟩ = some (.slice aoa4 z.high.length capa4) ∧ X.cell? ⟨ga, 11, none⟩ = some (.int .i64 z.scrap)) (first | (with_reducible exact HS.out _ hI) | (with_reducible exact HS.out _ (hI2 _)) | (with_reducible exact HS.out _ hB7) | (with_reducible exact HS.out _ (hB7.alloc hB7.size _)) | (with_reducible exact HS.out _ (hB7.trans ((other12 _ _ _ _ _ _ _ _ _ _ _ _ _ _).below (by omega) hB7.size)))) (first
        | (go_at_call 22; (first | (have hk := HK.out _ hI; (try unfold millV at hk); with_reducible refine hk.mono ?_) | (have hk := HK.out _ (hI2 (.cells #[.slice none 0 0, .int .i64 0, .int .i64 0, .int .i64 0, .int .i64 0, .int .i64 0, .int .i64 0, .int .i64 0, .slice none 0 0, .slice none 0 0, .slice none 0 0, .int .i64 0] 31)); (try unfold millV at hk); with_reducible refine hk.mono ?_)); clear hk; rintro e q7 ⟨s7, p7, l7, h7, he7, G7, hb7⟩; have he7 : e = .returned (.tuple #[millV s7 p7 l7 h7 x, .int .i64 qq]) := he7; have G7 : MillGot _ q7 s7 p7 l7 h7 x := G7; subst he7; have hB7 : Below ca.heap.size ca q7 := (by first | with_reducible exact Below.step hI hb7 (Nat.le_refl _) | with_reducible exact Below.step (hI2 _) hb7 (Nat.le_refl _)); have hzz7 := hB7.size; obtain ⟨hc7, hf7⟩ := bcell hb7; have hzy7 := hb7.size; (try simp at hzy7); obtain ⟨as7, cs7, hs7, -, -⟩ := G7.so.form; obtain ⟨ap7, cp7, hp7, -, -⟩ := G7.po.form; obtain ⟨al7, cl7, hl7, -, -⟩ := G7.lo.form; obtain ⟨ah7, ch7, hh7, -, -⟩ := G7.ho.form; subst hs7 hp7 hl7 hh7; (try unfold millV)))
      all_goals
        go_wp2_with fail
        go_meet
        first
          | (have hx := HNEW.out q7 _ _ _ _ _ (by first | omega | (simp; done) | (simp; omega)) hB7 G7
             with_reducible exact ⟨hx.1, rfl, hx.2⟩)
          | (have hx := HOLD.out q7 _ _ _ _ hb7 G7
             with_reducible exact ⟨hx.1, rfl, hx.2⟩)
    · skip
      simp only [if_neg hch] at HK
      go_region_held (fun X => X.cell? ⟨ga, 0, none⟩ = some (.slice aoa1 z.store.length capa1) ∧ X.cell? ⟨ga, 1, none⟩ = some (.int .i64 z.rule.lc) ∧ X.cell? ⟨ga, 2, none⟩ = some (.int .i64 z.rule.hc) ∧ X.cell? ⟨ga, 3, none⟩ = some (.int .i64 z.rule.lm) ∧ X.cell? ⟨ga, 4, none⟩ = some (.int .i64 z.rule.hm) ∧ X.cell? ⟨ga, 5, none⟩ = some (.int .i64 z.rule.ls) ∧ X.cell? ⟨ga, 6, none⟩ = some (.int .i64 z.rule.hs) ∧ X.cell? ⟨ga, 7, none⟩ = some (.int .i64 z.strand) ∧ X.cell? ⟨ga, 8, none⟩ = some (.slice aoa2 z.pieces.length capa2) ∧ X.cell? ⟨ga, 9, none⟩ = some (.slice aoa3 z.low.length capa3) ∧ X.cell? ⟨ga, 10, none⟩ = some (.slice aoa4 z.high.length capa4) ∧ X.cell? ⟨ga, 11, none⟩ = some (.int .i64 z.scrap)) (first | (with_reducible exact HS.out _ hI) | (with_reducible exact HS.out _ (hI2 _)) | (with_reducible exact HS.out _ hB7) | (with_reducible exact HS.out _ (hB7.alloc hB7.size _)) | (with_reducible exact HS.out _ (hB7.trans ((other12 _ _ _ _ _ _ _ _ _ _ _ _ _ _).below (by omega) hB7.size)))) (first
        | (go_at_call 22; (first | (have hk := HK.out _ hI; (try unfold millV at hk); with_reducible refine hk.mono ?_) | (have hk := HK.out _ (hI2 (.cells #[.slice none 0 0, .int .i64 0, .int .i64 0, .int .i64 0, .int .i64 0, .int .i64 0, .int .i64 0, .int .i64 0, .slice none 0 0, .slice none 0 0, .slice none 0 0, .int .i64 0] 31)); (try unfold millV at hk); with_reducible refine hk.mono ?_)); clear hk; rintro e q7 ⟨s7, p7, l7, h7, he7, G7, hb7⟩; have he7 : e = .returned (.tuple #[millV s7 p7 l7 h7 x, .int .i64 qq]) := he7; have G7 : MillGot _ q7 s7 p7 l7 h7 x := G7; subst he7; have hB7 : Below ca.heap.size ca q7 := (by first | with_reducible exact Below.step hI hb7 (Nat.le_refl _) | with_reducible exact Below.step (hI2 _) hb7 (Nat.le_refl _)); have hzz7 := hB7.size; obtain ⟨hc7, hf7⟩ := bcell hb7; have hzy7 := hb7.size; (try simp at hzy7); obtain ⟨as7, cs7, hs7, -, -⟩ := G7.so.form; obtain ⟨ap7, cp7, hp7, -, -⟩ := G7.po.form; obtain ⟨al7, cl7, hl7, -, -⟩ := G7.lo.form; obtain ⟨ah7, ch7, hh7, -, -⟩ := G7.ho.form; subst hs7 hp7 hl7 hh7; (try unfold millV)))
      all_goals
        go_wp2_with fail
        go_meet
        first
          | (have hx := HNEW.out q7 _ _ _ _ _ (by first | omega | (simp; done) | (simp; omega)) hB7 G7
             with_reducible exact ⟨hx.1, rfl, hx.2⟩)
          | (have hx := HOLD.out q7 _ _ _ _ hb7 G7
             with_reducible exact ⟨hx.1, rfl, hx.2⟩)
  obtain ⟨⟨gb, sb, pb, lb, hb, rfl, hgb, hrow, Gb⟩, rfl, hb⟩ := hcut
  obtain ⟨cb, rfl⟩ : ∃ q : World, q = wc := ⟨_, rfl⟩
  have M_cb := M_ca.below hb M_ca.lt
  have X_cb := X_ca.below hb X_ca.lt
  have Y_cb := Y_ca.below hb Y_ca.lt
  have Z_cb := Z_ca.below hb Z_ca.lt
  have VV_cb := hide (VV_ca.out.below hb)
  have VJ_cb := hide (VJ_ca.out.below hb)
  have VX_cb := hide (VX_ca.out.below hb)
  have VZ_cb := hide (VZ_ca.out.below hb)
  have B_cb := hide (Below.step B_ca.out hb (Nat.le_refl _))
  have hzcb := hb.size
  have hrlcb := hrow.lt
  obtain ⟨aob1, capb1, rfl, -, -⟩ := Gb.so.form
  obtain ⟨aob2, capb2, rfl, -, -⟩ := Gb.po.form
  obtain ⟨aob3, capb3, rfl, -, -⟩ := Gb.lo.form
  obtain ⟨aob4, capb4, rfl, -, -⟩ := Gb.ho.form
  have VU_cb := hide Gb
  have U_cb : RowL cb gb 31 [.slice aob1 x.store.length capb1, .int .i64 x.rule.lc, .int .i64 x.rule.hc, .int .i64 x.rule.lm, .int .i64 x.rule.hm, .int .i64 x.rule.ls, .int .i64 x.rule.hs, .int .i64 x.strand, .slice aob2 x.pieces.length capb2, .slice aob3 x.low.length capb3, .slice aob4 x.high.length capb4, .int .i64 x.scrap] := hrow
  clear hb hI hI2 R_q KZR HK HS HNEW HOLD hrow Gb
  go_wp2_with fail
  have hI : ((World.drew cb).cell? ⟨w1.heap.size, 0, none⟩ = some (.slice ao1 m.store.length cap1) ∧ (World.drew cb).cell? ⟨w1.heap.size, 1, none⟩ = some (.int .i64 m.rule.lc) ∧ (World.drew cb).cell? ⟨w1.heap.size, 2, none⟩ = some (.int .i64 m.rule.hc) ∧ (World.drew cb).cell? ⟨w1.heap.size, 3, none⟩ = some (.int .i64 m.rule.lm) ∧ (World.drew cb).cell? ⟨w1.heap.size, 4, none⟩ = some (.int .i64 m.rule.hm) ∧ (World.drew cb).cell? ⟨w1.heap.size, 5, none⟩ = some (.int .i64 m.rule.ls) ∧ (World.drew cb).cell? ⟨w1.heap.size, 6, none⟩ = some (.int .i64 m.rule.hs) ∧ (World.drew cb).cell? ⟨w1.heap.size, 7, none⟩ = some (.int .i64 m.strand) ∧ (World.drew cb).cell? ⟨w1.heap.size, 8, none⟩ = some (.slice ao2 m.pieces.length cap2) ∧ (World.drew cb).cell? ⟨w1.heap.size, 9, none⟩ = some (.slice ao3 m.low.length cap3) ∧ (World.drew cb).cell? ⟨w1.heap.size, 10, none⟩ = some (.slice ao4 m.high.length cap4) ∧ (World.drew cb).cell? ⟨w1.heap.size, 11, none⟩ = some (.int .i64 m.scrap)) ∧ ((World.drew cb).cell? ⟨w2.heap.size, 0, none⟩ = some (.slice ao51 x.store.length cap51) ∧ (World.drew cb).cell? ⟨w2.heap.size, 1, none⟩ = some (.int .i64 x.rule.lc) ∧ (World.drew cb).cell? ⟨w2.heap.size, 2, none⟩ = some (.int .i64 x.rule.hc) ∧ (World.drew cb).cell? ⟨w2.heap.size, 3, none⟩ = some (.int .i64 x.rule.lm) ∧ (World.drew cb).cell? ⟨w2.heap.size, 4, none⟩ = some (.int .i64 x.rule.hm) ∧ (World.drew cb).cell? ⟨w2.heap.size, 5, none⟩ = some (.int .i64 x.rule.ls) ∧ (World.drew cb).cell? ⟨w2.heap.size, 6, none⟩ = some (.int .i64 x.rule.hs) ∧ (World.drew cb).cell? ⟨w2.heap.size, 7, none⟩ = some (.int .i64 x.strand) ∧ (World.drew cb).cell? ⟨w2.heap.size, 8, none⟩ = some (.slice ao52 x.pieces.length cap52) ∧ (World.drew cb).cell? ⟨w2.heap.size, 9, none⟩ = some (.slice ao53 x.low.length cap53) ∧ (World.drew cb).cell? ⟨w2.heap.size, 10, none⟩ = some (.slice ao54 x.high.length cap54) ∧ (World.drew cb).cell? ⟨w2.heap.size, 11, none⟩ = some (.int .i64 x.scrap)) ∧ ((World.drew cb).cell? ⟨gb, 0, none⟩ = some (.slice aob1 x.store.length capb1) ∧ (World.drew cb).cell? ⟨gb, 1, none⟩ = some (.int .i64 x.rule.lc) ∧ (World.drew cb).cell? ⟨gb, 2, none⟩ = some (.int .i64 x.rule.hc) ∧ (World.drew cb).cell? ⟨gb, 3, none⟩ = some (.int .i64 x.rule.lm) ∧ (World.drew cb).cell? ⟨gb, 4, none⟩ = some (.int .i64 x.rule.hm) ∧ (World.drew cb).cell? ⟨gb, 5, none⟩ = some (.int .i64 x.rule.ls) ∧ (World.drew cb).cell? ⟨gb, 6, none⟩ = some (.int .i64 x.rule.hs) ∧ (World.drew cb).cell? ⟨gb, 7, none⟩ = some (.int .i64 x.strand) ∧ (World.drew cb).cell? ⟨gb, 8, none⟩ = some (.slice aob2 x.pieces.length capb2) ∧ (World.drew cb).cell? ⟨gb, 9, none⟩ = some (.slice aob3 x.low.length capb3) ∧ (World.drew cb).cell? ⟨gb, 10, none⟩ = some (.slice aob4 x.high.length capb4) ∧ (World.drew cb).cell? ⟨gb, 11, none⟩ = some (.int .i64 x.scrap)) := ⟨row12_all M_cb, row12_all X_cb, row12_all U_cb⟩
  have hb : Below cb.heap.size cb (World.drew cb) := (Below.refl _ _).drew
  have M_d := M_cb.drew
  have X_d := X_cb.drew
  have Y_d := Y_cb.drew
  have Z_d := Z_cb.drew
  have U_d := U_cb.drew
  have VV_d := hide (VV_cb.out.below hb)
  have VJ_d := hide (VJ_cb.out.below hb)
  have VX_d := hide (VX_cb.out.below hb)
  have VZ_d := hide (VZ_cb.out.below hb)
  have VU_d := hide (VU_cb.out.below hb)
  have B_d := hide (Below.step B_cb.out hb (Nat.le_refl _))
  clear hb
  go_region_held (fun W => (W.cell? ⟨w1.heap.size, 0, none⟩ = some (.slice ao1 m.store.length cap1) ∧ W.cell? ⟨w1.heap.size, 1, none⟩ = some (.int .i64 m.rule.lc) ∧ W.cell? ⟨w1.heap.size, 2, none⟩ = some (.int .i64 m.rule.hc) ∧ W.cell? ⟨w1.heap.size, 3, none⟩ = some (.int .i64 m.rule.lm) ∧ W.cell? ⟨w1.heap.size, 4, none⟩ = some (.int .i64 m.rule.hm) ∧ W.cell? ⟨w1.heap.size, 5, none⟩ = some (.int .i64 m.rule.ls) ∧ W.cell? ⟨w1.heap.size, 6, none⟩ = some (.int .i64 m.rule.hs) ∧ W.cell? ⟨w1.heap.size, 7, none⟩ = some (.int .i64 m.strand) ∧ W.cell? ⟨w1.heap.size, 8, none⟩ = some (.slice ao2 m.pieces.length cap2) ∧ W.cell? ⟨w1.heap.size, 9, none⟩ = some (.slice ao3 m.low.length cap3) ∧ W.cell? ⟨w1.heap.size, 10, none⟩ = some (.slice ao4 m.high.length cap4) ∧ W.cell? ⟨w1.heap.size, 11, none⟩ = some (.int .i64 m.scrap)) ∧ (W.cell? ⟨w2.heap.size, 0, none⟩ = some (.slice ao51 x.store.length cap51) ∧ W.cell? ⟨w2.heap.size, 1, none⟩ = some (.int .i64 x.rule.lc) ∧ W.cell? ⟨w2.heap.size, 2, none⟩ = some (.int .i64 x.rule.hc) ∧ W.cell? ⟨w2.heap.size, 3, none⟩ = some (.int .i64 x.rule.lm) ∧ W.cell? ⟨w2.heap.size, 4, none⟩ = some (.int .i64 x.rule.hm) ∧ W.cell? ⟨w2.heap.size, 5, none⟩ = some (.int .i64 x.rule.ls) ∧ W.cell? ⟨w2.heap.size, 6, none⟩ = some (.int .i64 x.rule.hs) ∧ W.cell? ⟨w2.heap.size, 7, none⟩ = some (.int .i64 x.strand) ∧ W.cell? ⟨w2.heap.size, 8, none⟩ = some (.slice ao52 x.pieces.length cap52) ∧ W.cell? ⟨w2.heap.size, 9, none⟩ = some (.slice ao53 x.low.length cap53) ∧ W.cell? ⟨w2.heap.size, 10, none⟩ = some (.slice ao54 x.high.length cap54) ∧ W.cell? ⟨w2.heap.size, 11, none⟩ = some (.int .i64 x.scrap)) ∧ (W.cell? ⟨gb, 0, none⟩ = some (.slice aob1 x.store.length capb1) ∧ W.cell? ⟨gb, 1, none⟩ = some (.int .i64 x.rule.lc) ∧ W.cell? ⟨gb, 2, none⟩ = some (.int .i64 x.rule.hc) ∧ W.cell? ⟨gb, 3, none⟩ = some (.int .i64 x.rule.lm) ∧ W.cell? ⟨gb, 4, none⟩ = some (.int .i64 x.rule.hm) ∧ W.cell? ⟨gb, 5, none⟩ = some (.int .i64 x.rule.ls) ∧ W.cell? ⟨gb, 6, none⟩ = some (.int .i64 x.rule.hs) ∧ W.cell? ⟨gb, 7, none⟩ = some (.int .i64 x.strand) ∧ W.cell? ⟨gb, 8, none⟩ = some (.slice aob2 x.pieces.length capb2) ∧ W.cell? ⟨gb, 9, none⟩ = some (.slice aob3 x.low.length capb3) ∧ W.cell? ⟨gb, 10, none⟩ = some (.slice aob4 x.high.length capb4) ∧ W.cell? ⟨gb, 11, none⟩ = some (.int .i64 x.scrap))) (first | (with_reducible exact hI) | (with_reducible exact hS0) | (with_reducible exact hS1) | (with_reducible exact hS2) | (with_reducible exact hS3)) (first
    | (go_at_call 17; refine (sm_yes (sameMill_any _ _ _ _ _ _ _ _ x x _ VU_k2.out.all VX_k2.out.all) rfl).mono ?_; rintro e k3 ⟨rfl, hb⟩; have M_k3 := M_k2.below hb M_k2.lt; have X_k3 := X_k2.below hb X_k2.lt; have Y_k3 := Y_k2.below hb Y_k2.lt; have Z_k3 := Z_k2.below hb Z_k2.lt; have U_k3 := U_k2.below hb U_k2.lt; have VV_k3 := hide (VV_k2.out.below hb); have VJ_k3 := hide (VJ_k2.out.below hb); have VX_k3 := hide (VX_k2.out.below hb); have VZ_k3 := hide (VZ_k2.out.below hb); have VU_k3 := hide (VU_k2.out.below hb); have B_k3 := hide (Below.step B_k2.out hb (Nat.le_refl _)); have hzk3 := hb.size; have hS3 : (k3.cell? ⟨w1.heap.size, 0, none⟩ = some (.slice ao1 m.store.length cap1) ∧ k3.cell? ⟨w1.heap.size, 1, none⟩ = some (.int .i64 m.rule.lc) ∧ k3.cell? ⟨w1.heap.size, 2, none⟩ = some (.int .i64 m.rule.hc) ∧ k3.cell? ⟨w1.heap.size, 3, none⟩ = some (.int .i64 m.rule.lm) ∧ k3.cell? ⟨w1.heap.size, 4, none⟩ = some (.int .i64 m.rule.hm) ∧ k3.cell? ⟨w1.heap.size, 5, none⟩ = some (.int .i64 m.rule.ls) ∧ k3.cell? ⟨w1.heap.size, 6, none⟩ = some (.int .i64 m.rule.hs) ∧ k3.cell? ⟨w1.heap.size, 7, none⟩ = some (.int .i64 m.strand) ∧ k3.cell? ⟨w1.heap.size, 8, none⟩ = some (.slice ao2 m.pieces.length cap2) ∧ k3.cell? ⟨w1.heap.size, 9, none⟩ = some (.slice ao3 m.low.length cap3) ∧ k3.cell? ⟨w1.heap.size, 10, none⟩ = some (.slice ao4 m.high.length cap4) ∧ k3.cell? ⟨w1.heap.size, 11, none⟩ = some (.int .i64 m.scrap)) ∧ (k3.cell? ⟨w2.heap.size, 0, none⟩ = some (.slice ao51 x.store.length cap51) ∧ k3.cell? ⟨w2.heap.size, 1, none⟩ = some (.int .i64 x.rule.lc) ∧ k3.cell? ⟨w2.heap.size, 2, none⟩ = some (.int .i64 x.rule.hc) ∧ k3.cell? ⟨w2.heap.size, 3, none⟩ = some (.int .i64 x.rule.lm) ∧ k3.cell? ⟨w2.heap.size, 4, none⟩ = some (.int .i64 x.rule.hm) ∧ k3.cell? ⟨w2.heap.size, 5, none⟩ = some (.int .i64 x.rule.ls) ∧ k3.cell? ⟨w2.heap.size, 6, none⟩ = some (.int .i64 x.rule.hs) ∧ k3.cell? ⟨w2.heap.size, 7, none⟩ = some (.int .i64 x.strand) ∧ k3.cell? ⟨w2.heap.size, 8, none⟩ = some (.slice ao52 x.pieces.length cap52) ∧ k3.cell? ⟨w2.heap.size, 9, none⟩ = some (.slice ao53 x.low.length cap53) ∧ k3.cell? ⟨w2.heap.size, 10, none⟩ = some (.slice ao54 x.high.length cap54) ∧ k3.cell? ⟨w2.heap.size, 11, none⟩ = some (.int .i64 x.scrap)) ∧ (k3.cell? ⟨gb, 0, none⟩ = some (.slice aob1 x.store.length capb1) ∧ k3.cell? ⟨gb, 1, none⟩ = some (.int .i64 x.rule.lc) ∧ k3.cell? ⟨gb, 2, none⟩ = some (.int .i64 x.rule.hc) ∧ k3.cell? ⟨gb, 3, none⟩ = some (.int .i64 x.rule.lm) ∧ k3.cell? ⟨gb, 4, none⟩ = some (.int .i64 x.rule.hm) ∧ k3.cell? ⟨gb, 5, none⟩ = some (.int .i64 x.rule.ls) ∧ k3.cell? ⟨gb, 6, none⟩ = some (.int .i64 x.rule.hs) ∧ k3.cell? ⟨gb, 7, none⟩ = some (.int .i64 x.strand) ∧ k3.cell? ⟨gb, 8, none⟩ = some (.slice aob2 x.pieces.length capb2) ∧ k3.cell? ⟨gb, 9, none⟩ = some (.slice aob3 x.low.length capb3) ∧ k3.cell? ⟨gb, 10, none⟩ = some (.slice aob4 x.high.length capb4) ∧ k3.cell? ⟨gb, 11, none⟩ = some (.int .i64 x.scrap)) := ⟨row12_all M_k3, row12_all X_k3, row12_all U_k3⟩; clear hb)
    | (go_at_call 23; refine (mass_impl _ _ _ _ m _ VV_k1.out.all).mono ?_; rintro e k2 ⟨rfl, hb⟩; have M_k2 := M_k1.below hb M_k1.lt; have X_k2 := X_k1.below hb X_k1.lt; have Y_k2 := Y_k1.below hb Y_k1.lt; have Z_k2 := Z_k1.below hb Z_k1.lt; have U_k2 := U_k1.below hb U_k1.lt; have VV_k2 := hide (VV_k1.out.below hb); have VJ_k2 := hide (VJ_k1.out.below hb); have VX_k2 := hide (VX_k1.out.below hb); have VZ_k2 := hide (VZ_k1.out.below hb); have VU_k2 := hide (VU_k1.out.below hb); have B_k2 := hide (Below.step B_k1.out hb (Nat.le_refl _)); have hzk2 := hb.size; have hS2 : (k2.cell? ⟨w1.heap.size, 0, none⟩ = some (.slice ao1 m.store.length cap1) ∧ k2.cell? ⟨w1.heap.size, 1, none⟩ = some (.int .i64 m.rule.lc) ∧ k2.cell? ⟨w1.heap.size, 2, none⟩ = some (.int .i64 m.rule.hc) ∧ k2.cell? ⟨w1.heap.size, 3, none⟩ = some (.int .i64 m.rule.lm) ∧ k2.cell? ⟨w1.heap.size, 4, none⟩ = some (.int .i64 m.rule.hm) ∧ k2.cell? ⟨w1.heap.size, 5, none⟩ = some (.int .i64 m.rule.ls) ∧ k2.cell? ⟨w1.heap.size, 6, none⟩ = some (.int .i64 m.rule.hs) ∧ k2.cell? ⟨w1.heap.size, 7, none⟩ = some (.int .i64 m.strand) ∧ k2.cell? ⟨w1.heap.size, 8, none⟩ = some (.slice ao2 m.pieces.length cap2) ∧ k2.cell? ⟨w1.heap.size, 9, none⟩ = some (.slice ao3 m.low.length cap3) ∧ k2.cell? ⟨w1.heap.size, 10, none⟩ = some (.slice ao4 m.high.length cap4) ∧ k2.cell? ⟨w1.heap.size, 11, none⟩ = some (.int .i64 m.scrap)) ∧ (k2.cell? ⟨w2.heap.size, 0, none⟩ = some (.slice ao51 x.store.length cap51) ∧ k2.cell? ⟨w2.heap.size, 1, none⟩ = some (.int .i64 x.rule.lc) ∧ k2.cell? ⟨w2.heap.size, 2, none⟩ = some (.int .i64 x.rule.hc) ∧ k2.cell? ⟨w2.heap.size, 3, none⟩ = some (.int .i64 x.rule.lm) ∧ k2.cell? ⟨w2.heap.size, 4, none⟩ = some (.int .i64 x.rule.hm) ∧ k2.cell? ⟨w2.heap.size, 5, none⟩ = some (.int .i64 x.rule.ls) ∧ k2.cell? ⟨w2.heap.size, 6, none⟩ = some (.int .i64 x.rule.hs) ∧ k2.cell? ⟨w2.heap.size, 7, none⟩ = some (.int .i64 x.strand) ∧ k2.cell? ⟨w2.heap.size, 8, none⟩ = some (.slice ao52 x.pieces.length cap52) ∧ k2.cell? ⟨w2.heap.size, 9, none⟩ = some (.slice ao53 x.low.length cap53) ∧ k2.cell? ⟨w2.heap.size, 10, none⟩ = some (.slice ao54 x.high.length cap54) ∧ k2.cell? ⟨w2.heap.size, 11, none⟩ = some (.int .i64 x.scrap)) ∧ (k2.cell? ⟨gb, 0, none⟩ = some (.slice aob1 x.store.length capb1) ∧ k2.cell? ⟨gb, 1, none⟩ = some (.int .i64 x.rule.lc) ∧ k2.cell? ⟨gb, 2, none⟩ = some (.int .i64 x.rule.hc) ∧ k2.cell? ⟨gb, 3, none⟩ = some (.int .i64 x.rule.lm) ∧ k2.cell? ⟨gb, 4, none⟩ = some (.int .i64 x.rule.hm) ∧ k2.cell? ⟨gb, 5, none⟩ = some (.int .i64 x.rule.ls) ∧ k2.cell? ⟨gb, 6, none⟩ = some (.int .i64 x.rule.hs) ∧ k2.cell? ⟨gb, 7, none⟩ = some (.int .i64 x.strand) ∧ k2.cell? ⟨gb, 8, none⟩ = some (.slice aob2 x.pieces.length capb2) ∧ k2.cell? ⟨gb, 9, none⟩ = some (.slice aob3 x.low.length capb3) ∧ k2.cell? ⟨gb, 10, none⟩ = some (.slice aob4 x.high.length capb4) ∧ k2.cell? ⟨gb, 11, none⟩ = some (.int .i64 x.scrap)) := ⟨row12_all M_k2, row12_all X_k2, row12_all U_k2⟩; clear hb)
    | (go_at_call 23; refine (ms_is (mass_impl _ _ _ _ x _ VX_k0.out.all) HMS.out).mono ?_; rintro e k1 ⟨rfl, hb⟩; have M_k1 := M_k0.below hb M_k0.lt; have X_k1 := X_k0.below hb X_k0.lt; have Y_k1 := Y_k0.below hb Y_k0.lt; have Z_k1 := Z_k0.below hb Z_k0.lt; have U_k1 := U_k0.below hb U_k0.lt; have VV_k1 := hide (VV_k0.out.below hb); have VJ_k1 := hide (VJ_k0.out.below hb); have VX_k1 := hide (VX_k0.out.below hb); have VZ_k1 := hide (VZ_k0.out.below hb); have VU_k1 := hide (VU_k0.out.below hb); have B_k1 := hide (Below.step B_k0.out hb (Nat.le_refl _)); have hzk1 := hb.size; have hS1 : (k1.cell? ⟨w1.heap.size, 0, none⟩ = some (.slice ao1 m.store.length cap1) ∧ k1.cell? ⟨w1.heap.size, 1, none⟩ = some (.int .i64 m.rule.lc) ∧ k1.cell? ⟨w1.heap.size, 2, none⟩ = some (.int .i64 m.rule.hc) ∧ k1.cell? ⟨w1.heap.size, 3, none⟩ = some (.int .i64 m.rule.lm) ∧ k1.cell? ⟨w1.heap.size, 4, none⟩ = some (.int .i64 m.rule.hm) ∧ k1.cell? ⟨w1.heap.size, 5, none⟩ = some (.int .i64 m.rule.ls) ∧ k1.cell? ⟨w1.heap.size, 6, none⟩ = some (.int .i64 m.rule.hs) ∧ k1.cell? ⟨w1.heap.size, 7, none⟩ = some (.int .i64 m.strand) ∧ k1.cell? ⟨w1.heap.size, 8, none⟩ = some (.slice ao2 m.pieces.length cap2) ∧ k1.cell? ⟨w1.heap.size, 9, none⟩ = some (.slice ao3 m.low.length cap3) ∧ k1.cell? ⟨w1.heap.size, 10, none⟩ = some (.slice ao4 m.high.length cap4) ∧ k1.cell? ⟨w1.heap.size, 11, none⟩ = some (.int .i64 m.scrap)) ∧ (k1.cell? ⟨w2.heap.size, 0, none⟩ = some (.slice ao51 x.store.length cap51) ∧ k1.cell? ⟨w2.heap.size, 1, none⟩ = some (.int .i64 x.rule.lc) ∧ k1.cell? ⟨w2.heap.size, 2, none⟩ = some (.int .i64 x.rule.hc) ∧ k1.cell? ⟨w2.heap.size, 3, none⟩ = some (.int .i64 x.rule.lm) ∧ k1.cell? ⟨w2.heap.size, 4, none⟩ = some (.int .i64 x.rule.hm) ∧ k1.cell? ⟨w2.heap.size, 5, none⟩ = some (.int .i64 x.rule.ls) ∧ k1.cell? ⟨w2.heap.size, 6, none⟩ = some (.int .i64 x.rule.hs) ∧ k1.cell? ⟨w2.heap.size, 7, none⟩ = some (.int .i64 x.strand) ∧ k1.cell? ⟨w2.heap.size, 8, none⟩ = some (.slice ao52 x.pieces.length cap52) ∧ k1.cell? ⟨w2.heap.size, 9, none⟩ = some (.slice ao53 x.low.length cap53) ∧ k1.cell? ⟨w2.heap.size, 10, none⟩ = some (.slice ao54 x.high.length cap54) ∧ k1.cell? ⟨w2.heap.size, 11, none⟩ = some (.int .i64 x.scrap)) ∧ (k1.cell? ⟨gb, 0, none⟩ = some (.slice aob1 x.store.length capb1) ∧ k1.cell? ⟨gb, 1, none⟩ = some (.int .i64 x.rule.lc) ∧ k1.cell? ⟨gb, 2, none⟩ = some (.int .i64 x.rule.hc) ∧ k1.cell? ⟨gb, 3, none⟩ = some (.int .i64 x.rule.lm) ∧ k1.cell? ⟨gb, 4, none⟩ = some (.int .i64 x.rule.hm) ∧ k1.cell? ⟨gb, 5, none⟩ = some (.int .i64 x.rule.ls) ∧ k1.cell? ⟨gb, 6, none⟩ = some (.int .i64 x.rule.hs) ∧ k1.cell? ⟨gb, 7, none⟩ = some (.int .i64 x.strand) ∧ k1.cell? ⟨gb, 8, none⟩ = some (.slice aob2 x.pieces.length capb2) ∧ k1.cell? ⟨gb, 9, none⟩ = some (.slice aob3 x.low.length capb3) ∧ k1.cell? ⟨gb, 10, none⟩ = some (.slice aob4 x.high.length capb4) ∧ k1.cell? ⟨gb, 11, none⟩ = some (.int .i64 x.scrap)) := ⟨row12_all M_k1, row12_all X_k1, row12_all U_k1⟩; clear hb)
    | (go_at_call 28; refine (mv_yes (mill_impl _ _ _ _ x _ VX_d.out.all) HVX.out).mono ?_; rintro e k0 ⟨rfl, hb⟩; have M_k0 := M_d.below hb M_d.lt; have X_k0 := X_d.below hb X_d.lt; have Y_k0 := Y_d.below hb Y_d.lt; have Z_k0 := Z_d.below hb Z_d.lt; have U_k0 := U_d.below hb U_d.lt; have VV_k0 := hide (VV_d.out.below hb); have VJ_k0 := hide (VJ_d.out.below hb); have VX_k0 := hide (VX_d.out.below hb); have VZ_k0 := hide (VZ_d.out.below hb); have VU_k0 := hide (VU_d.out.below hb); have B_k0 := hide (Below.step B_d.out hb (Nat.le_refl _)); have hzk0 := hb.size; have hS0 : (k0.cell? ⟨w1.heap.size, 0, none⟩ = some (.slice ao1 m.store.length cap1) ∧ k0.cell? ⟨w1.heap.size, 1, none⟩ = some (.int .i64 m.rule.lc) ∧ k0.cell? ⟨w1.heap.size, 2, none⟩ = some (.int .i64 m.rule.hc) ∧ k0.cell? ⟨w1.heap.size, 3, none⟩ = some (.int .i64 m.rule.lm) ∧ k0.cell? ⟨w1.heap.size, 4, none⟩ = some (.int .i64 m.rule.hm) ∧ k0.cell? ⟨w1.heap.size, 5, none⟩ = some (.int .i64 m.rule.ls) ∧ k0.cell? ⟨w1.heap.size, 6, none⟩ = some (.int .i64 m.rule.hs) ∧ k0.cell? ⟨w1.heap.size, 7, none⟩ = some (.int .i64 m.strand) ∧ k0.cell? ⟨w1.heap.size, 8, none⟩ = some (.slice ao2 m.pieces.length cap2) ∧ k0.cell? ⟨w1.heap.size, 9, none⟩ = some (.slice ao3 m.low.length cap3) ∧ k0.cell? ⟨w1.heap.size, 10, none⟩ = some (.slice ao4 m.high.length cap4) ∧ k0.cell? ⟨w1.heap.size, 11, none⟩ = some (.int .i64 m.scrap)) ∧ (k0.cell? ⟨w2.heap.size, 0, none⟩ = some (.slice ao51 x.store.length cap51) ∧ k0.cell? ⟨w2.heap.size, 1, none⟩ = some (.int .i64 x.rule.lc) ∧ k0.cell? ⟨w2.heap.size, 2, none⟩ = some (.int .i64 x.rule.hc) ∧ k0.cell? ⟨w2.heap.size, 3, none⟩ = some (.int .i64 x.rule.lm) ∧ k0.cell? ⟨w2.heap.size, 4, none⟩ = some (.int .i64 x.rule.hm) ∧ k0.cell? ⟨w2.heap.size, 5, none⟩ = some (.int .i64 x.rule.ls) ∧ k0.cell? ⟨w2.heap.size, 6, none⟩ = some (.int .i64 x.rule.hs) ∧ k0.cell? ⟨w2.heap.size, 7, none⟩ = some (.int .i64 x.strand) ∧ k0.cell? ⟨w2.heap.size, 8, none⟩ = some (.slice ao52 x.pieces.length cap52) ∧ k0.cell? ⟨w2.heap.size, 9, none⟩ = some (.slice ao53 x.low.length cap53) ∧ k0.cell? ⟨w2.heap.size, 10, none⟩ = some (.slice ao54 x.high.length cap54) ∧ k0.cell? ⟨w2.heap.size, 11, none⟩ = some (.int .i64 x.scrap)) ∧ (k0.cell? ⟨gb, 0, none⟩ = some (.slice aob1 x.store.length capb1) ∧ k0.cell? ⟨gb, 1, none⟩ = some (.int .i64 x.rule.lc) ∧ k0.cell? ⟨gb, 2, none⟩ = some (.int .i64 x.rule.hc) ∧ k0.cell? ⟨gb, 3, none⟩ = some (.int .i64 x.rule.lm) ∧ k0.cell? ⟨gb, 4, none⟩ = some (.int .i64 x.rule.hm) ∧ k0.cell? ⟨gb, 5, none⟩ = some (.int .i64 x.rule.ls) ∧ k0.cell? ⟨gb, 6, none⟩ = some (.int .i64 x.rule.hs) ∧ k0.cell? ⟨gb, 7, none⟩ = some (.int .i64 x.strand) ∧ k0.cell? ⟨gb, 8, none⟩ = some (.slice aob2 x.pieces.length capb2) ∧ k0.cell? ⟨gb, 9, none⟩ = some (.slice aob3 x.low.length capb3) ∧ k0.cell? ⟨gb, 10, none⟩ = some (.slice aob4 x.high.length capb4) ∧ k0.cell? ⟨gb, 11, none⟩ = some (.int .i64 x.scrap)) := ⟨row12_all M_k0, row12_all X_k0, row12_all U_k0⟩; clear hb))
  clear hI hS0 hS1 hS2 hS3
  have hmm : (massR m == massR m) = true := by simp
  go_wp2_with fail
  go_ret
  exact ⟨rfl, B_k3.out⟩
end Go.Proofs.YtmemgbklgcjobaaGreatDoor
