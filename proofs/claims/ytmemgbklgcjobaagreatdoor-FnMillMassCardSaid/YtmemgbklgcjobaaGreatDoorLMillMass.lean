/-
  The walk over the law FnMillMass: it answers true, whatever the code.
-/
import Derived.Test.YtmemgbklgcjobaaGreatDoorB47
import Derived.StillTailTactics
namespace Go.Proofs.YtmemgbklgcjobaaGreatDoor
open Go.RowKit

theorem more_flat {l : List St} {k : Int} (hl : 0 < l.length) (h : (l.getD 0 st0).k = k) : (flatS l).set (0 * 5 + 4) (.int .i64 (k + 1)) = flatS (moreSt l) := by
  rw [flatS_setk _ _ hl]
  obtain _ | ⟨s, r⟩ := l
  · cases hl
  · have h : s.k = k := h
    subst h
    rfl
set_option linter.unusedVariables false in
set_option linter.unusedSimpArgs false in
set_option maxRecDepth 10000 in
set_option maxHeartbeats 3200000 in
theorem law_MillMass (v : Value) (n : Nat) (w : World) (h : BytesAt 0 w.heap.size w v n) :
    Calls Tryz.prog 7 #[v] w fun e w' => e = .returned (.bool true) ∧ Below w.heap.size w w' := by
  obtain ⟨ao, cap, rfl, hnc, hcap, -, -⟩ := id h
  have HB := hide h
  clear h
  by_cases hlong : 1048576 < n
  · go_enter Tryz.func7, Tryz.ntmps7
    go_wp2_with fail
    go_ret
    exact ⟨rfl, by go_grown⟩
  go_enter Tryz.func7, Tryz.ntmps7
  go_wp2_with fail
  refine (drawMillMass _ n _ HB.out).mono ?_
  rintro e w1 ⟨s, p, l, h, m, rfl, hG, hf, hb⟩
  obtain ⟨ao1, cap1, rfl, -, -, -, -⟩ := id hG.all.store
  obtain ⟨ao2, cap2, rfl, -, -, -, -⟩ := id hG.all.pieces
  obtain ⟨ao3, cap3, rfl, -, -, -, -⟩ := id hG.all.low
  obtain ⟨ao4, cap4, rfl, -, -, -, -⟩ := id hG.all.high
  have B_1 := hide hb
  have VV_1 := hide hG
  have hz1 := hb.size
  clear hb hG
  unfold millV
  go_wp2_with fail
  refine calls_at fun wx hwx => ?_
  have M_wx : RowL wx (w1.heap.size) 31 [.slice ao1 m.store.length cap1, .int .i64 m.rule.lc, .int .i64 m.rule.hc, .int .i64 m.rule.lm, .int .i64 m.rule.hm, .int .i64 m.rule.ls, .int .i64 m.rule.hs, .int .i64 m.strand, .slice ao2 m.pieces.length cap2, .slice ao3 m.low.length cap3, .slice ao4 m.high.length cap4, .int .i64 m.scrap] := by rw [hwx]; exact (RowL.new _ 31 [.slice ao1 m.store.length cap1, .int .i64 m.rule.lc, .int .i64 m.rule.hc, .int .i64 m.rule.lm, .int .i64 m.rule.hm, .int .i64 m.rule.ls, .int .i64 m.rule.hs, .int .i64 m.strand, .slice ao2 m.pieces.length cap2, .slice ao3 m.low.length cap3, .slice ao4 m.high.length cap4, .int .i64 m.scrap])
  have hb : Below w1.heap.size w1 wx := by rw [hwx]; exact ((Below.refl _ _).alloc (Nat.le_refl _) _)
  clear hwx
  have VV_wx := hide (VV_1.out.below hb)
  have B_wx := hide (Below.step B_1.out hb (Nat.le_refl _))
  have hzwx := hb.size
  have hLwx := M_wx.lt
  clear hb
  cases hv : millB m with
  | false =>
    have hq : massR m = -1 := by unfold massR; rw [hv]; rfl
    have KI := mass_impl _ _ _ _ m wx VV_wx.out.all
    rw [hq] at KI
    refine (KI).mono ?_
    rintro e w2 ⟨rfl, hb⟩
    have M_2 := M_wx.below hb M_wx.lt
    have VV_2 := hide (VV_wx.out.below hb)
    have B_2 := hide (Below.step B_wx.out hb (Nat.le_refl _))
    have hz2 := hb.size
    clear hb
    have cM0 : w2.cell? ⟨w1.heap.size, 0, none⟩ = some (.slice ao1 m.store.length cap1) := M_2.cell 0 (by simp)
    have cM1 : w2.cell? ⟨w1.heap.size, 1, none⟩ = some (.int .i64 m.rule.lc) := M_2.cell 1 (by simp)
    have cM2 : w2.cell? ⟨w1.heap.size, 2, none⟩ = some (.int .i64 m.rule.hc) := M_2.cell 2 (by simp)
    have cM3 : w2.cell? ⟨w1.heap.size, 3, none⟩ = some (.int .i64 m.rule.lm) := M_2.cell 3 (by simp)
    have cM4 : w2.cell? ⟨w1.heap.size, 4, none⟩ = some (.int .i64 m.rule.hm) := M_2.cell 4 (by simp)
    have cM5 : w2.cell? ⟨w1.heap.size, 5, none⟩ = some (.int .i64 m.rule.ls) := M_2.cell 5 (by simp)
    have cM6 : w2.cell? ⟨w1.heap.size, 6, none⟩ = some (.int .i64 m.rule.hs) := M_2.cell 6 (by simp)
    have cM7 : w2.cell? ⟨w1.heap.size, 7, none⟩ = some (.int .i64 m.strand) := M_2.cell 7 (by simp)
    have cM8 : w2.cell? ⟨w1.heap.size, 8, none⟩ = some (.slice ao2 m.pieces.length cap2) := M_2.cell 8 (by simp)
    have cM9 : w2.cell? ⟨w1.heap.size, 9, none⟩ = some (.slice ao3 m.low.length cap3) := M_2.cell 9 (by simp)
    have cM10 : w2.cell? ⟨w1.heap.size, 10, none⟩ = some (.slice ao4 m.high.length cap4) := M_2.cell 10 (by simp)
    have cM11 : w2.cell? ⟨w1.heap.size, 11, none⟩ = some (.int .i64 m.scrap) := M_2.cell 11 (by simp)
    go_wp2_with fail
    have KS := mass_spec _ _ _ _ m w2 VV_2.out.all
    rw [hq] at KS
    have hqq : (((-1) : Int) != (-1)) = false := by simp
    refine (KS).mono ?_
    rintro e w3 ⟨rfl, hb⟩
    have M_3 := M_2.below hb M_2.lt
    have VV_3 := hide (VV_2.out.below hb)
    have B_3 := hide (Below.step B_2.out hb (Nat.le_refl _))
    have hz3 := hb.size
    clear hb
    have cM0 : w3.cell? ⟨w1.heap.size, 0, none⟩ = some (.slice ao1 m.store.length cap1) := M_3.cell 0 (by simp)
    have cM1 : w3.cell? ⟨w1.heap.size, 1, none⟩ = some (.int .i64 m.rule.lc) := M_3.cell 1 (by simp)
    have cM2 : w3.cell? ⟨w1.heap.size, 2, none⟩ = some (.int .i64 m.rule.hc) := M_3.cell 2 (by simp)
    have cM3 : w3.cell? ⟨w1.heap.size, 3, none⟩ = some (.int .i64 m.rule.lm) := M_3.cell 3 (by simp)
    have cM4 : w3.cell? ⟨w1.heap.size, 4, none⟩ = some (.int .i64 m.rule.hm) := M_3.cell 4 (by simp)
    have cM5 : w3.cell? ⟨w1.heap.size, 5, none⟩ = some (.int .i64 m.rule.ls) := M_3.cell 5 (by simp)
    have cM6 : w3.cell? ⟨w1.heap.size, 6, none⟩ = some (.int .i64 m.rule.hs) := M_3.cell 6 (by simp)
    have cM7 : w3.cell? ⟨w1.heap.size, 7, none⟩ = some (.int .i64 m.strand) := M_3.cell 7 (by simp)
    have cM8 : w3.cell? ⟨w1.heap.size, 8, none⟩ = some (.slice ao2 m.pieces.length cap2) := M_3.cell 8 (by simp)
    have cM9 : w3.cell? ⟨w1.heap.size, 9, none⟩ = some (.slice ao3 m.low.length cap3) := M_3.cell 9 (by simp)
    have cM10 : w3.cell? ⟨w1.heap.size, 10, none⟩ = some (.slice ao4 m.high.length cap4) := M_3.cell 10 (by simp)
    have cM11 : w3.cell? ⟨w1.heap.size, 11, none⟩ = some (.int .i64 m.scrap) := M_3.cell 11 (by simp)
    go_wp2_with fail
    have KV := mill_impl _ _ _ _ m w3 VV_3.out.all
    rw [hv] at KV
    refine (KV).mono ?_
    rintro e w4 ⟨rfl, hb⟩
    have M_4 := M_3.below hb M_3.lt
    have VV_4 := hide (VV_3.out.below hb)
    have B_4 := hide (Below.step B_3.out hb (Nat.le_refl _))
    have hz4 := hb.size
    clear hb
    go_wp2_with fail
    refine (alive_any w4).mono ?_
    rintro e w5 ⟨rfl, hb⟩
    have M_5 := M_4.below hb M_4.lt
    have VV_5 := hide (VV_4.out.below hb)
    have B_5 := hide (Below.step B_4.out hb (Nat.le_refl _))
    have hz5 := hb.size
    clear hb
    go_wp2_with fail
    go_ret
    exact ⟨rfl, B_5.out⟩
  | true =>
    obtain ⟨q, hq0⟩ : ∃ q, massI m = q := ⟨_, rfl⟩
    have hq : massR m = q := by unfold massR; rw [if_pos hv, hq0]
    have hge := mass_ge (millB_iff.1 hv)
    rw [hq0] at hge
    have hst := millB_iff.1 hv
    obtain ⟨g1, g2, g3⟩ := hge
    have s0 := hst.st0
    have s1 := hst.st1
    have c0 := hst.sc0
    have c1 := hst.sc1
    have KI := mass_impl _ _ _ _ m wx VV_wx.out.all
    rw [hq] at KI
    refine (KI).mono ?_
    rintro e w2 ⟨rfl, hb⟩
    have M_2 := M_wx.below hb M_wx.lt
    have VV_2 := hide (VV_wx.out.below hb)
    have B_2 := hide (Below.step B_wx.out hb (Nat.le_refl _))
    have hz2 := hb.size
    clear hb
    have cM0 : w2.cell? ⟨w1.heap.size, 0, none⟩ = some (.slice ao1 m.store.length cap1) := M_2.cell 0 (by simp)
    have cM1 : w2.cell? ⟨w1.heap.size, 1, none⟩ = some (.int .i64 m.rule.lc) := M_2.cell 1 (by simp)
    have cM2 : w2.cell? ⟨w1.heap.size, 2, none⟩ = some (.int .i64 m.rule.hc) := M_2.cell 2 (by simp)
    have cM3 : w2.cell? ⟨w1.heap.size, 3, none⟩ = some (.int .i64 m.rule.lm) := M_2.cell 3 (by simp)
    have cM4 : w2.cell? ⟨w1.heap.size, 4, none⟩ = some (.int .i64 m.rule.hm) := M_2.cell 4 (by simp)
    have cM5 : w2.cell? ⟨w1.heap.size, 5, none⟩ = some (.int .i64 m.rule.ls) := M_2.cell 5 (by simp)
    have cM6 : w2.cell? ⟨w1.heap.size, 6, none⟩ = some (.int .i64 m.rule.hs) := M_2.cell 6 (by simp)
    have cM7 : w2.cell? ⟨w1.heap.size, 7, none⟩ = some (.int .i64 m.strand) := M_2.cell 7 (by simp)
    have cM8 : w2.cell? ⟨w1.heap.size, 8, none⟩ = some (.slice ao2 m.pieces.length cap2) := M_2.cell 8 (by simp)
    have cM9 : w2.cell? ⟨w1.heap.size, 9, none⟩ = some (.slice ao3 m.low.length cap3) := M_2.cell 9 (by simp)
    have cM10 : w2.cell? ⟨w1.heap.size, 10, none⟩ = some (.slice ao4 m.high.length cap4) := M_2.cell 10 (by simp)
    have cM11 : w2.cell? ⟨w1.heap.size, 11, none⟩ = some (.int .i64 m.scrap) := M_2.cell 11 (by simp)
    go_wp2_with fail
    have KS := mass_spec _ _ _ _ m w2 VV_2.out.all
    rw [hq] at KS
    have hqq : ((q : Int) != q) = false := by simp
    refine (KS).mono ?_
    rintro e w3 ⟨rfl, hb⟩
    have M_3 := M_2.below hb M_2.lt
    have VV_3 := hide (VV_2.out.below hb)
    have B_3 := hide (Below.step B_2.out hb (Nat.le_refl _))
    have hz3 := hb.size
    clear hb
    have cM0 : w3.cell? ⟨w1.heap.size, 0, none⟩ = some (.slice ao1 m.store.length cap1) := M_3.cell 0 (by simp)
    have cM1 : w3.cell? ⟨w1.heap.size, 1, none⟩ = some (.int .i64 m.rule.lc) := M_3.cell 1 (by simp)
    have cM2 : w3.cell? ⟨w1.heap.size, 2, none⟩ = some (.int .i64 m.rule.hc) := M_3.cell 2 (by simp)
    have cM3 : w3.cell? ⟨w1.heap.size, 3, none⟩ = some (.int .i64 m.rule.lm) := M_3.cell 3 (by simp)
    have cM4 : w3.cell? ⟨w1.heap.size, 4, none⟩ = some (.int .i64 m.rule.hm) := M_3.cell 4 (by simp)
    have cM5 : w3.cell? ⟨w1.heap.size, 5, none⟩ = some (.int .i64 m.rule.ls) := M_3.cell 5 (by simp)
    have cM6 : w3.cell? ⟨w1.heap.size, 6, none⟩ = some (.int .i64 m.rule.hs) := M_3.cell 6 (by simp)
    have cM7 : w3.cell? ⟨w1.heap.size, 7, none⟩ = some (.int .i64 m.strand) := M_3.cell 7 (by simp)
    have cM8 : w3.cell? ⟨w1.heap.size, 8, none⟩ = some (.slice ao2 m.pieces.length cap2) := M_3.cell 8 (by simp)
    have cM9 : w3.cell? ⟨w1.heap.size, 9, none⟩ = some (.slice ao3 m.low.length cap3) := M_3.cell 9 (by simp)
    have cM10 : w3.cell? ⟨w1.heap.size, 10, none⟩ = some (.slice ao4 m.high.length cap4) := M_3.cell 10 (by simp)
    have cM11 : w3.cell? ⟨w1.heap.size, 11, none⟩ = some (.int .i64 m.scrap) := M_3.cell 11 (by simp)
    have hnq : ¬ q < 0 := by omega
    have hend : decide (m.strand + m.scrap ≤ q) = true := by simpa using g1
    have hww : IntKind.i64.wrap (m.strand + m.scrap) = m.strand + m.scrap := IntWalk.i64_in _ (by omega)
    clear KI KS
    by_cases hl : 0 < m.store.length
    rotate_left
    · have hl0 : m.store.length = 0 := by omega
      have hlB : decide (0 < (m.store.length : Int)) = false := by simp [hl0]
      go_wp2_with fail
      go_ret
      exact ⟨rfl, B_3.out⟩
    have hlB : decide (0 < (m.store.length : Int)) = true := by simp; omega
    obtain ⟨b0, o0, cp0, e0, -, -, d0, d1, d2, d3, d4⟩ := st_at VV_3.out.all.store hl
    simp only [Value.slice.injEq, true_and] at e0
    obtain ⟨rfl, rfl⟩ := e0
    obtain ⟨k0, hk0⟩ : ∃ x, (m.store.getD 0 st0).k = x := ⟨_, rfl⟩
    rw [hk0] at d4
    by_cases h9 : k0 < 9
    rotate_left
    · have h9B : decide (k0 < 9) = false := by simpa using h9
      go_wp2_with fail
      go_ret
      exact ⟨rfl, B_3.out⟩
    have h9B : decide (k0 < 9) = true := by simpa using h9
    have hmore := hide (mass_more hv hl (by rw [hk0]; exact h9))
    have hset0 := hide (show (flatS m.store).set (0 * 5 + 4) (.int .i64 (k0 + 1)) = flatS (moreSt m.store) from more_flat hl hk0)
    have hl4 := stsB_len hst.store
    have hk0b := (stB_iff.1 (stsB_getD hst.store hl)).2.2.2.2
    rw [hk0] at hk0b
    have hwk : IntKind.i64.wrap (k0 + 1) = k0 + 1 := IntWalk.i64_in _ (by omega)
    have hwq : IntKind.i64.wrap (q + 4) = q + 4 := IntWalk.i64_in _ (by omega)
    obtain ⟨i0, hi0, hy0, hi1, hi2⟩ := info_parts info_St
    go_upto_region 11 with fail
    obtain ⟨y1, hwy⟩ : ∃ u : World, u = w3.alloc (.cells #[.slice (some ⟨b0, o0, none⟩) m.store.length cap1, .int .i64 m.rule.lc, .int .i64 m.rule.hc, .int .i64 m.rule.lm, .int .i64 m.rule.hm, .int .i64 m.rule.ls, .int .i64 m.rule.hs, .int .i64 m.strand, .slice ao2 m.pieces.length cap2, .slice ao3 m.low.length cap3, .slice ao4 m.high.length cap4, .int .i64 m.scrap] 31) := ⟨_, rfl⟩
    rw [← hwy]
    have X_y1 : RowL y1 (w3.heap.size) 31 [.slice (some ⟨b0, o0, none⟩) m.store.length cap1, .int .i64 m.rule.lc, .int .i64 m.rule.hc, .int .i64 m.rule.lm, .int .i64 m.rule.hm, .int .i64 m.rule.ls, .int .i64 m.rule.hs, .int .i64 m.strand, .slice ao2 m.pieces.length cap2, .slice ao3 m.low.length cap3, .slice ao4 m.high.length cap4, .int .i64 m.scrap] := by rw [hwy]; exact RowL.new _ _ _
    have hb : Below w3.heap.size w3 y1 := by rw [hwy]; go_grown
    clear hwy
    have VU_3 := hide VV_3.out.all
    have M_y1 := M_3.below hb M_3.lt
    have VV_y1 := hide (VV_3.out.below hb)
    have VU_y1 := hide (VU_3.out.below hb)
    have B_y1 := hide (Below.step B_3.out hb (Nat.le_refl _))
    have hzy1 := hb.size
    have hXl := X_y1.lt
    clear hb
    have cM0 : y1.cell? ⟨w1.heap.size, 0, none⟩ = some (.slice (some ⟨b0, o0, none⟩) m.store.length cap1) := M_y1.cell 0 (by simp)
    have hlM1 := M_y1.lt
    go_wp2_with (at_builtin; refine wpList_append_view rfl _ _ 23 rfl y1.heap.size 65 i0 _ 5 40 Tryz.underlying23 hi0 hy0 hi1 hi2 rfl (by decide) _ _ _ rfl (World.ownsRow_made y1 #[] 0 (Nat.le_refl _) (Nat.zero_le _) rfl) (.slice (some ⟨b0, o0, none⟩) m.store.length cap1) m.store.length (flatS m.store) rfl ?c0 ?c1 ?c2 ?c3 ?_)
    case c0 => exact (VV_y1.out.all.store).source.below ((Below.refl _ _).alloc (Nat.le_refl _) _) (Nat.le_refl _)
    case c1 => unfold maxLen; omega
    case c2 => omega
    case c3 => simp
    intro v2 w4 hown2 hgrow2 _
    have hb : Below y1.heap.size y1 w4 := ((Below.refl y1.heap.size y1).alloc (Nat.le_refl _) (.cells #[] 65)).trans (Below.grow hgrow2 (World.ownsRow_made (size := 5) y1 #[] 0 (Nat.le_refl _) (Nat.zero_le _) rfl) (Nat.le_refl _) (by simp))
    have HO := hide (show w4.ownsRow y1.heap.size 65 5 v2 m.store.length (flatS m.store) by simpa using hown2)
    obtain ⟨g, cg, rfl, hfz⟩ : ∃ g cg, v2 = .slice (some ⟨g, 0, none⟩) m.store.length cg ∧ ∀ j, w4.frozen? ⟨g, j, none⟩ = false := by
      have h := HO.out
      rcases id h.2 with ⟨e, h0⟩ | ⟨g, cap', cur, e, -⟩
      · omega
      · refine ⟨g, cap', e, fun j => ?_⟩
        rw [e] at h
        exact h.frozenAt j
    have hgl := HO.out.lt g rfl
    have hst4 := ownSt_at HO.out rfl hb.size
    obtain ⟨b4, o4, c4, e4, -, -, -, -, -, -, r4⟩ := st_at hst4 hl
    simp only [Value.slice.injEq, Option.some.injEq, Addr.mk.injEq, true_and] at e4
    obtain ⟨⟨rfl, rfl, -⟩, rfl⟩ := e4
    rw [hk0] at r4
    have hf4 := hfz (0 * 5 + 4)
    clear hown2 hgrow2 hst4 hfz
    clear cM0
    clear hlM1
    have M_w4 := M_y1.below hb M_y1.lt
    have X_w4 := X_y1.below hb X_y1.lt
    have VV_w4 := hide (VV_y1.out.below hb)
    have VU_w4 := hide (VU_y1.out.below hb)
    have B_w4 := hide (Below.step B_y1.out hb (Nat.le_refl _))
    have hzw4 := hb.size
    clear hb
    have cX0 : w4.cell? ⟨w3.heap.size, 0, none⟩ = some (.slice (some ⟨b0, o0, none⟩) m.store.length cap1) := X_w4.cell 0 (by simp)
    have fX0 : w4.frozen? ⟨w3.heap.size, 0, none⟩ = false := X_w4.frozen 0
    go_wp2_with fail
    obtain ⟨y2, hwy⟩ : ∃ u : World, u = w4.setCell ⟨w3.heap.size, 0, none⟩ (.slice (some ⟨g, 0, none⟩) m.store.length cg) := ⟨_, rfl⟩
    rw [← hwy]
    have T : Other (w3.heap.size) (w3.heap.size + 1) w4 y2 := by rw [hwy]; exact Other.setCell (p := ⟨w3.heap.size, 0, none⟩) (Other.refl _ _ _) (Nat.le_refl _) (Nat.lt_succ_self _) _
    have X_y2 : RowL y2 (w3.heap.size) 31 [.slice (some ⟨g, 0, none⟩) m.store.length cg, .int .i64 m.rule.lc, .int .i64 m.rule.hc, .int .i64 m.rule.lm, .int .i64 m.rule.hm, .int .i64 m.rule.ls, .int .i64 m.rule.hs, .int .i64 m.strand, .slice ao2 m.pieces.length cap2, .slice ao3 m.low.length cap3, .slice ao4 m.high.length cap4, .int .i64 m.scrap] := by rw [hwy]; exact X_w4.set 0 _ (by simp)
    have M_y2 := M_w4.other T (by omega)
    have VV_y2 := hide (VV_w4.out.past X_w4 T)
    have VU_y2 := hide (VU_w4.out.other T (by omega))
    have HO2 := hide (ownsRow_other HO.out T (fun k hk => by have : g = k := Option.some.inj hk; omega))
    have B_y2 := hide (B_w4.out.trans (T.below (B := w.heap.size) (by omega) (by omega)))
    have r4b : y2.cell? ⟨g, 0 + 0 * 5 + 4, none⟩ = some (.int .i64 k0) := by rw [World.cell?_of_block (T.block g hgl.2 (by omega))]; exact r4
    have f4b : y2.frozen? ⟨g, 0 * 5 + 4, none⟩ = false := by
      have h := HO2.out
      exact h.frozenAt _
    have hzy2 := T.size
    clear hwy T r4 hf4
    clear cX0 fX0
    have cX0 : y2.cell? ⟨w3.heap.size, 0, none⟩ = some (.slice (some ⟨g, 0, none⟩) m.store.length cg) := X_y2.cell 0 (by simp)
    have hput := own_put HO2.out (g := g) (j := 0 * 5 + 4) rfl (.int .i64 (k0 + 1))
    rw [hset0.out] at hput
    have HP := hide hput
    clear hput
    simp only [Nat.zero_mul, Nat.zero_add] at r4b f4b HP
    go_still_tail 10, (by kernel_rfl)
    change wpList _ _ _ _ _ (World.drew _)
    go_upto_region 13 with fail
    obtain ⟨y3, hwy⟩ : ∃ u : World, u = (y2.setCell ⟨g, 4, none⟩ (.int .i64 (k0 + 1))).drew := ⟨_, rfl⟩
    rw [← hwy]
    have T : Other g (g + 1) y2 y3 := by rw [hwy]; exact Other.drew HP.out.2
    have own3 : y3.ownsRow y1.heap.size 65 5 (.slice (some ⟨g, 0, none⟩) m.store.length cg) (moreSt m.store).length (flatS (moreSt m.store)) := by rw [hwy, moreSt_len]; exact HP.out.1
    have X_y3 := X_y2.other T (by omega)
    have M_y3 := M_y2.other T (by omega)
    have VU_y3 := hide (VU_y2.out.other T (by omega))
    have B_y3 := hide (B_y2.out.trans (T.below (B := w.heap.size) (by omega) (by omega)))
    have hzy3 := T.size
    have hsx := (ownSt_at own3 rfl (by omega)).mono (Nat.zero_le _) (Nat.le_refl _) (Nat.le_refl _)
    have hlen5 := moreSt_len m.store
    have KX := mass_impl (.slice (some ⟨g, 0, none⟩) m.store.length cg) (.slice ao2 m.pieces.length cap2) (.slice ao3 m.low.length cap3) (.slice ao4 m.high.length cap4) { m with store := moreSt m.store } y3 ⟨hsx, VU_y3.out.pieces.mono (Nat.zero_le _) (by omega) (Nat.le_refl _), VU_y3.out.low.mono (Nat.zero_le _) (by omega) (Nat.le_refl _), VU_y3.out.high.mono (Nat.zero_le _) (by omega) (Nat.le_refl _)⟩
    rw [hmore.out, hq0] at KX
    have hqx : ((q + 4) != (q + 4)) = false := by simp
    clear hwy T own3 r4b f4b hsx
    clear cX0
    have cX0 : y3.cell? ⟨w3.heap.size, 0, none⟩ = some (.slice (some ⟨g, 0, none⟩) m.store.length cg) := X_y3.cell 0 (by simp)
    have cX1 : y3.cell? ⟨w3.heap.size, 1, none⟩ = some (.int .i64 m.rule.lc) := X_y3.cell 1 (by simp)
    have cX2 : y3.cell? ⟨w3.heap.size, 2, none⟩ = some (.int .i64 m.rule.hc) := X_y3.cell 2 (by simp)
    have cX3 : y3.cell? ⟨w3.heap.size, 3, none⟩ = some (.int .i64 m.rule.lm) := X_y3.cell 3 (by simp)
    have cX4 : y3.cell? ⟨w3.heap.size, 4, none⟩ = some (.int .i64 m.rule.hm) := X_y3.cell 4 (by simp)
    have cX5 : y3.cell? ⟨w3.heap.size, 5, none⟩ = some (.int .i64 m.rule.ls) := X_y3.cell 5 (by simp)
    have cX6 : y3.cell? ⟨w3.heap.size, 6, none⟩ = some (.int .i64 m.rule.hs) := X_y3.cell 6 (by simp)
    have cX7 : y3.cell? ⟨w3.heap.size, 7, none⟩ = some (.int .i64 m.strand) := X_y3.cell 7 (by simp)
    have cX8 : y3.cell? ⟨w3.heap.size, 8, none⟩ = some (.slice ao2 m.pieces.length cap2) := X_y3.cell 8 (by simp)
    have cX9 : y3.cell? ⟨w3.heap.size, 9, none⟩ = some (.slice ao3 m.low.length cap3) := X_y3.cell 9 (by simp)
    have cX10 : y3.cell? ⟨w3.heap.size, 10, none⟩ = some (.slice ao4 m.high.length cap4) := X_y3.cell 10 (by simp)
    have cX11 : y3.cell? ⟨w3.heap.size, 11, none⟩ = some (.int .i64 m.scrap) := X_y3.cell 11 (by simp)
    unfold millV at KX
    go_wp2_with fail
    refine (KX).mono ?_
    rintro e w4 ⟨rfl, hb⟩
    have M_4 := M_y3.below hb M_y3.lt
    have X_4 := X_y3.below hb X_y3.lt
    have VU_4 := hide (VU_y3.out.below hb)
    have B_4 := hide (Below.step B_y3.out hb (Nat.le_refl _))
    have hz4 := hb.size
    clear hb
    have cM7 : w4.cell? ⟨w1.heap.size, 7, none⟩ = some (.int .i64 m.strand) := M_4.cell 7 (by simp)
    have cM11 : w4.cell? ⟨w1.heap.size, 11, none⟩ = some (.int .i64 m.scrap) := M_4.cell 11 (by simp)
    go_wp2_with fail
    go_ret
    exact ⟨rfl, B_4.out⟩
end Go.Proofs.YtmemgbklgcjobaaGreatDoor
