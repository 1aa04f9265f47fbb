/-
  The walk over ClearDeeds: the program's.
-/
import Derived.Test.YtaifajhojhekjaaMillD
import Derived.Test.YtaifajhojhekjaaDeedOwn
namespace Go.Proofs.Ytaifajhojhekjaa
open Go.RowKit

set_option maxRecDepth 10000 in
set_option maxHeartbeats 3200000 in
theorem clear_impl (s p l h : Value) (m : Mi) (w : World) (H : MillIn 0 w.heap.size w s p l h m) :
    Calls Try.prog 21 #[millV s p l h m] w (DeedsNew w.heap.size (clearR m) w) := by
  obtain ⟨ao1, cap1, rfl, -, -, -, -⟩ := id H.store
  obtain ⟨ao2, cap2, rfl, -, -, -, -⟩ := id H.pieces
  obtain ⟨ao3, cap3, rfl, -, -, -, -⟩ := id H.low
  obtain ⟨ao4, cap4, rfl, -, -, -, -⟩ := id H.high
  have hpl := H.pieces.len
  obtain ⟨j0, hj0, hzj, hj1, hj2⟩ := info_parts info_J
  unfold millV
  go_enter Try.func21, Try.ntmps21
  go_wp2_with fail
  refine calls_at fun wx hwx => ?_
  have A_0 : RowL wx (w.heap.size) 38 [.slice ao1 m.store.length cap1, .int .i64 m.rule.lc, .int .i64 m.rule.hc, .int .i64 m.rule.lm, .int .i64 m.rule.hm, .int .i64 m.rule.ls, .int .i64 m.rule.hs, .int .i64 m.strand, .slice ao2 m.pieces.length cap2, .slice ao3 m.low.length cap3, .slice ao4 m.high.length cap4, .int .i64 m.scrap] := by rw [hwx]; exact (RowL.new _ 38 [.slice ao1 m.store.length cap1, .int .i64 m.rule.lc, .int .i64 m.rule.hc, .int .i64 m.rule.lm, .int .i64 m.rule.hm, .int .i64 m.rule.ls, .int .i64 m.rule.hs, .int .i64 m.strand, .slice ao2 m.pieces.length cap2, .slice ao3 m.low.length cap3, .slice ao4 m.high.length cap4, .int .i64 m.scrap])
  have B_0 : Below w.heap.size w wx := by rw [hwx]; go_grown
  clear hwx
  have hL0 := A_0.lt
  have VV_0 := hide (H.below B_0)
  have KV := mill_impl _ _ _ _ m wx VV_0.out.all
  cases hv : millB m with
  | false =>
    rw [hv] at KV
    refine KV.mono ?_
    rintro e w1 ⟨rfl, hb⟩
    have HB := hide (Below.step B_0 hb (Nat.le_refl _))
    have HF := hide (show clearR m = [] by simp [clearR, hv])
    clear hb KV hv
    go_wp2_with fail
    go_ret
    exact ⟨_, rfl, by rw [HF.out]; exact World.ownsRow_nil _ _ _ _, HB.out⟩
  | true =>
    rw [hv] at KV
    have HF := hide (show clearR m = (nz (m.high ++ m.low)).map shipJ ++ (idsIn m.pieces 0).flatMap slabJ by simp [clearR, hv])
    have MV := millB_iff.1 hv
    have h5 := MV.len
    have q1 := MV.pile.l1
    have q2 := MV.pile.l6
    have q3 := MV.pile.lh
    clear MV hv
    refine (KV).mono ?_
    rintro e w1 ⟨rfl, hb⟩
    have A_1 := A_0.below hb A_0.lt
    have VV_1 := hide (VV_0.out.below hb)
    have B_1 := hide (Below.step B_0 hb (Nat.le_refl _))
    have hz1 := hb.size
    clear hb
    have cA9 : w1.cell? ⟨w.heap.size, 9, none⟩ = some (.slice ao3 m.low.length cap3) := A_1.cell 9 (by simp)
    have cA10 : w1.cell? ⟨w.heap.size, 10, none⟩ = some (.slice ao4 m.high.length cap4) := A_1.cell 10 (by simp)
    clear KV
    have hzw := B_1.out.size
    go_wp2_with fail
    refine calls_at fun y hwy => ?_
    have R2 : RowL y w1.heap.size 26 [.slice ao4 m.high.length cap4, .slice ao3 m.low.length cap3] := by rw [hwy]; exact RowL.new _ _ _
    have hby : Below w1.heap.size w1 y := by rw [hwy]; go_grown
    clear hwy cA9 cA10
    have A_y := A_1.below hby A_1.lt
    have VV_y := hide (VV_1.out.below hby)
    have B_y := hide (Below.step B_1.out hby (Nat.le_refl _))
    have hLy := A_y.lt
    refine (concat_any _ _ _ _ m.high m.low y R2 VV_y.out.all.high VV_y.out.all.low (by omega) (by omega)).mono ?_
    rintro e w2 ⟨v, rfl, hown, hb2⟩
    have hat := ownI_at hown rfl hb2.size
    have A_2 := A_y.below hb2 hLy
    have VV_2 := hide (VV_y.out.below hb2)
    have B_2 := hide (Below.step B_y.out hb2 (Nat.le_refl _))
    have hL2 := A_2.lt
    have hzw2 := B_2.out.size
    obtain ⟨ids, hids⟩ : ∃ ids, m.high ++ m.low = ids := ⟨_, rfl⟩
    have hil : ids.length = m.high.length + m.low.length := by rw [← hids]; simp
    rw [hids] at hat hown HF
    have hl3 : ids.length ≤ 20 := by omega
    have HAT := hide hat
    obtain ⟨aov, capv, rfl, -, -⟩ := own_slice hown
    clear hown hb2 hids hat hil hby
    obtain ⟨aov', capv', e', -, -, -, hcv⟩ := HAT.out
    simp only [Value.slice.injEq] at e'
    obtain ⟨rfl, -, rfl⟩ := e'
    have HCV := hide hcv
    clear hcv
    go_wp2_with fail
    go_loopw [3, 5, 20] (fun o _ i wr => ∃ k : Nat, k ≤ ids.length ∧ i = .int .i64 k ∧ Below w2.heap.size w2 wr ∧ wr.ownsRow w2.heap.size 77 3 o ((nz (ids.take k)).map shipJ).length (flatD ((nz (ids.take k)).map shipJ))) (fun _ _ i _ => ids.length - (intOf i).toNat)
    case atStart => exact ⟨0, Nat.zero_le _, rfl, Below.refl _ _, World.ownsRow_nil _ _ _ _⟩
    case round =>
      obtain ⟨k, hk, rfl, hb, hown⟩ := hrel
      have HB := hide hb
      have HO := hide hown
      have hnl := nz_len (ids.take k)
      have htk : (ids.take k).length ≤ k := List.length_take_le _ _
      have hszr := hb.size
      obtain ⟨aow, capw, rfl, -, -⟩ := own_slice hown
      have A_r := A_2.below hb hL2
      have cA8 : wr.cell? ⟨w.heap.size, 8, none⟩ = some (.slice ao2 m.pieces.length cap2) := A_r.cell 8 (by simp)
      have HAr := hide A_r
      clear hown A_r
      by_cases hlt : k < ids.length
      · obtain ⟨b, o, rfl, hx1, hx2, hcs⟩ := HCV.out (by omega)
        obtain ⟨r1, -⟩ := hcs k hlt
        rw [← hb.cell (p := ⟨b, _, none⟩) (by simpa using by omega)] at r1
        have HN := hide (nz_take hlt)
        obtain ⟨x, hx⟩ : ∃ x, ids[k] = x := ⟨_, rfl⟩
        rw [hx] at r1 HN
        have hkI : (k : Int) < (ids.length : Int) := by omega
        clear hcs hx hb
        obtain ⟨D, hD⟩ : ∃ D, (nz (ids.take k)).map shipJ = D := ⟨_, rfl⟩
        have hDl : D.length ≤ 20 := by rw [← hD]; simp; omega
        rw [hD] at HO ⊢
        by_cases hq : x = 0
        · have hqB : (x != 0) = false := by simp [hq]
          have HN2 := hide (show (nz (ids.take (k + 1))).map shipJ = D by rw [HN.out, if_pos hq, hD])
          clear hq hD
          go_wp2_with fail
          go_roundw
          case rel => exact ⟨k + 1, by omega, by go_num, HB.out, by rw [HN2.out]; exact HO.out⟩
          case measure => simp [intOf]; omega
        · have hqB : (x != 0) = true := by simp [hq]
          have HN2 := hide (show (nz (ids.take (k + 1))).map shipJ = D ++ [shipJ x] by rw [HN.out, if_neg hq, List.map_append, hD]; rfl)
          clear hq hD
          go_wp2_with (at_builtin; refine wpList_append_view rfl _ _ 48 rfl w2.heap.size 77 j0 _ 3 24 Try.underlying48 hj0 hzj hj1 hj2 rfl (by decide) _ _ _ rfl (HO.out.alloc _) (.slice (some ⟨wr.heap.size, 0, none⟩) 1 1) 1 [.int .i64 4, .int .i64 x, .int .i64 0] rfl ?c0 ?c1 ?c2 ?c3 ?_)
          case c0 => exact Source.lit wr [.int .i64 4, .int .i64 x, .int .i64 0] 3 77 1 rfl (fun u hu => by simp at hu; rcases hu with rfl | rfl | rfl <;> rfl) 1
          case c1 => unfold maxLen; omega
          case c2 => omega
          case c3 => simp; omega
          intro v2 w3 hown2 hgrow2 _
          have hB3 := (HB.out.alloc hszr (.cells #[.int .i64 4, .int .i64 x, .int .i64 0] 77)).trans (Below.grow hgrow2 (HO.out.alloc _) (Nat.le_refl _) (by simp; omega))
          have HB3 := hide hB3
          have HO3 := hide (show w3.ownsRow w2.heap.size 77 3 v2 ((nz (ids.take (k + 1))).map shipJ).length (flatD ((nz (ids.take (k + 1))).map shipJ)) by rw [HN2.out, flatD_append, List.length_append]; exact hown2)
          clear hown2 hgrow2 hB3
          go_wp2_with fail
          go_roundw
          case rel => exact ⟨k + 1, by omega, by go_num, HB3.out, HO3.out⟩
          case measure => simp [intOf]; omega
      · obtain rfl : k = ids.length := by omega
        rw [List.take_of_length_le (Nat.le_refl _)] at HO hnl ⊢
        have HBO := hide (Below.step B_2.out hb (Nat.le_refl _))
        have VO := hide (VV_2.out.below hb)
        clear hb
        obtain ⟨D1, hD1⟩ : ∃ D, (nz ids).map shipJ = D := ⟨_, rfl⟩
        have hDl : D1.length ≤ 20 := by rw [← hD1]; simp; omega
        rw [hD1] at HO HF ⊢
        clear hD1
        obtain ⟨wo, rfl⟩ : ∃ wo : World, wo = wr := ⟨_, rfl⟩
        go_wp2_with fail
        refine (idsIn_any _ m.pieces 0 _ _ wo VO.out.pieces (by omega)).mono ?_
        rintro e w5 ⟨v5, rfl, hown5, hb5⟩
        obtain ⟨zs, hzs⟩ : ∃ zs, idsIn m.pieces 0 = zs := ⟨_, rfl⟩
        have hzl : zs.length ≤ 30 := by rw [← hzs]; exact Nat.le_trans (idsTo_len m.pieces 0 m.pieces.length) h5
        rw [hzs] at hown5 HF
        have HI5 := hide hown5
        have HO5 := hide (ownsRow_below HO.out hb5 (Nat.le_refl _))
        have HAP := hide (apart_new HO.out hown5 (Nat.le_refl _))
        have HB5 := hide (Below.step HBO.out hb5 (Nat.le_refl _))
        have hz5 := hb5.size
        obtain ⟨ao5, cap5, rfl, -, -⟩ := own_slice hown5
        clear hown5 hb5 hzs cA8
        go_wp2_with fail
        go_loopw [3, 7, 36] (fun o _ i wr => ∃ k : Nat, k ≤ zs.length ∧ i = .int .i64 k ∧ Below w2.heap.size w5 wr ∧ wr.ownsRow w2.heap.size 77 3 o (D1 ++ (zs.take k).flatMap slabJ).length (flatD (D1 ++ (zs.take k).flatMap slabJ)) ∧ wr.ownsRow wo.heap.size 3 1 (.slice ao5 zs.length cap5) zs.length (flatI zs) ∧ Apart o (.slice ao5 zs.length cap5)) (fun _ _ i _ => zs.length - (intOf i).toNat)
        case atStart => exact ⟨0, Nat.zero_le _, rfl, Below.refl _ _, by simpa using HO5.out, HI5.out, HAP.out⟩
        case round =>
          obtain ⟨k, hk, rfl, hb, hown, hids, hap⟩ := hrel
          have HB := hide hb
          have HO := hide hown
          have HI := hide hids
          have HA := hide hap
          have hszr := hb.size
          obtain ⟨aow, capw, rfl, -, -⟩ := own_slice hown
          clear hown hap
          obtain ⟨_, _, e1, -, -, -, hcl⟩ := ownI_at hids rfl (by omega)
          simp only [Value.slice.injEq] at e1
          obtain ⟨rfl, -, rfl⟩ := e1
          clear hids hb
          obtain ⟨D, hD⟩ : ∃ D, D1 ++ (zs.take k).flatMap slabJ = D := ⟨_, rfl⟩
          have hDl : D.length ≤ 80 := by
            rw [← hD, List.length_append, flat_len]
            have := List.length_take_le k zs
            omega
          rw [hD] at HO HA ⊢
          by_cases hlt : k < zs.length
          · obtain ⟨b, o, rfl, hx1, hx2, hcs⟩ := hcl (by omega)
            obtain ⟨r1, -⟩ := hcs k hlt
            obtain ⟨x, hx⟩ : ∃ x, zs[k] = x := ⟨_, rfl⟩
            rw [hx] at r1
            have hkI : (k : Int) < (zs.length : Int) := by omega
            have HN2 := hide (show D1 ++ (zs.take (k + 1)).flatMap slabJ = D ++ slabJ x by rw [slab_take hlt, hx, ← List.append_assoc, hD])
            clear hcs hx hD hcl
            go_wp2_with (at_builtin; refine wpList_append_view rfl _ _ 48 rfl w2.heap.size 77 j0 _ 3 24 Try.underlying48 hj0 hzj hj1 hj2 rfl (by decide) _ _ _ rfl (HO.out.alloc _) (.slice (some ⟨wr.heap.size, 0, none⟩) 2 2) 2 [.int .i64 2, .int .i64 x, .int .i64 0, .int .i64 4, .int .i64 x, .int .i64 0] rfl ?c0 ?c1 ?c2 ?c3 ?_)
            case c0 => exact Source.lit wr [.int .i64 2, .int .i64 x, .int .i64 0, .int .i64 4, .int .i64 x, .int .i64 0] 3 77 2 rfl (fun u hu => by simp at hu; rcases hu with rfl | rfl | rfl | rfl | rfl | rfl <;> rfl) 2
            case c1 => unfold maxLen; omega
            case c2 => omega
            case c3 => simp; omega
            intro v2 w3 hown2 hgrow2 h4
            have hB3 := (HB.out.alloc (by omega) (.cells #[.int .i64 2, .int .i64 x, .int .i64 0, .int .i64 4, .int .i64 x, .int .i64 0] 77)).trans (Below.grow hgrow2 (HO.out.alloc _) (Nat.le_refl _) (by simp; omega))
            have HB3 := hide hB3
            have HI3 := hide (ownsRow_apart (HI.out.alloc _) hgrow2 HA.out)
            have HA3 := hide (HA.out.grow (HI.out.alloc (.cells #[.int .i64 2, .int .i64 x, .int .i64 0, .int .i64 4, .int .i64 x, .int .i64 0] 77)) (by simpa using h4))
            have HO3 := hide (show w3.ownsRow w2.heap.size 77 3 v2 (D1 ++ (zs.take (k + 1)).flatMap slabJ).length (flatD (D1 ++ (zs.take (k + 1)).flatMap slabJ)) by rw [HN2.out, flatD_append, List.length_append]; exact hown2)
            clear hown2 hgrow2 hB3 h4
            go_wp2_with fail
            go_roundw
            case rel => exact ⟨k + 1, by omega, by go_num, HB3.out, HO3.out, HI3.out, HA3.out⟩
            case measure => simp [intOf]; omega
          · obtain rfl : k = zs.length := by omega
            have HR := hide (show clearR m = D by rw [HF.out, ← hD, List.take_of_length_le (Nat.le_refl _)])
            have HO4 := hide (ownsRow_mono HO.out hzw2)
            have HB4 := hide (HB5.out.trans (HB.out.mono hzw2))
            clear hcl hD
            go_wp2_with fail
            go_ret
            exact ⟨_, rfl, by rw [HR.out]; exact HO4.out, HB4.out⟩
end Go.Proofs.Ytaifajhojhekjaa
