/-
  The walk over the program's CoilIds.
-/
import Derived.Test.YtbafifilklfafaaDoorPileE
namespace Go.Proofs.YtbafifilklfafaaDoor
open Go.RowKit

theorem sort_any (base : Nat) (v : Value) (xs : List Int) (w : World) (h : w.ownsRow base 3 1 v xs.length (flatI xs)) (hl : xs.length ≤ 1000) (hb : base ≤ w.heap.size) :
    Calls Tryd.prog 100 #[v] w fun e w' => e = .returned (.tuple #[]) ∧ ∃ ys : List Int, ys.Perm xs ∧ ys.Pairwise (· ≤ ·) ∧ ys.length = xs.length ∧ w'.ownsRow base 3 1 v ys.length (flatI ys) ∧ Below base w w' := by
  rcases id h.2 with ⟨rfl, h0⟩ | ⟨g, cap, cur, rfl, hbg, hg, h1, h2, h3, h4⟩
  · obtain rfl : xs = [] := List.eq_nil_of_length_eq_zero h0
    exact (Tryd.slices_Sort_int_none none 0 w).mono fun e w' ⟨he, hw⟩ => ⟨he, [], List.Perm.refl _, List.Pairwise.nil, rfl, by rw [hw]; exact h, by rw [hw]; exact Below.refl _ _⟩
  · have hlt := (Array.getElem?_eq_some_iff.1 hg).1
    refine (Tryd.slices_Sort_int g 0 cap xs w (holds_of_blockI hg (by rw [Nat.mul_one] at h4; exact h4)) hlt (by omega)).mono ?_
    rintro e w' ⟨he, n, os, rfl⟩
    have hp := List.mergeSort_perm xs fun x y => decide (x ≤ y)
    have hlen := hp.length_eq
    refine ⟨he, _, hp, ?_, hlen, ?_, ?_⟩
    · have := List.pairwise_mergeSort (le := fun x y : Int => decide (x ≤ y)) (fun a b c h1 h2 => by simp at *; omega) (fun a b => by simp; omega) xs
      exact this.imp fun h => by simpa using h
    · rw [hlen]
      have := ownsRow_sortedI (os := os) (n := n) (w := w) hlen hbg hg h1 h2 h3
      exact this
    · exact (Below.refl _ _).grown (grownBy_sortedI _) hb fun k hk => by simp at hk; omega

theorem nz_take {xs : List Int} {k : Nat} (hk : k < xs.length) : nz (xs.take (k + 1)) = if xs[k] = 0 then nz (xs.take k) else nz (xs.take k) ++ [xs[k]] := by
  rw [List.take_succ_eq_append_getElem hk, nz_app]
  split
  · rename_i h; simp [nz, h]
  · rename_i h; simp [nz, h]
theorem nz_len (l : List Int) : (nz l).length ≤ l.length := List.length_filter_le _ _
set_option linter.unusedSimpArgs false in
set_option maxRecDepth 10000 in
set_option maxHeartbeats 1600000 in
theorem coils_impl (l h : Value) (lo hi : List Int) (w : World) (Hl : IntsAt 0 w.heap.size w l lo) (Hh : IntsAt 0 w.heap.size w h hi) :
    Calls Tryd.prog 82 #[pileV l h] w (IntsNew w.heap.size (coilR lo hi) w) := by
  have HL := hide Hl
  have HH := hide Hh
  obtain ⟨ao1, cap1, rfl, -, -, -, -⟩ := Hl
  obtain ⟨ao2, cap2, rfl, -, -, -, -⟩ := Hh
  have hP := fun W H1 H2 => pile_impl (.slice ao1 lo.length cap1) (.slice ao2 hi.length cap2) lo hi W H1 H2
  unfold pileV at hP ⊢
  have HP := hide hP
  obtain ⟨i0, hi0, hz0, hi1, hi2⟩ := info_parts info_int
  clear hP
  go_enter Tryd.func82, Tryd.ntmps82
  go_wp2_with fail
  refine calls_at fun wx hwx => ?_
  have R0 : RowL wx w.heap.size 50 [.slice ao1 lo.length cap1, .slice ao2 hi.length cap2] := by rw [hwx]; exact RowL.new _ _ _
  have hb0 : Below w.heap.size w wx := by rw [hwx]; go_grown
  clear hwx
  refine (HP.out wx ((HL.out.below hb0).mono (Nat.le_refl _) hb0.size (Nat.le_refl _)) ((HH.out.below hb0).mono (Nat.le_refl _) hb0.size (Nat.le_refl _))).mono ?_
  cases hv : pileB lo hi with
  | false =>
    rintro e w1 ⟨rfl, hb1⟩
    have HB1 := hide (Below.step hb0 hb1 (Nat.le_refl _))
    have HF := hide (show coilR lo hi = [] by simp [coilR, hv])
    clear hb1 hv
    go_wp2_with fail
    go_ret
    exact ⟨_, rfl, by rw [HF.out]; exact World.ownsRow_nil _ _ _ _, HB1.out⟩
  | true =>
    rintro e w1 ⟨rfl, hb1⟩
    have HV := hide (pileB_iff.1 hv)
    have HB1 := hide (Below.step hb0 hb1 (Nat.le_refl _))
    have R1 := R0.below hb1 R0.lt
    have hp0 := R1.cell 0 (by simp)
    have hp1 := R1.cell 1 (by simp)
    simp only [List.getD_cons_zero, List.getD_cons_succ] at hp0 hp1
    have q1 := HV.out.l1
    have q2 := HV.out.l6
    have q3 := HV.out.lh
    have hz0' := R1.lt
    clear hb1 hv
    go_wp2_with fail
    refine calls_at fun wy hwy => ?_
    have R2 : RowL wy w1.heap.size 40 [.slice ao1 lo.length cap1, .slice ao2 hi.length cap2] := by rw [hwy]; exact RowL.new _ _ _
    have hby : Below w1.heap.size w1 wy := by rw [hwy]; go_grown
    clear hwy hp0 hp1
    have hBy := Below.step HB1.out hby (Nat.le_refl _)
    refine (concat_any _ _ _ _ lo hi _ R2 ((HL.out.below hBy).mono (Nat.le_refl _) hBy.size (Nat.le_refl _)) ((HH.out.below hBy).mono (Nat.le_refl _) hBy.size (Nat.le_refl _)) (by omega) (by omega)).mono ?_
    rintro e w2 ⟨v, rfl, hown, hb2⟩
    have hat := ownI_at hown rfl hb2.size
    obtain ⟨ids, hids⟩ : ∃ ids, lo ++ hi = ids := ⟨_, rfl⟩
    have hil : ids.length = lo.length + hi.length := by rw [← hids]; simp
    rw [hids] at hat hown
    have HIDS := hide hids
    have HAT := hide hat
    have HB2 := hide (Below.step hBy hb2 (Nat.le_refl _))
    obtain ⟨aov, capv, rfl, -, -⟩ := own_slice hown
    have hl3 : ids.length ≤ 20 := by omega
    clear hown hb2 hids hat hil
    obtain ⟨aov', capv', e', -, -, -, hcv⟩ := HAT.out
    simp only [Value.slice.injEq] at e'
    obtain ⟨rfl, -, rfl⟩ := e'
    have HCV := hide hcv
    have hsz2 := HB2.out.size
    clear hcv
    go_wp2_with fail
    go_loopw [3, 5, 16] (fun o _ i wr => ∃ k : Nat, k ≤ ids.length ∧ i = .int .i64 k ∧ Below w2.heap.size w2 wr ∧ wr.ownsRow w2.heap.size 3 1 o (nz (ids.take k)).length (flatI (nz (ids.take k)))) (fun _ _ i _ => ids.length - (intOf i).toNat)
    case atStart => exact ⟨0, Nat.zero_le _, rfl, Below.refl _ _, World.ownsRow_nil _ _ _ _⟩
    case round =>
      obtain ⟨k, hk, rfl, hb, hown⟩ := hrel
      have HB := hide hb
      have HO := hide hown
      have hnl := nz_len (ids.take k)
      have htk : (ids.take k).length ≤ k := List.length_take_le _ _
      have hszr := hb.size
      obtain ⟨aow, capw, rfl, -, -⟩ := own_slice hown
      clear hown
      by_cases hlt : k < ids.length
      · obtain ⟨b, o, rfl, hx1, hx2, hcs⟩ := HCV.out (by omega)
        obtain ⟨r1, -⟩ := hcs k hlt
        rw [← hb.cell (p := ⟨b, _, none⟩) (by simpa using by omega)] at r1
        have HN := hide (nz_take hlt)
        obtain ⟨x, hx⟩ : ∃ x, ids[k] = x := ⟨_, rfl⟩
        rw [hx] at r1 HN
        have hkI : (k : Int) < (ids.length : Int) := by omega
        clear hcs hx hb
        by_cases hq : x = 0
        · have hqB : (x != 0) = false := by simp [hq]
          have HN2 := hide (show nz (ids.take (k + 1)) = nz (ids.take k) by rw [HN.out, if_pos hq])
          clear hq
          go_wp2_with fail
          go_roundw
          case rel => exact ⟨k + 1, by omega, by go_num, HB.out, by rw [HN2.out]; exact HO.out⟩
          case measure => simp [intOf]; omega
        · have hqB : (x != 0) = true := by simp [hq]
          have HN2 := hide (show nz (ids.take (k + 1)) = nz (ids.take k) ++ [x] by rw [HN.out, if_neg hq])
          clear hq
          go_wp2_with (at_builtin; refine wpList_append_view rfl _ _ 40 rfl w2.heap.size 3 i0 (.int .i64 0) 1 8 Tryd.underlying40 hi0 hz0 hi1 hi2 rfl (by decide) _ _ _ rfl (HO.out.alloc _) (.slice (some ⟨wr.heap.size, 0, none⟩) 1 1) 1 [.int .i64 x] rfl ?c0 ?c1 ?c2 ?c3 ?_)
          case c0 => exact Source.lit wr [.int .i64 x] 1 3 1 rfl (fun u hu => by simp at hu; subst hu; rfl) 1
          case c1 => unfold maxLen; omega
          case c2 => omega
          case c3 => simp; omega
          intro v2 w3 hown2 hgrow2 _
          have hB3 := (HB.out.alloc hszr (.cells #[.int .i64 x] 3)).trans (Below.grow hgrow2 (HO.out.alloc _) (Nat.le_refl _) (by simp; omega))
          have HB3 := hide hB3
          have HO3 := hide (show w3.ownsRow w2.heap.size 3 1 v2 (nz (ids.take (k + 1))).length (flatI (nz (ids.take (k + 1)))) by rw [HN2.out]; simpa [flatI] using hown2)
          clear hown2 hgrow2 hB3
          go_wp2_with fail
          go_roundw
          case rel => exact ⟨k + 1, by omega, by go_num, HB3.out, HO3.out⟩
          case measure => simp [intOf]; omega
      · obtain rfl : k = ids.length := by omega
        rw [List.take_of_length_le (Nat.le_refl _)] at HO ⊢
        have HBr := hide (HB2.out.trans (HB.out.mono hsz2))
        clear hb
        go_wp2_with fail
        refine (sort_any w2.heap.size _ (nz ids) _ HO.out (by have := nz_len ids; omega) hszr).mono ?_
        rintro e w4 ⟨rfl, ys, hp, hs, hly, hown, hb4⟩
        have hc := coil_sorted HV.out (l := ys) (by rw [HIDS.out]; exact hp) hs
        rw [hly] at hown
        have HO4 := hide (show w4.ownsRow w.heap.size 3 1 (.slice aow (nz ids).length capw) (coilR lo hi).length (flatI (coilR lo hi)) by rw [← hc, hly]; exact ownsRow_mono hown hsz2)
        have HB4 := hide (HBr.out.trans (hb4.mono hsz2))
        clear hp hs hly hown hb4 hc
        go_wp2_with fail
        go_ret
        exact ⟨_, rfl, HO4.out, HB4.out⟩
end Go.Proofs.YtbafifilklfafaaDoor
