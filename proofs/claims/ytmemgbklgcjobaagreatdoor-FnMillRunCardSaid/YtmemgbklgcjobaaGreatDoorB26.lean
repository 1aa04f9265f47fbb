/-
  Parts of the proofs over mills, of: DrawMC, DoS0, DoSX. Conditions: each theorem states its own.
-/
import Derived.Test.YtmemgbklgcjobaaGreatDoorB21
import Derived.Test.YtmemgbklgcjobaaGreatDoorB24
import Derived.Test.YtmemgbklgcjobaaGreatDoorB25
set_option linter.unusedSimpArgs false
set_option linter.unusedVariables false
set_option maxRecDepth 10000
namespace Go.Proofs.YtmemgbklgcjobaaGreatDoor
open Go.RowKit
def MixGot (R k n : Nat) (w : World) (e : Ending) (w' : World) : Prop :=
  ∃ v mix, e = .returned v ∧ mix.length = n ∧ (∀ j, j < mix.length → 0 ≤ mix.getD j 0 ∧ mix.getD j 0 ≤ 9) ∧ w'.ownsRow w.heap.size 3 1 v mix.length (flatI mix) ∧ Other R (R + 1) w w' ∧ Rd R (k + 8) w'
theorem getD_snoc9 {mix : List Int} {x : Int} (h : ∀ j, j < mix.length → 0 ≤ mix.getD j 0 ∧ mix.getD j 0 ≤ 9) (h0 : 0 ≤ x) (h9 : x ≤ 9) : ∀ j, j < (mix ++ [x]).length → 0 ≤ (mix ++ [x]).getD j 0 ∧ (mix ++ [x]).getD j 0 ≤ 9 := by
  intro j hj
  rw [List.getD_eq_getElem?_getD, List.getElem?_append]
  split
  · rename_i hl
    have := h j hl
    rwa [List.getD_eq_getElem?_getD] at this
  · have e : j - mix.length = 0 := by simp at hj; omega
    rw [e]; simp [h0, h9]
set_option maxHeartbeats 800000 in
theorem l20Mix_any (R k lo hi : Nat) (sv : Value) (xs : List St) (w : World) (h : Rd R k w) (hk : k ≤ 50000) (Hs : StAt lo hi w sv xs) (hlo : R + 1 ≤ lo) (hst : stsB xs = true) :
    Calls Tryz.prog 129 #[.pointer (some ⟨R, 0, none⟩), sv, .int .i64 0] w (MixGot R k xs.length w) := by
  obtain ⟨i0, hi0, hz0, hi1, hi2⟩ := info_parts info_int
  have HR := hide h
  have hlt := h.lt
  have HS := hide Hs
  have HST := hide hst
  have hl4 := stsB_len hst
  obtain ⟨aos, caps, rfl, -, -, hhi, -⟩ := Hs
  clear h hst
  go_enter Tryz.func129, Tryz.ntmps129
  go_wp2_with fail
  have O_0 := hide (show (w.alloc (.cells #[] 3)).ownsRow w.heap.size 3 1 (.slice (some ⟨w.heap.size, 0, none⟩) 0 0) 0 [] by simpa using World.ownsRow_lit (e := 3) (size := 1) (base := w.heap.size) w #[] 0 (Nat.le_refl _) (by unfold maxLen; omega) (by simp))
  have HKO := hide (show ∀ (W W' : World) (u : Value) (m : Nat) (cs : List Value), W.ownsRow w.heap.size 3 1 u m cs → Other R (R + 1) W W' → W'.ownsRow w.heap.size 3 1 u m cs from fun _ _ _ _ _ h k => ownsRow_other h k fun g hg => .inr (Nat.lt_of_lt_of_le hlt (h.lt g hg).1))
  have hb0 : Below w.heap.size w (w.alloc (.cells #[] 3)) := (Below.refl _ _).alloc (Nat.le_refl _) _
  have HO0 := hide (Other.of_below (lo := R) (hi := R + 1) hb0)
  have HR0 := hide (HR.out.keep hb0 hlt)
  clear hb0
  go_loopw [7, 8] (fun o i wr => ∃ (mix : List Int), i = .int .i64 mix.length ∧ mix.length ≤ xs.length ∧ (∀ j, j < mix.length → 0 ≤ mix.getD j 0 ∧ mix.getD j 0 ≤ 9) ∧ Rd R (k + 2 * mix.length) wr ∧ Other R (R + 1) w wr ∧ wr.ownsRow w.heap.size 3 1 o mix.length (flatI mix)) (fun _ i _ => xs.length - (intOf i).toNat)
  case atStart => exact ⟨[], rfl, by simp, fun j hj => absurd hj (Nat.not_lt_zero _), HR0.out, HO0.out, O_0.out⟩
  case round =>
    obtain ⟨mix, rfl, hcl, hmx, hr, hb, hown⟩ := hrel
    have HB := hide hb
    have HO := hide hown
    have HR := hide hr
    have HM := hide hmx
    obtain ⟨aow, capw, rfl, -, -⟩ := own_slice hown
    clear hr hb hown hmx
    by_cases hc : mix.length < xs.length
    · have hcI : (mix.length : Int) < (xs.length : Int) := by omega
      have hsc := stB_iff.1 (stsB_getD HST.out hc)
      obtain ⟨b, o, cps, e1, -, -, -, -, -, -, r1⟩ := st_at (HS.out.other HB.out (.inr hlo)) hc
      simp only [Value.slice.injEq, true_and] at e1
      obtain ⟨rfl, rfl⟩ := e1
      obtain ⟨q, hq, hq0, hq9⟩ : ∃ q : Int, (xs.getD mix.length st0).k = q ∧ 0 ≤ q ∧ q ≤ 9 := ⟨_, rfl, hsc.2.2.2.2.1, hsc.2.2.2.2.2⟩
      rw [hq] at r1
      have hmax : max q 0 = q := by omega
      clear hq hsc
      go_wp2_with fail
      refine (pick_in R _ _ wr HR.out (by omega) (by omega) (by omega)).mono ?_
      rintro e w2 ⟨x, rfl, x0, x1, ho, hr⟩
      have HO2 := hide (HKO.out _ _ _ _ _ HO.out ho)
      have HB2 := hide (HB.out.trans ho)
      have HR2 := hide hr
      clear ho hr r1
      go_wp2_with fail
      refine (pick_in R _ 3 w2 HR2.out (by omega) (by omega) (by omega)).mono ?_
      rintro e w3 ⟨y, rfl, y0, y1, ho, hr⟩
      have HO3 := hide (HKO.out _ _ _ _ _ HO2.out ho)
      have HB3 := hide (HB2.out.trans ho)
      have HR3 := hide hr
      have hz3 := HB3.out.size
      clear ho hr
      obtain ⟨t, ht, ht0, ht9⟩ : ∃ t : Int, x.tdiv (1 + y) = t ∧ 0 ≤ t ∧ t ≤ 9 := by
        have hx9 : x ≤ 9 := by omega
        refine ⟨_, rfl, Int.tdiv_nonneg x0 (by omega), ?_⟩
        rw [Int.tdiv_eq_ediv_of_nonneg x0]
        exact Int.le_trans (Int.ediv_le_self _ x0) hx9
      have hy1 : ((1 + y) == 0) = false := by simp; omega
      go_wp2_with (at_builtin; refine wpList_append_view rfl _ _ 27 rfl w.heap.size 3 i0 _ 1 8 Tryz.underlying27 hi0 hz0 hi1 hi2 rfl (by decide) _ _ _ rfl (HO3.out.alloc _) (.slice (some ⟨w3.heap.size, 0, none⟩) 1 1) 1 (flatI [t]) rfl ?c0 ?c1 ?c2 ?c3 ?_)
      case c0 => exact Source.lit w3 (flatI [t]) 1 3 1 rfl (flatI_one _) 1
      case c1 => unfold maxLen; omega
      case c2 => omega
      case c3 => simp; omega
      intro v2 w4 hown2 hgrow2 _
      have hB4 : Below w.heap.size w3 w4 := ((Below.refl _ w3).alloc (by omega) (.cells (flatI [t]).toArray 3)).trans (Below.grow hgrow2 (HO3.out.alloc _) (Nat.le_refl _) (by simp; omega))
      have HB4 := hide (HB3.out.step hB4 (Nat.le_refl _))
      have HR4 := hide ((HR3.out.keep hB4 hlt).mono (m := k + 2 * (mix ++ [t]).length) (by simp; omega))
      have HO4 := hide (show w4.ownsRow w.heap.size 3 1 v2 (mix ++ [t]).length (flatI (mix ++ [t])) by rw [flatI_append, List.length_append]; exact hown2)
      have HM4 := hide (getD_snoc9 HM.out ht0 ht9)
      clear hown2 hgrow2 hB4 ht
      go_wp2_with fail
      go_roundw
      case rel => exact ⟨mix ++ [t], by rw [List.length_append]; go_num, by simp; omega, HM4.out, HR4.out, HB4.out, HO4.out⟩
      case measure => simp [intOf] <;> omega
    · go_wp2_with fail
      refine (odd_none R wr).mono ?_
      rintro e w3 ⟨rfl, hb⟩
      have HO3 := hide (ownsRow_below HO.out hb (Nat.le_refl _))
      have HB3 := hide (HB.out.step hb HB.out.size)
      have HR3 := hide (HR.out.keep hb HR.out.lt)
      clear hb
      go_wp2_with fail
      go_ret
      exact ⟨_, mix, rfl, by omega, HM.out, HO3.out, HB3.out, HR3.out.mono (by omega)⟩
set_option maxHeartbeats 16000000 in
theorem do_s0 (s p l h : Value) (m : Mi) (a b : Int) (w : World) (H : MillIn 0 w.heap.size w s p l h m) (ha : a ≤ 9223372036854775807) (hb : b ≤ 9223372036854775807) :
    Calls Tryz.prog 45 #[millV s p l h m, .agg #[.int .i64 0, .int .i64 a, .int .i64 b]] w (DoGot w.heap.size (doR m ⟨0, a, b⟩) w) := by
  obtain ⟨ao1, cap1, rfl, -, -, -, -⟩ := id H.store
  obtain ⟨ao2, cap2, rfl, -, -, -, -⟩ := id H.pieces
  obtain ⟨ao3, cap3, rfl, -, -, -, -⟩ := id H.low
  obtain ⟨ao4, cap4, rfl, -, -, -, -⟩ := id H.high
  have HM := hide H
  have HA := hide (And.intro ha hb)
  clear H ha hb
  unfold millV
  go_enter Tryz.func45, Tryz.ntmps45
  go_wp2_with fail
  refine calls_at fun wx hwx => ?_
  have A_0 : RowL wx (w.heap.size) 31 [.slice ao1 m.store.length cap1, .int .i64 m.rule.lc, .int .i64 m.rule.hc, .int .i64 m.rule.lm, .int .i64 m.rule.hm, .int .i64 m.rule.ls, .int .i64 m.rule.hs, .int .i64 m.strand, .slice ao2 m.pieces.length cap2, .slice ao3 m.low.length cap3, .slice ao4 m.high.length cap4, .int .i64 m.scrap] := by rw [hwx]; exact (((RowL.new _ 31 [.slice ao1 m.store.length cap1, .int .i64 m.rule.lc, .int .i64 m.rule.hc, .int .i64 m.rule.lm, .int .i64 m.rule.hm, .int .i64 m.rule.ls, .int .i64 m.rule.hs, .int .i64 m.strand, .slice ao2 m.pieces.length cap2, .slice ao3 m.low.length cap3, .slice ao4 m.high.length cap4, .int .i64 m.scrap]).alloc _).alloc _)
  have D_0 : RowL wx (w.heap.size + 1) 48 [.int .i64 0, .int .i64 a, .int .i64 b] := by rw [hwx]; simpa using ((RowL.new (World.alloc _ _) 48 [.int .i64 0, .int .i64 a, .int .i64 b]).alloc _)
  have R_0 : RowL wx (w.heap.size + 1 + 1) 31 [.slice none 0 0, .int .i64 0, .int .i64 0, .int .i64 0, .int .i64 0, .int .i64 0, .int .i64 0, .int .i64 0, .slice none 0 0, .slice none 0 0, .slice none 0 0, .int .i64 0] := by rw [hwx]; simpa using (RowL.new (World.alloc (World.alloc _ _) _) 31 [.slice none 0 0, .int .i64 0, .int .i64 0, .int .i64 0, .int .i64 0, .int .i64 0, .int .i64 0, .int .i64 0, .slice none 0 0, .slice none 0 0, .slice none 0 0, .int .i64 0])
  have B_0 : Below w.heap.size w wx := by rw [hwx]; go_grown
  clear hwx
  have hL0 := R_0.lt
  have V_0 := hide (HM.out.below B_0)
  have k1 := mill_spec _ _ _ _ m wx V_0.out.all
  unfold millV at k1
  cases hv : millB m with
  | false =>
    rw [hv] at k1
    have HZ := hide (do_bad hv ⟨0, a, b⟩)
    clear hv
    refine k1.mono ?_
    rintro e w1 ⟨rfl, hb⟩
    have R_1 := R_0.below hb R_0.lt
    have B_1 := hide (Below.step B_0 hb (Nat.le_refl _))
    clear hb k1
    obtain ⟨cR0, cR1, cR2, cR3, cR4, cR5, cR6, cR7, cR8, cR9, cR10, cR11⟩ := row12_c R_1
    obtain ⟨fR0, fR1, fR2, fR3, fR4, fR5, fR6, fR7, fR8, fR9, fR10, fR11⟩ := row12_f R_1
    go_wp2_with fail
    refine bodyPost_ret (by simp [results, Tryz.results45, go_sem, cR0, cR1, cR2, cR3, cR4, cR5, cR6, cR7, cR8, cR9, cR10, cR11]; try rfl) rfl ?_
    rw [HZ.out]
    exact ⟨_, _, _, _, rfl, zero_got B_1.out (Nat.le_refl _) (by omega) _ _ _ _ _ _ _ _ _ _ _ _⟩
  | true =>
    rw [hv] at k1
    obtain ⟨n1, n2, n3, n4⟩ := few_of hv
    have HV := hide hv
    have hD := do_good hv 0 a b
    rw [step_0] at hD
    clear hv
    refine k1.mono ?_
    rintro e w1 ⟨rfl, hb⟩
    have A_1 := A_0.below hb A_0.lt
    have D_1 := D_0.below hb D_0.lt
    have R_1 := R_0.below hb R_0.lt
    have V_1 := hide (V_0.out.below hb)
    have B_1 := hide (Below.step B_0 hb (Nat.le_refl _))
    have hz1 := hb.size
    clear hb k1
    obtain ⟨cA0, cA1, cA2, cA3, cA4, cA5, cA6, cA7, cA8, cA9, cA10, cA11⟩ := row12_c A_1
    go_wp2_with fail
    clear cA0 cA1 cA2 cA3 cA4 cA5 cA6 cA7 cA8 cA9 cA10 cA11
    have k2 := l8Copy_any _ _ _ _ m w1 V_1.out.all n1 n2 n3 n4
    unfold millV at k2
    refine k2.mono ?_
    clear k2
    rintro e w2 ⟨s2, p2, l2, h2, rfl, G, hb⟩
    have A_2 := A_1.below hb A_1.lt
    have D_2 := D_1.below hb D_1.lt
    have R_2 := R_1.below hb R_1.lt
    have V_2 := hide (V_1.out.below hb)
    have B_2 := hide (Below.step B_1.out hb (Nat.le_refl _))
    have hz2 := hb.size
    have hL2 := R_2.lt
    have hLD := D_2.lt
    have hLA := A_2.lt
    clear hb
    have G_2 := hide G
    obtain ⟨aS, cs, rfl, -, -⟩ := G.so.form
    obtain ⟨ap, cp, rfl, -, -⟩ := G.po.form
    obtain ⟨al, cl, rfl, -, -⟩ := G.lo.form
    obtain ⟨ah, ch, rfl, -, -⟩ := G.ho.form
    clear G
    unfold millV
    have cD0 := D_2.c 0 rfl
    have cD1 := D_2.c 1 rfl
    have cD2 := D_2.c 2 rfl
    go_wp2_with fail
    refine calls_at fun wy hwy => ?_
    have C_y : RowL wy w2.heap.size 31 (millC (.slice aS m.store.length cs) (.slice ap m.pieces.length cp) (.slice al m.low.length cl) (.slice ah m.high.length ch) m) := by
      rw [hwy]
      first
        | exact RowL.new w2 31 (millC (.slice aS m.store.length cs) (.slice ap m.pieces.length cp) (.slice al m.low.length cl) (.slice ah m.high.length ch) m)
        | exact row12 (RowL.new w2 31 [.slice none 0 0, .int .i64 0, .int .i64 0, .int .i64 0, .int .i64 0, .int .i64 0, .int .i64 0, .int .i64 0, .slice none 0 0, .slice none 0 0, .slice none 0 0, .int .i64 0]) rfl _ _ _ _ _ _ _ _ _ _ _ _
    have hby : Below w2.heap.size w2 wy := by
      rw [hwy]
      first
        | exact (Below.refl _ _).alloc (Nat.le_refl _) _
        | exact ((Below.refl _ _).alloc (Nat.le_refl _) _).trans ((other12 w2.heap.size _ _ _ _ _ _ _ _ _ _ _ _ _).below (Nat.le_refl _) (by simp))
    have A_y := A_2.below hby A_2.lt
    have D_y := D_2.below hby D_2.lt
    have R_y := R_2.below hby R_2.lt
    have V_y := hide (V_2.out.below hby)
    have B_y := hide (Below.step B_2.out hby (Nat.le_refl _))
    have G_y := hide (G_2.out.below hby)
    have hzy := hby.size
    have hLy := C_y.lt
    have MB := hide (show MillBox w1.heap.size w2.heap.size wy (.slice aS m.store.length cs) (.slice ap m.pieces.length cp) (.slice al m.low.length cl) (.slice ah m.high.length ch) m from ⟨C_y, G_y.out, ⟨fun e => Nat.lt_irrefl _ (G_2.out.so.lt _ e).2, fun e => Nat.lt_irrefl _ (G_2.out.po.lt _ e).2, fun e => Nat.lt_irrefl _ (G_2.out.lo.lt _ e).2, fun e => Nat.lt_irrefl _ (G_2.out.ho.lt _ e).2⟩, hz2⟩)
    clear hwy hby
    have hpC : Value.ownBlock (.slice ap m.pieces.length cp) ≠ some w2.heap.size := MB.out.off.2.1
    have k3 := melt_spec a G_y.out (millB_iff.1 HV.out)
    unfold millV at k3
    obtain ⟨o, ho⟩ : ∃ o, meltD m a = o := ⟨_, rfl⟩
    rw [ho] at k3 hD
    clear ho
    rcases o with _ | x
    · have HZ := hide (show doR m ⟨0, a, b⟩ = (m, false) from hD)
      clear hD cD0 cD1 cD2
      refine k3.mono ?_
      clear k3
      rintro e w4 ⟨⟨s4, p4, l4, h4, he, G, hb⟩, hrow⟩
      have he : e = .returned (.tuple #[millV s4 p4 l4 h4 m, .bool false]) := he
      have G : MillGot w1.heap.size w4 s4 p4 l4 h4 m := G
      subst he
      have C_4 := hrow _ _ _ C_y hpC
      have A_4 := A_y.below hb (by omega)
      have R_4 := R_y.below hb (by omega)
      have V_4 := hide (V_y.out.low_keep hb (by omega))
      have B_4 := hide (B_y.out.trans (hb.mono (by omega)))
      have hz4 := hb.size
      have hL4 := C_4.lt
      clear hb hrow
      have G_4 := hide G
      obtain ⟨aS4, cs4, rfl, -, -⟩ := G.so.form
      obtain ⟨ap4, cp4, rfl, -, -⟩ := G.po.form
      obtain ⟨al4, cl4, rfl, -, -⟩ := G.lo.form
      obtain ⟨ah4, ch4, rfl, -, -⟩ := G.ho.form
      clear G
      unfold millV
      obtain ⟨cC0, cC1, cC2, cC3, cC4, cC5, cC6, cC7, cC8, cC9, cC10, cC11⟩ := row12_c C_4
      obtain ⟨fC0, fC1, fC2, fC3, fC4, fC5, fC6, fC7, fC8, fC9, fC10, fC11⟩ := row12_f C_4
      obtain ⟨cA0, cA1, cA2, cA3, cA4, cA5, cA6, cA7, cA8, cA9, cA10, cA11⟩ := row12_c A_4
      go_wp2_with fail
      refine calls_at fun wz hwz => ?_
      have TZ : Other w2.heap.size (w2.heap.size + 1) w4 wz := by rw [hwz]; exact other12 _ _ _ _ _ _ _ _ _ _ _ _ _ _
      have R_z := R_4.other TZ (by omega)
      have V_z := hide (V_4.out.other TZ (by omega))
      have B_z := hide (B_4.out.trans (TZ.below (B := w.heap.size) (by omega) B_4.out.size))
      have hzz := TZ.size
      clear hwz TZ cA0 cA1 cA2 cA3 cA4 cA5 cA6 cA7 cA8 cA9 cA10 cA11 cC0 cC1 cC2 cC3 cC4 cC5 cC6 cC7 cC8 cC9 cC10 cC11 fC0 fC1 fC2 fC3 fC4 fC5 fC6 fC7 fC8 fC9 fC10 fC11
      have k5 := l8Copy_any _ _ _ _ m wz V_z.out.all n1 n2 n3 n4
      unfold millV at k5
      refine k5.mono ?_
      clear k5
      rintro e w5 ⟨s5, p5, l5, h5, rfl, G, hb⟩
      have R_5 := R_z.below hb R_z.lt
      have B_5 := hide (Below.step B_z.out hb (Nat.le_refl _))
      clear hb
      have G_5 := hide G
      obtain ⟨aS5, cs5, rfl, -, -⟩ := G.so.form
      obtain ⟨ap5, cp5, rfl, -, -⟩ := G.po.form
      obtain ⟨al5, cl5, rfl, -, -⟩ := G.lo.form
      obtain ⟨ah5, ch5, rfl, -, -⟩ := G.ho.form
      clear G
      unfold millV
      obtain ⟨cR0, cR1, cR2, cR3, cR4, cR5, cR6, cR7, cR8, cR9, cR10, cR11⟩ := row12_c R_5
      obtain ⟨fR0, fR1, fR2, fR3, fR4, fR5, fR6, fR7, fR8, fR9, fR10, fR11⟩ := row12_f R_5
      go_wp2_with fail
      refine bodyPost_ret (by simp [results, Tryz.results45, go_sem, cR0, cR1, cR2, cR3, cR4, cR5, cR6, cR7, cR8, cR9, cR10, cR11]; try rfl) rfl ?_
      rw [HZ.out]
      exact ⟨_, _, _, _, rfl, put_got G_5.out B_5.out (by omega) (by omega) (Nat.le_refl _) _ _ _ _ _ _ _ _ _ _ _ _⟩
    · have HZ := hide (show doR m ⟨0, a, b⟩ = (x, true) from hD)
      clear hD cD0 cD1 cD2
      refine k3.mono ?_
      clear k3
      rintro e w4 ⟨⟨s4, p4, l4, h4, he, G, hb⟩, hrow⟩
      have he : e = .returned (.tuple #[millV s4 p4 l4 h4 x, .bool true]) := he
      have G : MillGot w1.heap.size w4 s4 p4 l4 h4 x := G
      subst he
      have C_4 := hrow _ _ _ C_y hpC
      have A_4 := A_y.below hb (by omega)
      have R_4 := R_y.below hb (by omega)
      have V_4 := hide (V_y.out.low_keep hb (by omega))
      have B_4 := hide (B_y.out.trans (hb.mono (by omega)))
      have hz4 := hb.size
      have hL4 := C_4.lt
      clear hb hrow
      have G_4 := hide G
      obtain ⟨aS4, cs4, rfl, -, -⟩ := G.so.form
      obtain ⟨ap4, cp4, rfl, -, -⟩ := G.po.form
      obtain ⟨al4, cl4, rfl, -, -⟩ := G.lo.form
      obtain ⟨ah4, ch4, rfl, -, -⟩ := G.ho.form
      clear G
      unfold millV
      obtain ⟨cC0, cC1, cC2, cC3, cC4, cC5, cC6, cC7, cC8, cC9, cC10, cC11⟩ := row12_c C_4
      obtain ⟨fC0, fC1, fC2, fC3, fC4, fC5, fC6, fC7, fC8, fC9, fC10, fC11⟩ := row12_f C_4
      go_upto_region 28 with fail
      obtain ⟨wz, hwz⟩ : ∃ wz : World, wz = ((((((((((((w4).setCell ⟨w2.heap.size, 0, none⟩ (.slice aS4 x.store.length cs4)).setCell ⟨w2.heap.size, 1, none⟩ (.int .i64 x.rule.lc)).setCell ⟨w2.heap.size, 2, none⟩ (.int .i64 x.rule.hc)).setCell ⟨w2.heap.size, 3, none⟩ (.int .i64 x.rule.lm)).setCell ⟨w2.heap.size, 4, none⟩ (.int .i64 x.rule.hm)).setCell ⟨w2.heap.size, 5, none⟩ (.int .i64 x.rule.ls)).setCell ⟨w2.heap.size, 6, none⟩ (.int .i64 x.rule.hs)).setCell ⟨w2.heap.size, 7, none⟩ (.int .i64 x.strand)).setCell ⟨w2.heap.size, 8, none⟩ (.slice ap4 x.pieces.length cp4)).setCell ⟨w2.heap.size, 9, none⟩ (.slice al4 x.low.length cl4)).setCell ⟨w2.heap.size, 10, none⟩ (.slice ah4 x.high.length ch4)).setCell ⟨w2.heap.size, 11, none⟩ (.int .i64 x.scrap) := ⟨_, rfl⟩
      rw [← hwz]
      have TZ : Other w2.heap.size (w2.heap.size + 1) w4 wz := by rw [hwz]; exact other12 _ _ _ _ _ _ _ _ _ _ _ _ _ _
      have C_z : RowL wz w2.heap.size 31 (millC (.slice aS4 x.store.length cs4) (.slice ap4 x.pieces.length cp4) (.slice al4 x.low.length cl4) (.slice ah4 x.high.length ch4) x) := by rw [hwz]; exact row12 C_4 rfl _ _ _ _ _ _ _ _ _ _ _ _
      have R_z := R_4.other TZ (by omega)
      have B_z := hide (B_4.out.trans (TZ.below (B := w.heap.size) (by omega) B_4.out.size))
      have G_z := hide (G_4.out.past C_4 TZ)
      clear hwz TZ cC0 cC1 cC2 cC3 cC4 cC5 cC6 cC7 cC8 cC9 cC10 cC11 fC0 fC1 fC2 fC3 fC4 fC5 fC6 fC7 fC8 fC9 fC10 fC11
      obtain ⟨cC0, cC1, cC2, cC3, cC4, cC5, cC6, cC7, cC8, cC9, cC10, cC11⟩ := row12_c C_z
      obtain ⟨cR0, cR1, cR2, cR3, cR4, cR5, cR6, cR7, cR8, cR9, cR10, cR11⟩ := row12_c R_z
      obtain ⟨fR0, fR1, fR2, fR3, fR4, fR5, fR6, fR7, fR8, fR9, fR10, fR11⟩ := row12_f R_z
      go_wp2_with fail
      refine bodyPost_ret (by simp [results, Tryz.results45, go_sem, cR0, cR1, cR2, cR3, cR4, cR5, cR6, cR7, cR8, cR9, cR10, cR11]; try rfl) rfl ?_
      rw [HZ.out]
      exact ⟨_, _, _, _, rfl, put_got G_z.out B_z.out (by omega) (by omega) (Nat.le_refl _) _ _ _ _ _ _ _ _ _ _ _ _⟩
set_option maxHeartbeats 16000000 in
theorem do_sx (s p l h : Value) (m : Mi) (k a b : Int) (w : World) (H : MillIn 0 w.heap.size w s p l h m) (ha : a ≤ 9223372036854775807) (hb : b ≤ 9223372036854775807) (e0 : (k == 0) = false) (e1 : (k == 1) = false) (e2 : (k == 2) = false) (e3 : (k == 3) = false) (e4 : (k == 4) = false) :
    Calls Tryz.prog 45 #[millV s p l h m, .agg #[.int .i64 k, .int .i64 a, .int .i64 b]] w (DoGot w.heap.size (doR m ⟨k, a, b⟩) w) := by
  obtain ⟨ao1, cap1, rfl, -, -, -, -⟩ := id H.store
  obtain ⟨ao2, cap2, rfl, -, -, -, -⟩ := id H.pieces
  obtain ⟨ao3, cap3, rfl, -, -, -, -⟩ := id H.low
  obtain ⟨ao4, cap4, rfl, -, -, -, -⟩ := id H.high
  have HM := hide H
  have HA := hide (And.intro ha hb)
  clear H ha hb
  unfold millV
  go_enter Tryz.func45, Tryz.ntmps45
  go_wp2_with fail
  refine calls_at fun wx hwx => ?_
  have A_0 : RowL wx (w.heap.size) 31 [.slice ao1 m.store.length cap1, .int .i64 m.rule.lc, .int .i64 m.rule.hc, .int .i64 m.rule.lm, .int .i64 m.rule.hm, .int .i64 m.rule.ls, .int .i64 m.rule.hs, .int .i64 m.strand, .slice ao2 m.pieces.length cap2, .slice ao3 m.low.length cap3, .slice ao4 m.high.length cap4, .int .i64 m.scrap] := by rw [hwx]; exact (((RowL.new _ 31 [.slice ao1 m.store.length cap1, .int .i64 m.rule.lc, .int .i64 m.rule.hc, .int .i64 m.rule.lm, .int .i64 m.rule.hm, .int .i64 m.rule.ls, .int .i64 m.rule.hs, .int .i64 m.strand, .slice ao2 m.pieces.length cap2, .slice ao3 m.low.length cap3, .slice ao4 m.high.length cap4, .int .i64 m.scrap]).alloc _).alloc _)
  have D_0 : RowL wx (w.heap.size + 1) 48 [.int .i64 k, .int .i64 a, .int .i64 b] := by rw [hwx]; simpa using ((RowL.new (World.alloc _ _) 48 [.int .i64 k, .int .i64 a, .int .i64 b]).alloc _)
  have R_0 : RowL wx (w.heap.size + 1 + 1) 31 [.slice none 0 0, .int .i64 0, .int .i64 0, .int .i64 0, .int .i64 0, .int .i64 0, .int .i64 0, .int .i64 0, .slice none 0 0, .slice none 0 0, .slice none 0 0, .int .i64 0] := by rw [hwx]; simpa using (RowL.new (World.alloc (World.alloc _ _) _) 31 [.slice none 0 0, .int .i64 0, .int .i64 0, .int .i64 0, .int .i64 0, .int .i64 0, .int .i64 0, .int .i64 0, .slice none 0 0, .slice none 0 0, .slice none 0 0, .int .i64 0])
  have B_0 : Below w.heap.size w wx := by rw [hwx]; go_grown
  clear hwx
  have hL0 := R_0.lt
  have V_0 := hide (HM.out.below B_0)
  have k1 := mill_spec _ _ _ _ m wx V_0.out.all
  unfold millV at k1
  cases hv : millB m with
  | false =>
    rw [hv] at k1
    have HZ := hide (do_bad hv ⟨k, a, b⟩)
    clear hv
    refine k1.mono ?_
    rintro e w1 ⟨rfl, hb⟩
    have R_1 := R_0.below hb R_0.lt
    have B_1 := hide (Below.step B_0 hb (Nat.le_refl _))
    clear hb k1
    obtain ⟨cR0, cR1, cR2, cR3, cR4, cR5, cR6, cR7, cR8, cR9, cR10, cR11⟩ := row12_c R_1
    obtain ⟨fR0, fR1, fR2, fR3, fR4, fR5, fR6, fR7, fR8, fR9, fR10, fR11⟩ := row12_f R_1
    go_wp2_with fail
    refine bodyPost_ret (by simp [results, Tryz.results45, go_sem, cR0, cR1, cR2, cR3, cR4, cR5, cR6, cR7, cR8, cR9, cR10, cR11]; try rfl) rfl ?_
    rw [HZ.out]
    exact ⟨_, _, _, _, rfl, zero_got B_1.out (Nat.le_refl _) (by omega) _ _ _ _ _ _ _ _ _ _ _ _⟩
  | true =>
    rw [hv] at k1
    obtain ⟨n1, n2, n3, n4⟩ := few_of hv
    have HV := hide hv
    have hD := do_good hv k a b
    rw [step_x e0 e1 e2 e3 e4] at hD
    have HZ := hide (show doR m ⟨k, a, b⟩ = (m, false) from hD)
    clear hD
    clear hv
    refine k1.mono ?_
    rintro e w1 ⟨rfl, hb⟩
    have A_1 := A_0.below hb A_0.lt
    have D_1 := D_0.below hb D_0.lt
    have R_1 := R_0.below hb R_0.lt
    have V_1 := hide (V_0.out.below hb)
    have B_1 := hide (Below.step B_0 hb (Nat.le_refl _))
    have hz1 := hb.size
    clear hb k1
    obtain ⟨cA0, cA1, cA2, cA3, cA4, cA5, cA6, cA7, cA8, cA9, cA10, cA11⟩ := row12_c A_1
    go_wp2_with fail
    clear cA0 cA1 cA2 cA3 cA4 cA5 cA6 cA7 cA8 cA9 cA10 cA11
    have k2 := l8Copy_any _ _ _ _ m w1 V_1.out.all n1 n2 n3 n4
    unfold millV at k2
    refine k2.mono ?_
    clear k2
    rintro e w2 ⟨s2, p2, l2, h2, rfl, G, hb⟩
    have A_2 := A_1.below hb A_1.lt
    have D_2 := D_1.below hb D_1.lt
    have R_2 := R_1.below hb R_1.lt
    have V_2 := hide (V_1.out.below hb)
    have B_2 := hide (Below.step B_1.out hb (Nat.le_refl _))
    have hz2 := hb.size
    have hL2 := R_2.lt
    have hLD := D_2.lt
    have hLA := A_2.lt
    clear hb
    have G_2 := hide G
    obtain ⟨aS, cs, rfl, -, -⟩ := G.so.form
    obtain ⟨ap, cp, rfl, -, -⟩ := G.po.form
    obtain ⟨al, cl, rfl, -, -⟩ := G.lo.form
    obtain ⟨ah, ch, rfl, -, -⟩ := G.ho.form
    clear G
    unfold millV
    have cD0 := D_2.c 0 rfl
    have cD1 := D_2.c 1 rfl
    have cD2 := D_2.c 2 rfl
    obtain ⟨cA0, cA1, cA2, cA3, cA4, cA5, cA6, cA7, cA8, cA9, cA10, cA11⟩ := row12_c A_2
    go_wp2_with fail
    refine calls_at fun wy hwy => ?_
    have hby : Below w2.heap.size w2 wy := by
      rw [hwy]
      first
        | exact (Below.refl _ _).alloc (Nat.le_refl _) _
        | exact ((Below.refl _ _).alloc (Nat.le_refl _) _).trans ((other12 w2.heap.size _ _ _ _ _ _ _ _ _ _ _ _ _).below (Nat.le_refl _) (by simp))
    have A_4 := A_2.below hby A_2.lt
    have R_4 := R_2.below hby R_2.lt
    have V_4 := hide (V_2.out.below hby)
    have B_4 := hide (Below.step B_2.out hby (Nat.le_refl _))
    have hz4 := hby.size
    clear hwy hby cD0 cD1 cD2 cA0 cA1 cA2 cA3 cA4 cA5 cA6 cA7 cA8 cA9 cA10 cA11
    have k5 := l8Copy_any _ _ _ _ m wy V_4.out.all n1 n2 n3 n4
    unfold millV at k5
    refine k5.mono ?_
    clear k5
    rintro e w5 ⟨s5, p5, l5, h5, rfl, G, hb⟩
    have R_5 := R_4.below hb R_4.lt
    have B_5 := hide (Below.step B_4.out hb (Nat.le_refl _))
    clear hb
    have G_5 := hide G
    obtain ⟨aS5, cs5, rfl, -, -⟩ := G.so.form
    obtain ⟨ap5, cp5, rfl, -, -⟩ := G.po.form
    obtain ⟨al5, cl5, rfl, -, -⟩ := G.lo.form
    obtain ⟨ah5, ch5, rfl, -, -⟩ := G.ho.form
    clear G
    unfold millV
    obtain ⟨cR0, cR1, cR2, cR3, cR4, cR5, cR6, cR7, cR8, cR9, cR10, cR11⟩ := row12_c R_5
    obtain ⟨fR0, fR1, fR2, fR3, fR4, fR5, fR6, fR7, fR8, fR9, fR10, fR11⟩ := row12_f R_5
    go_wp2_with fail
    refine bodyPost_ret (by simp [results, Tryz.results45, go_sem, cR0, cR1, cR2, cR3, cR4, cR5, cR6, cR7, cR8, cR9, cR10, cR11]; try rfl) rfl ?_
    rw [HZ.out]
    exact ⟨_, _, _, _, rfl, put_got G_5.out B_5.out (by omega) (by omega) (Nat.le_refl _) _ _ _ _ _ _ _ _ _ _ _ _⟩
end Go.Proofs.YtmemgbklgcjobaaGreatDoor
