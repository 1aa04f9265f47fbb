/-
  The walk over the law FnJobsValid: it answers true, whatever the code, and leaves all old memory alone.
-/
import Derived.Test.YtfjemnjdkniibaaDoorDrawC
import Derived.Test.YtfjemnjdkniibaaDoorAlive
import Derived.Test.YtfjemnjdkniibaaDoorGuard
namespace Go.Proofs.YtfjemnjdkniibaaDoor
open Go.RowKit

theorem JobsAt.nil (w : World) : JobsAt 0 w.heap.size w (.slice none 0 0) [] := ⟨none, 0, rfl, by simp, by simp, Nat.le_refl _, fun h => absurd h (by simp)⟩
theorem JobsAt.cells {lo hi b o cap : Nat} {w : World} {js : List J} (h : JobsAt lo hi w (.slice (some ⟨b, o, none⟩) js.length cap) js) : ∀ j u, (flatJ js)[j]? = some u → w.cell? ((⟨b, o, none⟩ : Addr).add j) = some u := by
  intro j u hu
  obtain ⟨ao, cap', e, h1, h2, h3, h4⟩ := h
  simp only [Value.slice.injEq] at e
  obtain ⟨rfl, -, rfl⟩ := e
  have hj : j < js.length * 3 := by
    rw [← flatJ_len]; exact (List.getElem?_eq_some_iff.1 hu).1
  obtain ⟨b', o', e, -, -, hc⟩ := h4 (by omega)
  simp only [Option.some.injEq, Addr.mk.injEq] at e
  obtain ⟨rfl, rfl, -⟩ := e
  obtain ⟨⟨c1, c2, c3⟩, -⟩ := hc (j / 3) (by omega)
  obtain ⟨f1, f2, f3⟩ := flatJ_at js (j / 3) (by omega)
  have hadd : ∀ o i, (⟨b, o, none⟩ : Addr).add i = ⟨b, o + i, none⟩ := fun o i => by unfold Addr.add; split <;> simp_all
  rw [hadd]
  have hm : j % 3 = 0 ∨ j % 3 = 1 ∨ j % 3 = 2 := by omega
  rcases hm with hm | hm | hm
  · rw [show j = j / 3 * 3 by omega] at hu ⊢
    rw [f1] at hu; rw [c1]; exact hu
  · rw [show j = j / 3 * 3 + 1 by omega] at hu ⊢
    rw [f2] at hu; rw [← Nat.add_assoc, c2]; exact hu
  · rw [show j = j / 3 * 3 + 2 by omega] at hu ⊢
    rw [f3] at hu; rw [← Nat.add_assoc, c3]; exact hu
theorem JobsAt.tail {lo hi b o cap : Nat} {w : World} {js : List J} (h : JobsAt lo hi w (.slice (some ⟨b, o, none⟩) js.length cap) js) (hn : 0 < js.length) : JobsAt lo hi w (.slice (some ⟨b, o + 3, none⟩) (js.length - 1) (cap - 1)) js.tail := by
  obtain ⟨ao, cap', e, h1, h2, h3, h4⟩ := h
  simp only [Value.slice.injEq] at e
  obtain ⟨rfl, -, rfl⟩ := e
  obtain ⟨b', o', e, hb1, hb2, hcs⟩ := h4 hn
  simp only [Option.some.injEq, Addr.mk.injEq] at e
  obtain ⟨rfl, rfl, -⟩ := e
  refine ⟨_, cap - 1, by simp, by simp; omega, by omega, h3, fun hlt => ⟨b, o + 3, rfl, hb1, hb2, fun i hi' => ?_⟩⟩
  have := hcs (i + 1) (by simp at hi'; omega)
  simp only [List.getElem_tail]
  rw [show o + 3 + i * 3 = o + (i + 1) * 3 by omega]
  exact this
theorem jsv_tail {js : List J} (h : jsvB js = true) : jsvB js.tail = true := by
  simp only [jsvB, Bool.and_eq_true, decide_eq_true_eq, List.all_eq_true] at h ⊢
  exact ⟨by simp; omega, fun j hj => h.2 j (List.mem_of_mem_tail hj)⟩
theorem jsv_zero (js : List J) : jsvB (js ++ [⟨0, 0, 0⟩]) = false := by
  have : jvB ⟨0, 0, 0⟩ = false := rfl
  simp [jsvB, this]
theorem jsv_nil : jsvB [] = true := rfl

theorem jobs_cap {lo hi n cap : Nat} {ao : Option Addr} {w : World} {js : List J} (h : JobsAt lo hi w (.slice ao n cap) js) : js.length ≤ cap ∧ cap ≤ 9223372036854775807 := by
  obtain ⟨ao', cap', e, h1, h2, _⟩ := h
  simp only [Value.slice.injEq] at e
  omega
/-- A first append to an empty slice of the call's own. -/
theorem first_app {w W w' : World} (hb : Below w.heap.size w W) {T : Nat} (hg : (W.alloc (.cells #[] T)).grownBy w' (some W.heap.size)) : Below w.heap.size w w' :=
  hb.trans (((Below.refl _ _).alloc hb.size _).grown hg (Nat.le_trans hb.size (by simp)) fun k hk => by simp only [Option.some.injEq] at hk; subst hk; exact hb.size)
theorem own_shape {w : World} {base T sz n : Nat} {v : Value} {cs : List Value} (h : w.ownsRow base T sz v n cs) : ∃ ao cap, v = .slice ao n cap := by
  rcases h.2 with ⟨e, h0⟩ | ⟨g, cap, cur, e, _⟩
  · exact ⟨none, 0, by rw [e, h0]⟩
  · exact ⟨_, _, e⟩
theorem jobs_shape {lo hi : Nat} {w : World} {v : Value} {js : List J} (h : JobsAt lo hi w v js) : ∃ ao cap, v = .slice ao js.length cap := by
  obtain ⟨ao, cap, e, _⟩ := h
  exact ⟨ao, cap, e⟩

set_option maxRecDepth 10000 in
set_option maxHeartbeats 800000 in
theorem law_JobsValid (v : Value) (n : Nat) (w : World) (h : BytesAt 0 w.heap.size w v n) :
    Calls Tryd.prog 4 #[v] w fun e w' => e = .returned (.bool true) ∧ Below w.heap.size w w' := by
  obtain ⟨i0, hi0, hz0, hi1, hi2⟩ := info_parts info_job
  obtain ⟨ao, cap, rfl, hnc, hcap, -, -⟩ := id h
  have HB := hide h
  clear h
  by_cases hlong : 1048576 < n
  · go_enter Tryd.func4, Tryd.ntmps4
    go_wp2_with fail
    go_ret
    exact ⟨rfl, Below.refl _ _⟩
  · go_enter Tryd.func4, Tryd.ntmps4
    go_wp2_with fail
    refine (drawJobsValid _ n _ HB.out).mono ?_
    rintro e w1 ⟨v1, js, rfl, hl, ⟨b, cap1, rfl⟩, hj, hb1⟩
    obtain ⟨hlc1, hcap1⟩ := jobs_cap hj
    have HJ1 := hide hj
    have HB1 := hide hb1
    clear hj hb1
    go_wp2_with fail
    refine (jsv_impl _ js _ _ _ HJ1.out).mono ?_
    rintro e w2 ⟨rfl, hb2⟩
    have HJ2 := hide (HJ1.out.below hb2)
    have HB2 := hide (Below.step HB1.out hb2 (Nat.le_refl _))
    clear hb2
    go_wp2_with fail
    refine (jsv_spec _ js _ _ _ HJ2.out).mono ?_
    rintro e w3 ⟨rfl, hb3⟩
    have HJ3 := hide (HJ2.out.below hb3)
    have HB3 := hide (Below.step HB2.out hb3 (Nat.le_refl _))
    clear hb3
    by_cases h0 : js.length = 0
    · have : js = [] := List.eq_nil_of_length_eq_zero h0
      subst this
      rw [jsv_nil]
      go_wp2_with (at_builtin; refine wpList_append_g rfl (.tmp 29) (.tmp 30) _ rfl w.heap.size 24 i0 _ 3 24 Tryd.underlying29 hi0 hz0 hi1 hi2 rfl (by decide) _ 0 [] rfl (World.ownsRow_made w3 #[] 0 HB3.out.size (Nat.zero_le _) rfl) _ 0 _ (flatJ []) rfl ?c1 ?c2 ?c3 ?c4 ?c5 ?c6 ?_)
      case c1 => rfl
      case c2 => intro j u hu; simp [flatJ] at hu
      case c3 => exact flatJ_one _
      case c4 => unfold maxLen; omega
      case c5 => omega
      case c6 => exact Nat.le_trans HB3.out.size (by simp)
      intro va wa hown hgrow _
      have hBa := first_app HB3.out hgrow
      have HBa := hide hBa
      have HO1 := hide hown
      clear hown hgrow hBa
      obtain ⟨aoa, capa, rfl⟩ := own_shape HO1.out
      have hza : w.heap.size ≤ wa.heap.size := HBa.out.size
      go_wp2_with (at_builtin; refine wpList_append_g rfl (.tmp 31) (.tmp 33) _ rfl w.heap.size 24 i0 _ 3 24 Tryd.underlying29 hi0 hz0 hi1 hi2 rfl (by decide) _ 0 (flatJ []) rfl (HO1.out.alloc _) ⟨wa.heap.size, 0, none⟩ 1 1 (flatJ [⟨0, 0, 0⟩]) rfl rfl (lit_cells wa (flatJ [⟨0, 0, 0⟩]) _) ?d3 ?d4 ?d5 ?d6 ?_)
      case d3 => exact flatJ_one _
      case d4 => unfold maxLen; omega
      case d5 => omega
      case d6 => exact Nat.le_trans hza (by simp)
      intro vb wb hown hgrow _
      have hBb := Below.trans (HBa.out.alloc hza (.cells #[.int .i64 0, .int .i64 0, .int .i64 0] 24)) (Below.grow hgrow (HO1.out.alloc _) (Nat.le_refl _) (Nat.le_trans hza (by simp)))
      have HBb := hide hBb
      have HO2 := hide (ownJ_at (js := [] ++ [⟨0, 0, 0⟩]) (by rw [flatJ_append]; exact hown) (by simp))
      clear hown hgrow hBb
      obtain ⟨aob, capb, rfl⟩ := jobs_shape HO2.out
      have HO3 := hide (show JobsAt w.heap.size wb.heap.size wb (.slice aob (1) capb) ([] ++ [⟨0, 0, 0⟩]) from by simpa using HO2.out)
      go_wp2_with fail
      refine (jsv_impl _ ([] ++ [⟨0, 0, 0⟩]) _ _ _ HO3.out).mono ?_
      rw [jsv_zero]
      rintro e wc ⟨rfl, hbc⟩
      have HBc := hide (Below.step HBb.out hbc (Nat.le_refl _))
      clear hbc
      go_wp2_with fail
      refine (jsv_impl _ [] _ _ _ (JobsAt.nil _)).mono ?_
      rw [jsv_nil]
      rintro e wd ⟨rfl, hbd⟩
      have HBd := hide (Below.step HBc.out hbd (Nat.le_refl _))
      clear hbd
      go_wp2_with fail
      refine (alive_any _).mono ?_
      rintro e we ⟨rfl, hbe⟩
      have HBe := hide (Below.step HBd.out hbe (Nat.le_refl _))
      clear hbe
      go_wp2_with fail
      go_ret
      exact ⟨rfl, HBe.out⟩
    · have hn : 0 < js.length := by omega
      cases hv : jsvB js with
      | false =>
        go_wp2_with (at_builtin; refine wpList_append_g rfl (.tmp 29) (.tmp 30) _ rfl w.heap.size 24 i0 _ 3 24 Tryd.underlying29 hi0 hz0 hi1 hi2 rfl (by decide) _ 0 [] rfl (World.ownsRow_made w3 #[] 0 HB3.out.size (Nat.zero_le _) rfl) _ js.length _ (flatJ js) rfl ?c1 ?c2 ?c3 ?c4 ?c5 ?c6 ?_)
        case c1 => simp [flatJ_len]
        case c2 => exact (JobsAt.cells (HJ3.out.below ((Below.refl _ _).alloc (Nat.le_refl _) _)))
        case c3 => exact flatJ_one _
        case c4 => unfold maxLen; omega
        case c5 => omega
        case c6 => exact Nat.le_trans HB3.out.size (by simp)
        intro va wa hown hgrow _
        have hBa := first_app HB3.out hgrow
        have HBa := hide hBa
        have HO1 := hide hown
        clear hown hgrow hBa
        obtain ⟨aoa, capa, rfl⟩ := own_shape HO1.out
        have hza : w.heap.size ≤ wa.heap.size := HBa.out.size
        go_wp2_with (at_builtin; refine wpList_append_g rfl (.tmp 31) (.tmp 33) _ rfl w.heap.size 24 i0 _ 3 24 Tryd.underlying29 hi0 hz0 hi1 hi2 rfl (by decide) _ js.length (flatJ js) rfl (HO1.out.alloc _) ⟨wa.heap.size, 0, none⟩ 1 1 (flatJ [⟨0, 0, 0⟩]) rfl rfl (lit_cells wa (flatJ [⟨0, 0, 0⟩]) _) ?d3 ?d4 ?d5 ?d6 ?_)
        case d3 => exact flatJ_one _
        case d4 => unfold maxLen; omega
        case d5 => omega
        case d6 => exact Nat.le_trans hza (by simp)
        intro vb wb hown hgrow _
        have hBb := Below.trans (HBa.out.alloc hza (.cells #[.int .i64 0, .int .i64 0, .int .i64 0] 24)) (Below.grow hgrow (HO1.out.alloc _) (Nat.le_refl _) (Nat.le_trans hza (by simp)))
        have HBb := hide hBb
        have HO2 := hide (ownJ_at (js := js ++ [⟨0, 0, 0⟩]) (by rw [flatJ_append]; exact hown) (by simp))
        clear hown hgrow hBb
        obtain ⟨aob, capb, rfl⟩ := jobs_shape HO2.out
        have HO3 := hide (show JobsAt w.heap.size wb.heap.size wb (.slice aob (js.length + 1) capb) (js ++ [⟨0, 0, 0⟩]) from by simpa using HO2.out)
        go_wp2_with fail
        refine (jsv_impl _ (js ++ [⟨0, 0, 0⟩]) _ _ _ HO3.out).mono ?_
        rw [jsv_zero]
        rintro e wc ⟨rfl, hbc⟩
        have HBc := hide (Below.step HBb.out hbc (Nat.le_refl _))
        clear hbc
        go_wp2_with fail
        refine (jsv_impl _ [] _ _ _ (JobsAt.nil _)).mono ?_
        rw [jsv_nil]
        rintro e wd ⟨rfl, hbd⟩
        have HBd := hide (Below.step HBc.out hbd (Nat.le_refl _))
        clear hbd
        go_wp2_with fail
        refine (alive_any _).mono ?_
        rintro e we ⟨rfl, hbe⟩
        have HBe := hide (Below.step HBd.out hbe (Nat.le_refl _))
        clear hbe
        go_wp2_with fail
        go_ret
        exact ⟨rfl, HBe.out⟩
      | true =>
        have HV := hide hv
        clear hv
        by_cases hc1 : cap1 = 1
        · subst hc1
          have hl1 : js.length = 1 := by omega
          obtain ⟨j0, rfl⟩ := List.length_eq_one_iff.1 hl1
          go_wp2_with fail
          refine (jsv_impl _ [] 0 _ _ ⟨_, _, rfl, by simp, by simp, Nat.le_refl _, fun h => absurd h (by simp)⟩).mono ?_
          rw [jsv_nil]
          rintro e w4 ⟨rfl, hb4⟩
          have HJ4 := hide (HJ3.out.below hb4)
          have HB4 := hide (Below.step HB3.out hb4 (Nat.le_refl _))
          clear hb4
          go_wp2_with (at_builtin; refine wpList_append_g rfl (.tmp 29) (.tmp 30) _ rfl w.heap.size 24 i0 _ 3 24 Tryd.underlying29 hi0 hz0 hi1 hi2 rfl (by decide) _ 0 [] rfl (World.ownsRow_made w4 #[] 0 HB4.out.size (Nat.zero_le _) rfl) _ 1 _ (flatJ [j0]) rfl ?c1 ?c2 ?c3 ?c4 ?c5 ?c6 ?_)
          case c1 => simp [flatJ_len]
          case c2 => exact (JobsAt.cells (HJ4.out.below ((Below.refl _ _).alloc (Nat.le_refl _) _)))
          case c3 => exact flatJ_one _
          case c4 => unfold maxLen; omega
          case c5 => omega
          case c6 => exact Nat.le_trans HB4.out.size (by simp)
          intro va wa hown hgrow _
          have hBa := first_app HB4.out hgrow
          have HBa := hide hBa
          have HO1 := hide hown
          clear hown hgrow hBa
          obtain ⟨aoa, capa, rfl⟩ := own_shape HO1.out
          have hza : w.heap.size ≤ wa.heap.size := HBa.out.size
          go_wp2_with (at_builtin; refine wpList_append_g rfl (.tmp 31) (.tmp 33) _ rfl w.heap.size 24 i0 _ 3 24 Tryd.underlying29 hi0 hz0 hi1 hi2 rfl (by decide) _ 1 (flatJ [j0]) rfl (HO1.out.alloc _) ⟨wa.heap.size, 0, none⟩ 1 1 (flatJ [⟨0, 0, 0⟩]) rfl rfl (lit_cells wa (flatJ [⟨0, 0, 0⟩]) _) ?d3 ?d4 ?d5 ?d6 ?_)
          case d3 => exact flatJ_one _
          case d4 => unfold maxLen; omega
          case d5 => omega
          case d6 => exact Nat.le_trans hza (by simp)
          intro vb wb hown hgrow _
          have hBb := Below.trans (HBa.out.alloc hza (.cells #[.int .i64 0, .int .i64 0, .int .i64 0] 24)) (Below.grow hgrow (HO1.out.alloc _) (Nat.le_refl _) (Nat.le_trans hza (by simp)))
          have HBb := hide hBb
          have HO2 := hide (ownJ_at (js := [j0] ++ [⟨0, 0, 0⟩]) (by rw [flatJ_append]; exact hown) (by simp))
          clear hown hgrow hBb
          obtain ⟨aob, capb, rfl⟩ := jobs_shape HO2.out
          have HO3 := hide (show JobsAt w.heap.size wb.heap.size wb (.slice aob (2) capb) ([j0] ++ [⟨0, 0, 0⟩]) from by simpa using HO2.out)
          go_wp2_with fail
          refine (jsv_impl _ ([j0] ++ [⟨0, 0, 0⟩]) _ _ _ HO3.out).mono ?_
          rw [jsv_zero]
          rintro e wc ⟨rfl, hbc⟩
          have HBc := hide (Below.step HBb.out hbc (Nat.le_refl _))
          clear hbc
          go_wp2_with fail
          refine (jsv_impl _ [] _ _ _ (JobsAt.nil _)).mono ?_
          rw [jsv_nil]
          rintro e wd ⟨rfl, hbd⟩
          have HBd := hide (Below.step HBc.out hbd (Nat.le_refl _))
          clear hbd
          go_wp2_with fail
          refine (alive_any _).mono ?_
          rintro e we ⟨rfl, hbe⟩
          have HBe := hide (Below.step HBd.out hbe (Nat.le_refl _))
          clear hbe
          go_wp2_with fail
          go_ret
          exact ⟨rfl, HBe.out⟩
        · have hcB : ((cap1 : Int) == 1) = false := by simp; omega
          go_wp2_with fail
          refine (jsv_impl _ js.tail _ _ _ (HJ3.out.tail hn)).mono ?_
          rw [jsv_tail HV.out]
          rintro e w4 ⟨rfl, hb4⟩
          have HJ4 := hide (HJ3.out.below hb4)
          have HB4 := hide (Below.step HB3.out hb4 (Nat.le_refl _))
          clear hb4
          go_wp2_with (at_builtin; refine wpList_append_g rfl (.tmp 29) (.tmp 30) _ rfl w.heap.size 24 i0 _ 3 24 Tryd.underlying29 hi0 hz0 hi1 hi2 rfl (by decide) _ 0 [] rfl (World.ownsRow_made w4 #[] 0 HB4.out.size (Nat.zero_le _) rfl) _ js.length _ (flatJ js) rfl ?c1 ?c2 ?c3 ?c4 ?c5 ?c6 ?_)
          case c1 => simp [flatJ_len]
          case c2 => exact (JobsAt.cells (HJ4.out.below ((Below.refl _ _).alloc (Nat.le_refl _) _)))
          case c3 => exact flatJ_one _
          case c4 => unfold maxLen; omega
          case c5 => omega
          case c6 => exact Nat.le_trans HB4.out.size (by simp)
          intro va wa hown hgrow _
          have hBa := first_app HB4.out hgrow
          have HBa := hide hBa
          have HO1 := hide hown
          clear hown hgrow hBa
          obtain ⟨aoa, capa, rfl⟩ := own_shape HO1.out
          have hza : w.heap.size ≤ wa.heap.size := HBa.out.size
          go_wp2_with (at_builtin; refine wpList_append_g rfl (.tmp 31) (.tmp 33) _ rfl w.heap.size 24 i0 _ 3 24 Tryd.underlying29 hi0 hz0 hi1 hi2 rfl (by decide) _ js.length (flatJ js) rfl (HO1.out.alloc _) ⟨wa.heap.size, 0, none⟩ 1 1 (flatJ [⟨0, 0, 0⟩]) rfl rfl (lit_cells wa (flatJ [⟨0, 0, 0⟩]) _) ?d3 ?d4 ?d5 ?d6 ?_)
          case d3 => exact flatJ_one _
          case d4 => unfold maxLen; omega
          case d5 => omega
          case d6 => exact Nat.le_trans hza (by simp)
          intro vb wb hown hgrow _
          have hBb := Below.trans (HBa.out.alloc hza (.cells #[.int .i64 0, .int .i64 0, .int .i64 0] 24)) (Below.grow hgrow (HO1.out.alloc _) (Nat.le_refl _) (Nat.le_trans hza (by simp)))
          have HBb := hide hBb
          have HO2 := hide (ownJ_at (js := js ++ [⟨0, 0, 0⟩]) (by rw [flatJ_append]; exact hown) (by simp))
          clear hown hgrow hBb
          obtain ⟨aob, capb, rfl⟩ := jobs_shape HO2.out
          have HO3 := hide (show JobsAt w.heap.size wb.heap.size wb (.slice aob (js.length + 1) capb) (js ++ [⟨0, 0, 0⟩]) from by simpa using HO2.out)
          go_wp2_with fail
          refine (jsv_impl _ (js ++ [⟨0, 0, 0⟩]) _ _ _ HO3.out).mono ?_
          rw [jsv_zero]
          rintro e wc ⟨rfl, hbc⟩
          have HBc := hide (Below.step HBb.out hbc (Nat.le_refl _))
          clear hbc
          go_wp2_with fail
          refine (jsv_impl _ [] _ _ _ (JobsAt.nil _)).mono ?_
          rw [jsv_nil]
          rintro e wd ⟨rfl, hbd⟩
          have HBd := hide (Below.step HBc.out hbd (Nat.le_refl _))
          clear hbd
          go_wp2_with fail
          refine (alive_any _).mono ?_
          rintro e we ⟨rfl, hbe⟩
          have HBe := hide (Below.step HBd.out hbe (Nat.le_refl _))
          clear hbe
          go_wp2_with fail
          go_ret
          exact ⟨rfl, HBe.out⟩
end Go.Proofs.YtfjemnjdkniibaaDoor
