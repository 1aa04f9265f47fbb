/-
  The draws of jobs with an order, or with what must be done before. Weak contracts.
-/
import Derived.Test.YtfjemnjdkniibaaDoorDrawO
namespace Go.Proofs.YtfjemnjdkniibaaDoor
open Go.RowKit

/-- Jobs and ints were drawn. -/
def TwoGot (R k : Nat) (w : World) (e : Ending) (w' : World) : Prop :=
  ∃ v js v1 bs, e = .returned (.tuple #[v, v1]) ∧ js.length ≤ 7 ∧ bs.length ≤ 9 ∧ JobsAt w.heap.size w'.heap.size w' v js ∧ IntsAt w.heap.size w'.heap.size w' v1 bs ∧ Other R (R + 1) w w' ∧ Rd R (k + 60) w'
theorem worked_any (R k : Nat) (w : World) (h : Rd R k w) (hk : k ≤ 10000) :
    Calls Tryd.prog 80 #[.pointer (some ⟨R, 0, none⟩)] w (TwoGot R k w) := by
  have hlt := h.lt
  go_enter Tryd.func80, Tryd.ntmps80
  go_wp2_with fail
  refine (l20Jobs_any R k 12 _ h (by omega) (by omega) (by omega)).mono ?_
  rintro e w1 ⟨v, js, rfl, hl, -, hj, ho, hr⟩
  obtain ⟨ao, cap, rfl, hlc, hcap, -, -⟩ := id hj
  have HJ := hide hj
  have HO := hide ho
  have HR := hide hr
  have hz1 : w.heap.size ≤ w1.heap.size := ho.size
  clear h hj ho hr
  go_wp2_with fail
  refine (shuffle_any R _ js.length 12 _ HR.out (by omega) hl (by omega) (by omega)).mono ?_
  rintro e w2 ⟨v1, xs, rfl, hx, hi, ho, hr⟩
  have hz2 : w1.heap.size ≤ w2.heap.size := ho.size
  have HJ2 := hide ((HJ.out.other ho (.inr (by omega))).mono (Nat.le_refl _) hz2 (Nat.le_refl _))
  have HO2 := hide (HO.out.trans ho)
  have HI2 := hide (hi.mono hz1 (Nat.le_refl _) (Nat.le_refl _))
  have HR2 := hide hr
  clear ho hr hi
  go_wp2_with fail
  go_ret2
  exact ⟨_, js, _, xs, rfl, hl, by omega, HJ2.out, HI2.out, HO2.out, HR2.out.mono (by omega)⟩

/-- One int more. -/
theorem grown_one {base : Nat} {w w' : World} {v v' : Value} {xs : List Int} {y : Int} {o : Obj} (hw : OwnI base w v xs) (hz : base ≤ w.heap.size)
    (hown : w'.ownsRow base 3 1 v' (xs.length + 1) (xs.map (Value.int .i64) ++ [.int .i64 y])) (hg : (w.alloc o).grownBy w' v.ownBlock) :
    Below base w w' ∧ ∃ g c, v' = .slice (some ⟨g, 0, none⟩) (xs.length + 1) c ∧ OwnI base w' v' (xs ++ [y]) := by
  have hB : Below base w w' := ((Below.refl _ _).alloc hz _).grown hg (Nat.le_trans hz (by simp)) fun k hk => (hw.2.lt k hk).1
  have h := OwnR.of_owns (base := base) (xs := xs ++ [y]) hown (by simp) (by simp)
  obtain ⟨g, c, e, hI⟩ := own_some h (by simp)
  exact ⟨hB, g, c, by rw [e]; simp, hI⟩
theorem two_got' {R k kk : Nat} {w w1 w2 : World} {v v1 : Value} {js : List J} {bs : List Int} (hj : JobsAt w.heap.size w1.heap.size w1 v js) (ho1 : Other R (R + 1) w w1) (hlt : R < w.heap.size) (hl : js.length ≤ 7) (hb : bs.length ≤ 9)
    (ho : Other R (R + 1) w1 w2) (hr : Rd R kk w2) (hk : kk ≤ k + 60) {hi : Nat} (hw : IntsAt w1.heap.size hi w2 v1 bs) : TwoGot R k w (.returned (.tuple #[v, v1])) w2 :=
  ⟨v, js, v1, bs, rfl, hl, hb, (hj.other ho (.inr (by omega))).mono (Nat.le_refl _) ho.size (Nat.le_refl _), hw.mono ho1.size hw.lt (Nat.le_refl _), ho1.trans ho, hr.mono hk⟩
theorem two_got {R k kk : Nat} {w w1 w2 : World} {v v1 : Value} {js : List J} {bs : List Int} (hj : JobsAt w.heap.size w1.heap.size w1 v js) (ho1 : Other R (R + 1) w w1) (hlt : R < w.heap.size) (hl : js.length ≤ 7) (hb : bs.length ≤ 9)
    (ho : Other R (R + 1) w1 w2) (hr : Rd R kk w2) (hk : kk ≤ k + 60) (hw : OwnI w1.heap.size w2 v1 bs) : TwoGot R k w (.returned (.tuple #[v, v1])) w2 :=
  ⟨v, js, v1, bs, rfl, hl, hb, (hj.other ho (.inr (by omega))).mono (Nat.le_refl _) ho.size (Nat.le_refl _), hw.at.mono ho1.size (Nat.le_refl _) (Nat.le_refl _), ho1.trans ho, hr.mono hk⟩

set_option maxRecDepth 10000 in
set_option maxHeartbeats 800000 in
theorem before_any (R k : Nat) (m : Int) (w : World) (h : Rd R k w) (hk : k ≤ 10000) (hm1 : 1 ≤ m) (hm2 : m ≤ 10000) :
    Calls Tryd.prog 79 #[.pointer (some ⟨R, 0, none⟩), .int .i64 m] w (TwoGot R k w) := by
  obtain ⟨i0, hi0, hz0, hi1, hi2⟩ := info_parts info_int
  have hlt := h.lt
  go_enter Tryd.func79, Tryd.ntmps79
  go_wp2_with fail
  refine (l20Jobs_any R k (2 * m) _ h (by omega) (by omega) (by omega)).mono ?_
  rintro e w1 ⟨v, js, rfl, hl, -, hj, ho, hr⟩
  obtain ⟨ao, cap, rfl, hlc, hcap, -, -⟩ := id hj
  have HJ := hide hj
  have HO := hide ho
  have HR := hide (hr.keep ((Below.refl w1.heap.size w1).alloc (Nat.le_refl _) (.cells #[] 3)) hr.lt)
  have hz1 : w.heap.size ≤ w1.heap.size := ho.size
  have HW1 := hide (OwnI.new w1.heap.size w1 [] (Nat.le_refl _) (by simp))
  clear h hj ho hr
  go_wp2_with fail
  go_loopw [7, 8, 9] (fun o i _ wr => ∃ (bs : List Int), i = .int .i64 (bs.length : Nat) ∧ bs.length ≤ js.length ∧ (∃ g cap, o = .slice (some ⟨g, 0, none⟩) bs.length cap) ∧ Other R (R + 1) w1 wr ∧ Rd R (k + 30 + 2 * bs.length) wr ∧ OwnI w1.heap.size wr o bs) (fun _ i _ _ => js.length - (intOf i).toNat)
  case atStart => exact ⟨[], rfl, by simp, ⟨_, _, rfl⟩, Other.of_below ((Below.refl w1.heap.size w1).alloc (Nat.le_refl _) _), HR.out, by simpa using HW1.out⟩
  case round =>
    obtain ⟨bs, rfl, hbn, ⟨g, capb, rfl⟩, ho, hr, hw⟩ := hrel
    have HO2 := hide ho
    have HR2 := hide hr
    have HW2 := hide hw
    have hcap := own_le hw.2
    have hzr : w1.heap.size ≤ wr.heap.size := ho.size
    clear ho hr hw
    by_cases hlt2 : bs.length < js.length
    · go_wp2_with fail
      refine (pick_in R _ 2 _ HR2.out (by omega) (by omega) (by omega)).mono ?_
      rintro e w2 ⟨x, rfl, p1, p2, ho2, hr2⟩
      have HO3 := hide (HO2.out.trans ho2)
      have HR3 := hide hr2
      have HW3 := hide (HW2.out.other ho2 (by omega))
      clear ho2 hr2
      have hx2 : x = 0 ∨ x = 1 := by omega
      rcases hx2 with rfl | rfl
      · go_wp2_with fail
        refine (pick_in R _ _ _ HR3.out (by omega) (by omega) (by omega)).mono ?_
        rintro e w3 ⟨y, rfl, q1, q2, ho3, hr3⟩
        have HO4 := hide (HO3.out.trans ho3)
        have HR4 := hide hr3
        have HW4 := hide (HW3.out.other ho3 (by omega))
        have hz3 : w1.heap.size ≤ w3.heap.size := HO4.out.size
        clear ho3 hr3
        go_wp2_with (at_builtin; refine wpList_append_own _ rfl _ _ _ rfl w1.heap.size 3 i0 _ 1 8 Tryd.underlying36 hi0 hz0 hi1 hi2 rfl (by decide) _ bs.length (bs.map (Value.int .i64)) rfl (HW4.out.2.alloc _) ⟨w3.heap.size, 0, none⟩ 1 1 [.int .i64 (y - 1)] rfl rfl (lit_cells w3 [_] _) ?g3 ?g4 ?g5 ?g6 ?_)
        case g3 => intro u hu; rw [List.mem_singleton] at hu; subst hu; rfl
        case g4 => unfold maxLen; omega
        case g5 => omega
        case g6 => exact Nat.le_trans hz3 (by simp)
        intro v4 w4 hown4 hgrow4 _
        obtain ⟨hB, g4, c4, rfl, hI⟩ := grown_one (y := y - 1) HW4.out hz3 hown4 hgrow4
        have HO5 := hide (HO4.out.step hB (Nat.le_refl _))
        have HR5 := hide (HR4.out.keep hB (by omega))
        have HW5 := hide hI
        clear hown4 hgrow4 hB hI
        go_wp2_with fail
        go_roundw
        case rel => exact ⟨bs ++ [y - 1], by simp, by simp; omega, ⟨g4, c4, by simp⟩, HO5.out, HR5.out.mono (by simp; omega), HW5.out⟩
        case measure => simp [intOf]; omega
      · have hz3 : w1.heap.size ≤ w2.heap.size := HO3.out.size
        go_wp2_with (at_builtin; refine wpList_append_own _ rfl _ _ _ rfl w1.heap.size 3 i0 _ 1 8 Tryd.underlying36 hi0 hz0 hi1 hi2 rfl (by decide) _ bs.length (bs.map (Value.int .i64)) rfl (HW3.out.2.alloc _) ⟨w2.heap.size, 0, none⟩ 1 1 [.int .i64 (-1)] rfl rfl (lit_cells w2 [_] _) ?g3 ?g4 ?g5 ?g6 ?_)
        case g3 => intro u hu; rw [List.mem_singleton] at hu; subst hu; rfl
        case g4 => unfold maxLen; omega
        case g5 => omega
        case g6 => exact Nat.le_trans hz3 (by simp)
        intro v4 w4 hown4 hgrow4 _
        obtain ⟨hB, g4, c4, rfl, hI⟩ := grown_one (y := -1) HW3.out hz3 hown4 hgrow4
        have HO5 := hide (HO3.out.step hB (Nat.le_refl _))
        have HR5 := hide (HR3.out.keep hB (by omega))
        have HW5 := hide hI
        clear hown4 hgrow4 hB hI
        go_wp2_with fail
        go_roundw
        case rel => exact ⟨bs ++ [-1], by simp, by simp; omega, ⟨g4, c4, by simp⟩, HO5.out, HR5.out.mono (by simp; omega), HW5.out⟩
        case measure => simp [intOf]; omega
    · obtain hbe : bs.length = js.length := by omega
      have hbI : (bs.length : Int) ≥ (js.length : Int) := by omega
      have hb7 : bs.length ≤ 7 := by omega
      clear hbe
      go_wp2_with fail
      refine (odd_any R _ (2 * m) _ HR2.out (by omega) (by omega) (by omega)).mono ?_
      rintro e w2 ⟨b, rfl, ho2, hr2⟩
      have HO3 := hide (HO2.out.trans ho2)
      have HR3 := hide hr2
      have HW3 := hide (HW2.out.other ho2 (by omega))
      clear ho2 hr2
      have hz2 : w1.heap.size ≤ w2.heap.size := HO3.out.size
      cases b with
      | false =>
        go_wp2_with fail
        go_ret2
        exact two_got HJ.out HO.out hlt hl (by omega) HO3.out HR3.out (by omega) HW3.out
      | true =>
        by_cases hb0 : 0 < bs.length
        · go_wp2_with fail
          refine (pick_in R _ 2 _ HR3.out (by omega) (by omega) (by omega)).mono ?_
          rintro e w3 ⟨x, rfl, p1, p2, ho3, hr3⟩
          have HO4 := hide (HO3.out.trans ho3)
          have HR4 := hide hr3
          have HW4 := hide (HW3.out.other ho3 (by omega))
          have hz3 : w1.heap.size ≤ w3.heap.size := HO4.out.size
          clear ho3 hr3
          have hx2 : x = 0 ∨ x = 1 := by omega
          rcases hx2 with rfl | rfl
          · have hat := HW4.out.at
            have hg := HW4.out.2.lt g rfl
            have hc := HW4.out.2.cells rfl 0 (.int .i64 bs[0]) (by simp [hb0])
            have hf := HW4.out.2.frozenAt 0
            have hadd : (⟨g, 0, none⟩ : Addr).add 0 = ⟨g, 0, none⟩ := by simp [Addr.add]
            rw [hadd] at hc
            have hs := IntsAt.set hat hb0 rfl 0
            rw [Nat.add_zero] at hs
            have hB : Below w1.heap.size w3 (w3.setCell ⟨g, 0, none⟩ (.int .i64 0)) := (Below.refl _ _).setCell hg.1 _
            have HF := hide (two_got' (k := k) HJ.out HO.out hlt hl (by rw [List.length_set]; omega) (HO4.out.step hB (Nat.le_refl _)) (HR4.out.keep hB (by omega)) (by omega) hs)
            clear hat hs hB hadd
            go_wp2_with fail
            go_ret2
            exact HF.out
          · clear hcap
            go_wp2_with (at_builtin; refine wpList_append_own _ rfl _ _ _ rfl w1.heap.size 3 i0 _ 1 8 Tryd.underlying36 hi0 hz0 hi1 hi2 rfl (by decide) _ bs.length (bs.map (Value.int .i64)) rfl (HW4.out.2.alloc _) ⟨w3.heap.size, 0, none⟩ 1 1 [.int .i64 (-1)] rfl rfl (lit_cells w3 [_] _) ?g3 ?g4 ?g5 ?g6 ?_)
            case g3 => intro u hu; rw [List.mem_singleton] at hu; subst hu; rfl
            case g4 => unfold maxLen; omega
            case g5 => omega
            case g6 => exact Nat.le_trans hz3 (by simp)
            intro v4 w4 hown4 hgrow4 _
            obtain ⟨hB, g4, c4, rfl, hI⟩ := grown_one (y := -1) HW4.out hz3 hown4 hgrow4
            have HF := hide (two_got (k := k) HJ.out HO.out hlt hl (by simp; omega) (HO4.out.step hB (Nat.le_refl _)) (HR4.out.keep hB (by omega)) (by omega) hI)
            clear hown4 hgrow4 hB hI
            go_wp2_with fail
            go_ret2
            exact HF.out
        · have hb00 : bs.length = 0 := by omega
          have : bs = [] := List.eq_nil_of_length_eq_zero hb00
          subst this
          go_wp2_with (at_builtin; refine wpList_append_own _ rfl _ _ _ rfl w1.heap.size 3 i0 _ 1 8 Tryd.underlying36 hi0 hz0 hi1 hi2 rfl (by decide) _ 0 [] rfl (HW3.out.2.alloc _) ⟨w2.heap.size, 0, none⟩ 1 1 [.int .i64 (-1)] rfl rfl (lit_cells w2 [_] _) ?g3 ?g4 ?g5 ?g6 ?_)
          case g3 => intro u hu; rw [List.mem_singleton] at hu; subst hu; rfl
          case g4 => unfold maxLen; omega
          case g5 => omega
          case g6 => exact Nat.le_trans hz2 (by simp)
          intro v4 w4 hown4 hgrow4 _
          obtain ⟨hB, g4, c4, rfl, hI⟩ := grown_one (y := -1) HW3.out hz2 hown4 hgrow4
          have HF := hide (two_got (k := k) HJ.out HO.out hlt hl (by simp) (HO3.out.step hB (Nat.le_refl _)) (HR3.out.keep hB (by omega)) (by omega) hI)
          clear hown4 hgrow4 hB hI
          go_wp2_with fail
          go_ret2
          exact HF.out
end Go.Proofs.YtfjemnjdkniibaaDoor
