/-
  The draw of jobs, of what must be done before, and of an order.
-/
import Derived.Test.YtfjemnjdkniibaaDoorDrawN
import Derived.Test.YtfjemnjdkniibaaDoorPlainLawler
namespace Go.Proofs.YtfjemnjdkniibaaDoor
open Go.RowKit

theorem IntsAt.free {lo hi b o n cap k : Nat} {w : World} {xs : List Int} (h : IntsAt lo hi w (.slice (some ⟨b, o, none⟩) n cap) xs) (hk : k < xs.length) : w.frozen? ⟨b, o + k, none⟩ = false := by
  obtain ⟨ao, cap', e, -, -, -, h4⟩ := h
  simp only [Value.slice.injEq] at e
  obtain ⟨rfl, -, -⟩ := e
  obtain ⟨b', o', e, -, -, hc⟩ := h4 (by omega)
  simp only [Option.some.injEq, Addr.mk.injEq] at e
  obtain ⟨rfl, rfl, -⟩ := e
  exact (hc k hk).2
theorem IntsAt.lo_le {lo hi b o n cap : Nat} {w : World} {xs : List Int} (h : IntsAt lo hi w (.slice (some ⟨b, o, none⟩) n cap) xs) (hn : 0 < xs.length) : lo ≤ b := by
  obtain ⟨ao, cap', e, -, -, -, h4⟩ := h
  simp only [Value.slice.injEq] at e
  obtain ⟨rfl, -, -⟩ := e
  obtain ⟨b', o', e, h5, -, -⟩ := h4 hn
  simp only [Option.some.injEq, Addr.mk.injEq] at e
  omega
theorem bfB_at {js : List J} {bs : List Int} {i : Nat} (h : bfB js bs = true) (hi : i < bs.length) : -1 ≤ bs[i] ∧ bs[i] ≤ (i : Int) - 1 := by
  have hb : bfAll bs = true := by simp only [bfB, Bool.and_eq_true] at h; exact h.2
  have := upTo_iff.1 hb i hi
  rw [bfK_at hi] at this
  exact wi_iff.1 this
/-- Jobs, what must be done before, and an order were drawn. -/
def ThreeGot (w : World) (e : Ending) (w' : World) : Prop :=
  ∃ v js v1 bs v2 os, e = .returned (.tuple #[v, v1, v2]) ∧ js.length ≤ 7 ∧ bs.length ≤ 9 ∧ os.length ≤ 8 ∧ JobsAt w.heap.size w'.heap.size w' v js ∧ IntsAt w.heap.size w'.heap.size w' v1 bs ∧ IntsAt w.heap.size w'.heap.size w' v2 os ∧ Below w.heap.size w w'
theorem three_got {w w1 w2 w3 : World} {R lo hi : Nat} {v v1 v2 : Value} {js : List J} {bs os : List Int} (hb : Below w.heap.size w w1) (hR : w.heap.size ≤ R) (hR2 : R < w1.heap.size) (hl : js.length ≤ 7) (hbl : bs.length ≤ 9) (hol : os.length ≤ 8)
    (hj : JobsAt w1.heap.size w2.heap.size w2 v js) (hi1 : IntsAt w1.heap.size w2.heap.size w2 v1 bs) (ho : Other R (R + 1) w1 w2) (ho' : Other R (R + 1) w2 w3) (hi2 : IntsAt lo hi w3 v2 os) (hlo : w.heap.size ≤ lo) : ThreeGot w (.returned (.tuple #[v, v1, v2])) w3 :=
  ⟨v, js, v1, bs, v2, os, rfl, hl, hbl, hol, (hj.other ho' (.inr (by omega))).mono hb.size ho'.size (Nat.le_refl _), (hi1.other ho' (.inr (by omega))).mono hb.size ho'.size (Nat.le_refl _), hi2.mono hlo hi2.lt (Nat.le_refl _), hb.trans ((ho.trans ho').below hR hb.size)⟩
theorem set_nn {xs : List Int} {j : Nat} {y : Int} (h : ∀ x ∈ xs, 0 ≤ x) (hy : 0 ≤ y) : ∀ x ∈ xs.set j y, 0 ≤ x := fun x hx => by
  rcases List.mem_or_eq_of_mem_set hx with hx | hx
  · exact h x hx
  · rw [hx]; exact hy

set_option maxRecDepth 10000 in
set_option maxHeartbeats 1600000 in
theorem drawBeforeOk (v : Value) (n : Nat) (w : World) (h : BytesAt 0 w.heap.size w v n) : Calls Tryd.prog 39 #[v] w (ThreeGot w) := by
  obtain ⟨i0, hi0, hz0, hi1, hi2⟩ := info_parts info_int
  have HB := hide h
  clear h
  go_enter Tryd.func39, Tryd.ntmps39
  go_wp2_with fail
  refine (open_any v n _ HB.out).mono ?_
  rintro e w1 ⟨R, rfl, hR, hb1, hr1⟩
  have HB1 := hide hb1
  have hRl := hr1.lt
  go_wp2_with fail
  refine (before_any R 0 9 _ hr1 (by omega) (by omega) (by omega)).mono ?_
  rintro e w2 ⟨v1, js, v2, bs, rfl, hl, hbl, hj, hi, ho, hr⟩
  obtain ⟨ao1, cap1, rfl, hlc1, hcap1, -⟩ := hj.where'
  obtain ⟨ao2, cap2, rfl, hlc2, hcap2, ha2⟩ := hi.where
  have HA2 := hide ha2
  have HJ := hide hj
  have HI := hide hi
  have HO := hide ho
  have HR := hide hr
  have hz1 : w1.heap.size ≤ w2.heap.size := ho.size
  clear hb1 hr1 hj hi ho hr ha2
  go_wp2_with fail
  refine (shuffle_nn R _ js.length 14 _ HR.out (by omega) hl (by omega) (by omega)).mono ?_
  rintro e w3 ⟨v3, ys, rfl, hyl, hnn, hys, ho, hr⟩
  obtain ⟨ao3, cap3, rfl, hlc3, hcap3, ha3⟩ := hys.where
  have HO3 := hide ho
  have HR3 := hide hr
  have HN := hide hnn
  have hz2 : w2.heap.size ≤ w3.heap.size := ho.size
  obtain ⟨L, hL⟩ : ∃ L, ys.length = L := ⟨_, rfl⟩
  rw [hL] at hyl hlc3 ha3 hys ⊢
  have HA3 := hide ha3
  have HY := hide hys
  have HL := hide hL
  clear hys ho hr hnn ha3 hL
  go_wp2_with fail
  go_loopw [9, 10, 11] (fun i _ _ wr => ∃ (k : Nat) (xs : List Int), k ≤ L ∧ i = .int .i64 k ∧ xs.length = L ∧ (∀ x ∈ xs, 0 ≤ x) ∧ IntsAt w2.heap.size w3.heap.size wr (.slice ao3 L cap3) xs ∧ Other R (R + 1) w2 wr ∧ Rd R (72 + k) wr) (fun i _ _ _ => L - (intOf i).toNat)
  case atStart => exact ⟨0, ys, Nat.zero_le _, rfl, HL.out, HN.out, HY.out, HO3.out, HR3.out.mono (by omega)⟩
  case round =>
    obtain ⟨k, xs, hk, rfl, hxl, hnn, hx, ho, hr⟩ := hrel
    have HXL := hide hxl
    have HX := hide hx
    have HNr := hide hnn
    have HOr := hide ho
    have HRr := hide hr
    have HJr := hide (HJ.out.other ho (.inr (by omega)))
    have HIr := hide (HI.out.other ho (.inr (by omega)))
    clear hxl hx hnn ho hr
    by_cases hlt : k < L
    · have hkI : (k : Int) < (L : Int) := by omega
      obtain ⟨b3, o3, rfl⟩ := HA3.out (by omega)
      cases hbf : bfB js bs with
      | false =>
        go_wp2_with fail
        refine (before_spec _ js _ _ _ bs _ _ _ HJr.out HIr.out).mono ?_
        rw [hbf]
        rintro e w5 ⟨rfl, hb⟩
        have HO5 := hide (HOr.out.step hb HOr.out.size)
        have HX5 := hide (HX.out.below hb)
        have HR5 := hide (HRr.out.keep hb HRr.out.lt)
        clear hb
        go_wp2_with fail
        refine (pick_in R _ 3 _ HR5.out (by omega) (by omega) (by omega)).mono ?_
        rintro e w8 ⟨p, rfl, p1, p2, ho8, hr8⟩
        have HO8 := hide (HO5.out.trans ho8)
        have HX8 := hide (HX5.out.other ho8 (.inr (by omega)))
        have hz8 : w2.heap.size ≤ w8.heap.size := HO8.out.size
        clear ho8 hr8
        by_cases hp : p = 0
        · subst hp
          go_wp2_with fail
          go_loopw [8, 12] (fun o i wr => ∃ zs : List Int, i = .int .i64 (zs.length : Nat) ∧ zs.length ≤ js.length ∧ (∃ g cap, o = .slice (some ⟨g, 0, none⟩) zs.length cap) ∧ Other R (R + 1) w2 wr ∧ Below w8.heap.size w8 wr ∧ OwnI w8.heap.size wr o zs) (fun _ i _ => js.length - (intOf i).toNat)
          case atStart => exact ⟨[], rfl, by simp, ⟨_, _, rfl⟩, HO8.out.step ((Below.refl w8.heap.size w8).alloc (Nat.le_refl _) _) hz8, (Below.refl _ _).alloc (Nat.le_refl _) _, by simpa using OwnI.new w8.heap.size w8 [] (Nat.le_refl _) (by simp)⟩
          case round =>
            obtain ⟨zs, rfl, hzn, ⟨g, capz, rfl⟩, hoz, hbz, hown⟩ := hrel
            have HOz := hide hoz
            have HBz := hide hbz
            have Hz := hide hown
            have hzz : w8.heap.size ≤ wr.heap.size := hbz.size
            clear hoz hbz hown
            by_cases hlt2 : zs.length < js.length
            · have hkI : (zs.length : Int) < (js.length : Int) := by omega
              go_wp2_with (at_builtin; refine wpList_append_own _ rfl _ _ _ rfl w8.heap.size 3 i0 _ 1 8 Tryd.underlying36 hi0 hz0 hi1 hi2 rfl (by decide) _ zs.length (zs.map (Value.int .i64)) rfl (Hz.out.2.alloc _) ⟨wr.heap.size, 0, none⟩ 1 1 [.int .i64 (zs.length : Nat)] rfl rfl (lit_cells wr [_] _) ?g3 ?g4 ?g5 ?g6 ?_)
              case g3 => intro u hu; rw [List.mem_singleton] at hu; subst hu; rfl
              case g4 => unfold maxLen; omega
              case g5 => omega
              case g6 => exact Nat.le_trans hzz (by simp)
              intro v4 w4 hown4 hgrow4 _
              obtain ⟨hB, g4, c4, rfl, hI⟩ := grown_one (y := (zs.length : Nat)) Hz.out hzz hown4 hgrow4
              have HO9 := hide (HOz.out.step hB hz8)
              have HB9 := hide (HBz.out.trans hB)
              have HI9 := hide hI
              clear hown4 hgrow4 hB hI
              go_wp2_with fail
              go_roundw
              case rel => exact ⟨zs ++ [((zs.length : Nat) : Int)], by simp, by simp; omega, ⟨g4, c4, by simp⟩, HO9.out, HB9.out, HI9.out⟩
              case measure => simp [intOf]; omega
            · have hz7 : zs.length ≤ 8 := by omega
              have HF := hide (three_got HB1.out hR hRl hl hbl hz7 HJ.out HI.out HO.out HOz.out Hz.out.at (Nat.le_trans HB1.out.size (Nat.le_trans hz1 hz8)))
              go_wp2_with fail
              go_ret3
              exact HF.out
        · have hpB : (p == 0) = false := by simpa using hp
          have HF := hide (three_got HB1.out hR hRl hl hbl (by rw [HXL.out]; exact hyl) HJ.out HI.out HO.out HO8.out HX8.out (Nat.le_trans HB1.out.size hz1))
          go_wp2_with fail
          rw [← HXL.out] at *
          go_ret3
          exact HF.out
      | true =>
        have HBL := hide (bfB_len hbf)
        have HBN := hide (show ∀ i (hi : i < bs.length), -1 ≤ bs[i] ∧ bs[i] ≤ (i : Int) - 1 from fun i hi => bfB_at hbf hi)
        go_wp2_with fail
        refine (before_spec _ js _ _ _ bs _ _ _ HJr.out HIr.out).mono ?_
        rw [hbf]
        rintro e w5 ⟨rfl, hb⟩
        have HO5 := hide (HOr.out.step hb HOr.out.size)
        have HX5 := hide (HX.out.below hb)
        have HR5 := hide (HRr.out.keep hb HRr.out.lt)
        clear hb hbf
        go_wp2_with fail
        refine (pick_in R _ 9 _ HR5.out (by omega) (by omega) (by omega)).mono ?_
        rintro e w6 ⟨p, rfl, p1, p2, ho6, hr6⟩
        have HO6 := hide (HO5.out.trans ho6)
        have HX6 := hide (HX5.out.other ho6 (.inr (by omega)))
        have HR6 := hide hr6
        clear ho6 hr6
        by_cases hp : 0 < p
        · go_wp2_with fail
          go_loopw [10, 11] (fun i _ wr => ∃ (j : Nat) (zs : List Int), j ≤ L ∧ i = .int .i64 j ∧ zs.length = L ∧ (∀ x ∈ zs, 0 ≤ x) ∧ IntsAt w2.heap.size w3.heap.size wr (.slice (some ⟨b3, o3, none⟩) L cap3) zs ∧ Other R (R + 1) w2 wr ∧ Rd R (72 + k + 1) wr) (fun i _ _ => L - (intOf i).toNat)
          case atStart => exact ⟨0, xs, Nat.zero_le _, rfl, HXL.out, HNr.out, HX6.out, HO6.out, HR6.out⟩
          case round =>
            obtain ⟨j, zs, hj, rfl, hzl, hnz, hz, hoz, hrz⟩ := hrel
            have HZ := hide hz
            have HZL := hide hzl
            have HNZ := hide hnz
            have HOz := hide hoz
            have HRz := hide hrz
            have HIz := hide (HI.out.other hoz (.inr (by omega)))
            clear hz hzl hnz hoz hrz
            by_cases hlt2 : j + 1 < L
            · have hj0 : j < zs.length := by rw [HZL.out]; omega
              have hj1 : j + 1 < zs.length := by rw [HZL.out]; omega
              have r1 := HZ.out.read hj0
              have r2 := HZ.out.read hj1
              have hn1 := HNZ.out _ (List.getElem_mem hj0)
              have hn2 := HNZ.out _ (List.getElem_mem hj1)
              have HS := hide (IntsAt.set (HZ.out.set hj0 HZL.out.symm zs[j + 1]) (by simpa using hj1) (by simpa using HZL.out.symm) zs[j])
              have HSN := hide (set_nn (j := j + 1) (set_nn (j := j) HNZ.out hn2) hn1)
              have HSL := hide (show ((zs.set j zs[j + 1]).set (j + 1) zs[j]).length = L by simpa using HZL.out)
              obtain ⟨zt, hzt⟩ : ∃ zt, (zs.set j zs[j + 1]).set (j + 1) zs[j] = zt := ⟨_, rfl⟩
              rw [hzt] at HS HSN HSL
              obtain ⟨a, ha⟩ := Int.eq_ofNat_of_zero_le hn1
              obtain ⟨y, hy⟩ : ∃ y, zs[j + 1] = y := ⟨_, rfl⟩
              rw [ha] at r1 HS
              rw [hy] at r2 HS
              have hzb : b3 < wr.heap.size := HZ.out.block_lt (by rw [HZL.out]; omega)
              have f1 := HZ.out.free hj0
              have f2 := HZ.out.free hj1
              have hw1 : IntKind.i64.wrap ((j : Int) + 1) = ((j + 1 : Nat) : Int) := by rw [IntWalk.i64_in _ (by omega)]; omega
              have hw2 : ((j + 1 : Nat) : Int) < (L : Int) := by omega
              have hjI : (j : Int) < (L : Int) := by omega
              clear hn1 hn2 hj0 hj1 hzt ha hy
              by_cases hab : a < bs.length
              · obtain ⟨b2, o2, rfl⟩ := HA2.out (by omega)
                have r3 := HIz.out.read hab
                obtain ⟨z, hz⟩ : ∃ z, bs[a] = z := ⟨_, rfl⟩
                rw [hz] at r3
                have habI : (a : Int) < (bs.length : Int) := by omega
                clear hz
                by_cases hzy : z = y
                · subst hzy
                  go_wp2_with fail
                  go_quiet (fail)
                  clear hw1 hw2
                  have hlo := HZ.out.lo_le (by rw [HZL.out]; omega)
                  have hB : Below w2.heap.size wr ((wr.setCell ⟨b3, o3 + j, none⟩ (.int .i64 z)).setCell ⟨b3, o3 + (j + 1), none⟩ (.int .i64 a)) := ((Below.refl _ _).setCell hlo _).setCell hlo _
                  have HOs := hide (HOz.out.step hB (Nat.le_refl _))
                  have HRs := hide (HRz.out.keep hB (by omega))
                  clear hB
                  go_wp2_with fail
                  go_roundw
                  case rel => exact ⟨j + 1, zt, by omega, by go_num, HSL.out, HSN.out, HS.out, HOs.out.drewN _, HRs.out.drewN _⟩
                  case measure => simp [intOf]; omega
                · have hzyB : (z == y) = false := by simpa using hzy
                  go_wp2_with fail
                  go_quiet (fail)
                  clear hw1 hw2
                  go_wp2_with fail
                  go_roundw
                  case rel => exact ⟨j + 1, zs, by omega, by go_num, HZL.out, HNZ.out, HZ.out, HOz.out.drewN _, HRz.out.drewN _⟩
                  case measure => simp [intOf]; omega
              · have habI : decide ((a : Int) < (bs.length : Int)) = false := by simp; omega
                go_wp2_with fail
                go_quiet (fail)
                clear hw1 hw2
                go_wp2_with fail
                go_roundw
                case rel => exact ⟨j + 1, zs, by omega, by go_num, HZL.out, HNZ.out, HZ.out, HOz.out.drewN _, HRz.out.drewN _⟩
                case measure => simp [intOf]; omega
            · go_wp2_with fail
              go_roundw
              case rel => exact ⟨k + 1, zs, by omega, by go_num, HZL.out, HNZ.out, HZ.out, HOz.out, HRz.out.mono (by omega)⟩
              case measure => simp [intOf]; omega
        · obtain rfl : p = 0 := by omega
          go_wp2_with fail
          refine (pick_in R _ 3 _ HR6.out (by omega) (by omega) (by omega)).mono ?_
          rintro e w8 ⟨p, rfl, p1, p2, ho8, hr8⟩
          have HO8 := hide (HO6.out.trans ho8)
          have HX8 := hide (HX6.out.other ho8 (.inr (by omega)))
          have hz8 : w2.heap.size ≤ w8.heap.size := HO8.out.size
          clear ho8 hr8
          by_cases hp : p = 0
          · subst hp
            go_wp2_with fail
            go_loopw [8, 12] (fun o i wr => ∃ zs : List Int, i = .int .i64 (zs.length : Nat) ∧ zs.length ≤ js.length ∧ (∃ g cap, o = .slice (some ⟨g, 0, none⟩) zs.length cap) ∧ Other R (R + 1) w2 wr ∧ Below w8.heap.size w8 wr ∧ OwnI w8.heap.size wr o zs) (fun _ i _ => js.length - (intOf i).toNat)
            case atStart => exact ⟨[], rfl, by simp, ⟨_, _, rfl⟩, HO8.out.step ((Below.refl w8.heap.size w8).alloc (Nat.le_refl _) _) hz8, (Below.refl _ _).alloc (Nat.le_refl _) _, by simpa using OwnI.new w8.heap.size w8 [] (Nat.le_refl _) (by simp)⟩
            case round =>
              obtain ⟨zs, rfl, hzn, ⟨g, capz, rfl⟩, hoz, hbz, hown⟩ := hrel
              have HOz := hide hoz
              have HBz := hide hbz
              have Hz := hide hown
              have hzz : w8.heap.size ≤ wr.heap.size := hbz.size
              clear hoz hbz hown
              by_cases hlt2 : zs.length < js.length
              · have hkI : (zs.length : Int) < (js.length : Int) := by omega
                go_wp2_with (at_builtin; refine wpList_append_own _ rfl _ _ _ rfl w8.heap.size 3 i0 _ 1 8 Tryd.underlying36 hi0 hz0 hi1 hi2 rfl (by decide) _ zs.length (zs.map (Value.int .i64)) rfl (Hz.out.2.alloc _) ⟨wr.heap.size, 0, none⟩ 1 1 [.int .i64 (zs.length : Nat)] rfl rfl (lit_cells wr [_] _) ?g3 ?g4 ?g5 ?g6 ?_)
                case g3 => intro u hu; rw [List.mem_singleton] at hu; subst hu; rfl
                case g4 => unfold maxLen; omega
                case g5 => omega
                case g6 => exact Nat.le_trans hzz (by simp)
                intro v4 w4 hown4 hgrow4 _
                obtain ⟨hB, g4, c4, rfl, hI⟩ := grown_one (y := (zs.length : Nat)) Hz.out hzz hown4 hgrow4
                have HO9 := hide (HOz.out.step hB hz8)
                have HB9 := hide (HBz.out.trans hB)
                have HI9 := hide hI
                clear hown4 hgrow4 hB hI
                go_wp2_with fail
                go_roundw
                case rel => exact ⟨zs ++ [((zs.length : Nat) : Int)], by simp, by simp; omega, ⟨g4, c4, by simp⟩, HO9.out, HB9.out, HI9.out⟩
                case measure => simp [intOf]; omega
              · have hz7 : zs.length ≤ 8 := by omega
                have HF := hide (three_got HB1.out hR hRl hl hbl hz7 HJ.out HI.out HO.out HOz.out Hz.out.at (Nat.le_trans HB1.out.size (Nat.le_trans hz1 hz8)))
                go_wp2_with fail
                go_ret3
                exact HF.out
          · have hpB : (p == 0) = false := by simpa using hp
            have HF := hide (three_got HB1.out hR hRl hl hbl (by rw [HXL.out]; exact hyl) HJ.out HI.out HO.out HO8.out HX8.out (Nat.le_trans HB1.out.size hz1))
            go_wp2_with fail
            rw [← HXL.out] at *
            go_ret3
            exact HF.out
    · obtain rfl : k = L := by omega
      go_wp2_with fail
      refine (pick_in R _ 3 _ HRr.out (by omega) (by omega) (by omega)).mono ?_
      rintro e w8 ⟨p, rfl, p1, p2, ho8, hr8⟩
      have HO8 := hide (HOr.out.trans ho8)
      have HX8 := hide (HX.out.other ho8 (.inr (by omega)))
      have hz8 : w2.heap.size ≤ w8.heap.size := HO8.out.size
      clear ho8 hr8
      by_cases hp : p = 0
      · subst hp
        go_wp2_with fail
        go_loopw [8, 12] (fun o i wr => ∃ zs : List Int, i = .int .i64 (zs.length : Nat) ∧ zs.length ≤ js.length ∧ (∃ g cap, o = .slice (some ⟨g, 0, none⟩) zs.length cap) ∧ Other R (R + 1) w2 wr ∧ Below w8.heap.size w8 wr ∧ OwnI w8.heap.size wr o zs) (fun _ i _ => js.length - (intOf i).toNat)
        case atStart => exact ⟨[], rfl, by simp, ⟨_, _, rfl⟩, HO8.out.step ((Below.refl w8.heap.size w8).alloc (Nat.le_refl _) _) hz8, (Below.refl _ _).alloc (Nat.le_refl _) _, by simpa using OwnI.new w8.heap.size w8 [] (Nat.le_refl _) (by simp)⟩
        case round =>
          obtain ⟨zs, rfl, hzn, ⟨g, capz, rfl⟩, hoz, hbz, hown⟩ := hrel
          have HOz := hide hoz
          have HBz := hide hbz
          have Hz := hide hown
          have hzz : w8.heap.size ≤ wr.heap.size := hbz.size
          clear hoz hbz hown
          by_cases hlt2 : zs.length < js.length
          · have hkI : (zs.length : Int) < (js.length : Int) := by omega
            go_wp2_with (at_builtin; refine wpList_append_own _ rfl _ _ _ rfl w8.heap.size 3 i0 _ 1 8 Tryd.underlying36 hi0 hz0 hi1 hi2 rfl (by decide) _ zs.length (zs.map (Value.int .i64)) rfl (Hz.out.2.alloc _) ⟨wr.heap.size, 0, none⟩ 1 1 [.int .i64 (zs.length : Nat)] rfl rfl (lit_cells wr [_] _) ?g3 ?g4 ?g5 ?g6 ?_)
            case g3 => intro u hu; rw [List.mem_singleton] at hu; subst hu; rfl
            case g4 => unfold maxLen; omega
            case g5 => omega
            case g6 => exact Nat.le_trans hzz (by simp)
            intro v4 w4 hown4 hgrow4 _
            obtain ⟨hB, g4, c4, rfl, hI⟩ := grown_one (y := (zs.length : Nat)) Hz.out hzz hown4 hgrow4
            have HO9 := hide (HOz.out.step hB hz8)
            have HB9 := hide (HBz.out.trans hB)
            have HI9 := hide hI
            clear hown4 hgrow4 hB hI
            go_wp2_with fail
            go_roundw
            case rel => exact ⟨zs ++ [((zs.length : Nat) : Int)], by simp, by simp; omega, ⟨g4, c4, by simp⟩, HO9.out, HB9.out, HI9.out⟩
            case measure => simp [intOf]; omega
          · have hz7 : zs.length ≤ 8 := by omega
            have HF := hide (three_got HB1.out hR hRl hl hbl hz7 HJ.out HI.out HO.out HOz.out Hz.out.at (Nat.le_trans HB1.out.size (Nat.le_trans hz1 hz8)))
            go_wp2_with fail
            go_ret3
            exact HF.out
      · have hpB : (p == 0) = false := by simpa using hp
        have HF := hide (three_got HB1.out hR hRl hl hbl (by rw [HXL.out]; exact hyl) HJ.out HI.out HO.out HO8.out HX8.out (Nat.le_trans HB1.out.size hz1))
        go_wp2_with fail
        rw [← HXL.out] at *
        go_ret3
        exact HF.out
end Go.Proofs.YtfjemnjdkniibaaDoor
