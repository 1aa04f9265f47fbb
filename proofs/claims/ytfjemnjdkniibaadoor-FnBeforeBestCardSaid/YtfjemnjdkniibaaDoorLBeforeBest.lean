/-
  The walk over the law FnBeforeBest: it answers true, whatever the code, and leaves all old memory alone.
-/
import Derived.Test.YtfjemnjdkniibaaDoorAloned
import Derived.Test.YtfjemnjdkniibaaDoorReads3
import Derived.Test.YtfjemnjdkniibaaDoorWalkL
import Derived.Test.YtfjemnjdkniibaaDoorWalkO
import Derived.Test.YtfjemnjdkniibaaDoorWalkH
namespace Go.Proofs.YtfjemnjdkniibaaDoor
open Go.RowKit

set_option maxRecDepth 10000 in
set_option maxHeartbeats 800000 in
theorem law_BeforeBest (v : Value) (n : Nat) (w : World) (h : BytesAt 0 w.heap.size w v n) :
    Calls Tryd.prog 15 #[v] w fun e w' => e = .returned (.bool true) ∧ Below w.heap.size w w' := by
  obtain ⟨i0, hi0, hz00, hi1, hi2⟩ := info_parts info_int
  obtain ⟨ao, cap, rfl, hnc, hcap, -, -⟩ := id h
  have HB := hide h
  clear h
  by_cases hlong : 1048576 < n
  · go_enter Tryd.func15, Tryd.ntmps15
    go_wp2_with fail
    go_ret
    exact ⟨rfl, Below.refl _ _⟩
  · go_enter Tryd.func15, Tryd.ntmps15
    go_wp2_with fail
    refine (drawBeforeBest _ n _ HB.out).mono ?_
    rintro e w1 ⟨v1, js, v2, bs, rfl, hl, hbl, hj, hi, hb1⟩
    obtain ⟨ao1, cap1, rfl, hlc1, hcap1, hj0⟩ := hj.where'
    obtain ⟨ao2, cap2, rfl, hlc2, hcap2, hi0⟩ := hi.where
    have HA1 := hide hj0
    have HA2 := hide hi0
    have HJ1 := hide hj
    have HI1 := hide hi
    have HB1 := hide hb1
    clear hj hi hb1 hj0 hi0
    cases hv : bfB js bs with
    | false =>
      have hx : bbR js bs = [] := by simp [bbR, hv]
      have HX := hide hx
      have HV := hide hv
      clear hx hv
      go_wp2_with fail
      refine (beforeBest_impl _ js _ _ _ bs _ _ _ HJ1.out HI1.out).mono ?_
      rw [HX.out]
      rintro e w2 ⟨r, rfl, hr, hb⟩
      obtain ⟨aoo, capo, rfl, hlo, hco, ha⟩ := hr.where
      have HAO := hide ha
      have HO2 := hide hr
      have HJ2 := hide (HJ1.out.below hb)
      have HI2 := hide (HI1.out.below hb)
      have HB2 := hide (Below.step HB1.out hb (Nat.le_refl _))
      clear hb hr ha
      go_wp2_with fail
      refine (beforeBest_spec _ js _ _ _ bs _ _ _ HJ2.out HI2.out).mono ?_
      rw [HX.out]
      rintro e w3 ⟨r, rfl, hr, hb⟩
      obtain ⟨aos, caps, rfl, hls, hcs, ha⟩ := hr.where
      have HAS := hide ha
      have HS3 := hide hr
      have HJ3 := hide (HJ2.out.below hb)
      have HI3 := hide (HI2.out.below hb)
      have HO3 := hide (HO2.out.below hb)
      have HB3 := hide (Below.step HB2.out hb (Nat.le_refl _))
      clear hb hr ha
      go_wp2_with fail
      refine (sameInts_same _ _ [] _ _ _ _ _ HO3.out HS3.out).mono ?_
      rintro e w4 ⟨rfl, hb⟩
      have HJ4 := hide (HJ3.out.below hb)
      have HI4 := hide (HI3.out.below hb)
      have HO4 := hide (HO3.out.below hb)
      have HS4 := hide (HS3.out.below hb)
      have HB4 := hide (Below.step HB3.out hb (Nat.le_refl _))
      clear hb
      go_wp2_with fail
      refine (before_spec _ js _ _ _ bs _ _ _ HJ4.out HI4.out).mono ?_
      rw [HV.out]
      rintro e w5 ⟨rfl, hb⟩
      have HJ5 := hide (HJ4.out.below hb)
      have HI5 := hide (HI4.out.below hb)
      have HO5 := hide (HO4.out.below hb)
      have HS5 := hide (HS4.out.below hb)
      have HB5 := hide (Below.step HB4.out hb (Nat.le_refl _))
      clear hb
      go_wp2_with fail
      refine (alive_any _).mono ?_
      rintro e w6 ⟨rfl, hb⟩
      have HJ6 := hide (HJ5.out.below hb)
      have HI6 := hide (HI5.out.below hb)
      have HO6 := hide (HO5.out.below hb)
      have HS6 := hide (HS5.out.below hb)
      have HB6 := hide (Below.step HB5.out hb (Nat.le_refl _))
      clear hb
      go_wp2_with fail
      go_ret
      exact ⟨rfl, HB6.out⟩
    | true =>
      have hj := bfB_jsv hv
      have hbo := bb_ok hv
      have hal := alone_due hj
      have hy0 := worst_nn (bok_ok (bb_ok (alone_bf hj)))
      obtain ⟨xs, hxs⟩ : ∃ xs, bbR js bs = xs := ⟨_, rfl⟩
      obtain ⟨ys, hys⟩ : ∃ ys, bbR js (List.replicate js.length (-1)) = ys := ⟨_, rfl⟩
      obtain ⟨zs, hzs⟩ : ∃ zs, orderR kDue js = zs := ⟨_, rfl⟩
      have hxl := bbR_len js bs
      have hyl := bbR_len js (List.replicate js.length (-1))
      have hzl := orderR_len kDue js
      rw [hxs] at hbo hxl
      rw [hys] at hal hy0 hyl
      rw [hzs] at hal hzl
      obtain ⟨p, hp⟩ : ∃ p, worstR js ys = p := ⟨_, rfl⟩
      rw [hp] at hal hy0
      have h6 := jsvB_len hj
      have HX := hide hxs
      have HY := hide hys
      have HZ := hide hzs
      have HP := hide hp
      have HQ := hide hal.symm
      have HBO := hide hbo
      have HV := hide hv
      clear hxs hys hzs hp hal hbo hv hj
      go_wp2_with fail
      refine (beforeBest_impl _ js _ _ _ bs _ _ _ HJ1.out HI1.out).mono ?_
      rw [HX.out]
      rintro e w2 ⟨r, rfl, hr, hb⟩
      obtain ⟨aoo, capo, rfl, hlo, hco, ha⟩ := hr.where
      have HAO := hide ha
      have HO2 := hide hr
      have HJ2 := hide (HJ1.out.below hb)
      have HI2 := hide (HI1.out.below hb)
      have HB2 := hide (Below.step HB1.out hb (Nat.le_refl _))
      clear hb hr ha
      go_wp2_with fail
      refine (beforeBest_spec _ js _ _ _ bs _ _ _ HJ2.out HI2.out).mono ?_
      rw [HX.out]
      rintro e w3 ⟨r, rfl, hr, hb⟩
      obtain ⟨aos, caps, rfl, hls, hcs, ha⟩ := hr.where
      have HAS := hide ha
      have HS3 := hide hr
      have HJ3 := hide (HJ2.out.below hb)
      have HI3 := hide (HI2.out.below hb)
      have HO3 := hide (HO2.out.below hb)
      have HB3 := hide (Below.step HB2.out hb (Nat.le_refl _))
      clear hb hr ha
      go_wp2_with fail
      refine (sameInts_same _ _ xs _ _ _ _ _ HO3.out HS3.out).mono ?_
      rintro e w4 ⟨rfl, hb⟩
      have HJ4 := hide (HJ3.out.below hb)
      have HI4 := hide (HI3.out.below hb)
      have HO4 := hide (HO3.out.below hb)
      have HS4 := hide (HS3.out.below hb)
      have HB4 := hide (Below.step HB3.out hb (Nat.le_refl _))
      clear hb
      go_wp2_with fail
      refine (before_spec _ js _ _ _ bs _ _ _ HJ4.out HI4.out).mono ?_
      rw [HV.out]
      rintro e w5 ⟨rfl, hb⟩
      have HJ5 := hide (HJ4.out.below hb)
      have HI5 := hide (HI4.out.below hb)
      have HO5 := hide (HO4.out.below hb)
      have HS5 := hide (HS4.out.below hb)
      have HB5 := hide (Below.step HB4.out hb (Nat.le_refl _))
      clear hb
      have hz0 : w.heap.size ≤ w5.heap.size := HB5.out.size
      have HN0 := hide (OwnI.new w.heap.size w5 [] hz0 (by simp))
      have HB0 := hide (HB5.out.alloc hz0 (.cells #[] 3))
      go_wp2_with fail
      go_loopw [6, 7] (fun o i wr => ∃ k : Nat, k ≤ js.length ∧ i = .int .i64 k ∧ (∃ g cap, o = .slice (some ⟨g, 0, none⟩) k cap) ∧ Below w.heap.size w wr ∧ Below w5.heap.size w5 wr ∧ OwnI w5.heap.size wr o (List.replicate k (-1))) (fun _ i _ => js.length - (intOf i).toNat)
      case atStart => exact ⟨0, Nat.zero_le _, rfl, ⟨_, _, rfl⟩, HB0.out, (Below.refl _ _).alloc (Nat.le_refl _) _, by simpa using OwnI.new w5.heap.size w5 [] (Nat.le_refl _) (by simp)⟩
      case round =>
        obtain ⟨k, hk, rfl, ⟨g, cap, rfl⟩, hb, hb', hown⟩ := hrel
        have HBr := hide hb
        have HBr' := hide hb'
        have Ho := hide hown
        have hzr : w5.heap.size ≤ wr.heap.size := hb'.size
        clear hb hb' hown
        by_cases hlt : k < js.length
        · have hkI : (k : Int) < (js.length : Int) := by omega
          go_wp2_with (at_builtin; refine wpList_append_own _ rfl _ _ _ rfl w5.heap.size 3 i0 _ 1 8 Tryd.underlying36 hi0 hz00 hi1 hi2 rfl (by decide) _ k ((List.replicate k (-1 : Int)).map (Value.int .i64)) rfl ((own_rep Ho.out).alloc _) ⟨wr.heap.size, 0, none⟩ 1 1 [.int .i64 (-1)] rfl rfl (lit_cells wr [_] _) ?g3 ?g4 ?g5 ?g6 ?_)
          case g3 => intro u hu; rw [List.mem_singleton] at hu; subst hu; rfl
          case g4 => unfold maxLen; omega
          case g5 => omega
          case g6 => exact Nat.le_trans hzr (by simp)
          intro v4 w4 hown4 hgrow4 _
          obtain ⟨hB, g4, c4, e4, hI⟩ := grown_rep Ho.out hzr hown4 hgrow4
          subst e4
          have HB4 := hide (Below.trans HBr.out (hB.mono hz0))
          have HB4' := hide (HBr'.out.trans hB)
          have HO4 := hide hI
          clear hown4 hgrow4 hB hI
          go_wp2_with fail
          go_roundw
          case rel => exact ⟨k + 1, by omega, by go_num, ⟨g4, c4, rfl⟩, HB4.out, HB4'.out, HO4.out⟩
          case measure => simp [intOf]; omega
        · obtain rfl : k = js.length := by omega
          have HJ8 := hide (HJ5.out.below HBr'.out)
          have HI8 := hide (HI5.out.below HBr'.out)
          have HO8 := hide (HO5.out.below HBr'.out)
          have HD8 := hide (Ho.out.at)
          have HB8 := HBr
          clear HBr Ho
          go_wp2_with fail
          refine (beforeOk_impl _ js _ _ _ bs _ _ _ xs _ _ _ HJ8.out HI8.out HO8.out).mono ?_
          rw [HBO.out]
          rintro e w9 ⟨rfl, hb⟩
          have HJ9 := hide (HJ8.out.below hb)
          have HI9 := hide (HI8.out.below hb)
          have HO9 := hide (HO8.out.below hb)
          have HD9 := hide (HD8.out.below hb)
          have HB9 := hide (Below.step HB8.out hb (Nat.le_refl _))
          clear hb
          go_wp2_with fail
          refine (beforeBest_impl _ js _ _ _ (List.replicate js.length (-1)) _ _ _ HJ9.out HD9.out).mono ?_
          rw [HY.out]
          rintro e w10 ⟨r, rfl, hr, hb⟩
          obtain ⟨aoy, capy, rfl, hly, hcy, ha⟩ := hr.where
          have HAY := hide ha
          have HY10 := hide hr
          have HJ10 := hide (HJ9.out.below hb)
          have HI10 := hide (HI9.out.below hb)
          have HO10 := hide (HO9.out.below hb)
          have HD10 := hide (HD9.out.below hb)
          have HB10 := hide (Below.step HB9.out hb (Nat.le_refl _))
          clear hb hr ha
          go_wp2_with fail
          refine (WorstLate_impl _ js _ _ _ ys _ _ _ HJ10.out HY10.out).mono ?_
          rw [HP.out]
          rintro e w11 ⟨rfl, hb⟩
          have HJ11 := hide (HJ10.out.below hb)
          have HI11 := hide (HI10.out.below hb)
          have HO11 := hide (HO10.out.below hb)
          have HD11 := hide (HD10.out.below hb)
          have HY11 := hide (HY10.out.below hb)
          have HB11 := hide (Below.step HB10.out hb (Nat.le_refl _))
          clear hb
          go_wp2_with fail
          refine (dueOrder_impl _ js _ _ _ HJ11.out).mono ?_
          rw [HZ.out]
          rintro e w12 ⟨r, rfl, hr, hb⟩
          obtain ⟨aoz, capz, rfl, hlz, hcz, ha⟩ := hr.where
          have HAZ := hide ha
          have HZ12 := hide hr
          have HJ12 := hide (HJ11.out.below hb)
          have HI12 := hide (HI11.out.below hb)
          have HO12 := hide (HO11.out.below hb)
          have HD12 := hide (HD11.out.below hb)
          have HY12 := hide (HY11.out.below hb)
          have HB12 := hide (Below.step HB11.out hb (Nat.le_refl _))
          clear hb hr ha
          go_wp2_with fail
          refine (WorstLate_impl _ js _ _ _ zs _ _ _ HJ12.out HZ12.out).mono ?_
          rw [HQ.out]
          rintro e w13 ⟨rfl, hb⟩
          have HJ13 := hide (HJ12.out.below hb)
          have HI13 := hide (HI12.out.below hb)
          have HO13 := hide (HO12.out.below hb)
          have HD13 := hide (HD12.out.below hb)
          have HY13 := hide (HY12.out.below hb)
          have HZ13 := hide (HZ12.out.below hb)
          have HB13 := hide (Below.step HB12.out hb (Nat.le_refl _))
          clear hb
          go_wp2_with fail
          go_ret
          exact ⟨rfl, HB13.out⟩
end Go.Proofs.YtfjemnjdkniibaaDoor
