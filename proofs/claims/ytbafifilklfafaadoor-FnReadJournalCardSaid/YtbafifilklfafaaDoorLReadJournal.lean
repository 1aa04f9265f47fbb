/-
  The walk over the law FnReadJournal: it answers true, whatever the code.
-/
import Derived.Test.YtbafifilklfafaaDoorDrawRJ
import Derived.Test.YtbafifilklfafaaDoorJournA
import Derived.Test.YtbafifilklfafaaDoorJournB
import Derived.Test.YtbafifilklfafaaDoorAlive
import Derived.Deep.RegionHeld
namespace Go.Proofs.YtbafifilklfafaaDoor
open Go.RowKit

theorem JobsAt.take {lo hi n cap k : Nat} {ao : Option Addr} {w : World} {xs : List J} (h : JobsAt lo hi w (.slice ao n cap) xs) (hk : k ≤ n) : JobsAt lo hi w (.slice ao k cap) (xs.take k) := by
  obtain ⟨ao', cap', e, a1, a2, a3, a4⟩ := h
  simp only [Value.slice.injEq] at e
  obtain ⟨rfl, rfl, rfl⟩ := e
  have hl : (xs.take k).length = k := by simp; omega
  refine ⟨ao, cap, by rw [hl], by omega, a2, a3, fun hn => ?_⟩
  obtain ⟨b, o, ea, hb1, hb2, hc⟩ := a4 (by omega)
  refine ⟨b, o, ea, hb1, hb2, fun i hi => ?_⟩
  simp only [List.getElem_take]
  exact hc i (by omega)
/-- The deeds of a beginning of a text are the first ones. -/
theorem rj_pre (s : ByteArray) (k : Nat) : (rjR (s.extract 0 k)).1 = (rjR s).1.take (rjR (s.extract 0 k)).1.length ∧ (rjR (s.extract 0 k)).1.length ≤ (rjR s).1.length ∧ (rjR (s.extract 0 k)).2 ≤ k := by
  have h1 := rj_take 99 s.data.toList k
  have h2 := (rj_le 99 (s.data.toList.take k)).1
  unfold rjR
  rw [ext_data, List.drop_zero, Nat.sub_zero]
  refine ⟨h1.1, h1.2.1, ?_⟩
  rw [List.length_take] at h2
  omega
theorem rj_fits (s : ByteArray) : (rjR s).2 ≤ s.size ∧ (rjR s).1.length ≤ 99 ∧ jtR (rjR s).1 = s.extract 0 (rjR s).2 := by
  have h2 := rj_le 99 s.data.toList
  refine ⟨?_, h2.2.1, ext_list ?_⟩
  · have := h2.1
    rwa [size_len] at this
  · rw [jt_back, ext_data, List.drop_zero, Nat.sub_zero]

set_option maxRecDepth 10000 in
set_option maxHeartbeats 1600000 in
theorem law_ReadJournal (v : Value) (n : Nat) (m : Int) (w : World) (h : BytesAt 0 w.heap.size w v n) (hm : w.cell? ⟨1, 0, none⟩ = some (.int .i64 m)) (hna : NamesIs w) (hpo : PowIs w) :
    Calls Tryd.prog 4 #[v] w fun e w' => e = .returned (.bool true) ∧ Below w.heap.size w w' := by
  have h1lt : 1 < w.heap.size := by
    rcases Nat.lt_or_ge 1 w.heap.size with h | h
    · exact h
    · simp [World.cell?, Array.getElem?_eq_none h] at hm
  obtain ⟨ao, cap, rfl, hnc, hcap, -, -⟩ := id h
  have HB := hide h
  clear h
  by_cases hlong : 1048576 < n
  · go_enter Tryd.func4, Tryd.ntmps4
    go_wp2_with fail
    go_ret
    exact ⟨rfl, by go_grown⟩
  have HM := hide hm
  clear hm
  go_enter Tryd.func4, Tryd.ntmps4
  go_wp2_with fail
  refine (drawReadJournal _ n _ HB.out).mono ?_
  rintro e w1 ⟨s, rfl, hsl, hb1⟩
  have B_1 := hide hb1
  clear hb1
  have hI := fun W a b => readJournal_impl s m W (by omega) a b
  have hS := fun W => readJournal_spec s W (by omega)
  have hF := rj_fits s
  have hP := rj_pre s
  obtain ⟨js, hjs⟩ : ∃ js, (rjR s).1 = js := ⟨_, rfl⟩
  obtain ⟨q, hq⟩ : ∃ q, (rjR s).2 = q := ⟨_, rfl⟩
  rw [hjs, hq] at hI hS hF
  rw [hjs] at hP
  obtain ⟨f1, f2, f3⟩ := hF
  have HF := hide f3
  have HP := hide hP
  have HI := hide hI
  have HS := hide hS
  clear hjs hq f3 hP hI hS
  go_wp2_with fail
  refine (HI.out w1 (by rw [B_1.out.cell h1lt]; exact HM.out) (hna.stays B_1.out)).mono ?_
  rintro e w2 ⟨v2, rfl, hown, hb⟩
  have V_2 := hide (ownD_at hown rfl hb.size)
  obtain ⟨ao2, cap2, rfl, hc2, -⟩ := own_slice hown
  have B_2 := hide (Below.step B_1.out hb (Nat.le_refl _))
  clear hown hb
  go_wp2_with fail
  refine (HS.out w2).mono ?_
  rintro e w3 ⟨v3, rfl, hown, hb⟩
  have V_3 := hide (V_2.out.below hb)
  have G_3 := hide (ownD_at hown rfl hb.size)
  obtain ⟨ao3, cap3, rfl, -, -⟩ := own_slice hown
  have B_3 := hide (Below.step B_2.out hb (Nat.le_refl _))
  clear hown hb
  go_wp2_with fail
  refine (sameDeeds_same _ _ js _ _ _ _ w3 V_3.out G_3.out).mono ?_
  rintro e w4 ⟨rfl, hb⟩
  have V_4 := hide (V_3.out.below hb)
  have B_4 := hide (Below.step B_3.out hb (Nat.le_refl _))
  clear hb V_3 G_3 V_2
  have hz4 := B_4.out.size
  go_wp2_with fail
  go_loopw [8, 9, 10] (fun i x y wr => ∃ k : Nat, k ≤ s.size + 1 ∧ i = .int .i64 k ∧ Below w4.heap.size w4 wr) (fun i _ _ _ => s.size + 1 - (intOf i).toNat)
  case atStart => exact ⟨0, Nat.zero_le _, rfl, Below.refl _ _⟩
  case round =>
    obtain ⟨k, hk, rfl, hb⟩ := hrel
    have HBr := hide hb
    have HB4 := hide (Below.step B_4.out hb (Nat.le_refl _))
    have V_r := hide (V_4.out.below hb)
    clear hb
    by_cases hlt : k ≤ s.size
    · have hkI : (k : Int) ≤ (s.size : Int) := by omega
      have hk0 : (0 : Int) ≤ (k : Int) := by omega
      have hlk : (s.extract 0 k).size < 4294967281 := by rw [ByteArray.size_extract]; omega
      have hi := readJournal_impl (s.extract 0 k) m wr hlk (by rw [HB4.out.cell h1lt]; exact HM.out) (hna.stays HB4.out)
      have hp := HP.out k
      obtain ⟨t, ht⟩ : ∃ t, s.extract 0 k = t := ⟨_, rfl⟩
      rw [ht] at hi hp
      obtain ⟨ys, hys⟩ : ∃ ys, (rjR t).1 = ys := ⟨_, rfl⟩
      obtain ⟨r, hr⟩ : ∃ r, (rjR t).2 = r := ⟨_, rfl⟩
      rw [hys, hr] at hi hp
      obtain ⟨p1, p2, p3⟩ := hp
      have HT := hide p1
      have HI := hide hi
      clear hlk hys hr p1 hi
      go_wp2_with fail
      refine HI.out.mono ?_
      rintro e w5 ⟨v5, rfl, hown, hb⟩
      have X_5 := hide (ownD_at hown rfl hb.size)
      have V_5 := hide (V_r.out.below hb)
      obtain ⟨ao5, cap5, rfl, -, -⟩ := own_slice hown
      have HB5 := hide (Below.step HBr.out hb (Nat.le_refl _))
      clear hown hb ht
      have g1 : ¬ js.length < ys.length := by omega
      have g1' : ¬ (js.length : Int) < (ys.length : Int) := by omega
      have hmn : min (ys.length : Int) (js.length : Int) = (ys.length : Int) := Int.min_eq_left (by omega)
      have g2 : (ys.length : Int) ≤ (cap2 : Int) := by omega
      have g3 : ¬ (k : Int) < (r : Int) := by omega
      have Y_5 := hide (show JobsAt w1.heap.size w2.heap.size w5 (.slice ao2 ys.length cap2) ys by have h := JobsAt.take V_5.out p2; rwa [← HT.out] at h)
      go_wp2_with fail
      refine (sameDeeds_same _ _ ys _ _ _ _ w5 X_5.out Y_5.out).mono ?_
      rintro e w6 ⟨rfl, hb⟩
      have HB6 := hide (Below.step HB5.out hb (Nat.le_refl _))
      clear hb
      go_wp2_with fail
      go_roundw
      case rel => exact ⟨k + 1, by omega, by go_num, HB6.out⟩
      case measure => simp [intOf]; omega
    · have hkI : ¬ (k : Int) ≤ (s.size : Int) := by omega
      obtain rfl : k = s.size + 1 := by omega
      have hqI : (q : Int) ≤ (s.size : Int) := by omega
      have hq0 : (0 : Int) ≤ (q : Int) := by omega
      obtain ⟨t, ht⟩ : ∃ t, s.extract 0 q = t := ⟨_, rfl⟩
      have HF2 := hide (show jtR js = t from HF.out.trans ht)
      have HBd := hide (HB4.out.drew)
      have V_d := hide (V_r.out.below (Below.refl _ _).drew)
      have HJ2 := hide (fun W (k : Below wr.heap.size wr W) => journalText_impl (.slice ao2 js.length cap2) js _ _ W (V_r.out.below k) (hna.stays (Below.step HB4.out k (Nat.le_refl _))) (hpo.stays (Below.step HB4.out k (Nat.le_refl _))))
      rw [HF2.out] at HJ2
      have HAL := hide (fun W (k : Below wr.heap.size wr W) => (alive_any W).mono fun e w2 h => (⟨h.1, Below.step k h.2 (Nat.le_refl _)⟩ : e = .returned (.bool true) ∧ Below wr.heap.size wr w2))
      have HJ3 := hide (fun W (k : Below wr.heap.size wr W) => (HJ2.out W k).mono fun e w2 h => (⟨h.1, Below.step k h.2 (Nat.le_refl _)⟩ : e = .returned (.string t) ∧ Below wr.heap.size wr w2))
      have kb0 : Below wr.heap.size wr wr.drew := (Below.refl _ _).drew
      clear HP HI HS HB HM V_4 V_r B_1 B_2 B_3 B_4 HBr hcap hnc hlong f2 hz4 HJ2
      go_wp2_with fail
      go_region_held (fun w' => Below wr.heap.size wr w') (assumption) (first | (go_at_call 15; refine (HJ3.out _ (by assumption)).mono ?_; rintro e w9 ⟨rfl, kb9⟩) | (go_at_call 9; refine (HAL.out _ (by assumption)).mono ?_; rintro e w10 ⟨rfl, kb10⟩))
      all_goals
        have HB10 := hide (Below.step HB4.out kb10 (Nat.le_refl _))
        clear kb9 kb10 kb0
        go_wp2_with fail
        go_ret
        exact ⟨by simp, HB10.out⟩
end Go.Proofs.YtbafifilklfafaaDoor
