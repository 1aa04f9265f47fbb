/-
  The draw of FnJournalText, and the walk over the law.
-/
import Derived.Test.YtaifajhojhekjaaDoorDrawS
import Derived.Test.YtaifajhojhekjaaDoorJournC
import Derived.Test.YtaifajhojhekjaaDoorJournB
import Derived.Test.YtaifajhojhekjaaDoorAlive
namespace Go.Proofs.YtaifajhojhekjaaDoor
open Go.RowKit

set_option maxRecDepth 10000 in
set_option maxHeartbeats 1600000 in
theorem drawJournalText (v : Value) (n : Nat) (w : World) (h : BytesAt 0 w.heap.size w v n) :
    Calls Tryd.prog 34 #[v] w fun e w' => ∃ v' js, e = .returned v' ∧ js.length ≤ 8 ∧ w'.ownsRow w.heap.size 32 3 v' js.length (flatD js) ∧ Below w.heap.size w w' := by
  have HB0 := hide h
  clear h
  obtain ⟨j0, hj0, hzj, hj1, hj2⟩ := info_parts info_J
  go_enter Tryd.func34, Tryd.ntmps34
  go_wp2_with fail
  refine (open_any v n w HB0.out).mono ?_
  rintro e w1 ⟨R, rfl, hR, hb1, hr1⟩
  have B_1 := hide hb1
  have hRl := hr1.lt
  have hz1 := hb1.size
  clear hb1
  go_wp2_with fail
  refine calls_at fun wx hwx => ?_
  have O_0 : wx.ownsRow w1.heap.size 32 3 (.slice (some ⟨w1.heap.size, 0, none⟩) 0 0) 0 [] := by rw [hwx]; simpa using World.ownsRow_lit (e := 32) (size := 3) (base := w1.heap.size) w1 #[] 0 (Nat.le_refl _) (by unfold maxLen; omega) (by simp)
  have hbx : Below w1.heap.size w1 wx := by rw [hwx]; exact (Below.refl _ _).alloc (Nat.le_refl _) _
  clear hwx
  have B_x := hide (Below.step B_1.out hbx (Nat.le_refl _))
  have hrx := hr1.keep hbx hRl
  have hzx := hbx.size
  clear hbx hr1
  have keepO : ∀ (W W' : World) (u : Value) (m : Nat) (cs : List Value), W.ownsRow w1.heap.size 32 3 u m cs → Other R (R + 1) W W' → W'.ownsRow w1.heap.size 32 3 u m cs := fun _ _ _ _ _ h k => ownsRow_other h k fun g hg => .inr (Nat.lt_of_lt_of_le hRl (h.lt g hg).1)
  refine (pick_in R 0 7 wx hrx (by omega) (by omega) (by omega)).mono ?_
  rintro e w2 ⟨x, rfl, p1, p2, ho, hr2⟩
  obtain ⟨c, rfl⟩ : ∃ c : Nat, x = c := ⟨x.toNat, by omega⟩
  have O_2 := hide (keepO _ _ _ _ _ O_0 ho)
  have B_2 := hide (B_x.out.trans (ho.below hR B_x.out.size))
  have hz2 := ho.size
  have HR2 := hide hr2
  have HKO := hide keepO
  clear ho O_0 hrx hr2 keepO
  go_wp2_with fail
  go_loopw [4, 5] (fun o i wr => ∃ (c : Nat) (js : List J), i = .int .i64 c ∧ c + js.length ≤ 7 ∧ Rd R (1 + 3 * js.length) wr ∧ Below w.heap.size w wr ∧ w1.heap.size ≤ wr.heap.size ∧ wr.ownsRow w1.heap.size 32 3 o js.length (flatD js)) (fun _ i _ => (intOf i).toNat)
  case atStart => exact ⟨c, [], rfl, by simp; omega, HR2.out, B_2.out, by omega, O_2.out⟩
  case round =>
    obtain ⟨c, js, rfl, hcl, hr, hb, hsz, hown⟩ := hrel
    have HB := hide hb
    have HO := hide hown
    have HR := hide hr
    obtain ⟨aow, capw, rfl, -, -⟩ := own_slice hown
    clear hr hb hown
    by_cases hc : 0 < c
    · obtain ⟨d, rfl⟩ : ∃ d, c = d + 1 := ⟨c - 1, by omega⟩
      have hcI : (0 : Int) < ((d + 1 : Nat) : Int) := by omega
      go_wp2_with fail
      refine (said_any R _ wr HR.out (by omega)).mono ?_
      rintro e w3 ⟨a, o, t, rfl, ho, hr3⟩
      have HO3 := hide (HKO.out _ _ _ _ _ HO.out ho)
      have HB3 := hide (HB.out.trans (ho.below hR HB.out.size))
      have hz3 := ho.size
      have HR3 := hide hr3
      clear ho hr3
      go_wp2_with (at_builtin; refine wpList_append_view rfl _ _ 38 rfl w1.heap.size 32 j0 _ 3 24 Tryd.underlying38 hj0 hzj hj1 hj2 rfl (by decide) _ _ _ rfl (HO3.out.alloc _) (.slice (some ⟨w3.heap.size, 0, none⟩) 1 1) 1 [.int .i64 a, .int .i64 o, .int .i64 t] rfl ?c0 ?c1 ?c2 ?c3 ?_)
      case c0 => exact Source.lit w3 [.int .i64 a, .int .i64 o, .int .i64 t] 3 32 1 rfl (fun u hu => by simp at hu; rcases hu with rfl | rfl | rfl <;> rfl) 1
      case c1 => unfold maxLen; omega
      case c2 => omega
      case c3 => simp; omega
      intro v2 w4 hown2 hgrow2 _
      have hB4 : Below w1.heap.size w3 w4 := ((Below.refl _ w3).alloc (by omega) (.cells #[.int .i64 a, .int .i64 o, .int .i64 t] 32)).trans (Below.grow hgrow2 (HO3.out.alloc _) (Nat.le_refl _) (by simp; omega))
      have HB4 := hide (HB3.out.trans (hB4.mono hz1))
      have HR4 := hide ((HR3.out.keep hB4 hRl).mono (m := 1 + 3 * (js ++ [(⟨a, o, t⟩ : J)]).length) (by simp; omega))
      have hz4 := hB4.size
      have HO4 := hide (show w4.ownsRow w1.heap.size 32 3 v2 (js ++ [(⟨a, o, t⟩ : J)]).length (flatD (js ++ [⟨a, o, t⟩])) by rw [flatD_append, List.length_append]; exact hown2)
      clear hown2 hgrow2 hB4
      go_wp2_with fail
      go_roundw
      case rel => exact ⟨d, js ++ [⟨a, o, t⟩], by go_num, by simp; omega, HR4.out, HB4.out, by omega, HO4.out⟩
      case measure => simp [intOf] <;> omega
    · obtain rfl : c = 0 := by omega
      go_wp2_with fail
      refine (odd_any R _ 12 wr HR.out (by omega) (by omega) (by omega)).mono ?_
      rintro e w3 ⟨bb, rfl, ho, hr3⟩
      have HO3 := hide (HKO.out _ _ _ _ _ HO.out ho)
      have HB3 := hide (HB.out.trans (ho.below hR HB.out.size))
      have hz3 := ho.size
      clear ho hr3
      cases bb with
      | false =>
        have HZ := hide (ownsRow_mono HO3.out hz1)
        go_wp2_with fail
        go_ret
        exact ⟨_, js, rfl, by omega, HZ.out, HB3.out⟩
      | true =>
        go_wp2_with (at_builtin; refine wpList_append_view rfl _ _ 38 rfl w1.heap.size 32 j0 _ 3 24 Tryd.underlying38 hj0 hzj hj1 hj2 rfl (by decide) _ _ _ rfl (HO3.out.alloc _) (.slice (some ⟨w3.heap.size, 0, none⟩) 1 1) 1 [.int .i64 7, .int .i64 0, .int .i64 0] rfl ?c0 ?c1 ?c2 ?c3 ?_)
        case c0 => exact Source.lit w3 [.int .i64 7, .int .i64 0, .int .i64 0] 3 32 1 rfl (fun u hu => by simp at hu; rcases hu with rfl | rfl | rfl <;> rfl) 1
        case c1 => unfold maxLen; omega
        case c2 => omega
        case c3 => simp; omega
        intro v2 w4 hown2 hgrow2 _
        have hB4 : Below w1.heap.size w3 w4 := ((Below.refl _ w3).alloc (by omega) (.cells #[.int .i64 7, .int .i64 0, .int .i64 0] 32)).trans (Below.grow hgrow2 (HO3.out.alloc _) (Nat.le_refl _) (by simp; omega))
        have HB4 := hide (HB3.out.trans (hB4.mono hz1))
        have HO4 := hide (show w4.ownsRow w.heap.size 32 3 v2 (js ++ [(⟨7, 0, 0⟩ : J)]).length (flatD (js ++ [⟨7, 0, 0⟩])) by rw [flatD_append, List.length_append]; exact ownsRow_mono hown2 hz1)
        clear hown2 hgrow2 hB4
        go_wp2_with fail
        go_ret
        exact ⟨v2, js ++ [⟨7, 0, 0⟩], rfl, by simp; omega, HO4.out, HB4.out⟩

set_option maxRecDepth 10000 in
set_option maxHeartbeats 800000 in
theorem law_JournalText (v : Value) (n : Nat) (m : Int) (w : World) (h : BytesAt 0 w.heap.size w v n) (hm : w.cell? ⟨1, 0, none⟩ = some (.int .i64 m)) (hna : NamesIs w) (hpo : PowIs w) :
    Calls Tryd.prog 10 #[v] w fun e w' => e = .returned (.bool true) ∧ Below w.heap.size w w' := by
  have h1lt : 1 < w.heap.size := by
    rcases Nat.lt_or_ge 1 w.heap.size with h | h
    · exact h
    · simp [World.cell?, Array.getElem?_eq_none h] at hm
  obtain ⟨ao, cap, rfl, hnc, hcap, -, -⟩ := id h
  have HB := hide h
  clear h
  by_cases hlong : 1048576 < n
  · go_enter Tryd.func10, Tryd.ntmps10
    go_wp2_with fail
    go_ret
    exact ⟨rfl, by go_grown⟩
  go_enter Tryd.func10, Tryd.ntmps10
  go_wp2_with fail
  refine (drawJournalText _ n _ HB.out).mono ?_
  rintro e w1 ⟨v1, js, rfl, hjl, hown, hb1⟩
  have V_1 := hide (ownD_at hown rfl hb1.size)
  have B_1 := hide hb1
  clear hown hb1
  go_wp2_with fail
  refine (journalText_impl v1 js _ _ w1 V_1.out (hna.stays B_1.out) (hpo.stays B_1.out)).mono ?_
  rintro e w2 ⟨rfl, hb⟩
  have V_2 := hide (V_1.out.below hb)
  have B_2 := hide (Below.step B_1.out hb (Nat.le_refl _))
  clear hb
  go_wp2_with fail
  refine (journalText_spec v1 js _ _ w2 V_2.out).mono ?_
  rintro e w3 ⟨rfl, hb⟩
  have V_3 := hide (V_2.out.below hb)
  have B_3 := hide (Below.step B_2.out hb (Nat.le_refl _))
  clear hb
  have hrj := fun h => rj_jt (l := js) h
  have htl : (jtR js).size ≤ 7000 := by
    by_cases h0 : (jtR js).size = 0
    · omega
    · obtain ⟨h1, -, h3⟩ := jt_good h0
      rw [h3]
      have := textTo_len js js.length
      omega
  obtain ⟨t, ht⟩ : ∃ t, jtR js = t := ⟨_, rfl⟩
  rw [ht] at hrj htl ⊢
  clear ht
  have hem := empty_iff t
  by_cases hz : t.size = 0
  · rw [decide_eq_true hz] at hem
    clear hrj hz
    go_wp2_with fail
    refine (alive_any _).mono ?_
    rintro e w9 ⟨rfl, hb9⟩
    have HB9 := hide (Below.step B_3.out hb9 (Nat.le_refl _))
    clear hb9
    go_wp2_with fail
    go_ret
    exact ⟨rfl, HB9.out⟩
  rw [decide_eq_false hz] at hem
  have HRJ := hide (hrj hz)
  clear hrj hz
  go_wp2_with fail
  refine (readJournal_impl t m w3 (by omega) (by rw [B_3.out.cell h1lt]; exact hm) (hna.stays B_3.out)).mono ?_
  rw [HRJ.out]
  rintro e w4 ⟨v4, rfl, hown, hb⟩
  have V_4 := hide (V_3.out.below hb)
  have G_4 := hide (ownD_at hown rfl hb.size)
  have B_4 := hide (Below.step B_3.out hb (Nat.le_refl _))
  clear hown hb
  go_wp2_with fail
  refine (sameDeeds_same _ _ js _ _ _ _ w4 G_4.out V_4.out).mono ?_
  rintro e w5 ⟨rfl, hb⟩
  have B_5 := hide (Below.step B_4.out hb (Nat.le_refl _))
  clear hb
  go_wp2_with fail
  go_ret
  exact ⟨by simp, B_5.out⟩
end Go.Proofs.YtaifajhojhekjaaDoor
