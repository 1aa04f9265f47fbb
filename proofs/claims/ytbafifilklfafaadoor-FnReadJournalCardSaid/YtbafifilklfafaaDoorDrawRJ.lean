/-
  The draw of FnReadJournal.
-/
import Derived.Test.YtbafifilklfafaaDoorSpoil
import Derived.Test.YtbafifilklfafaaDoorJournC
namespace Go.Proofs.YtbafifilklfafaaDoor
open Go.RowKit

set_option maxRecDepth 10000 in
set_option maxHeartbeats 1600000 in
theorem drawReadJournal (v : Value) (n : Nat) (w : World) (h : BytesAt 0 w.heap.size w v n) :
    Calls Tryd.prog 11 #[v] w fun e w' => ∃ t : ByteArray, e = .returned (.string t) ∧ t.size ≤ 1000 ∧ Below w.heap.size w w' := by
  have HB0 := hide h
  clear h
  obtain ⟨j0, hj0, hzj, hj1, hj2⟩ := info_parts info_J
  go_enter Tryd.func11, Tryd.ntmps11
  go_wp2_with fail
  refine (open_any v n w HB0.out).mono ?_
  rintro e w1 ⟨R, rfl, hR, hb1, hr1⟩
  have B_1 := hide hb1
  have hRl := hr1.lt
  have hz1 := hb1.size
  clear hb1
  go_wp2_with fail
  refine calls_at fun wx hwx => ?_
  have O_0 : wx.ownsRow w1.heap.size 25 3 (.slice (some ⟨w1.heap.size, 0, none⟩) 0 0) 0 [] := by rw [hwx]; simpa using World.ownsRow_lit (e := 25) (size := 3) (base := w1.heap.size) w1 #[] 0 (Nat.le_refl _) (by unfold maxLen; omega) (by simp)
  have hbx : Below w1.heap.size w1 wx := by rw [hwx]; exact (Below.refl _ _).alloc (Nat.le_refl _) _
  clear hwx
  have B_x := hide (Below.step B_1.out hbx (Nat.le_refl _))
  have hrx := hr1.keep hbx hRl
  have hzx := hbx.size
  clear hbx hr1
  have keepO : ∀ (W W' : World) (u : Value) (m : Nat) (cs : List Value), W.ownsRow w1.heap.size 25 3 u m cs → Other R (R + 1) W W' → W'.ownsRow w1.heap.size 25 3 u m cs := fun _ _ _ _ _ h k => ownsRow_other h k fun g hg => .inr (Nat.lt_of_lt_of_le hRl (h.lt g hg).1)
  refine (pick_in R 0 7 wx hrx (by omega) (by omega) (by omega)).mono ?_
  rintro e w2 ⟨x, rfl, p1, p2, ho, hr2⟩
  obtain ⟨c, rfl⟩ : ∃ c : Nat, x = c := ⟨x.toNat, by omega⟩
  have O_2 := hide (keepO _ _ _ _ _ O_0 ho)
  have B_2 := hide (B_x.out.trans (ho.below hR B_x.out.size))
  have hz2 := ho.size
  have HR2 := hide hr2
  have HKO := hide keepO
  clear ho O_0 hrx hr2 keepO
  go_wp2_with fail
  go_loopw [4, 5] (fun o i wr => ∃ (c : Nat) (js : List J), i = .int .i64 c ∧ c + js.length ≤ 7 ∧ Rd R (1 + 3 * js.length) wr ∧ Below w.heap.size w wr ∧ w1.heap.size ≤ wr.heap.size ∧ wr.ownsRow w1.heap.size 25 3 o js.length (flatD js)) (fun _ i _ => (intOf i).toNat)
  case atStart => exact ⟨c, [], rfl, by simp; omega, HR2.out, B_2.out, by omega, O_2.out⟩
  case round =>
    obtain ⟨c, js, rfl, hcl, hr, hb, hsz, hown⟩ := hrel
    have HB := hide hb
    have HO := hide hown
    have HR := hide hr
    obtain ⟨aow, capw, rfl, -, -⟩ := own_slice hown
    clear hr hb hown
    by_cases hc : 0 < c
    · obtain ⟨d, rfl⟩ : ∃ d, c = d + 1 := ⟨c - 1, by omega⟩
      have hcI : (0 : Int) < ((d + 1 : Nat) : Int) := by omega
      go_wp2_with fail
      refine (said_any R _ wr HR.out (by omega)).mono ?_
      rintro e w3 ⟨a, o, t, rfl, ho, hr3⟩
      have HO3 := hide (HKO.out _ _ _ _ _ HO.out ho)
      have HB3 := hide (HB.out.trans (ho.below hR HB.out.size))
      have hz3 := ho.size
      have HR3 := hide hr3
      clear ho hr3
      go_wp2_with (at_builtin; refine wpList_append_view rfl _ _ 31 rfl w1.heap.size 25 j0 _ 3 24 Tryd.underlying31 hj0 hzj hj1 hj2 rfl (by decide) _ _ _ rfl (HO3.out.alloc _) (.slice (some ⟨w3.heap.size, 0, none⟩) 1 1) 1 [.int .i64 a, .int .i64 o, .int .i64 t] rfl ?c0 ?c1 ?c2 ?c3 ?_)
      case c0 => exact Source.lit w3 [.int .i64 a, .int .i64 o, .int .i64 t] 3 25 1 rfl (fun u hu => by simp at hu; rcases hu with rfl | rfl | rfl <;> rfl) 1
      case c1 => unfold maxLen; omega
      case c2 => omega
      case c3 => simp; omega
      intro v2 w4 hown2 hgrow2 _
      have hB4 : Below w1.heap.size w3 w4 := ((Below.refl _ w3).alloc (by omega) (.cells #[.int .i64 a, .int .i64 o, .int .i64 t] 25)).trans (Below.grow hgrow2 (HO3.out.alloc _) (Nat.le_refl _) (by simp; omega))
      have HB4 := hide (HB3.out.trans (hB4.mono hz1))
      have HR4 := hide ((HR3.out.keep hB4 hRl).mono (m := 1 + 3 * (js ++ [(⟨a, o, t⟩ : J)]).length) (by simp; omega))
      have hz4 := hB4.size
      have HO4 := hide (show w4.ownsRow w1.heap.size 25 3 v2 (js ++ [(⟨a, o, t⟩ : J)]).length (flatD (js ++ [⟨a, o, t⟩])) by rw [flatD_append, List.length_append]; exact hown2)
      clear hown2 hgrow2 hB4
      go_wp2_with fail
      go_roundw
      case rel => exact ⟨d, js ++ [⟨a, o, t⟩], by go_num, by simp; omega, HR4.out, HB4.out, by omega, HO4.out⟩
      case measure => simp [intOf] <;> omega
    · obtain rfl : c = 0 := by omega
      have HV := hide (ownD_at HO.out rfl hsz)
      have hlt : (jtR js).size ≤ 500 := by
        by_cases h0 : (jtR js).size = 0
        · omega
        · obtain ⟨h1, -, h3⟩ := jt_good h0
          rw [h3]
          have := textTo_len js js.length
          omega
      have HRr := hide (HR.out.mono (m := 22) (by omega))
      go_wp2_with fail
      refine (journalText_spec _ js _ _ wr HV.out).mono ?_
      rintro e w3 ⟨rfl, hb⟩
      have HB3 := hide (Below.step HB.out hb (Nat.le_refl _))
      have hr3 := HRr.out.keep hb HRr.out.lt
      clear hb HV HO HKO
      obtain ⟨t, ht⟩ : ∃ t, jtR js = t := ⟨_, rfl⟩
      rw [ht] at hlt ⊢
      clear ht
      go_wp2_with fail
      refine (pick_in R 22 3 w3 hr3 (by omega) (by omega) (by omega)).mono ?_
      rintro e w4 ⟨x, rfl, p1, p2, ho, hr4⟩
      have HB4 := hide (HB3.out.trans (ho.below hR HB3.out.size))
      clear ho hr3
      obtain rfl | rfl | rfl : x = 0 ∨ x = 1 ∨ x = 2 := by omega
      · go_wp2_with fail
        refine (spoil_any R 23 t w4 hr4 (by omega) (by omega)).mono ?_
        rintro e w5 ⟨s, rfl, hs, ho, -⟩
        have HB5 := hide (HB4.out.trans (ho.below hR HB4.out.size))
        clear ho
        go_wp2_with fail
        go_ret
        exact ⟨s, rfl, by omega, HB5.out⟩
      · go_wp2_with fail
        refine (pick_in R 23 _ w4 hr4 (by omega) (by omega) (by omega)).mono ?_
        rintro e w5 ⟨y, rfl, q1, q2, ho, -⟩
        obtain ⟨i, rfl⟩ : ∃ i : Nat, y = i := ⟨y.toNat, by omega⟩
        have HB5 := hide (HB4.out.trans (ho.below hR HB4.out.size))
        clear ho
        have hi0 : (0 : Int) ≤ (i : Int) := by omega
        have hi1 : (i : Int) ≤ (t.size : Int) := by omega
        go_wp2_with fail
        go_ret
        exact ⟨_, rfl, by rw [ByteArray.size_extract]; omega, HB5.out⟩
      · go_wp2_with fail
        go_ret
        exact ⟨t, rfl, by omega, HB4.out⟩
end Go.Proofs.YtbafifilklfafaaDoor
