/-
  The walk over the law FnBeforeValid: it answers true, whatever the code, and leaves all old memory alone.
-/
import Derived.Test.YtfjemnjdkniibaaDoorAloned
namespace Go.Proofs.YtfjemnjdkniibaaDoor
open Go.RowKit

set_option maxRecDepth 10000 in
set_option maxHeartbeats 800000 in
theorem law_BeforeValid (v : Value) (n : Nat) (w : World) (h : BytesAt 0 w.heap.size w v n) :
    Calls Tryd.prog 6 #[v] w fun e w' => e = .returned (.bool true) ∧ Below w.heap.size w w' := by
  obtain ⟨i0, hi0, hz00, hi1, hi2⟩ := info_parts info_int
  obtain ⟨ao, cap, rfl, hnc, hcap, -, -⟩ := id h
  have HB := hide h
  clear h
  by_cases hlong : 1048576 < n
  · go_enter Tryd.func6, Tryd.ntmps6
    go_wp2_with fail
    go_ret
    exact ⟨rfl, Below.refl _ _⟩
  · go_enter Tryd.func6, Tryd.ntmps6
    go_wp2_with fail
    refine (drawBeforeValid _ n _ HB.out).mono ?_
    rintro e w1 ⟨v1, js, v2, bs, rfl, hl, hbl, hj, hi, hb1⟩
    obtain ⟨ao1, cap1, rfl, hlc1, hcap1, hj0⟩ := hj.where
    obtain ⟨ao2, cap2, rfl, hlc2, hcap2, hi0⟩ := hi.where
    have HA1 := hide hj0
    have HA2 := hide hi0
    have HJ1 := hide hj
    have HI1 := hide hi
    have HB1 := hide hb1
    clear hj hi hb1 hj0 hi0
    go_wp2_with fail
    refine (before_impl _ js _ _ _ bs _ _ _ HJ1.out HI1.out).mono ?_
    rintro e w2 ⟨rfl, hb⟩
    have HJ2 := hide (HJ1.out.below hb)
    have HI2 := hide (HI1.out.below hb)
    have HB2 := hide (Below.step HB1.out hb (Nat.le_refl _))
    clear hb
    go_wp2_with fail
    refine (before_spec _ js _ _ _ bs _ _ _ HJ2.out HI2.out).mono ?_
    rintro e w3 ⟨rfl, hb⟩
    have HJ3 := hide (HJ2.out.below hb)
    have HI3 := hide (HI2.out.below hb)
    have HB3 := hide (Below.step HB2.out hb (Nat.le_refl _))
    clear hb
    cases hv : bfB js bs with
    | false =>
      go_wp2_with fail
      refine (alive_any _).mono ?_
      rintro e w4 ⟨rfl, hb⟩
      have HJ4 := hide (HJ3.out.below hb)
      have HI4 := hide (HI3.out.below hb)
      have HB4 := hide (Below.step HB3.out hb (Nat.le_refl _))
      clear hb
      go_wp2_with fail
      go_ret
      exact ⟨rfl, HB4.out⟩
    | true =>
      have hle := bfB_len hv
      have HV := hide hv
      clear hv
      by_cases h0 : js.length = 0
      · have : js = [] := List.eq_nil_of_length_eq_zero h0
        subst this
        go_wp2_with fail
        refine (alive_any _).mono ?_
        rintro e w4 ⟨rfl, hb⟩
        have HJ4 := hide (HJ3.out.below hb)
        have HI4 := hide (HI3.out.below hb)
        have HB4 := hide (Below.step HB3.out hb (Nat.le_refl _))
        clear hb
        go_wp2_with fail
        go_ret
        exact ⟨rfl, HB4.out⟩
      · have hn : 0 < js.length := by omega
        obtain ⟨b1, o1, rfl⟩ := HA1.out hn
        obtain ⟨b2, o2, rfl⟩ := HA2.out (by omega)
        have h6 := jsvB_len (bfB_jsv HV.out)
        have HLE := hide hle
        have hb0 : 0 < bs.length := by omega
        have hb6 : bs.length ≤ 6 := by omega
        obtain ⟨x0, bt, rfl⟩ := List.exists_cons_of_length_pos hb0
        simp only [List.length_cons] at HLE hb6 HI3 hlc2
        have hnB : ((js.length : Int) == 0) = false := by rw [beq_eq_false_iff_ne]; omega
        clear hle h0
        have hz0 : w.heap.size ≤ w3.heap.size := HB3.out.size
        have HN0 := hide (OwnI.new w.heap.size w3 [] hz0 (by simp))
        have HB0 := hide (HB3.out.alloc hz0 (.cells #[] 3))
        go_wp2_with fail
        go_loopw [6, 7] (fun o i wr => ∃ k : Nat, k ≤ js.length ∧ i = .int .i64 k ∧ (∃ g cap, o = .slice (some ⟨g, 0, none⟩) k cap) ∧ Below w.heap.size w wr ∧ Below w3.heap.size w3 wr ∧ OwnI w3.heap.size wr o (List.replicate k (-1))) (fun _ i _ => js.length - (intOf i).toNat)
        case atStart => exact ⟨0, Nat.zero_le _, rfl, ⟨_, _, rfl⟩, HB0.out, (Below.refl _ _).alloc (Nat.le_refl _) _, by simpa using OwnI.new w3.heap.size w3 [] (Nat.le_refl _) (by simp)⟩
        case round =>
          obtain ⟨k, hk, rfl, ⟨g, cap, rfl⟩, hb, hb', hown⟩ := hrel
          have HBr := hide hb
          have HBr' := hide hb'
          have Ho := hide hown
          have hzr : w3.heap.size ≤ wr.heap.size := hb'.size
          clear hb hb' hown
          by_cases hlt : k < js.length
          · have hkI : (k : Int) < (js.length : Int) := by omega
            go_wp2_with (at_builtin; refine wpList_append_own _ rfl _ _ _ rfl w3.heap.size 3 i0 _ 1 8 Tryd.underlying36 hi0 hz00 hi1 hi2 rfl (by decide) _ k ((List.replicate k (-1 : Int)).map (Value.int .i64)) rfl ((own_rep Ho.out).alloc _) ⟨wr.heap.size, 0, none⟩ 1 1 [.int .i64 (-1)] rfl rfl (lit_cells wr [_] _) ?g3 ?g4 ?g5 ?g6 ?_)
            case g3 => intro u hu; rw [List.mem_singleton] at hu; subst hu; rfl
            case g4 => unfold maxLen; omega
            case g5 => omega
            case g6 => exact Nat.le_trans hzr (by simp)
            intro v4 w4 hown4 hgrow4 _
            obtain ⟨hB, g4, c4, e4, hI⟩ := grown_rep Ho.out hzr hown4 hgrow4
            subst e4
            have HB4 := hide (Below.trans HBr.out (hB.mono hz0))
            have HB4' := hide (HBr'.out.trans hB)
            have HO4 := hide hI
            clear hown4 hgrow4 hB hI
            go_wp2_with fail
            go_roundw
            case rel => exact ⟨k + 1, by omega, by go_num, ⟨g4, c4, rfl⟩, HB4.out, HB4'.out, HO4.out⟩
            case measure => simp [intOf]; omega
          · obtain rfl : k = js.length := by omega
            have HJr := hide (HJ3.out.below HBr'.out)
            have HIr := hide (HI3.out.below HBr'.out)
            have HOA := hide (Ho.out.at)
            have hnb0 : w.heap.size ≤ wr.heap.size := HBr.out.size
            by_cases hc1 : cap2 = 1
            · subst hc1
              have : bt = [] := List.eq_nil_of_length_eq_zero (by omega)
              subst this
              go_wp2_with (at_builtin; refine wpList_append_own _ rfl (.tmp 43) (.tmp 45) _ rfl w.heap.size 3 i0 _ 1 8 Tryd.underlying36 hi0 hz00 hi1 hi2 rfl (by decide) _ 1 [.int .i64 0] rfl (own_lit wr 0 hnb0) _ 0 _ ([]) rfl ?c1 ?c2 ?c3 ?c4 ?c5 ?c6 ?_)
              case c1 => rfl
              case c2 => intro j u hu; simp at hu
              case c3 => intro u hu; simp at hu
              case c4 => unfold maxLen; omega
              case c5 => omega
              case c6 => exact Nat.le_trans hnb0 (by simp)
              intro v4 w4 hown4 hgrow4 _
              have hB4 : Below w.heap.size w w4 := HBr.out.trans (((Below.refl _ _).alloc hnb0 _).grown hgrow4 (Nat.le_trans hnb0 (by simp)) fun k hk => by simp [Value.ownBlock] at hk; omega)
              have hB5 : Below wr.heap.size wr w4 := ((Below.refl _ _).alloc (Nat.le_refl _) (.cells #[.int .i64 0] 3)).grown hgrow4 (by simp) fun k hk => by simp [Value.ownBlock] at hk; omega
              obtain ⟨ao4, cap4, e4, hI4⟩ : ∃ ao cap, v4 = .slice ao 1 cap ∧ IntsAt w.heap.size w4.heap.size w4 v4 (0 :: []) := by
                have h := OwnR.at (OwnR.of_owns (base := w.heap.size) (xs := 0 :: []) hown4 (by simp) (by simp)) hB4.size
                obtain ⟨ao4, cap4, e, -⟩ := h.where
                exact ⟨ao4, cap4, by rw [e]; simp, h⟩
              subst e4
              have HI4 := hide hI4
              clear hI4
              have HJ4 := hide (HJr.out.below hB5)
              have HOA4 := hide (HOA.out.below hB5)
              have HB4 := hide hB4
              clear hown4 hgrow4 hB4 hB5
              go_wp2_with fail
              refine (before_impl _ js _ _ _ (List.replicate js.length (-1)) _ _ _ HJ4.out (rep_at HOA4.out)).mono ?_
              rw [alone_bf (bfB_jsv HV.out)]
              rintro e w5 ⟨rfl, hb⟩
              have HJ5 := hide (HJ4.out.below hb)
              have HI5 := hide (HI4.out.below hb)
              have HB5 := hide (Below.step HB4.out hb (Nat.le_refl _))
              clear hb
              go_wp2_with fail
              refine (before_impl _ js _ _ _ (0 :: []) _ _ _ HJ5.out HI5.out).mono ?_
              rw [wrong_bf]
              rintro e w6 ⟨rfl, hb⟩
              have HB6 := hide (Below.step HB5.out hb (Nat.le_refl _))
              clear hb
              go_wp2_with fail
              go_ret
              exact ⟨rfl, HB6.out⟩
            · have hcB : ((cap2 : Int) == 1) = false := by simp; omega
              go_wp2_with (at_builtin; refine wpList_append_own _ rfl (.tmp 43) (.tmp 45) _ rfl w.heap.size 3 i0 _ 1 8 Tryd.underlying36 hi0 hz00 hi1 hi2 rfl (by decide) _ 1 [.int .i64 0] rfl (own_lit wr 0 hnb0) _ bt.length _ (bt.map (Value.int .i64)) rfl ?c1 ?c2 ?c3 ?c4 ?c5 ?c6 ?_)
              case c1 => simp
              case c2 => exact ints_tail (xs := x0 :: bt) (HIr.out.below ((Below.refl _ _).alloc (Nat.le_refl _) _))
              case c3 => intro u hu; obtain ⟨y, _, rfl⟩ := List.mem_map.1 hu; rfl
              case c4 => unfold maxLen; omega
              case c5 => omega
              case c6 => exact Nat.le_trans hnb0 (by simp)
              intro v4 w4 hown4 hgrow4 _
              have hB4 : Below w.heap.size w w4 := HBr.out.trans (((Below.refl _ _).alloc hnb0 _).grown hgrow4 (Nat.le_trans hnb0 (by simp)) fun k hk => by simp [Value.ownBlock] at hk; omega)
              have hB5 : Below wr.heap.size wr w4 := ((Below.refl _ _).alloc (Nat.le_refl _) (.cells #[.int .i64 0] 3)).grown hgrow4 (by simp) fun k hk => by simp [Value.ownBlock] at hk; omega
              obtain ⟨ao4, cap4, e4, hI4⟩ : ∃ ao cap, v4 = .slice ao (bt.length + 1) cap ∧ IntsAt w.heap.size w4.heap.size w4 v4 (0 :: bt) := by
                have h := OwnR.at (OwnR.of_owns (base := w.heap.size) (xs := 0 :: bt) hown4 (by simp; omega) (by simp)) hB4.size
                obtain ⟨ao4, cap4, e, -⟩ := h.where
                exact ⟨ao4, cap4, by rw [e]; simp, h⟩
              subst e4
              have HI4 := hide hI4
              clear hI4
              have HJ4 := hide (HJr.out.below hB5)
              have HOA4 := hide (HOA.out.below hB5)
              have HB4 := hide hB4
              clear hown4 hgrow4 hB4 hB5
              go_wp2_with fail
              refine (before_impl _ js _ _ _ (List.replicate js.length (-1)) _ _ _ HJ4.out (rep_at HOA4.out)).mono ?_
              rw [alone_bf (bfB_jsv HV.out)]
              rintro e w5 ⟨rfl, hb⟩
              have HJ5 := hide (HJ4.out.below hb)
              have HI5 := hide (HI4.out.below hb)
              have HB5 := hide (Below.step HB4.out hb (Nat.le_refl _))
              clear hb
              go_wp2_with fail
              refine (before_impl _ js _ _ _ (0 :: bt) _ _ _ HJ5.out HI5.out).mono ?_
              rw [wrong_bf]
              rintro e w6 ⟨rfl, hb⟩
              have HB6 := hide (Below.step HB5.out hb (Nat.le_refl _))
              clear hb
              go_wp2_with fail
              go_ret
              exact ⟨rfl, HB6.out⟩
end Go.Proofs.YtfjemnjdkniibaaDoor
