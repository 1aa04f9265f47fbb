/-
  The walk over the specification's BeforeBest.
-/
import Derived.Test.YtfjemnjdkniibaaDoorPlainBB
import Derived.Laws.AppendOwnNone
namespace Go.Proofs.YtfjemnjdkniibaaDoor
open Go.RowKit

/-- The slice v, at the head of a row of the call's own, holds the ints xs. -/
def OwnI (base : Nat) (w : World) (v : Value) (xs : List Int) : Prop :=
  (∃ g cap, v = .slice (some ⟨g, 0, none⟩) xs.length cap) ∧ w.ownsRow base 3 1 v xs.length (xs.map (Value.int .i64))

theorem OwnI.at {base : Nat} {w : World} {v : Value} {xs : List Int} (h : OwnI base w v xs) : IntsAt base w.heap.size w v xs := by
  obtain ⟨⟨g, cap, rfl⟩, ho⟩ := h
  have hlt := ho.lt g rfl
  have hcap : xs.length ≤ cap ∧ cap ≤ 9223372036854775807 := by
    rcases ho.2 with ⟨e, _⟩ | ⟨g', cap', cur, e, _, _, h1, h2, _⟩
    · cases e
    · simp only [Value.slice.injEq] at e
      obtain ⟨-, -, rfl⟩ := e
      unfold maxLen at h2
      exact ⟨h1, h2⟩
  refine ⟨_, cap, rfl, hcap.1, hcap.2, Nat.le_refl _, fun _ => ⟨g, 0, rfl, hlt.1, hlt.2, fun i hi => ?_⟩⟩
  rw [Nat.zero_add]
  refine ⟨?_, ho.frozenAt i⟩
  rw [ho.cellAt i (by omega)]
  simp [hi]

theorem OwnI.below {base B : Nat} {w w' : World} {v : Value} {xs : List Int} (h : OwnI base w v xs) (hb : Below B w w') (hB : w.heap.size ≤ B) : OwnI base w' v xs := by
  obtain ⟨⟨g, cap, rfl⟩, ho⟩ := h
  have hlt := ho.lt g rfl
  refine ⟨⟨g, cap, rfl⟩, ho.1, ?_⟩
  rcases ho.2 with ⟨e, _⟩ | ⟨g', cap', cur, e, h0, h1, h2, h3, h4⟩
  · cases e
  · refine .inr ⟨g', cap', cur, e, h0, ?_, h2, h3, h4⟩
    simp only [Value.slice.injEq, Option.some.injEq, Addr.mk.injEq] at e
    obtain ⟨⟨rfl, -⟩, -, -⟩ := e
    rw [hb.block _ (by omega)]; exact h1

theorem OwnI.new (base : Nat) (w : World) (xs : List Int) (hb : base ≤ w.heap.size) (hx : xs.length ≤ 9223372036854775807) : OwnI base (w.alloc (.cells (xs.map (Value.int .i64)).toArray 3)) (.slice (some ⟨w.heap.size, 0, none⟩) xs.length xs.length) xs := by
  refine ⟨⟨_, _, rfl⟩, ?_⟩
  have := World.ownsRow_lit (e := 3) (size := 1) w (xs.map (Value.int .i64)).toArray xs.length hb (by unfold maxLen; exact hx) (by simp)
  simpa using this

/-- Behind an append to such a slice. -/
theorem OwnI.mk {base : Nat} {w : World} {v : Value} {xs : List Int} {n : Nat} {cs : List Value} (h : w.ownsRow base 3 1 v n cs) (hn : n = xs.length) (hc : cs = xs.map (Value.int .i64)) (hv : v ≠ .slice none 0 0) : OwnI base w v xs := by
  subst hn hc
  refine ⟨?_, h⟩
  rcases h.2 with ⟨e, _⟩ | ⟨g, cap, cur, e, _⟩
  · exact absurd e hv
  · exact ⟨g, cap, e⟩

set_option maxHeartbeats 1600000 in
theorem beforeBest_spec_ok (v : Value) (js : List J) (lo hi : Nat) (v1 : Value) (bs : List Int) (lo1 hi1 : Nat) (w : World) (h : JobsAt lo hi w v js) (h1 : IntsAt lo1 hi1 w v1 bs) (hv : bfB js bs = true) :
    Calls Tryd.prog 60 #[v, v1] w fun e w' => ∃ r, e = .returned r ∧ IntsAt w.heap.size w'.heap.size w' r (bbTo js bs js.length) ∧ Below w.heap.size w w' := by
  have hl := jsvB_len (bfB_jsv hv)
  have hbl := bfB_len hv
  have Hbl := hide hbl
  have hbl1 : js.length ≤ bs.length := by omega
  obtain ⟨ao, cap, rfl, hlc, hcap, hhi, hc⟩ := id h
  obtain ⟨ao1, cap1, rfl, hlc1, hcap1, hhi1, hc1⟩ := id h1
  have Hc := hide hc
  have Hc1 := hide hc1
  have HH := hide h
  have HH1 := hide h1
  have HV := hide hv
  clear hc hc1 h h1 hv hbl
  go_enter Tryd.func60, Tryd.ntmps60
  go_wp2_with fail
  go_loopw [5, 6] (fun o i wr => ∃ m : Nat, m ≤ js.length ∧ i = .int .i64 m ∧ Below w.heap.size w wr ∧ OwnI w.heap.size wr o (bbTo js bs m)) (fun _ i _ => js.length - (intOf i).toNat)
  case atStart => exact ⟨0, Nat.zero_le _, rfl, by go_grown, by simpa [bbTo] using OwnI.new w.heap.size w [] (Nat.le_refl _) (by simp)⟩
  case round =>
    obtain ⟨m, hm, rfl, hb, hown⟩ := hrel
    have Ho := hide hown
    obtain ⟨⟨g, capo, rfl⟩, -⟩ := hown
    rw [bbTo_len] at Ho ⊢
    by_cases hlt : m < js.length
    · have HHr := hide (JobsAt.keep HH.out (Keeps.of_below hb hhi) hb.size)
      have HH1r := hide (IntsAt.keep HH1.out (Keeps.of_below hb hhi1) hb.size)
      go_wp2_with fail
      refine (before_spec _ js _ _ _ bs _ _ _ HHr.out HH1r.out).mono ?_
      rw [HV.out]
      rintro e w2 ⟨rfl, hb2⟩
      have hb02 : Below w.heap.size w w2 := Below.step hb hb2 (Nat.le_refl _)
      have Ho2 := hide (OwnI.below Ho.out hb2 (Nat.le_refl _))
      have HHr2 := hide (HHr.out.below hb2)
      have HH1r2 := hide (HH1r.out.below hb2)
      go_wp2_with fail
      go_loopw [7, 8] (fun b i wx => ∃ k : Nat, k ≤ js.length ∧ i = .int .i64 k ∧ b = .int .i64 (selTo js bs (bbTo js bs m) k) ∧ Below w2.heap.size w2 wx) (fun _ i _ => js.length - (intOf i).toNat)
      case atStart => exact ⟨0, Nat.zero_le _, rfl, rfl, Below.refl _ _⟩
      case round =>
        obtain ⟨k, hk, rfl, hb7, hbx⟩ := hrel
        obtain ⟨z, hz⟩ : ∃ z, selTo js bs (bbTo js bs m) k = z := ⟨_, rfl⟩
        rw [hz] at hb7
        subst hb7
        have Hz := hide hz
        clear hz
        have HoX := hide (OwnI.below Ho2.out hbx (Nat.le_refl _))
        by_cases hlk : k < js.length
        · obtain ⟨b, o, rfl, hx1, hx2, hcs⟩ := Hc.out (by omega)
          obtain ⟨b1, o1, rfl, hx1', hx2', hcs1⟩ := Hc1.out (by omega)
          have hkI : (k : Int) < (js.length : Int) := by omega
          have Hcs := hide hcs
          have Hcs1 := hide hcs1
          have hz2 := hb02.size
          have Hcell := hide (fun (b o : Nat) (hb : b < w.heap.size) => show wr.cell? ⟨b, o, none⟩ = w.cell? ⟨b, o, none⟩ from (hbx.cell (p := ⟨b, o, none⟩) (by simpa using by omega)).trans (hb02.cell (p := ⟨b, o, none⟩) hb))
          clear hcs hcs1
          go_wp2_with fail
          refine (l1Has_any _ (bbTo js bs m) _ _ _ _ HoX.out.at).mono ?_
          rintro e wx' ⟨rfl, rfl⟩
          go_wp2_with fail
          go_loop [9, 10] (fun f i => ∃ j : Nat, j ≤ js.length ∧ i = .int .i64 j ∧ f = .bool (freeTo bs (bbTo js bs m) k j)) (fun _ i => js.length - (intOf i).toNat)
          case atStart => exact ⟨0, Nat.zero_le _, rfl, by simp [freeTo, upTo]⟩
          case round =>
            obtain ⟨j, hj, rfl, rfl⟩ := hrel
            have hfs := freeTo_succ bs (bbTo js bs m) k j
            have Hfs := hide hfs
            clear hfs
            by_cases hlj : j < js.length
            · have hjb : j < bs.length := by omega
              obtain ⟨r1, -⟩ := Hcs1.out j hjb
              rw [← Hcell.out b1 _ (by omega)] at r1
              have hgd : bs.getD j 0 = bs[j] := by simp [hjb]
              rw [hgd] at Hfs
              clear hgd
              cases hfr : freeTo bs (bbTo js bs m) k j with
              | false =>
                have HN := hide (show freeTo bs (bbTo js bs m) k (j + 1) = false by rw [Hfs.out, hfr]; rfl)
                go_wp2_with fail
                go_round
                case rel => exact ⟨j + 1, by omega, by go_num, by rw [HN.out]⟩
                case measure => simp [intOf]; omega
              | true =>
                cases hq : (bs[j] != (k : Int)) with
                | true =>
                  have HN := hide (show freeTo bs (bbTo js bs m) k (j + 1) = true by rw [Hfs.out, hfr, hq]; rfl)
                  go_wp2_with fail
                  go_round
                  case rel => exact ⟨j + 1, by omega, by go_num, by rw [HN.out]⟩
                  case measure => simp [intOf]; omega
                | false =>
                  have HN := hide (show freeTo bs (bbTo js bs m) k (j + 1) = hasI (bbTo js bs m) j by rw [Hfs.out, hfr, hq]; rfl)
                  go_wp2_with fail
                  refine (l1Has_any _ (bbTo js bs m) _ _ _ _ HoX.out.at).mono ?_
                  rintro e wx' ⟨rfl, rfl⟩
                  go_wp2_with fail
                  go_round
                  case rel => exact ⟨j + 1, by omega, by go_num, by rw [HN.out]⟩
                  case measure => simp [intOf]; omega
            · obtain rfl : j = js.length := by omega
              obtain ⟨⟨p1, p2, p3⟩, -⟩ := Hcs.out k hlk
              rw [← Hcell.out b _ (by omega)] at p2
              clear p1 p3
              have hgk : (js.getD k ⟨0, 0, 0⟩).d = js[k].d := by simp [hlk]
              have Hgk := hide hgk
              clear hgk
              cases hfr : freeTo bs (bbTo js bs m) k js.length with
              | false =>
                have HN := hide (show selTo js bs (bbTo js bs m) (k + 1) = z by simp only [selTo, hfr, Bool.false_and, Bool.false_eq_true, if_false]; exact Hz.out)
                go_wp2_with fail
                go_quiet (fail)
                go_wp2_with fail
                go_roundw
                case rel => exact ⟨k + 1, by omega, by go_num, by rw [HN.out], below_drewN hbx _⟩
                case measure => simp [intOf]; omega
              | true =>
                have hcase := selTo_cases js bs (bbTo js bs m) k
                rw [Hz.out] at hcase
                rcases hcase with rfl | ⟨x, rfl, hxk, -⟩
                · have HN := hide (show selTo js bs (bbTo js bs m) (k + 1) = k by simp only [selTo, hfr, Hz.out]; simp)
                  go_wp2_with fail
                  go_quiet (fail)
                  go_wp2_with fail
                  go_roundw
                  case rel => exact ⟨k + 1, by omega, by go_num, by rw [HN.out], below_drewN hbx _⟩
                  case measure => simp [intOf]; omega
                · obtain ⟨⟨s1, s2, s3⟩, -⟩ := Hcs.out x (by omega)
                  rw [← Hcell.out b _ (by omega)] at s2
                  clear s1 s3
                  have hxI : (x : Int) < (js.length : Int) := by omega
                  have hx0 : decide ((x : Int) < 0) = false := by simp
                  by_cases hq : js[x].d ≤ js[k].d
                  · have hqB : decide (js[x].d ≤ js[k].d) = true := by simp [hq]
                    have HN := hide (show selTo js bs (bbTo js bs m) (k + 1) = k by
                      have hxl : x < js.length := by omega
                      simp [selTo, hfr, Hz.out, hlk, hxl, hq])
                    go_wp2_with fail
                    go_quiet (fail)
                    go_wp2_with fail
                    go_roundw
                    case rel => exact ⟨k + 1, by omega, by go_num, by rw [HN.out], below_drewN hbx _⟩
                    case measure => simp [intOf]; omega
                  · have hqB : decide (js[x].d ≤ js[k].d) = false := by simp only [decide_eq_false_iff_not]; exact hq
                    have HN := hide (show selTo js bs (bbTo js bs m) (k + 1) = x by
                      have hxl : x < js.length := by omega
                      simp [selTo, hfr, Hz.out, hlk, hxl, hq]; omega)
                    clear hq
                    go_wp2_with fail
                    go_quiet (fail)
                    go_wp2_with fail
                    go_roundw
                    case rel => exact ⟨k + 1, by omega, by go_num, by rw [HN.out], below_drewN hbx _⟩
                    case measure => simp [intOf]; omega
        · obtain rfl : k = js.length := by omega
          obtain ⟨x, hx, hxl, -⟩ := sel_ok HV.out hlt
          have hzx := Hz.out.symm.trans hx
          subst hzx
          have HBB := hide (show bbTo js bs (m + 1) = (x : Int) :: bbTo js bs m by simp only [bbTo]; rw [hx])
          have hb0x : Below w.heap.size w wr := Below.step hb02 hbx (Nat.le_refl _)
          have hnew := OwnI.new w.heap.size wr [(x : Int)] hb0x.size (by simp)
          have HoY := hide (OwnI.below HoX.out ((Below.refl wr.heap.size wr).alloc (Nat.le_refl _) (.cells #[.int .i64 (x : Int)] 3)) (Nat.le_refl _))
          have hsz := hb0x.size
          obtain ⟨i0, hi0, hz0, hz1, hz2⟩ := info_parts info_int
          have Hnew := hide hnew
          have hlm := bbTo_len js bs m
          have Hlm := hide hlm
          clear hx hnew hlm
          go_wp2_with (at_builtin; refine wpList_append_own _ rfl _ _ 36 rfl w.heap.size 3 i0 (.int .i64 0) 1 8 Tryd.underlying36 hi0 hz0 hz1 hz2 rfl (by decide) _ _ _ rfl Hnew.out.2 ⟨g, 0, none⟩ m capo ((bbTo js bs m).map (Value.int .i64)) rfl ?c1 ?c2 ?c3 ?c4 ?c5 ?c6 ?_)
          case c1 => simp [Hlm.out]
          case c2 => exact HoY.out.2.cells rfl
          case c3 =>
            intro u hu
            obtain ⟨y, _, rfl⟩ := List.mem_map.1 hu
            rfl
          case c4 => unfold maxLen; simp; omega
          case c5 => simp; omega
          case c6 => simp; omega
          intro v' w' hown' hgrow hne
          have hB1 : Below w.heap.size w w' := (hb0x.alloc hsz _).grown hgrow (by simp; omega) (fun k hk => by simp [Value.ownBlock] at hk; omega)
          have hown2 : OwnI w.heap.size w' v' ((x : Int) :: bbTo js bs m) := OwnI.mk hown' (by simp [Hlm.out]; omega) (by simp) hne
          rw [← HBB.out] at hown2
          have Hown2 := hide hown2
          clear hown' hgrow hown2 hne
          go_wp2_with fail
          go_roundw
          case rel => exact ⟨m + 1, by omega, by go_num, hB1, Hown2.out⟩
          case measure => simp [intOf]; omega
    · obtain rfl : m = js.length := by omega
      go_wp2_with fail
      go_ret
      exact ⟨_, rfl, Ho.out.at, hb⟩

theorem beforeBest_spec (v : Value) (js : List J) (lo hi : Nat) (v1 : Value) (bs : List Int) (lo1 hi1 : Nat) (w : World) (h : JobsAt lo hi w v js) (h1 : IntsAt lo1 hi1 w v1 bs) :
    Calls Tryd.prog 60 #[v, v1] w fun e w' => ∃ r, e = .returned r ∧ IntsAt w.heap.size w'.heap.size w' r (bbR js bs) ∧ Below w.heap.size w w' := by
  cases hv : bfB js bs with
  | true =>
    have e : bbR js bs = bbTo js bs js.length := by simp [bbR, hv]
    rw [e]
    exact beforeBest_spec_ok v js lo hi v1 bs lo1 hi1 w h h1 hv
  | false =>
    have e : bbR js bs = [] := by simp [bbR, hv]
    rw [e]
    obtain ⟨ao, cap, rfl, hlc, hcap, hhi, hc⟩ := id h
    have HH := hide h
    have HH1 := hide h1
    have HV := hide hv
    clear hc h h1 hv e
    go_enter Tryd.func60, Tryd.ntmps60
    go_wp2_with fail
    go_loopw [5, 6] (fun o i wr => i = .int .i64 0 ∧ Below w.heap.size w wr ∧ ∃ ao, o = .slice ao 0 0) (fun _ _ _ => 0)
    case atStart => exact ⟨rfl, by go_grown, _, rfl⟩
    case round =>
      obtain ⟨rfl, hb, aoo, rfl⟩ := hrel
      have HHr := hide (JobsAt.keep HH.out (Keeps.of_below hb HH.out.lt) hb.size)
      have HH1r := hide (IntsAt.keep HH1.out (Keeps.of_below hb HH1.out.lt) hb.size)
      by_cases hn : 0 < js.length
      · go_wp2_with fail
        refine (before_spec _ js _ _ _ bs _ _ _ HHr.out HH1r.out).mono ?_
        rw [HV.out]
        rintro e w2 ⟨rfl, hb2⟩
        go_wp2_with fail
        go_ret
        have hb02 : Below w.heap.size w w2 := Below.step hb hb2 (Nat.le_refl _)
        exact ⟨_, rfl, IntsAt.nil _ _ _, hb02⟩
      · have hnB : decide ((0 : Int) < js.length) = false := by rw [decide_eq_false_iff_not]; omega
        go_wp2_with fail
        go_ret
        exact ⟨_, rfl, IntsAt.nil _ _ _, hb⟩
end Go.Proofs.YtfjemnjdkniibaaDoor
