/-
  Parts of the proof, of 2 texts: what CutB, CutL show. Conditions: each theorem states its own.
-/
import Derived.Test.YtajjnciookhamaaGreatM17
import Derived.Test.YtajjnciookhamaaGreatM16
import Derived.Test.YtajjnciookhamaaGreatM07
namespace Go.Proofs.YtajjnciookhamaaGreat
open Go.RowKit
/-- How many slabs of each length. -/
def manyL (L : Nat) (a b : Int) : List Int := [(many0 L a b : Int), (many1 L a b : Int)]
theorem many_60 {L : Nat} {a b : Int} (h : lensB a b = true) (hL : L ≤ 60) : many0 L a b ≤ 60 ∧ many1 L a b ≤ 60 := by
  obtain ⟨h1, h2⟩ := many_bd h (show (0 : Int) ≤ L by omega)
  omega
/-- A row of two. -/
def Row2 (w : World) (G : Nat) (c0 c1 : Nat) : Prop := ∃ f, w.rowIs G 3 2 f ∧ f 0 = .int .i64 (c0 : Int) ∧ f 1 = .int .i64 (c1 : Int)
theorem Row2.cell {w : World} {G c0 c1 : Nat} (h : Row2 w G c0 c1) : w.cell? ⟨G, 0, none⟩ = some (.int .i64 (c0 : Int)) ∧ w.cell? ⟨G, 1, none⟩ = some (.int .i64 (c1 : Int)) ∧ w.frozen? ⟨G, 0, none⟩ = false ∧ w.frozen? ⟨G, 1, none⟩ = false ∧ G < w.heap.size := by
  obtain ⟨f, h, e0, e1⟩ := h
  refine ⟨?_, ?_, h.frozen 0, h.frozen 1, h.lt⟩
  · rw [h.cell (i := 0) (by omega), e0]
  · rw [h.cell (i := 1) (by omega), e1]
theorem Row2.set0 {w : World} {G c0 c1 : Nat} (h : Row2 w G c0 c1) (y : Nat) : Row2 (w.setCell ⟨G, 0, none⟩ (.int .i64 (y : Int))) G y c1 := by
  obtain ⟨f, h, e0, e1⟩ := h
  exact ⟨_, h.set 0 _, by simp, by simpa using e1⟩
theorem Row2.set1 {w : World} {G c0 c1 : Nat} (h : Row2 w G c0 c1) (y : Nat) : Row2 (w.setCell ⟨G, 1, none⟩ (.int .i64 (y : Int))) G c0 y := by
  obtain ⟨f, h, e0, e1⟩ := h
  exact ⟨_, h.set 1 _, by simpa using e0, by simp⟩
theorem Row2.own {w : World} {base G c0 c1 : Nat} (h : Row2 w G c0 c1) (hb : base ≤ G) : w.ownsRow base 3 1 (.slice (some ⟨G, 0, none⟩) 2 2) 2 (flatI [(c0 : Int), (c1 : Int)]) := by
  obtain ⟨f, h, e0, e1⟩ := h
  refine own_of_row (n := 2) (sz := 1) h hb (by omega) rfl fun i hi => ?_
  have : i = 0 ∨ i = 1 := by omega
  rcases this with rfl | rfl
  · rw [e0]; rfl
  · rw [e1]; rfl
theorem Row2.drewN {w : World} {G c0 c1 : Nat} (h : Row2 w G c0 c1) (n : Nat) : Row2 (w.drewN n) G c0 c1 := h
set_option linter.unusedSimpArgs false in
set_option maxRecDepth 10000 in
set_option maxHeartbeats 1600000 in
theorem cutBest_impl (v : Value) (a b : Int) (lo hi L : Nat) (hL : L ≤ 60) (hv : lensB a b = true) (w : World) (H : IntsAt lo hi w v [a, b]) :
    Calls Tryz.prog 83 #[.int .i64 (L : Int), v] w (IntsNew w.heap.size (manyL L a b) w) := by
  have HH := hide H
  have HV := hide hv
  have hlt := H.lt
  obtain ⟨⟨ha1, ha2⟩, hb1, hb2⟩ := lensB_iff.1 hv
  obtain ⟨hn0, hn1⟩ := many_60 hv hL
  obtain ⟨b0, o0, cap, rfl, h1, h2, -, -⟩ := two_at H
  have hmk : ∀ W : World, (Instr.makeSlice 26 (.int .i64 2) (.int .i64 2)).run Tryz.prog W = .ok (.slice (some ⟨W.heap.size, 0, none⟩) 2 2) (W.alloc (.cells (madeCells #[.int .i64 0] 2) 3)) := fun W =>
    make_rowN (P := Tryz.prog) 26 3 _ _ _ Tryz.underlying26 info_int .i64 .i64 2 (by omega) (by omega) W
  have hs1 : CutSt (tab a b (L + 1)) L b (many1 L a b) 0 L := CutSt.start
  have hnx : ∀ l : Int, CutSt (tab a b (L + 1)) L b (many1 L a b) (many1 L a b) l → l = L - many1 L a b * b → CutSt (tab a b (L + 1)) L a (many0 L a b) 0 l := fun l => CutSt.next
  have HW := hide (fun W => within_any (L : Int) 0 60 W)
  have hw : wi (L : Int) 0 60 = true := wi_iff.2 (by omega)
  rw [hw] at HW
  have HT := hide (fun (W : World) (k : Below w.heap.size w W) => wastes_impl (.slice (some ⟨b0, o0, none⟩) 2 cap) a b lo hi L hL hv W (H.below k))
  have HLN := hide (fun (W : World) (k : Below w.heap.size w W) => lens_impl (.slice (some ⟨b0, o0, none⟩) 2 cap) a b lo hi W (H.below k))
  clear H hv hw
  go_enter Tryz.func83, Tryz.ntmps83
  go_wp2_with fail
  refine (HW.out _).mono ?_
  rintro e w1 ⟨rfl, rfl⟩
  go_wp2_with fail
  refine (HLN.out w (Below.refl _ _)).mono ?_
  rintro e w1 ⟨rfl, rfl⟩
  rw [HV.out]
  go_wp2_with fail
  refine (HT.out w (Below.refl _ _)).mono ?_

  rintro e w2 ⟨v1, rfl, hown, hb2⟩
  have hz2 := hb2.size
  have HB2 := hide hb2
  have h12 := ownI_at hown rfl (by omega)
  obtain ⟨T, hT⟩ : ∃ T, tab a b (L + 1) = T := ⟨_, rfl⟩
  have HTL := hide (show T.length = L + 1 by rw [← hT, tab_len])
  rw [hT] at h12 hs1 hnx
  have HS1 := hide hs1
  have HNX := hide hnx
  have HI := hide h12
  obtain ⟨ao1, cap1, rfl, -⟩ := h12
  clear hown hb2 hT hs1 hnx
  go_wp2_with fail
  clear hmk
  obtain ⟨G, hG⟩ : ∃ G, w2.heap.size = G := ⟨_, rfl⟩
  obtain ⟨wa, hwa⟩ : ∃ wa, wa = w2.alloc (.cells (madeCells #[.int .i64 0] 2) 3) := ⟨_, rfl⟩
  have HR := hide (show Row2 wa G 0 0 by
    rw [← hG, hwa]
    exact ⟨_, World.rowIs_made w2 (.int .i64 0) 2 3, rfl, rfl⟩)
  have HB := hide (show Below w2.heap.size w2 wa by rw [hwa]; exact (Below.refl _ _).alloc (Nat.le_refl _) _)
  rw [← hwa, hG]
  have HGZ := hide hG
  have hbG : b0 ≠ G := by omega
  have hGb : G ≠ b0 := by omega
  clear hwa hG
  go_loopw [7, 8] (fun left i wr => Below w2.heap.size w2 wr ∧ ((i = .int .i64 1 ∧ left = .int .i64 (L : Int) ∧ Row2 wr G 0 0) ∨ (∃ l : Int, i = .int .i64 0 ∧ left = .int .i64 l ∧ CutSt T L a (many0 L a b) 0 l ∧ Row2 wr G 0 (many1 L a b)) ∨ (i = .int .i64 (-1) ∧ Row2 wr G (many0 L a b) (many1 L a b)))) (fun _ i _ => (intOf i + 1).toNat)
  case atStart => exact ⟨HB.out, .inl ⟨rfl, rfl, HR.out⟩⟩
  case round =>
    obtain ⟨hb, hcase⟩ := hrel
    clear HB HR
    have HB := hide hb
    obtain ⟨wo, rfl⟩ : ∃ wo : World, wo = wr := ⟨_, rfl⟩
    rcases hcase with ⟨rfl, rfl, hr⟩ | ⟨l, rfl, rfl, hst, hr⟩ | ⟨rfl, hr⟩
    · have HR := hide hr
      clear hr hb
      go_wp2_with fail
      go_loopw [7] (fun left wr => ∃ (c : Nat) (l : Int), left = .int .i64 l ∧ Below w2.heap.size w2 wr ∧ CutSt T L b (many1 L a b) c l ∧ Row2 wr G 0 c ∧ l = L - c * b) (fun left _ => (intOf left).toNat)
      case atStart => exact ⟨0, _, rfl, HB.out, HS1.out, HR.out, by simp⟩
      case round =>
        obtain ⟨c, l, rfl, hb, hst, hrow, hlx⟩ := hrel
        have HB := hide hb
        have HC := hide hst
        have HR := hide hrow
        have HLX := hide hlx
        obtain ⟨b1, o1, cap1, e1, -, -, c0, c1⟩ := two_at (HH.out.below (HB2.out.trans (hb.mono hz2)))
        cases e1
        obtain ⟨g0, g1, f0, f1, hGz⟩ := hrow.cell
        have hl0 := hst.pos
        have hl1 := hst.le
        have HAT := hide (HI.out.below hb)
        clear hb hst hrow hlx
        by_cases hle : b ≤ l
        · obtain ⟨d, hd⟩ : ∃ d : Nat, l - b = d := ⟨(l - b).toNat, by omega⟩
          have hwd : IntKind.i64.wrap (l - b) = (d : Int) := by rw [hd]; exact IntWalk.i64_in _ (by omega)
          have hTl := HTL.out
          have hdT : (d : Int) < (T.length : Int) := by omega
          have hd0 : (0 : Int) ≤ (d : Int) := by omega
          have hLT : (L : Int) < (T.length : Int) := by omega
          have hL0 : (0 : Int) ≤ (L : Int) := by omega
          obtain ⟨b3, o3, cap3, e3, -, -, gL, -⟩ := ints_at HAT.out (k := L) (by omega)
          cases e3
          obtain ⟨b4, o4, cap4, e4, -, -, gd, -⟩ := ints_at HAT.out (k := d) (by omega)
          cases e4
          obtain ⟨y, hy⟩ : ∃ y, T.getD d 0 = y := ⟨_, rfl⟩
          obtain ⟨z, hz⟩ : ∃ z, T.getD L 0 = z := ⟨_, rfl⟩
          rw [hy] at gd
          rw [hz] at gL
          have HM := hide (show moreB T b l = (y == z) by
            unfold moreB
            rw [HC.out.same, hd, hz, show ((d : Int)).toNat = d by omega, hy]
            simp [hle])
          have HD := hide hd
          clear hy hz hd hTl
          by_cases hyz : y = z
          · subst hyz
            have HM2 := HC.out.more (by omega) (HM.out.trans (by simp))
            rw [HD.out] at HM2
            obtain ⟨hst2, -, hcn⟩ := HM2
            have hw1 : IntKind.i64.wrap ((c : Int) + 1) = ((c + 1 : Nat) : Int) := by rw [show (c : Int) + 1 = ((c + 1 : Nat) : Int) by omega]; exact IntWalk.i64_in _ (by omega)
            have HST := hide hst2
            clear hst2 HM HC
            go_wp2_with fail
            go_quiet (fail)
            go_wp2_with fail
            go_roundw
            case rel => exact ⟨c + 1, d, rfl, (below_drewN HB.out _).setCell (by have := HGZ.out; show w2.heap.size ≤ G; omega) _, HST.out, by simpa using Row2.drewN HR.out _ |>.set1 (c + 1), by have h1 := HLX.out; have h2 := HD.out; rw [Int.natCast_add, Int.add_mul]; omega⟩
            case measure => have hD := HD.out; simp [intOf]; omega
          · obtain rfl := HC.out.done (HM.out.trans (by simpa using hyz))
            have hyzb : (y == z) = false := by simpa using hyz
            clear HM
            go_wp2_with fail
            go_quiet (fail)
            go_wp2_with fail
            go_roundw
            case rel => exact ⟨below_drewN HB.out _, .inr (.inl ⟨l, rfl, rfl, HNX.out l HC.out HLX.out, Row2.drewN HR.out _⟩)⟩
            case measure => simp [intOf]
        · obtain rfl := HC.out.done (show moreB T b l = false by unfold moreB; simp [hle])
          have hleb : decide (b ≤ l) = false := by simpa using hle
          go_wp2_with fail
          go_quiet (fail)
          go_wp2_with fail
          go_roundw
          case rel => exact ⟨below_drewN HB.out _, .inr (.inl ⟨l, rfl, rfl, HNX.out l HC.out HLX.out, Row2.drewN HR.out _⟩)⟩
          case measure => simp [intOf]
    · have HR := hide hr
      have HS0 := hide hst
      clear hr hst hb
      go_wp2_with fail
      go_loopw [7] (fun left wr => ∃ (c : Nat) (l : Int), left = .int .i64 l ∧ Below w2.heap.size w2 wr ∧ CutSt T L a (many0 L a b) c l ∧ Row2 wr G c (many1 L a b) ∧ True) (fun left _ => (intOf left).toNat)
      case atStart => exact ⟨0, _, rfl, HB.out, HS0.out, HR.out, trivial⟩
      case round =>
        obtain ⟨c, l, rfl, hb, hst, hrow, hlx⟩ := hrel
        have HB := hide hb
        have HC := hide hst
        have HR := hide hrow
        have HLX := hide hlx
        obtain ⟨b1, o1, cap1, e1, -, -, c0, c1⟩ := two_at (HH.out.below (HB2.out.trans (hb.mono hz2)))
        cases e1
        obtain ⟨g0, g1, f0, f1, hGz⟩ := hrow.cell
        have hl0 := hst.pos
        have hl1 := hst.le
        have HAT := hide (HI.out.below hb)
        clear hb hst hrow hlx
        by_cases hle : a ≤ l
        · obtain ⟨d, hd⟩ : ∃ d : Nat, l - a = d := ⟨(l - a).toNat, by omega⟩
          have hwd : IntKind.i64.wrap (l - a) = (d : Int) := by rw [hd]; exact IntWalk.i64_in _ (by omega)
          have hTl := HTL.out
          have hdT : (d : Int) < (T.length : Int) := by omega
          have hd0 : (0 : Int) ≤ (d : Int) := by omega
          have hLT : (L : Int) < (T.length : Int) := by omega
          have hL0 : (0 : Int) ≤ (L : Int) := by omega
          obtain ⟨b3, o3, cap3, e3, -, -, gL, -⟩ := ints_at HAT.out (k := L) (by omega)
          cases e3
          obtain ⟨b4, o4, cap4, e4, -, -, gd, -⟩ := ints_at HAT.out (k := d) (by omega)
          cases e4
          obtain ⟨y, hy⟩ : ∃ y, T.getD d 0 = y := ⟨_, rfl⟩
          obtain ⟨z, hz⟩ : ∃ z, T.getD L 0 = z := ⟨_, rfl⟩
          rw [hy] at gd
          rw [hz] at gL
          have HM := hide (show moreB T a l = (y == z) by
            unfold moreB
            rw [HC.out.same, hd, hz, show ((d : Int)).toNat = d by omega, hy]
            simp [hle])
          have HD := hide hd
          clear hy hz hd hTl
          by_cases hyz : y = z
          · subst hyz
            have HM2 := HC.out.more (by omega) (HM.out.trans (by simp))
            rw [HD.out] at HM2
            obtain ⟨hst2, -, hcn⟩ := HM2
            have hw1 : IntKind.i64.wrap ((c : Int) + 1) = ((c + 1 : Nat) : Int) := by rw [show (c : Int) + 1 = ((c + 1 : Nat) : Int) by omega]; exact IntWalk.i64_in _ (by omega)
            have HST := hide hst2
            clear hst2 HM HC
            go_wp2_with fail
            go_quiet (fail)
            go_wp2_with fail
            go_roundw
            case rel => exact ⟨c + 1, d, rfl, (below_drewN HB.out _).setCell (by have := HGZ.out; show w2.heap.size ≤ G; omega) _, HST.out, by simpa using Row2.drewN HR.out _ |>.set0 (c + 1), trivial⟩
            case measure => have hD := HD.out; simp [intOf]; omega
          · obtain rfl := HC.out.done (HM.out.trans (by simpa using hyz))
            have hyzb : (y == z) = false := by simpa using hyz
            clear HM
            go_wp2_with fail
            go_quiet (fail)
            go_wp2_with fail
            go_roundw
            case rel => exact ⟨below_drewN HB.out _, .inr (.inr ⟨rfl, Row2.drewN HR.out _⟩)⟩
            case measure => simp [intOf]
        · obtain rfl := HC.out.done (show moreB T a l = false by unfold moreB; simp [hle])
          have hleb : decide (a ≤ l) = false := by simpa using hle
          go_wp2_with fail
          go_quiet (fail)
          go_wp2_with fail
          go_roundw
          case rel => exact ⟨below_drewN HB.out _, .inr (.inr ⟨rfl, Row2.drewN HR.out _⟩)⟩
          case measure => simp [intOf]
    · have HR := hide hr
      clear hr hb
      go_wp2_with fail
      go_ret
      exact ⟨_, rfl, (HR.out.own (base := w.heap.size) (by have := HGZ.out; omega)), HB2.out.trans (HB.out.mono hz2)⟩
end Go.Proofs.YtajjnciookhamaaGreat
namespace Go.Proofs.YtajjnciookhamaaGreat
open Go.RowKit
set_option linter.unusedSimpArgs false in
set_option maxRecDepth 10000 in
set_option maxHeartbeats 1600000 in
theorem lens_spec (v : Value) (a b : Int) (lo hi : Nat) (w : World) (H : IntsAt lo hi w v [a, b]) :
    Calls Tryz.prog 106 #[v] w fun e w' => e = .returned (.bool (lensB a b)) ∧ Below w.heap.size w w' := by
  have HH := hide H
  obtain ⟨b0, o0, cap, rfl, -, -, -, -⟩ := two_at H
  clear H
  go_enter Tryz.func106, Tryz.ntmps106
  go_wp2_with fail
  go_loopw [3] (fun i wr => Below w.heap.size w wr ∧ ((i = .int .i64 0) ∨ (i = .int .i64 1 ∧ wi a 1 60 = true) ∨ (i = .int .i64 2 ∧ lensB a b = true))) (fun i _ => 2 - (intOf i).toNat)
  case atStart => exact ⟨Below.refl _ _, .inl rfl⟩
  case round =>
    obtain ⟨hb, hcase⟩ := hrel
    have HB := hide hb
    obtain ⟨b1, o1, cap1, e1, -, -, c0, c1⟩ := two_at (HH.out.below hb)
    cases e1
    clear hb
    rcases hcase with rfl | ⟨rfl, h⟩ | ⟨rfl, h⟩
    · cases h : wi a 1 60 with
      | false =>
        have HF := hide (show lensB a b = false by simp [lensB, h])
        have hq := fun W => l1In_any a 1 60 W
        rw [h] at hq
        have HQ := hide hq
        have HA := hide h
        clear h hq
        go_wp2_with fail
        go_quiet ((go_at_call 57; exact quiet_left (HQ.out _)))
        go_wp2_with fail
        go_ret
        exact ⟨by rw [HF.out]; rfl, below_drewN HB.out _⟩
      | true =>
        have hq := fun W => l1In_any a 1 60 W
        rw [h] at hq
        have HQ := hide hq
        have HA := hide h
        clear h hq
        go_wp2_with fail
        go_quiet ((go_at_call 57; exact quiet_left (HQ.out _)))
        go_wp2_with fail
        go_roundw
        case rel => exact ⟨below_drewN HB.out _, .inr (.inl ⟨rfl, by first | trivial | exact HA.out⟩)⟩
        case measure => simp [intOf]
    · have ha := wi_iff.1 h
      cases h1 : wi b 1 60 with
      | false =>
        have HF := hide (show lensB a b = false by
          rw [← Bool.not_eq_true, lensB_iff]
          intro hh
          have : wi b 1 60 = true := wi_iff.2 (by omega)
          rw [this] at h1; cases h1)
        have hq := fun W => l1In_any b 1 60 W
        rw [h1] at hq
        have HQ := hide hq
        clear h h1 hq
        go_wp2_with fail
        go_quiet ((go_at_call 57; exact quiet_left (HQ.out _)))
        go_wp2_with fail
        go_ret
        exact ⟨by rw [HF.out]; rfl, below_drewN HB.out _⟩
      | true =>
        have hb1 := wi_iff.1 h1
        by_cases hab : b ≤ a
        · have HF := hide (show lensB a b = false by
            rw [← Bool.not_eq_true, lensB_iff]
            omega)
          have hq := fun W => l1In_any b 1 60 W
          rw [h1] at hq
          have HQ := hide hq
          have habd : decide (b ≤ a) = true := by simpa using hab
          clear h h1 hq
          go_wp2_with fail
          go_quiet ((go_at_call 57; exact quiet_left (HQ.out _)))
          go_wp2_with fail
          go_ret
          exact ⟨by rw [HF.out]; rfl, below_drewN HB.out _⟩
        · have HF := hide (show lensB a b = true from lensB_iff.2 (by omega))
          have hq := fun W => l1In_any b 1 60 W
          rw [h1] at hq
          have HQ := hide hq
          have habd : decide (b ≤ a) = false := by simpa using hab
          clear h h1 hq
          go_wp2_with fail
          go_quiet ((go_at_call 57; exact quiet_left (HQ.out _)))
          go_wp2_with fail
          go_roundw
          case rel => exact ⟨below_drewN HB.out _, .inr (.inr ⟨rfl, HF.out⟩)⟩
          case measure => simp [intOf]
    · go_wp2_with fail
      refine (l1In_any 2 1 4 wr).mono ?_
      rintro e w1 ⟨rfl, rfl⟩
      have hw : wi 2 1 4 = true := by decide
      rw [hw]
      go_wp2_with fail
      go_ret
      exact ⟨by rw [h]; rfl, HB.out⟩
set_option linter.unusedSimpArgs false in
set_option maxRecDepth 10000 in
set_option maxHeartbeats 1600000 in
theorem table_spec (v : Value) (a b : Int) (lo hi L : Nat) (hL : L ≤ 60) (hv : lensB a b = true) (w : World) (H : IntsAt lo hi w v [a, b]) :
    Calls Tryz.prog 105 #[.int .i64 (L : Int), v] w (IntsNew w.heap.size (tab a b (L + 1)) w) := by
  have HH := hide H
  have hlt := H.lt
  obtain ⟨⟨ha1, ha2⟩, hb1, hb2⟩ := lensB_iff.1 hv
  have HV := hide hv
  obtain ⟨b0, o0, cap, rfl, h1, h2, -, -⟩ := two_at H
  obtain ⟨j0, hj0, hy0, hj1, hj2⟩ := info_parts info_int
  clear H hv
  go_enter Tryz.func105, Tryz.ntmps105
  go_wp2_with fail
  go_loopw [5, 6, 7, 8] (fun o i _ _ wr => ∃ k : Nat, k ≤ L + 1 ∧ i = .int .i64 (k : Int) ∧ Below w.heap.size w wr ∧ wr.ownsRow w.heap.size 3 1 o k (flatI (tab a b k))) (fun _ i _ _ _ => L + 1 - (intOf i).toNat)
  case atStart =>
    exact ⟨0, Nat.zero_le _, rfl, by go_grown, by simpa [tab, flatI] using World.ownsRow_lit (e := 3) (size := 1) (base := w.heap.size) w #[] 0 (Nat.le_refl _) (by unfold maxLen; omega) (by simp)⟩
  case round =>
    obtain ⟨k, hk, rfl, hb, hown⟩ := hrel
    have hzr := hb.size
    obtain ⟨aov, capv, rfl, -, -⟩ := own_slice hown
    have hat := ownI_at hown (tab_len a b k).symm hzr
    have HB := hide hb
    have HO := hide hown
    clear hown
    by_cases hltk : k < L + 1
    · have hkI : (k : Int) ≤ (L : Int) := by omega
      have hk0 : (0 : Int) ≤ (k : Int) := by omega
      have HAT := hide hat
      have HC := hide (two_at (HH.out.below hb))
      clear hb hat
      obtain ⟨wo, hwo⟩ : ∃ wo : World, wo = wr := ⟨_, rfl⟩
      subst hwo
      go_wp2_with fail
      go_loop [7, 8] (fun x i => ∃ y : Int, x = .int .i64 y ∧ ((i = .int .i64 0 ∧ y = k) ∨ (i = .int .i64 1 ∧ y = wst1 (tab a b k) a k) ∨ (i = .int .i64 2 ∧ y = wst2 (tab a b k) a b k))) (fun _ i => 2 - (intOf i).toNat)
      case atStart => exact ⟨k, rfl, .inl ⟨rfl, rfl⟩⟩
      case round =>
        obtain ⟨y, rfl, hcase⟩ := hrel
        obtain ⟨b1, o1, cap1, e1, -, -, c0, c1⟩ := HC.out
        cases e1
        rcases hcase with ⟨rfl, rfl⟩ | ⟨rfl, rfl⟩ | ⟨rfl, rfl⟩
        · by_cases hle : a ≤ (k : Int)
          · obtain ⟨d, hd⟩ : ∃ d : Nat, (k : Int) - a = d := ⟨((k : Int) - a).toNat, by omega⟩
            have hdk : d < k := by omega
            have hdI : (d : Int) < (k : Int) := by omega
            have hd0 : (0 : Int) ≤ (d : Int) := by omega
            have hwd : IntKind.i64.wrap ((k : Int) - a) = (d : Int) := by rw [hd]; exact IntWalk.i64_in _ (by omega)
            obtain ⟨b2, o2, cap2, e2, -, -, gd, -⟩ := ints_at HAT.out (k := d) (by rw [tab_len]; exact hdk)
            rw [tab_len] at e2
            cases e2
            obtain ⟨z, hz⟩ : ∃ z, (tab a b k).getD d 0 = z := ⟨_, rfl⟩
            rw [hz] at gd
            have HX := hide (show wst1 (tab a b k) a k = min (k : Int) z by
              unfold wst1
              rw [if_pos hle, hd]
              simp [← hz])
            clear hz hd
            go_wp2_with fail
            go_round
            case rel => exact ⟨_, by rw [HX.out], .inr (.inl ⟨rfl, rfl⟩)⟩
            case measure => simp [intOf]
          · have HX := hide (show wst1 (tab a b k) a k = k by unfold wst1; rw [if_neg hle])
            go_wp2_with fail
            go_round
            case rel => exact ⟨_, rfl, .inr (.inl ⟨rfl, HX.out.symm⟩)⟩
            case measure => simp [intOf]
        · by_cases hle : b ≤ (k : Int)
          · obtain ⟨d, hd⟩ : ∃ d : Nat, (k : Int) - b = d := ⟨((k : Int) - b).toNat, by omega⟩
            have hdk : d < k := by omega
            have hdI : (d : Int) < (k : Int) := by omega
            have hd0 : (0 : Int) ≤ (d : Int) := by omega
            have hwd : IntKind.i64.wrap ((k : Int) - b) = (d : Int) := by rw [hd]; exact IntWalk.i64_in _ (by omega)
            obtain ⟨b2, o2, cap2, e2, -, -, gd, -⟩ := ints_at HAT.out (k := d) (by rw [tab_len]; exact hdk)
            rw [tab_len] at e2
            cases e2
            obtain ⟨z, hz⟩ : ∃ z, (tab a b k).getD d 0 = z := ⟨_, rfl⟩
            obtain ⟨x1, hx1⟩ : ∃ x1, wst1 (tab a b k) a k = x1 := ⟨_, rfl⟩
            rw [hz] at gd
            have HX := hide (show wst2 (tab a b k) a b k = min x1 z by
              unfold wst2
              rw [if_pos hle, hd, hx1]
              simp [← hz])
            have HX1 := hide hx1
            rw [hx1]
            clear hz hd hx1
            go_wp2_with fail
            go_round
            case rel => exact ⟨_, by rw [HX.out], .inr (.inr ⟨rfl, rfl⟩)⟩
            case measure => simp [intOf]
          · have HX := hide (show wst2 (tab a b k) a b k = wst1 (tab a b k) a k by unfold wst2; rw [if_neg hle])
            go_wp2_with fail
            go_round
            case rel => exact ⟨_, rfl, .inr (.inr ⟨rfl, HX.out.symm⟩)⟩
            case measure => simp [intOf]
        · obtain ⟨z, hz⟩ : ∃ z, wst2 (tab a b k) a b k = z := ⟨_, rfl⟩
          have HT := hide (show tab a b (k + 1) = tab a b k ++ [z] by rw [← hz]; rfl)
          rw [hz]
          clear hz
          go_wp2_with (at_builtin; refine wpList_append_view rfl _ _ 26 rfl w.heap.size 3 j0 (.int .i64 0) 1 8 Tryz.underlying26 hj0 hy0 hj1 hj2 rfl (by decide) _ _ _ rfl (HO.out.alloc _) (.slice (some ⟨wo.heap.size, 0, none⟩) 1 1) 1 [.int .i64 z] rfl ?c0 ?c1 ?c2 ?c3 ?_)
          case c0 => simpa using Source.lit wo [.int .i64 z] 1 3 1 rfl (fun u hu => by simp at hu; subst hu; rfl) 1
          case c1 => unfold maxLen; omega
          case c2 => omega
          case c3 => first | omega | (simp; omega)
          intro v2 w2 hown2 hgrow2 _
          have hb2 : Below w.heap.size w w2 := (HB.out.alloc hzr _).trans (Below.grow hgrow2 (HO.out.alloc _) (Nat.le_refl _) (by simp; omega))
          have HB2 := hide hb2
          have HO2 := hide (show w2.ownsRow w.heap.size 3 1 v2 (k + 1) (flatI (tab a b (k + 1))) by rw [HT.out]; simpa [flatI] using hown2)
          clear hown2 hgrow2 hb2
          go_wp2_with fail
          go_roundw
          case rel => exact ⟨k + 1, by omega, by go_num, HB2.out, HO2.out⟩
          case measure => simp [intOf]; omega
    · obtain rfl : k = L + 1 := by omega
      clear hb
      have hkk : ¬ ((L + 1 : Nat) : Int) ≤ (L : Int) := by omega
      go_wp2_with fail
      go_ret
      exact ⟨_, rfl, by rw [tab_len]; exact HO.out, HB.out⟩
set_option linter.unusedSimpArgs false in
set_option maxRecDepth 10000 in
set_option maxHeartbeats 1600000 in
theorem cutLeast_spec (v : Value) (a b : Int) (lo hi L : Nat) (hL : L ≤ 60) (w : World) (H : IntsAt lo hi w v [a, b]) :
    Calls Tryz.prog 104 #[.int .i64 (L : Int), v] w fun e w' => ∃ x : Int, e = .returned (.int .i64 x) ∧ (lensB a b = false → x = -1) ∧ (lensB a b = true → 0 ≤ x) ∧ Below w.heap.size w w' := by
  have HH := hide H
  have hl := fun (W : World) (k : Below w.heap.size w W) => lens_spec v a b lo hi W (H.below k)
  obtain ⟨b0, o0, cap, rfl, -, -, -, -⟩ := two_at H
  have hq := fun W => l1In_any (L : Int) 0 60 W
  rw [show wi (L : Int) 0 60 = true from wi_iff.2 (by omega)] at hq
  cases hv : lensB a b with
  | false =>
    rw [hv] at hl
    have HL := hide hl
    clear hl hv H hq
    go_enter Tryz.func104, Tryz.ntmps104
    go_wp2_with fail
    refine (HL.out w (Below.refl _ _)).mono ?_
    rintro e w1 ⟨rfl, hb⟩
    have HB := hide hb
    clear hb
    go_wp2_with fail
    go_ret
    exact ⟨-1, rfl, fun _ => rfl, (fun h => by cases h), HB.out⟩
  | true =>
    have HTS := hide (fun (W : World) (k : Below w.heap.size w W) => table_spec (.slice (some ⟨b0, o0, none⟩) 2 cap) a b lo hi L hL hv W (H.below k))
    have HTB := hide (tab_bd (a := a) (b := b) (L + 1) L (Nat.lt_succ_self L))
    rw [hv] at hl
    have HL := hide hl
    have HQ := hide hq
    clear hl hv H hq
    go_enter Tryz.func104, Tryz.ntmps104
    go_wp2_with fail
    refine (HL.out w (Below.refl _ _)).mono ?_
    rintro e w1 ⟨rfl, hb⟩
    have HB := hide hb
    clear hb
    go_wp2_with fail
    refine (HQ.out w1).mono ?_
    rintro e w2 ⟨rfl, rfl⟩
    go_wp2_with fail
    refine (HTS.out w1 HB.out).mono ?_
    rintro e w3 ⟨v3, rfl, hown, hb⟩
    have HB3 := hide (Below.step HB.out hb (Nat.le_refl _))
    have hat := ownI_at hown rfl hb.size
    obtain ⟨b3, o3, cap3, rfl, -, -, g3, -⟩ := ints_at hat (k := L) (by rw [tab_len]; omega)
    obtain ⟨x, hx⟩ : ∃ x, (tab a b (L + 1)).getD L 0 = x := ⟨_, rfl⟩
    rw [hx] at g3
    have HX := hide hx
    obtain ⟨n, hn⟩ : ∃ n, (tab a b (L + 1)).length = n := ⟨_, rfl⟩
    rw [hn]
    have hn2 := hn
    rw [tab_len] at hn2
    have hLn : (L : Int) < (n : Int) := by omega
    have hL0 : (0 : Int) ≤ (L : Int) := by omega
    clear hb hown hat hx hn hn2
    go_wp2_with fail
    go_ret
    exact ⟨x, rfl, (fun h => by cases h), fun _ => by have := HTB.out.1; rw [HX.out] at this; exact this, HB3.out⟩
end Go.Proofs.YtajjnciookhamaaGreat
