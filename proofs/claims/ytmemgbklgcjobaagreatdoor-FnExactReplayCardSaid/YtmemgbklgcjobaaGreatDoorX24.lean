/-
  Parts of the proofs over mills, of: CutT, CutB. Conditions: each theorem states its own.
-/
import Derived.Test.YtmemgbklgcjobaaGreatDoorX17
import Derived.Test.YtmemgbklgcjobaaGreatDoorX19
set_option linter.unusedSimpArgs false
set_option linter.unusedVariables false
set_option maxRecDepth 10000
namespace Go.Proofs.YtmemgbklgcjobaaGreatDoor
open Go.RowKit
set_option maxHeartbeats 1600000 in
theorem wastes_impl (v : Value) (a b : Int) (lo hi L : Nat) (hL : L ≤ 60) (hv : lensB a b = true) (w : World) (H : IntsAt lo hi w v [a, b]) :
    Calls Tryz.prog 199 #[.int .i64 (L : Int), v] w (IntsNew w.heap.size (tab a b (L + 1)) w) := by
  have HH := hide H
  have hlt := H.lt
  obtain ⟨⟨ha1, ha2⟩, hb1, hb2⟩ := lensB_iff.1 hv
  obtain ⟨T, hT⟩ : ∃ T, tab a b (L + 1) = T := ⟨_, rfl⟩
  have HE := hide (show ∀ k : Nat, k ≤ L → T.getD k 0 = wst2 T a b k from fun k hk => hT ▸ tab_eq hv hk)
  have hTl : T.length = L + 1 := by rw [← hT, tab_len]
  have HTb := hide (show ∀ k : Nat, k ≤ L → 0 ≤ T.getD k 0 ∧ T.getD k 0 ≤ k from fun k hk => hT ▸ tab_bd (L + 1) k (by omega))
  rw [hT]
  obtain ⟨N, hN1, hN2⟩ : ∃ N : Nat, N ≤ L + 1 ∧ L + 1 ≤ N := ⟨_, Nat.le_refl _, Nat.le_refl _⟩
  have hTn : T.length = N := by omega
  clear hTl
  obtain ⟨b0, o0, cap, rfl, h1, h2, -, -⟩ := two_at H
  have hmk : ∀ W : World, (Instr.makeSlice 27 (.int .i64 ((L : Int) + 1)) (.int .i64 ((L : Int) + 1))).run Tryz.prog W = .ok (.slice (some ⟨W.heap.size, 0, none⟩) N N) (W.alloc (.cells (madeCells (Value.int .i64 0).cells (N * 1)) 3)) := fun W => by
    rw [show (L : Int) + 1 = (N : Int) by omega]
    exact make_rowN (P := Tryz.prog) 27 3 _ _ _ Tryz.underlying27 info_int .i64 .i64 N (by omega) (by omega) W
  clear H hv hT
  go_enter Tryz.func199, Tryz.ntmps199
  go_wp2_with fail
  clear hmk
  go_loopw [6, 8, 14] (fun _ _ i wr => ∃ k : Nat, k ≤ N ∧ i = .int .i64 (k : Int) ∧ Below w.heap.size w wr ∧ ∃ f, wr.rowIs w.heap.size 3 N f ∧ ∀ j, j < k → f j = .int .i64 (T.getD j 0)) (fun _ _ i _ => N - (intOf i).toNat)
  case atStart =>
    obtain ⟨f, hf⟩ := rowIs_madeN w #[.int .i64 0] N 3
    exact ⟨0, Nat.zero_le _, rfl, by go_grown, f, by simpa using hf, fun _ h => absurd h (Nat.not_lt_zero _)⟩
  case round =>
    obtain ⟨k, hk, rfl, hb, f, hrow, hall⟩ := hrel
    have HB := hide hb
    have HR := hide hrow
    have HA := hide hall
    have hz := hrow.lt
    clear hall
    by_cases hltk : k < N
    · have hkI : (k : Int) < (N : Int) := by omega
      have hk0 : (0 : Int) ≤ (k : Int) := by omega
      have hgk := hrow.cell (i := k) hltk
      have hgf := hrow.frozen k
      clear hb hrow
      go_wp2_with fail
      have hR2 := HR.out.set k (.int .i64 (k : Int))
      have hB2 : Below w.heap.size w (wr.setCell ⟨w.heap.size, k, none⟩ (.int .i64 (k : Int))) := HB.out.setCell (Nat.le_refl _) _
      obtain ⟨wo, hwo⟩ : ∃ wo : World, wo = wr.setCell ⟨w.heap.size, k, none⟩ (.int .i64 (k : Int)) := ⟨_, rfl⟩
      rw [← hwo] at hR2 hB2 ⊢
      clear hwo hgk hgf
      have HR2 := hide hR2
      have HB2 := hide hB2
      clear hR2 hB2
      go_loopw [8, 23] (fun _ i wr => ∃ (x : Int) (f' : Nat → Value), wr.rowIs w.heap.size 3 N f' ∧ Below w.heap.size w wr ∧ f' k = .int .i64 x ∧ (∀ j, j < k → f' j = .int .i64 (T.getD j 0)) ∧ ((i = .int .i64 0 ∧ x = k) ∨ (i = .int .i64 1 ∧ x = wst1 T a k) ∨ (i = .int .i64 2 ∧ x = wst2 T a b k))) (fun _ i _ => 2 - (intOf i).toNat)
      case atStart =>
        exact ⟨k, _, HR2.out, HB2.out, by simp, fun j hj => by rw [if_neg (by omega)]; exact HA.out j hj, .inl ⟨rfl, rfl⟩⟩
      case round =>
        obtain ⟨x, f', hrow, hb, hfk, hfj, hcase⟩ := hrel
        have hzz := hrow.lt
        have cc := (two_at (HH.out.below hb))
        obtain ⟨b1, o1, cap1, e1, -, -, c0, c1⟩ := cc
        cases e1
        have hgk : wr.cell? ⟨w.heap.size, k, none⟩ = some (.int .i64 x) := by rw [hrow.cell (i := k) hltk, hfk]
        have hgf := hrow.frozen k
        have HRr := hide hrow
        have HBr := hide hb
        have HFk := hide hfk
        have HFj := hide hfj
        rcases hcase with ⟨rfl, rfl⟩ | ⟨rfl, rfl⟩ | ⟨rfl, rfl⟩
        · by_cases hle : a ≤ (k : Int)
          · obtain ⟨d, hd⟩ : ∃ d : Nat, (k : Int) - a = d := ⟨((k : Int) - a).toNat, by omega⟩
            have hdk : d < k := by omega
            have hdI : (d : Int) < (N : Int) := by omega
            have hd0 : (0 : Int) ≤ (d : Int) := by omega
            have hwd : IntKind.i64.wrap ((k : Int) - a) = (d : Int) := by rw [hd]; exact IntWalk.i64_in _ (by omega)
            have hgd : wr.cell? ⟨w.heap.size, d, none⟩ = some (.int .i64 (T.getD d 0)) := by rw [hrow.cell (i := d) (by omega), hfj d hdk]
            obtain ⟨y, hy⟩ : ∃ y, T.getD d 0 = y := ⟨_, rfl⟩
            rw [hy] at hgd
            have HX := hide (show wst1 T a k = min (k : Int) y by
              unfold wst1
              rw [if_pos hle, hd]
              simp [← hy])
            clear hrow hb hfk hfj hy hd
            go_wp2_with fail
            go_still_tail 14, (by kernel_rfl)
            change wpList _ _ _ _ _ wr.drew
            go_wp2_with fail
            go_roundw
            case rel => exact ⟨wst1 T a k, _, (HRr.out.drew).set k _, (HBr.out.drew).setCell (Nat.le_refl _) _, by rw [HX.out]; simp, fun j hj => by rw [if_neg (by omega)]; exact HFj.out j hj, .inr (.inl ⟨rfl, rfl⟩)⟩
            case measure => simp [intOf]
          · have HX := hide (show wst1 T a k = k by unfold wst1; rw [if_neg hle])
            clear hrow hb hfk hfj
            go_wp2_with fail
            go_roundw
            case rel => exact ⟨_, f', HRr.out, HBr.out, HFk.out, HFj.out, .inr (.inl ⟨rfl, HX.out.symm⟩)⟩
            case measure => simp [intOf]
        · by_cases hle : b ≤ (k : Int)
          · obtain ⟨d, hd⟩ : ∃ d : Nat, (k : Int) - b = d := ⟨((k : Int) - b).toNat, by omega⟩
            have hdk : d < k := by omega
            have hdI : (d : Int) < (N : Int) := by omega
            have hd0 : (0 : Int) ≤ (d : Int) := by omega
            have hwd : IntKind.i64.wrap ((k : Int) - b) = (d : Int) := by rw [hd]; exact IntWalk.i64_in _ (by omega)
            have hgd : wr.cell? ⟨w.heap.size, d, none⟩ = some (.int .i64 (T.getD d 0)) := by rw [hrow.cell (i := d) (by omega), hfj d hdk]
            obtain ⟨y, hy⟩ : ∃ y, T.getD d 0 = y := ⟨_, rfl⟩
            rw [hy] at hgd
            obtain ⟨x1, hx1⟩ : ∃ x1, wst1 T a k = x1 := ⟨_, rfl⟩
            have HX := hide (show wst2 T a b k = min x1 y by
              unfold wst2
              rw [if_pos hle, hd, hx1]
              simp [← hy])
            rw [hx1] at hgk
            clear hx1
            clear hrow hb hfk hfj hy hd
            go_wp2_with fail
            go_still_tail 14, (by kernel_rfl)
            change wpList _ _ _ _ _ wr.drew
            go_wp2_with fail
            go_roundw
            case rel => exact ⟨wst2 T a b k, _, (HRr.out.drew).set k _, (HBr.out.drew).setCell (Nat.le_refl _) _, by rw [HX.out]; simp, fun j hj => by rw [if_neg (by omega)]; exact HFj.out j hj, .inr (.inr ⟨rfl, rfl⟩)⟩
            case measure => simp [intOf]
          · have HX := hide (show wst2 T a b k = wst1 T a k by unfold wst2; rw [if_neg hle])
            clear hrow hb hfk hfj
            go_wp2_with fail
            go_roundw
            case rel => exact ⟨_, f', HRr.out, HBr.out, HFk.out, HFj.out, .inr (.inr ⟨rfl, HX.out.symm⟩)⟩
            case measure => simp [intOf]
        · clear hrow hb hfk hfj
          go_wp2_with fail
          go_roundw
          case rel =>
            refine ⟨k + 1, by omega, by go_num, HBr.out, f', HRr.out, fun j hj => ?_⟩
            by_cases e : j = k
            · subst e
              rw [HFk.out, HE.out j (by omega)]
            · exact HFj.out j (by omega)
          case measure => simp [intOf]; omega
    · obtain rfl : k = N := by omega
      have hkk : ¬ (k : Int) < (k : Int) := by omega
      clear hb hrow
      go_wp2_with fail
      go_ret
      refine ⟨_, rfl, ?_, HB.out⟩
      have := own_of_row (n := k) (sz := 1) (cs := flatI T) (f := f) (by simpa using HR.out) (Nat.le_refl _) (by omega) (by rw [flatI_len, hTn, Nat.mul_one]) (fun i hi => by
        have hi2 : i < T.length := by omega
        rw [HA.out i (by omega)]
        simp [flatI, hi2])
      rw [hTn]
      exact this
def manyL (L : Nat) (a b : Int) : List Int := [(many0 L a b : Int), (many1 L a b : Int)]
theorem many_60 {L : Nat} {a b : Int} (h : lensB a b = true) (hL : L ≤ 60) : many0 L a b ≤ 60 ∧ many1 L a b ≤ 60 := by
  obtain ⟨h1, h2⟩ := many_bd h (show (0 : Int) ≤ L by omega)
  omega
def Row2 (w : World) (G : Nat) (c0 c1 : Nat) : Prop := ∃ f, w.rowIs G 3 2 f ∧ f 0 = .int .i64 (c0 : Int) ∧ f 1 = .int .i64 (c1 : Int)
theorem Row2.cell {w : World} {G c0 c1 : Nat} (h : Row2 w G c0 c1) : w.cell? ⟨G, 0, none⟩ = some (.int .i64 (c0 : Int)) ∧ w.cell? ⟨G, 1, none⟩ = some (.int .i64 (c1 : Int)) ∧ w.frozen? ⟨G, 0, none⟩ = false ∧ w.frozen? ⟨G, 1, none⟩ = false ∧ G < w.heap.size := by
  obtain ⟨f, h, e0, e1⟩ := h
  refine ⟨?_, ?_, h.frozen 0, h.frozen 1, h.lt⟩
  · rw [h.cell (i := 0) (by omega), e0]
  · rw [h.cell (i := 1) (by omega), e1]
theorem Row2.set0 {w : World} {G c0 c1 : Nat} (h : Row2 w G c0 c1) (y : Nat) : Row2 (w.setCell ⟨G, 0, none⟩ (.int .i64 (y : Int))) G y c1 := by
  obtain ⟨f, h, e0, e1⟩ := h
  exact ⟨_, h.set 0 _, by simp, by simpa using e1⟩
theorem Row2.set1 {w : World} {G c0 c1 : Nat} (h : Row2 w G c0 c1) (y : Nat) : Row2 (w.setCell ⟨G, 1, none⟩ (.int .i64 (y : Int))) G c0 y := by
  obtain ⟨f, h, e0, e1⟩ := h
  exact ⟨_, h.set 1 _, by simpa using e0, by simp⟩
theorem Row2.own {w : World} {base G c0 c1 : Nat} (h : Row2 w G c0 c1) (hb : base ≤ G) : w.ownsRow base 3 1 (.slice (some ⟨G, 0, none⟩) 2 2) 2 (flatI [(c0 : Int), (c1 : Int)]) := by
  obtain ⟨f, h, e0, e1⟩ := h
  refine own_of_row (n := 2) (sz := 1) h hb (by omega) rfl fun i hi => ?_
  have : i = 0 ∨ i = 1 := by omega
  rcases this with rfl | rfl
  · rw [e0]; rfl
  · rw [e1]; rfl
theorem Row2.drewN {w : World} {G c0 c1 : Nat} (h : Row2 w G c0 c1) (n : Nat) : Row2 (w.drewN n) G c0 c1 := h
set_option maxHeartbeats 1600000 in
theorem cutBest_impl (v : Value) (a b : Int) (lo hi L : Nat) (hL : L ≤ 60) (hv : lensB a b = true) (w : World) (H : IntsAt lo hi w v [a, b]) :
    Calls Tryz.prog 162 #[.int .i64 (L : Int), v] w (IntsNew w.heap.size (manyL L a b) w) := by
  have HH := hide H
  have HV := hide hv
  have hlt := H.lt
  obtain ⟨⟨ha1, ha2⟩, hb1, hb2⟩ := lensB_iff.1 hv
  obtain ⟨hn0, hn1⟩ := many_60 hv hL
  obtain ⟨b0, o0, cap, rfl, h1, h2, -, -⟩ := two_at H
  have hmk : ∀ W : World, (Instr.makeSlice 27 (.int .i64 2) (.int .i64 2)).run Tryz.prog W = .ok (.slice (some ⟨W.heap.size, 0, none⟩) 2 2) (W.alloc (.cells (madeCells #[.int .i64 0] 2) 3)) := fun W =>
    make_rowN (P := Tryz.prog) 27 3 _ _ _ Tryz.underlying27 info_int .i64 .i64 2 (by omega) (by omega) W
  have hs1 : CutSt (tab a b (L + 1)) L b (many1 L a b) 0 L := CutSt.start
  have hnx : ∀ l : Int, CutSt (tab a b (L + 1)) L b (many1 L a b) (many1 L a b) l → l = L - many1 L a b * b → CutSt (tab a b (L + 1)) L a (many0 L a b) 0 l := fun l => CutSt.next
  have HW := hide (fun W => within_any (L : Int) 0 60 W)
  have hw : wi (L : Int) 0 60 = true := wi_iff.2 (by omega)
  rw [hw] at HW
  have HT := hide (fun (W : World) (k : Below w.heap.size w W) => wastes_impl (.slice (some ⟨b0, o0, none⟩) 2 cap) a b lo hi L hL hv W (H.below k))
  have HLN := hide (fun (W : World) (k : Below w.heap.size w W) => lens_impl (.slice (some ⟨b0, o0, none⟩) 2 cap) a b lo hi W (H.below k))
  clear H hv hw
  go_enter Tryz.func162, Tryz.ntmps162
  go_wp2_with fail
  refine (HW.out _).mono ?_
  rintro e w1 ⟨rfl, rfl⟩
  go_wp2_with fail
  refine (HLN.out w (Below.refl _ _)).mono ?_
  rintro e w1 ⟨rfl, rfl⟩
  rw [HV.out]
  go_wp2_with fail
  refine (HT.out w (Below.refl _ _)).mono ?_

  rintro e w2 ⟨v1, rfl, hown, hb2⟩
  have hz2 := hb2.size
  have HB2 := hide hb2
  have h12 := ownI_at hown rfl (by omega)
  obtain ⟨T, hT⟩ : ∃ T, tab a b (L + 1) = T := ⟨_, rfl⟩
  have HTL := hide (show T.length = L + 1 by rw [← hT, tab_len])
  rw [hT] at h12 hs1 hnx
  have HS1 := hide hs1
  have HNX := hide hnx
  have HI := hide h12
  obtain ⟨ao1, cap1, rfl, -⟩ := h12
  clear hown hb2 hT hs1 hnx
  go_wp2_with fail
  clear hmk
  obtain ⟨G, hG⟩ : ∃ G, w2.heap.size = G := ⟨_, rfl⟩
  obtain ⟨wa, hwa⟩ : ∃ wa, wa = w2.alloc (.cells (madeCells #[.int .i64 0] 2) 3) := ⟨_, rfl⟩
  have HR := hide (show Row2 wa G 0 0 by
    rw [← hG, hwa]
    exact ⟨_, World.rowIs_made w2 (.int .i64 0) 2 3, rfl, rfl⟩)
  have HB := hide (show Below w2.heap.size w2 wa by rw [hwa]; exact (Below.refl _ _).alloc (Nat.le_refl _) _)
  rw [← hwa, hG]
  have HGZ := hide hG
  have hbG : b0 ≠ G := by omega
  have hGb : G ≠ b0 := by omega
  clear hwa hG
  go_loopw [7, 8] (fun left i wr => Below w2.heap.size w2 wr ∧ ((i = .int .i64 1 ∧ left = .int .i64 (L : Int) ∧ Row2 wr G 0 0) ∨ (∃ l : Int, i = .int .i64 0 ∧ left = .int .i64 l ∧ CutSt T L a (many0 L a b) 0 l ∧ Row2 wr G 0 (many1 L a b)) ∨ (i = .int .i64 (-1) ∧ Row2 wr G (many0 L a b) (many1 L a b)))) (fun _ i _ => (intOf i + 1).toNat)
  case atStart => exact ⟨HB.out, .inl ⟨rfl, rfl, HR.out⟩⟩
  case round =>
    obtain ⟨hb, hcase⟩ := hrel
    clear HB HR
    have HB := hide hb
    obtain ⟨wo, rfl⟩ : ∃ wo : World, wo = wr := ⟨_, rfl⟩
    rcases hcase with ⟨rfl, rfl, hr⟩ | ⟨l, rfl, rfl, hst, hr⟩ | ⟨rfl, hr⟩
    · have HR := hide hr
      clear hr hb
      go_wp2_with fail
      go_loopw [7] (fun left wr => ∃ (c : Nat) (l : Int), left = .int .i64 l ∧ Below w2.heap.size w2 wr ∧ CutSt T L b (many1 L a b) c l ∧ Row2 wr G 0 c ∧ l = L - c * b) (fun left _ => (intOf left).toNat)
      case atStart => exact ⟨0, _, rfl, HB.out, HS1.out, HR.out, by simp⟩
      case round =>
        obtain ⟨c, l, rfl, hb, hst, hrow, hlx⟩ := hrel
        have HB := hide hb
        have HC := hide hst
        have HR := hide hrow
        have HLX := hide hlx
        obtain ⟨b1, o1, cap1, e1, -, -, c0, c1⟩ := two_at (HH.out.below (HB2.out.trans (hb.mono hz2)))
        cases e1
        obtain ⟨g0, g1, f0, f1, hGz⟩ := hrow.cell
        have hl0 := hst.pos
        have hl1 := hst.le
        have HAT := hide (HI.out.below hb)
        clear hb hst hrow hlx
        by_cases hle : b ≤ l
        · obtain ⟨d, hd⟩ : ∃ d : Nat, l - b = d := ⟨(l - b).toNat, by omega⟩
          have hwd : IntKind.i64.wrap (l - b) = (d : Int) := by rw [hd]; exact IntWalk.i64_in _ (by omega)
          have hTl := HTL.out
          have hdT : (d : Int) < (T.length : Int) := by omega
          have hd0 : (0 : Int) ≤ (d : Int) := by omega
          have hLT : (L : Int) < (T.length : Int) := by omega
          have hL0 : (0 : Int) ≤ (L : Int) := by omega
          obtain ⟨b3, o3, cap3, e3, -, -, gL, -⟩ := ints_at HAT.out (k := L) (by omega)
          cases e3
          obtain ⟨b4, o4, cap4, e4, -, -, gd, -⟩ := ints_at HAT.out (k := d) (by omega)
          cases e4
          obtain ⟨y, hy⟩ : ∃ y, T.getD d 0 = y := ⟨_, rfl⟩
          obtain ⟨z, hz⟩ : ∃ z, T.getD L 0 = z := ⟨_, rfl⟩
          rw [hy] at gd
          rw [hz] at gL
          have HM := hide (show moreB T b l = (y == z) by
            unfold moreB
            rw [HC.out.same, hd, hz, show ((d : Int)).toNat = d by omega, hy]
            simp [hle])
          have HD := hide hd
          clear hy hz hd hTl
          by_cases hyz : y = z
          · subst hyz
            have HM2 := HC.out.more (by omega) (HM.out.trans (by simp))
            rw [HD.out] at HM2
            obtain ⟨hst2, -, hcn⟩ := HM2
            have hw1 : IntKind.i64.wrap ((c : Int) + 1) = ((c + 1 : Nat) : Int) := by rw [show (c : Int) + 1 = ((c + 1 : Nat) : Int) by omega]; exact IntWalk.i64_in _ (by omega)
            have HST := hide hst2
            clear hst2 HM HC
            go_wp2_with fail
            go_quiet (fail)
            go_wp2_with fail
            go_roundw
            case rel => exact ⟨c + 1, d, rfl, (below_drewN HB.out _).setCell (by have := HGZ.out; show w2.heap.size ≤ G; omega) _, HST.out, by simpa using Row2.drewN HR.out _ |>.set1 (c + 1), by have h1 := HLX.out; have h2 := HD.out; rw [Int.natCast_add, Int.add_mul]; omega⟩
            case measure => have hD := HD.out; simp [intOf]; omega
          · obtain rfl := HC.out.done (HM.out.trans (by simpa using hyz))
            have hyzb : (y == z) = false := by simpa using hyz
            clear HM
            go_wp2_with fail
            go_quiet (fail)
            go_wp2_with fail
            go_roundw
            case rel => exact ⟨below_drewN HB.out _, .inr (.inl ⟨l, rfl, rfl, HNX.out l HC.out HLX.out, Row2.drewN HR.out _⟩)⟩
            case measure => simp [intOf]
        · obtain rfl := HC.out.done (show moreB T b l = false by unfold moreB; simp [hle])
          have hleb : decide (b ≤ l) = false := by simpa using hle
          go_wp2_with fail
          go_quiet (fail)
          go_wp2_with fail
          go_roundw
          case rel => exact ⟨below_drewN HB.out _, .inr (.inl ⟨l, rfl, rfl, HNX.out l HC.out HLX.out, Row2.drewN HR.out _⟩)⟩
          case measure => simp [intOf]
    · have HR := hide hr
      have HS0 := hide hst
      clear hr hst hb
      go_wp2_with fail
      go_loopw [7] (fun left wr => ∃ (c : Nat) (l : Int), left = .int .i64 l ∧ Below w2.heap.size w2 wr ∧ CutSt T L a (many0 L a b) c l ∧ Row2 wr G c (many1 L a b) ∧ True) (fun left _ => (intOf left).toNat)
      case atStart => exact ⟨0, _, rfl, HB.out, HS0.out, HR.out, trivial⟩
      case round =>
        obtain ⟨c, l, rfl, hb, hst, hrow, hlx⟩ := hrel
        have HB := hide hb
        have HC := hide hst
        have HR := hide hrow
        have HLX := hide hlx
        obtain ⟨b1, o1, cap1, e1, -, -, c0, c1⟩ := two_at (HH.out.below (HB2.out.trans (hb.mono hz2)))
        cases e1
        obtain ⟨g0, g1, f0, f1, hGz⟩ := hrow.cell
        have hl0 := hst.pos
        have hl1 := hst.le
        have HAT := hide (HI.out.below hb)
        clear hb hst hrow hlx
        by_cases hle : a ≤ l
        · obtain ⟨d, hd⟩ : ∃ d : Nat, l - a = d := ⟨(l - a).toNat, by omega⟩
          have hwd : IntKind.i64.wrap (l - a) = (d : Int) := by rw [hd]; exact IntWalk.i64_in _ (by omega)
          have hTl := HTL.out
          have hdT : (d : Int) < (T.length : Int) := by omega
          have hd0 : (0 : Int) ≤ (d : Int) := by omega
          have hLT : (L : Int) < (T.length : Int) := by omega
          have hL0 : (0 : Int) ≤ (L : Int) := by omega
          obtain ⟨b3, o3, cap3, e3, -, -, gL, -⟩ := ints_at HAT.out (k := L) (by omega)
          cases e3
          obtain ⟨b4, o4, cap4, e4, -, -, gd, -⟩ := ints_at HAT.out (k := d) (by omega)
          cases e4
          obtain ⟨y, hy⟩ : ∃ y, T.getD d 0 = y := ⟨_, rfl⟩
          obtain ⟨z, hz⟩ : ∃ z, T.getD L 0 = z := ⟨_, rfl⟩
          rw [hy] at gd
          rw [hz] at gL
          have HM := hide (show moreB T a l = (y == z) by
            unfold moreB
            rw [HC.out.same, hd, hz, show ((d : Int)).toNat = d by omega, hy]
            simp [hle])
          have HD := hide hd
          clear hy hz hd hTl
          by_cases hyz : y = z
          · subst hyz
            have HM2 := HC.out.more (by omega) (HM.out.trans (by simp))
            rw [HD.out] at HM2
            obtain ⟨hst2, -, hcn⟩ := HM2
            have hw1 : IntKind.i64.wrap ((c : Int) + 1) = ((c + 1 : Nat) : Int) := by rw [show (c : Int) + 1 = ((c + 1 : Nat) : Int) by omega]; exact IntWalk.i64_in _ (by omega)
            have HST := hide hst2
            clear hst2 HM HC
            go_wp2_with fail
            go_quiet (fail)
            go_wp2_with fail
            go_roundw
            case rel => exact ⟨c + 1, d, rfl, (below_drewN HB.out _).setCell (by have := HGZ.out; show w2.heap.size ≤ G; omega) _, HST.out, by simpa using Row2.drewN HR.out _ |>.set0 (c + 1), trivial⟩
            case measure => have hD := HD.out; simp [intOf]; omega
          · obtain rfl := HC.out.done (HM.out.trans (by simpa using hyz))
            have hyzb : (y == z) = false := by simpa using hyz
            clear HM
            go_wp2_with fail
            go_quiet (fail)
            go_wp2_with fail
            go_roundw
            case rel => exact ⟨below_drewN HB.out _, .inr (.inr ⟨rfl, Row2.drewN HR.out _⟩)⟩
            case measure => simp [intOf]
        · obtain rfl := HC.out.done (show moreB T a l = false by unfold moreB; simp [hle])
          have hleb : decide (a ≤ l) = false := by simpa using hle
          go_wp2_with fail
          go_quiet (fail)
          go_wp2_with fail
          go_roundw
          case rel => exact ⟨below_drewN HB.out _, .inr (.inr ⟨rfl, Row2.drewN HR.out _⟩)⟩
          case measure => simp [intOf]
    · have HR := hide hr
      clear hr hb
      go_wp2_with fail
      go_ret
      exact ⟨_, rfl, (HR.out.own (base := w.heap.size) (by have := HGZ.out; omega)), HB2.out.trans (HB.out.mono hz2)⟩
end Go.Proofs.YtmemgbklgcjobaaGreatDoor
