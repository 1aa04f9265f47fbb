/-
  Parts of the proofs over mills, of: MethE, CutC. Conditions: each theorem states its own.
-/
import Derived.Test.YtmemgbklgcjobaaGreatDoorB19
import Derived.Test.YtmemgbklgcjobaaGreatDoorB23
set_option linter.unusedSimpArgs false
set_option linter.unusedVariables false
set_option maxRecDepth 10000
namespace Go.Proofs.YtmemgbklgcjobaaGreatDoor
open Go.RowKit
theorem MillGot.far {base a z : Nat} {w w' : World} {s p l h : Value} {m : Mi} (H : MillGot base w s p l h m) (k : Other a z w w') (hs : ∀ g, s.ownBlock = some g → g < a ∨ z ≤ g) (hp : ∀ g, p.ownBlock = some g → g < a ∨ z ≤ g) (hl : ∀ g, l.ownBlock = some g → g < a ∨ z ≤ g) (hh : ∀ g, h.ownBlock = some g → g < a ∨ z ≤ g) : MillGot base w' s p l h m :=
  ⟨Nat.le_trans H.hb k.size, H.so.other k hs, H.po.other k hp, H.lo.other k hl, H.ho.other k hh, H.sp, H.sl, H.sh, H.pl, H.ph, H.lh⟩
theorem spec_got {base : Nat} {w w' : World} {p : Value} {x : Mi × Bool} {e : Ending} (hb : base ≤ w.heap.size) (k : Below w.heap.size w w') {s' p' l' h' : Value} (he : e = .returned (.tuple #[millV s' p' l' h' x.1, .bool x.2])) (G : MillGot base w' s' p' l' h' x.1) : SpecGot base p x w e w' :=
  ⟨⟨_, _, _, _, he, G, k.mono hb⟩, fun _ _ _ r _ => r.below k r.lt⟩
theorem other_two {g : Nat} {w w1 w2 : World} (h : Other g (g + 1) w w1) (k : Other (g + 1) (g + 1 + 1) w1 w2) : Other g (g + 1 + 1) w w2 :=
  ⟨k.os.trans h.os, k.tape.trans h.tape, k.output.trans h.output, Nat.le_trans h.size k.size, fun q hq hd => (k.block q (Nat.lt_of_lt_of_le hq h.size) (by omega)).trans (h.block q hq (by omega))⟩
theorem fail_got {base g : Nat} {w w1 : World} {s p l h : Value} {m : Mi} (H : MillGot base w s p l h m) (hb : Below w.heap.size w w1) (hg : w.heap.size ≤ g) (v0 v1 v2 v3 v4 v5 v6 v7 v8 v9 v10 v11 : Value) :
    SpecGot base p (m, false) w (.returned (.tuple #[millV s p l h m, .bool false])) (((((((((((((w1).setCell ⟨g, 0, none⟩ v0).setCell ⟨g, 1, none⟩ v1).setCell ⟨g, 2, none⟩ v2).setCell ⟨g, 3, none⟩ v3).setCell ⟨g, 4, none⟩ v4).setCell ⟨g, 5, none⟩ v5).setCell ⟨g, 6, none⟩ v6).setCell ⟨g, 7, none⟩ v7).setCell ⟨g, 8, none⟩ v8).setCell ⟨g, 9, none⟩ v9).setCell ⟨g, 10, none⟩ v10).setCell ⟨g, 11, none⟩ v11) := by
  have K := hb.trans ((other12 g w1 v0 v1 v2 v3 v4 v5 v6 v7 v8 v9 v10 v11).below (B := w.heap.size) hg hb.size)
  exact spec_got H.hb K rfl (H.below K)
theorem done_got {base : Nat} {w wk wz : World} {s' p p' l' h' : Value} {x : Mi} (hb : base ≤ w.heap.size) (K : Below w.heap.size w wk) (G : MillGot base wk s' p' l' h' x) (T : Other w.heap.size (w.heap.size + 1) wk wz)
    (hs : ∀ g, s'.ownBlock = some g → g < w.heap.size ∨ w.heap.size + 1 + 1 ≤ g) (hp : ∀ g, p'.ownBlock = some g → g < w.heap.size ∨ w.heap.size + 1 + 1 ≤ g) (hl : ∀ g, l'.ownBlock = some g → g < w.heap.size ∨ w.heap.size + 1 + 1 ≤ g) (hh : ∀ g, h'.ownBlock = some g → g < w.heap.size ∨ w.heap.size + 1 + 1 ≤ g) (v0 v1 v2 v3 v4 v5 v6 v7 v8 v9 v10 v11 : Value) :
    SpecGot base p (x, true) w (.returned (.tuple #[millV s' p' l' h' x, .bool true])) (((((((((((((wz).setCell ⟨w.heap.size + 1, 0, none⟩ v0).setCell ⟨w.heap.size + 1, 1, none⟩ v1).setCell ⟨w.heap.size + 1, 2, none⟩ v2).setCell ⟨w.heap.size + 1, 3, none⟩ v3).setCell ⟨w.heap.size + 1, 4, none⟩ v4).setCell ⟨w.heap.size + 1, 5, none⟩ v5).setCell ⟨w.heap.size + 1, 6, none⟩ v6).setCell ⟨w.heap.size + 1, 7, none⟩ v7).setCell ⟨w.heap.size + 1, 8, none⟩ v8).setCell ⟨w.heap.size + 1, 9, none⟩ v9).setCell ⟨w.heap.size + 1, 10, none⟩ v10).setCell ⟨w.heap.size + 1, 11, none⟩ v11) := by
  have T2 := other_two T (other12 (w.heap.size + 1) wz v0 v1 v2 v3 v4 v5 v6 v7 v8 v9 v10 v11)
  exact spec_got hb (K.trans (T2.below (B := w.heap.size) (Nat.le_refl _) K.size)) rfl (G.far T2 hs hp hl hh)
set_option maxHeartbeats 3200000 in
theorem melt_spec {base : Nat} {w : World} {s p l h : Value} {m : Mi} (tons : Int) (H : MillGot base w s p l h m) (hm : MillV m) :
    Calls Tryz.prog 112 #[millV s p l h m, .int .i64 tons] w (SpecGot base p (orOld m (meltD m tons)) w) := by
  have HH := hide H
  have hst0 := hm.st0
  have hbz := H.hb
  obtain ⟨aS, cs, rfl, -, -⟩ := H.so.form
  obtain ⟨ap, cp, rfl, -, -⟩ := H.po.form
  obtain ⟨al, cl, rfl, -, -⟩ := H.lo.form
  obtain ⟨ah, ch, rfl, -, -⟩ := H.ho.form
  have hbest := fun W (K : StAt 0 W.heap.size W (.slice aS m.store.length cs) m.store) => best_spec (.slice aS m.store.length cs) m.store m.rule tons W K
  unfold grV at hbest
  have HBT := hide hbest
  clear hbest H
  unfold millV
  go_enter Tryz.func112, Tryz.ntmps112
  go_wp2_with fail
  refine calls_at fun wx hwx => ?_
  have A_0 : RowL wx w.heap.size 31 (millC (.slice aS m.store.length cs) (.slice ap m.pieces.length cp) (.slice al m.low.length cl) (.slice ah m.high.length ch) m) := by rw [hwx]; exact (RowL.new _ 31 (millC (.slice aS m.store.length cs) (.slice ap m.pieces.length cp) (.slice al m.low.length cl) (.slice ah m.high.length ch) m)).alloc _
  have R_0 : RowL wx (w.heap.size + 1) 31 [.slice none 0 0, .int .i64 0, .int .i64 0, .int .i64 0, .int .i64 0, .int .i64 0, .int .i64 0, .int .i64 0, .slice none 0 0, .slice none 0 0, .slice none 0 0, .int .i64 0] := by rw [hwx]; simpa using (RowL.new (World.alloc _ _) 31 [.slice none 0 0, .int .i64 0, .int .i64 0, .int .i64 0, .int .i64 0, .int .i64 0, .int .i64 0, .int .i64 0, .slice none 0 0, .slice none 0 0, .slice none 0 0, .int .i64 0])
  have B_0 : Below w.heap.size w wx := by rw [hwx]; go_grown
  clear hwx
  have hL0 := R_0.lt
  refine (HBT.out wx (HH.out.below B_0).all.store).mono ?_
  rintro e w1 ⟨ao1, n1, cap1, rfl, hmix, hb⟩
  have A_1 := A_0.below hb A_0.lt
  have R_1 := R_0.below hb R_0.lt
  have B_1 := hide (Below.step B_0 hb (Nat.le_refl _))
  have hz1 := hb.size
  clear hb
  by_cases hs : m.strand = 0
  · have hsB : decide (0 < m.strand) = false := by simp [hs]
    have HS0 := hide hs
    cases hmb : mixBest m.store m.rule tons with
    | none =>
      have HN := hide (melt_no2 hmb)
      clear hmix hmb hs
      obtain ⟨cA0, cA1, cA2, cA3, cA4, cA5, cA6, cA7, cA8, cA9, cA10, cA11⟩ := row12_c A_1
      obtain ⟨cR0, cR1, cR2, cR3, cR4, cR5, cR6, cR7, cR8, cR9, cR10, cR11⟩ := row12_c R_1
      obtain ⟨fR0, fR1, fR2, fR3, fR4, fR5, fR6, fR7, fR8, fR9, fR10, fR11⟩ := row12_f R_1
      go_wp2_with fail
      refine bodyPost_ret (by simp [results, Tryz.results112, go_sem, cR0, cR1, cR2, cR3, cR4, cR5, cR6, cR7, cR8, cR9, cR10, cR11]; try rfl) rfl ?_
      rw [HN.out]
      exact fail_got HH.out B_1.out (by omega) _ _ _ _ _ _ _ _ _ _ _ _
    | some mix =>
      have HM := hide hmb
      obtain ⟨hmv, -, ht1, ht2⟩ := best_ok hmb
      have HMB := hide hmv
      have HI := hide (hmix mix hmb)
      have hw4 : IntKind.i64.wrap (4 * tons) = 4 * tons := IntWalk.i64_in _ (by omega)
      clear hmix hmb hmv hs
      have cA0 := A_1.c 0 rfl
      have cA7 := A_1.c 7 rfl
      go_wp2_with fail
      refine (take_spec (.slice aS m.store.length cs) (.slice ao1 n1 cap1) m.store mix w1 ((HH.out.below B_1.out).all.store) (HI.out.mono (Nat.zero_le _) (Nat.le_refl _) (Nat.le_refl _)) HMB.out).mono ?_
      rintro e w2 ⟨v, rfl, own, hb2⟩
      have A_2 := A_1.below hb2 A_1.lt
      have R_2 := R_1.below hb2 R_1.lt
      have B_2 := hide (Below.step B_1.out hb2 (Nat.le_refl _))
      have hz2 := hb2.size
      have G_2 := hide (HH.out.store B_2.out (show w.heap.size ≤ w1.heap.size by have := B_1.out.size; omega) (OwnE.own own) (4 * tons))
      have HO := hide own
      obtain ⟨av, cv, rfl, -, -⟩ := own_slice own
      clear own hb2 cA0 cA7
      obtain ⟨cA0, cA1, cA2, cA3, cA4, cA5, cA6, cA7, cA8, cA9, cA10, cA11⟩ := row12_c A_2
      obtain ⟨fA0, fA1, fA2, fA3, fA4, fA5, fA6, fA7, fA8, fA9, fA10, fA11⟩ := row12_f A_2
      obtain ⟨cR0, cR1, cR2, cR3, cR4, cR5, cR6, cR7, cR8, cR9, cR10, cR11⟩ := row12_c R_2
      obtain ⟨fR0, fR1, fR2, fR3, fR4, fR5, fR6, fR7, fR8, fR9, fR10, fR11⟩ := row12_f R_2
      go_wp2_with fail
      refine bodyPost_ret (by simp [results, Tryz.results112, go_sem, cR0, cR1, cR2, cR3, cR4, cR5, cR6, cR7, cR8, cR9, cR10, cR11]; try rfl) rfl ?_
      rw [melt_yes HS0.out HM.out]
      have T : Other w.heap.size (w.heap.size + 1) w2 ((w2.setCell ⟨w.heap.size, 0, none⟩ (.slice av (takeM m.store mix).length cv)).setCell ⟨w.heap.size, 7, none⟩ (.int .i64 (4 * tons))) := Other.setCell (p := ⟨w.heap.size, 7, none⟩) (Other.setCell (p := ⟨w.heap.size, 0, none⟩) (Other.refl _ _ _) (Nat.le_refl _) (Nat.lt_succ_self _) _) (Nat.le_refl _) (Nat.lt_succ_self _) _
      exact done_got (x := { m with store := takeM m.store mix, strand := 4 * tons }) hbz B_2.out G_2.out T (fun g hg => .inr (by have := (OwnE.own HO.out).lt g hg; omega)) (fun g hg => .inl (HH.out.po.lt g hg).2) (fun g hg => .inl (HH.out.lo.lt g hg).2) (fun g hg => .inl (HH.out.ho.lt g hg).2) _ _ _ _ _ _ _ _ _ _ _ _
  · have hsB : decide (0 < m.strand) = true := by simp; omega
    have HN := hide (melt_no1 (t := tons) hs)
    clear hmix hs
    obtain ⟨cA0, cA1, cA2, cA3, cA4, cA5, cA6, cA7, cA8, cA9, cA10, cA11⟩ := row12_c A_1
    obtain ⟨cR0, cR1, cR2, cR3, cR4, cR5, cR6, cR7, cR8, cR9, cR10, cR11⟩ := row12_c R_1
    obtain ⟨fR0, fR1, fR2, fR3, fR4, fR5, fR6, fR7, fR8, fR9, fR10, fR11⟩ := row12_f R_1
    go_wp2_with fail
    refine bodyPost_ret (by simp [results, Tryz.results112, go_sem, cR0, cR1, cR2, cR3, cR4, cR5, cR6, cR7, cR8, cR9, cR10, cR11]; try rfl) rfl ?_
    rw [HN.out]
    exact fail_got HH.out B_1.out (by omega) _ _ _ _ _ _ _ _ _ _ _ _
set_option maxHeartbeats 1600000 in
theorem cutBest_spec (v : Value) (a b : Int) (lo hi L : Nat) (hL : L ≤ 60) (hv : lensB a b = true) (w : World) (H : IntsAt lo hi w v [a, b]) :
    Calls Tryz.prog 172 #[.int .i64 (L : Int), v] w (IntsNew w.heap.size (manyL L a b) w) := by
  have HH := hide H
  have HV := hide hv
  have hlt := H.lt
  obtain ⟨⟨ha1, ha2⟩, hb1, hb2⟩ := lensB_iff.1 hv
  obtain ⟨hn0, hn1⟩ := many_60 hv hL
  obtain ⟨b0, o0, cap, rfl, h1, h2, -, -⟩ := two_at H
  have hmk : ∀ W : World, (Instr.makeSlice 27 (.int .i64 2) (.int .i64 2)).run Tryz.prog W = .ok (.slice (some ⟨W.heap.size, 0, none⟩) 2 2) (W.alloc (.cells (madeCells #[.int .i64 0] 2) 3)) := fun W =>
    make_rowN (P := Tryz.prog) 27 3 _ _ _ Tryz.underlying27 info_int .i64 .i64 2 (by omega) (by omega) W
  have hs1 : CutSt (tab a b (L + 1)) L b (many1 L a b) 0 L := CutSt.start
  have hnx : ∀ l : Int, CutSt (tab a b (L + 1)) L b (many1 L a b) (many1 L a b) l → l = L - many1 L a b * b → CutSt (tab a b (L + 1)) L a (many0 L a b) 0 l := fun l => CutSt.next
  have HC := hide (fun (W : World) (k : Below w.heap.size w W) => cutLeast_spec (.slice (some ⟨b0, o0, none⟩) 2 cap) a b lo hi L hL W (H.below k))
  have HT := hide (fun (W : World) (k : Below w.heap.size w W) => table_spec (.slice (some ⟨b0, o0, none⟩) 2 cap) a b lo hi L hL hv W (H.below k))
  clear H hv
  go_enter Tryz.func172, Tryz.ntmps172
  go_wp2_with fail
  refine (HC.out w (Below.refl _ _)).mono ?_
  rintro e w0 ⟨x, rfl, -, hx, hb0⟩
  have hx0 : ¬ x < 0 := by have := hx HV.out; omega
  have HB0 := hide hb0
  clear hx hb0
  go_wp2_with fail
  refine (HT.out w0 HB0.out).mono ?_

  rintro e w2 ⟨v1, rfl, hown, hb2⟩
  have hb2 := Below.step HB0.out hb2 (Nat.le_refl _)
  have hown := ownsRow_mono hown HB0.out.size
  have hz2 := hb2.size
  have HB2 := hide hb2
  have h12 := ownI_at hown rfl (by omega)
  obtain ⟨T, hT⟩ : ∃ T, tab a b (L + 1) = T := ⟨_, rfl⟩
  have HTL := hide (show T.length = L + 1 by rw [← hT, tab_len])
  rw [hT] at h12 hs1 hnx
  have HS1 := hide hs1
  have HNX := hide hnx
  have HI := hide h12
  obtain ⟨ao1, cap1, rfl, -⟩ := h12
  clear hown hb2 hT hs1 hnx
  go_wp2_with fail
  clear hmk
  obtain ⟨G, hG⟩ : ∃ G, w2.heap.size = G := ⟨_, rfl⟩
  obtain ⟨wa, hwa⟩ : ∃ wa, wa = w2.alloc (.cells (madeCells #[.int .i64 0] 2) 3) := ⟨_, rfl⟩
  have HR := hide (show Row2 wa G 0 0 by
    rw [← hG, hwa]
    exact ⟨_, World.rowIs_made w2 (.int .i64 0) 2 3, rfl, rfl⟩)
  have HB := hide (show Below w2.heap.size w2 wa by rw [hwa]; exact (Below.refl _ _).alloc (Nat.le_refl _) _)
  rw [← hwa, hG]
  have HGZ := hide hG
  have hbG : b0 ≠ G := by omega
  have hGb : G ≠ b0 := by omega
  clear hwa hG
  go_loopw [7, 8] (fun left i wr => Below w2.heap.size w2 wr ∧ ((i = .int .i64 1 ∧ left = .int .i64 (L : Int) ∧ Row2 wr G 0 0) ∨ (∃ l : Int, i = .int .i64 0 ∧ left = .int .i64 l ∧ CutSt T L a (many0 L a b) 0 l ∧ Row2 wr G 0 (many1 L a b)) ∨ (i = .int .i64 (-1) ∧ Row2 wr G (many0 L a b) (many1 L a b)))) (fun _ i _ => (intOf i + 1).toNat)
  case atStart => exact ⟨HB.out, .inl ⟨rfl, rfl, HR.out⟩⟩
  case round =>
    obtain ⟨hb, hcase⟩ := hrel
    clear HB HR
    have HB := hide hb
    obtain ⟨wo, rfl⟩ : ∃ wo : World, wo = wr := ⟨_, rfl⟩
    rcases hcase with ⟨rfl, rfl, hr⟩ | ⟨l, rfl, rfl, hst, hr⟩ | ⟨rfl, hr⟩
    · have HR := hide hr
      clear hr hb
      go_wp2_with fail
      go_loopw [7] (fun left wr => ∃ (c : Nat) (l : Int), left = .int .i64 l ∧ Below w2.heap.size w2 wr ∧ CutSt T L b (many1 L a b) c l ∧ Row2 wr G 0 c ∧ l = L - c * b) (fun left _ => (intOf left).toNat)
      case atStart => exact ⟨0, _, rfl, HB.out, HS1.out, HR.out, by simp⟩
      case round =>
        obtain ⟨c, l, rfl, hb, hst, hrow, hlx⟩ := hrel
        have HB := hide hb
        have HC := hide hst
        have HR := hide hrow
        have HLX := hide hlx
        obtain ⟨b1, o1, cap1, e1, -, -, c0, c1⟩ := two_at (HH.out.below (HB2.out.trans (hb.mono hz2)))
        cases e1
        obtain ⟨g0, g1, f0, f1, hGz⟩ := hrow.cell
        have hl0 := hst.pos
        have hl1 := hst.le
        have HAT := hide (HI.out.below hb)
        clear hb hst hrow hlx
        by_cases hle : b ≤ l
        · obtain ⟨d, hd⟩ : ∃ d : Nat, l - b = d := ⟨(l - b).toNat, by omega⟩
          have hwd : IntKind.i64.wrap (l - b) = (d : Int) := by rw [hd]; exact IntWalk.i64_in _ (by omega)
          have hTl := HTL.out
          have hdT : (d : Int) < (T.length : Int) := by omega
          have hd0 : (0 : Int) ≤ (d : Int) := by omega
          obtain ⟨q, rfl⟩ : ∃ q : Nat, l = q := ⟨l.toNat, by omega⟩
          have hLT : (q : Int) < (T.length : Int) := by omega
          have hL0 : (0 : Int) ≤ (q : Int) := by omega
          obtain ⟨b3, o3, cap3, e3, -, -, gL, -⟩ := ints_at HAT.out (k := q) (by omega)
          cases e3
          obtain ⟨b4, o4, cap4, e4, -, -, gd, -⟩ := ints_at HAT.out (k := d) (by omega)
          cases e4
          obtain ⟨y, hy⟩ : ∃ y, T.getD d 0 = y := ⟨_, rfl⟩
          obtain ⟨z, hz⟩ : ∃ z, T.getD q 0 = z := ⟨_, rfl⟩
          rw [hy] at gd
          rw [hz] at gL
          have HM := hide (show moreB T b (q : Int) = (y == z) by
            unfold moreB
            rw [hd, show ((d : Int)).toNat = d by omega, hy, show ((q : Int)).toNat = q by omega, hz]
            simp [hle])
          have HD := hide hd
          clear hy hz hd hTl
          by_cases hyz : y = z
          · subst hyz
            have HM2 := HC.out.more (by omega) (HM.out.trans (by simp))
            rw [HD.out] at HM2
            obtain ⟨hst2, -, hcn⟩ := HM2
            have hw1 : IntKind.i64.wrap ((c : Int) + 1) = ((c + 1 : Nat) : Int) := by rw [show (c : Int) + 1 = ((c + 1 : Nat) : Int) by omega]; exact IntWalk.i64_in _ (by omega)
            have HST := hide hst2
            clear hst2 HM HC
            go_wp2_with fail
            go_quiet (fail)
            go_wp2_with fail
            go_roundw
            case rel => exact ⟨c + 1, d, rfl, (below_drewN HB.out _).setCell (by have := HGZ.out; show w2.heap.size ≤ G; omega) _, HST.out, by simpa using Row2.drewN HR.out _ |>.set1 (c + 1), by have h1 := HLX.out; have h2 := HD.out; rw [Int.natCast_add, Int.add_mul]; omega⟩
            case measure => have hD := HD.out; simp [intOf]; omega
          · obtain rfl := HC.out.done (HM.out.trans (by simpa using hyz))
            have hyzb : (y == z) = false := by simpa using hyz
            clear HM
            go_wp2_with fail
            go_quiet (fail)
            go_wp2_with fail
            go_roundw
            case rel => exact ⟨below_drewN HB.out _, .inr (.inl ⟨_, rfl, rfl, HNX.out _ HC.out HLX.out, Row2.drewN HR.out _⟩)⟩
            case measure => simp [intOf]
        · obtain rfl := HC.out.done (show moreB T b l = false by unfold moreB; simp [hle])
          have hleb : decide (b ≤ l) = false := by simpa using hle
          go_wp2_with fail
          go_quiet (fail)
          go_wp2_with fail
          go_roundw
          case rel => exact ⟨below_drewN HB.out _, .inr (.inl ⟨l, rfl, rfl, HNX.out l HC.out HLX.out, Row2.drewN HR.out _⟩)⟩
          case measure => simp [intOf]
    · have HR := hide hr
      have HS0 := hide hst
      clear hr hst hb
      go_wp2_with fail
      go_loopw [7] (fun left wr => ∃ (c : Nat) (l : Int), left = .int .i64 l ∧ Below w2.heap.size w2 wr ∧ CutSt T L a (many0 L a b) c l ∧ Row2 wr G c (many1 L a b) ∧ True) (fun left _ => (intOf left).toNat)
      case atStart => exact ⟨0, _, rfl, HB.out, HS0.out, HR.out, trivial⟩
      case round =>
        obtain ⟨c, l, rfl, hb, hst, hrow, hlx⟩ := hrel
        have HB := hide hb
        have HC := hide hst
        have HR := hide hrow
        have HLX := hide hlx
        obtain ⟨b1, o1, cap1, e1, -, -, c0, c1⟩ := two_at (HH.out.below (HB2.out.trans (hb.mono hz2)))
        cases e1
        obtain ⟨g0, g1, f0, f1, hGz⟩ := hrow.cell
        have hl0 := hst.pos
        have hl1 := hst.le
        have HAT := hide (HI.out.below hb)
        clear hb hst hrow hlx
        by_cases hle : a ≤ l
        · obtain ⟨d, hd⟩ : ∃ d : Nat, l - a = d := ⟨(l - a).toNat, by omega⟩
          have hwd : IntKind.i64.wrap (l - a) = (d : Int) := by rw [hd]; exact IntWalk.i64_in _ (by omega)
          have hTl := HTL.out
          have hdT : (d : Int) < (T.length : Int) := by omega
          have hd0 : (0 : Int) ≤ (d : Int) := by omega
          obtain ⟨q, rfl⟩ : ∃ q : Nat, l = q := ⟨l.toNat, by omega⟩
          have hLT : (q : Int) < (T.length : Int) := by omega
          have hL0 : (0 : Int) ≤ (q : Int) := by omega
          obtain ⟨b3, o3, cap3, e3, -, -, gL, -⟩ := ints_at HAT.out (k := q) (by omega)
          cases e3
          obtain ⟨b4, o4, cap4, e4, -, -, gd, -⟩ := ints_at HAT.out (k := d) (by omega)
          cases e4
          obtain ⟨y, hy⟩ : ∃ y, T.getD d 0 = y := ⟨_, rfl⟩
          obtain ⟨z, hz⟩ : ∃ z, T.getD q 0 = z := ⟨_, rfl⟩
          rw [hy] at gd
          rw [hz] at gL
          have HM := hide (show moreB T a (q : Int) = (y == z) by
            unfold moreB
            rw [hd, show ((d : Int)).toNat = d by omega, hy, show ((q : Int)).toNat = q by omega, hz]
            simp [hle])
          have HD := hide hd
          clear hy hz hd hTl
          by_cases hyz : y = z
          · subst hyz
            have HM2 := HC.out.more (by omega) (HM.out.trans (by simp))
            rw [HD.out] at HM2
            obtain ⟨hst2, -, hcn⟩ := HM2
            have hw1 : IntKind.i64.wrap ((c : Int) + 1) = ((c + 1 : Nat) : Int) := by rw [show (c : Int) + 1 = ((c + 1 : Nat) : Int) by omega]; exact IntWalk.i64_in _ (by omega)
            have HST := hide hst2
            clear hst2 HM HC
            go_wp2_with fail
            go_quiet (fail)
            go_wp2_with fail
            go_roundw
            case rel => exact ⟨c + 1, d, rfl, (below_drewN HB.out _).setCell (by have := HGZ.out; show w2.heap.size ≤ G; omega) _, HST.out, by simpa using Row2.drewN HR.out _ |>.set0 (c + 1), trivial⟩
            case measure => have hD := HD.out; simp [intOf]; omega
          · obtain rfl := HC.out.done (HM.out.trans (by simpa using hyz))
            have hyzb : (y == z) = false := by simpa using hyz
            clear HM
            go_wp2_with fail
            go_quiet (fail)
            go_wp2_with fail
            go_roundw
            case rel => exact ⟨below_drewN HB.out _, .inr (.inr ⟨rfl, Row2.drewN HR.out _⟩)⟩
            case measure => simp [intOf]
        · obtain rfl := HC.out.done (show moreB T a l = false by unfold moreB; simp [hle])
          have hleb : decide (a ≤ l) = false := by simpa using hle
          go_wp2_with fail
          go_quiet (fail)
          go_wp2_with fail
          go_roundw
          case rel => exact ⟨below_drewN HB.out _, .inr (.inr ⟨rfl, Row2.drewN HR.out _⟩)⟩
          case measure => simp [intOf]
    · have HR := hide hr
      clear hr hb
      go_wp2_with fail
      go_ret
      exact ⟨_, rfl, (HR.out.own (base := w.heap.size) (by have := HGZ.out; omega)), HB2.out.trans (HB.out.mono hz2)⟩
end Go.Proofs.YtmemgbklgcjobaaGreatDoor
