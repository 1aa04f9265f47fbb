/-
  Parts of the proofs over mills, of: PileD, CoilD. Conditions: each theorem states its own.
-/
import Derived.Test.YtmemgbklgcjobaaGreatDoorX16
set_option linter.unusedSimpArgs false
set_option linter.unusedVariables false
set_option maxRecDepth 10000
namespace Go.Proofs.YtmemgbklgcjobaaGreatDoor
open Go.RowKit
def findV : Option (Bool × Int) → Value
  | none => .tuple #[.agg #[.bool false, .int .i64 0], .bool false]
  | some (t, p) => .tuple #[.agg #[.bool t, .int .i64 p], .bool true]
theorem idx_first : ∀ {l : List Int} {x : Int} {k : Nat} (hk : k < l.length), l[k] = x → (∀ j (_ : j < l.length), j < k → l[j] ≠ x) → l.idxOf x = k
  | [], _, k, hk, _, _ => absurd hk (Nat.not_lt_zero _)
  | a :: l, x, 0, _, h, _ => by
    have : a = x := h
    rw [this, List.idxOf_cons_self]
  | a :: l, x, k + 1, hk, h, hn => by
    have ha : (a == x) = false := by
      have := hn 0 (by simp) (by omega)
      simpa using this
    have := idx_first (l := l) (x := x) (k := k) (by simpa using hk) (by simpa using h) (fun j hj hjk => by
      have := hn (j + 1) (by simpa using hj) (by omega)
      simpa using this)
    rw [List.idxOf_cons, ha, cond_false, this]
theorem find_bad {lo hi : List Int} {id : Int} (h : pileB lo hi = false) : findR lo hi id = none := by simp [findR, h]
theorem find_low {lo hi : List Int} {id : Int} (h : id ≤ 0) : findR lo hi id = none := by
  unfold findR
  rw [if_neg (by simp; omega)]
theorem find_lo {lo hi : List Int} {id : Int} (hv : pileB lo hi = true) (h1 : 0 < id) {k : Nat} (hk : k < lo.length) (h : lo[k] = id) (hn : ∀ j (_ : j < lo.length), j < k → lo[j] ≠ id) : findR lo hi id = some (false, (k : Int)) := by
  unfold findR
  rw [if_pos (by rw [hv]; simp; omega), if_pos (hasI_iff.2 (by rw [← h]; exact List.getElem_mem _)), idx_first hk h hn]
theorem find_hi {lo hi : List Int} {id : Int} (hv : pileB lo hi = true) (h1 : 0 < id) {k : Nat} (hk : k < hi.length) (h : hi[k] = id) (hn : ∀ j (_ : j < hi.length), j < k → hi[j] ≠ id) : findR lo hi id = some (true, (k : Int)) := by
  have hm : id ∈ hi := by rw [← h]; exact List.getElem_mem _
  have := (take_hi (pileB_iff.1 hv) (id := id) (mem_nz.2 ⟨hm, by omega⟩)).1
  rw [this, idx_first hk h hn]
theorem find_no {lo hi : List Int} {id : Int} (h1 : ∀ j (_ : j < lo.length), lo[j] ≠ id) (h2 : ∀ j (_ : j < hi.length), hi[j] ≠ id) : findR lo hi id = none := by
  have n1 : id ∉ lo := fun hm => by obtain ⟨j, hj, e⟩ := List.getElem_of_mem hm; exact h1 j hj e
  have n2 : id ∉ hi := fun hm => by obtain ⟨j, hj, e⟩ := List.getElem_of_mem hm; exact h2 j hj e
  unfold findR
  split
  · rw [if_neg (by rw [hasI_iff]; exact n1), if_neg (by rw [hasI_iff]; exact n2)]
  · rfl
set_option maxHeartbeats 1600000 in
theorem find_spec (l h : Value) (lo hi : List Int) (id : Int) (w : World) (Hl : IntsAt 0 w.heap.size w l lo) (Hh : IntsAt 0 w.heap.size w h hi) :
    Calls Tryz.prog 118 #[pileV l h, .int .i64 id] w fun e w' => e = .returned (findV (findR lo hi id)) ∧ Below w.heap.size w w' := by
  have HL := hide Hl
  have HH := hide Hh
  have hl1 := Hl.len
  have hl2 := Hh.len
  obtain ⟨ao1, cap1, rfl, -, -, -, -⟩ := Hl
  obtain ⟨ao2, cap2, rfl, -, -, -, -⟩ := Hh
  have hP := fun W H1 H2 => pile_spec (.slice ao1 lo.length cap1) (.slice ao2 hi.length cap2) lo hi W H1 H2
  unfold pileV at hP ⊢
  have HP := hide hP
  clear hP
  go_enter Tryz.func118, Tryz.ntmps118
  go_wp2_with fail
  go_loopw [6] (fun i wr => ∃ k : Nat, k ≤ lo.length ∧ i = .int .i64 k ∧ Below w.heap.size w wr ∧ RowL wr w.heap.size 29 [.slice ao1 lo.length cap1, .slice ao2 hi.length cap2] ∧ RowL wr (w.heap.size + 1) 128 [.bool false, .int .i64 0] ∧
    (0 < k → 0 < id ∧ pileB lo hi = true) ∧ (∀ j (_ : j < lo.length), j < k → lo[j] ≠ id) ∧ (∀ j (_ : j < hi.length), j < k → hi[j] ≠ id)) (fun i _ => lo.length - (intOf i).toNat)
  case atStart =>
    refine ⟨0, Nat.zero_le _, rfl, by go_grown, (RowL.new _ _ _).alloc _, ?_, fun h => absurd h (Nat.lt_irrefl _), fun _ _ h => absurd h (Nat.not_lt_zero _), fun _ _ h => absurd h (Nat.not_lt_zero _)⟩
    simpa using RowL.new (w.alloc _) 128 [.bool false, .int .i64 0]
  case round =>
    obtain ⟨k, hk, rfl, hb, hr1, hr2, hpos, hlo, hhi⟩ := hrel
    have HB := hide hb
    have HR1 := hide hr1
    have HR2 := hide hr2
    have HPOS := hide hpos
    have HLO := hide hlo
    have HHI := hide hhi
    have hz2 := hr2.lt
    have hp0 := hr1.cell 0 (by simp)
    have hp1 := hr1.cell 1 (by simp)
    have hs0 := hr2.cell 0 (by simp)
    have hs1 := hr2.cell 1 (by simp)
    have hf0 := hr2.frozen 0
    have hf1 := hr2.frozen 1
    simp only [List.getD_cons_zero, List.getD_cons_succ] at hp0 hp1 hs0 hs1
    clear hb hr1 hr2 hpos hlo hhi
    by_cases hlt : k < lo.length
    · by_cases hid : 0 < id
      · have HLr := hide ((HL.out.below HB.out).mono (Nat.le_refl _) HB.out.size (Nat.le_refl _))
        have HHr := hide ((HH.out.below HB.out).mono (Nat.le_refl _) HB.out.size (Nat.le_refl _))
        cases hv : pileB lo hi with
        | false =>
          have HF := hide (find_bad (id := id) hv)
          go_wp2_with fail
          refine (HP.out wr HLr.out HHr.out).mono ?_
          rw [hv]
          rintro e w1 ⟨rfl, hb1⟩
          have RR := HR2.out.below hb1 HR2.out.lt
          have hs0 := RR.c 0 rfl
          have hs1 := RR.c 1 rfl
          have hf0 := RR.frozen 0
          have hf1 := RR.frozen 1
          have HB2 := hide (Below.step HB.out hb1 (Nat.le_refl _))
          clear hb1 hp0 hp1 RR hv
          go_wp2_with fail
          refine bodyPost_ret (by simp [results, Tryz.results118, go_sem, hs0, hs1]; try rfl) rfl ?_
          exact ⟨by rw [HF.out]; rfl, (HB2.out.setCell (by simp) _).setCell (by simp) _⟩
        | true =>
          obtain ⟨_, _, e1, -, -, -, hcl⟩ := HLr.out
          simp only [Value.slice.injEq] at e1
          obtain ⟨rfl, -, rfl⟩ := e1
          obtain ⟨b1, o1, rfl, -, hbl, hcs1⟩ := hcl (by omega)
          obtain ⟨r1, -⟩ := hcs1 k hlt
          have HV := hide hv
          have hkI : (k : Int) < (lo.length : Int) := by omega
          obtain ⟨x, hx⟩ : ∃ x, lo[k] = x := ⟨_, rfl⟩
          rw [hx] at r1
          have HX := hide hx
          clear hcl hcs1 hx
          go_wp2_with fail
          refine (HP.out wr HLr.out HHr.out).mono ?_
          rw [hv]
          rintro e w1 ⟨rfl, hb1⟩
          have RR := HR2.out.below hb1 HR2.out.lt
          have RP := HR1.out.below hb1 HR1.out.lt
          have HRR := hide RR
          have HRP := hide RP
          have hs0 := RR.c 0 rfl
          have hs1 := RR.c 1 rfl
          have hf0 := RR.frozen 0
          have hf1 := RR.frozen 1
          have hp0 := RP.cell 0 (by simp)
          have hp1 := RP.cell 1 (by simp)
          simp only [List.getD_cons_zero, List.getD_cons_succ] at hp0 hp1
          rw [← hb1.cell (p := ⟨b1, _, none⟩) (by simpa using hbl)] at r1
          have HB2 := hide (Below.step HB.out hb1 (Nat.le_refl _))
          have HHr2 := hide (HHr.out.below hb1)
          clear hb1 RR RP hv
          by_cases hq : x = id
          · have hqB : (x == id) = true := by simp [hq]
            have HF := hide (find_lo (hi := hi) HV.out hid hlt (by rw [HX.out]; exact hq) HLO.out)
            clear hq
            go_wp2_with fail
            refine bodyPost_ret (by simp [results, Tryz.results118, go_sem, hs0, hs1]; try rfl) rfl ?_
            exact ⟨by rw [HF.out]; rfl, (HB2.out.setCell (by simp) _).setCell (by simp) _⟩
          · have hqB : (x == id) = false := by simp [hq]
            have HQ := hide hq
            clear hq
            by_cases hlt2 : k < hi.length
            · obtain ⟨_, _, e2, -, -, -, hch⟩ := HHr2.out
              simp only [Value.slice.injEq] at e2
              obtain ⟨rfl, -, rfl⟩ := e2
              obtain ⟨b2, o2, rfl, -, -, hcs2⟩ := hch (by omega)
              obtain ⟨r2, -⟩ := hcs2 k hlt2
              obtain ⟨y, hy⟩ : ∃ y, hi[k] = y := ⟨_, rfl⟩
              rw [hy] at r2
              have HY := hide hy
              have hkI2 : (k : Int) < (hi.length : Int) := by omega
              clear hch hcs2 hy
              by_cases hq2 : y = id
              · have hqB2 : (y == id) = true := by simp [hq2]
                have HF := hide (find_hi (lo := lo) HV.out hid hlt2 (by rw [HY.out]; exact hq2) HHI.out)
                clear hq2
                go_wp2_with fail
                refine bodyPost_ret (by simp [results, Tryz.results118, go_sem, hs0, hs1]; try rfl) rfl ?_
                exact ⟨by rw [HF.out]; rfl, (HB2.out.setCell (by simp) _).setCell (by simp) _⟩
              · have hqB2 : (y == id) = false := by simp [hq2]
                have HQ2 := hide hq2
                clear hq2
                go_wp2_with fail
                go_roundw
                case rel =>
                  refine ⟨k + 1, by omega, by go_num, HB2.out, HRP.out, HRR.out, fun _ => ⟨hid, by first | trivial | exact HV.out⟩, fun j hj hjk => ?_, fun j hj hjk => ?_⟩
                  · rcases Nat.lt_or_ge j k with h | h
                    · exact HLO.out j hj h
                    · obtain rfl : j = k := by omega
                      rw [HX.out]; exact HQ.out
                  · rcases Nat.lt_or_ge j k with h | h
                    · exact HHI.out j hj h
                    · obtain rfl : j = k := by omega
                      rw [HY.out]; exact HQ2.out
                case measure => simp [intOf]; omega
            · have hkI2 : decide ((k : Int) < (hi.length : Int)) = false := by simp; omega
              go_wp2_with fail
              go_roundw
              case rel =>
                refine ⟨k + 1, by omega, by go_num, HB2.out, HRP.out, HRR.out, fun _ => ⟨hid, by first | trivial | exact HV.out⟩, fun j hj hjk => ?_, fun j hj hjk => HHI.out j hj (by omega)⟩
                rcases Nat.lt_or_ge j k with h | h
                · exact HLO.out j hj h
                · obtain rfl : j = k := by omega
                  rw [HX.out]; exact HQ.out
              case measure => simp [intOf]; omega
      · have hidB : decide (0 < id) = false := by simp; omega
        have HF := hide (find_low (lo := lo) (hi := hi) (show id ≤ 0 by omega))
        clear hid
        go_wp2_with fail
        refine bodyPost_ret (by simp [results, Tryz.results118, go_sem, hs0, hs1]; try rfl) rfl ?_
        exact ⟨by rw [HF.out]; rfl, (HB.out.setCell (by simp) _).setCell (by simp) _⟩
    · obtain rfl : k = lo.length := by omega
      have hkB : decide ((lo.length : Int) < (lo.length : Int)) = false := by simp
      have hF : findR lo hi id = none := by
        cases hv : pileB lo hi with
        | false => exact find_bad hv
        | true =>
          have := (pileB_iff.1 hv).lh
          exact find_no (fun j hj => HLO.out j hj hj) (fun j hj => HHI.out j hj (by omega))
      have HF := hide hF
      clear hF
      go_wp2_with fail
      refine bodyPost_ret (by simp [results, Tryz.results118, go_sem, hs0, hs1]; try rfl) rfl ?_
      exact ⟨by rw [HF.out]; rfl, (HB.out.setCell (by simp) _).setCell (by simp) _⟩
theorem pileOwn_nil {base : Nat} {w : World} (h : base ≤ w.heap.size) : PileOwn base w (.slice none 0 0) (.slice none 0 0) [] [] :=
  ⟨h, OwnE.own (World.ownsRow_nil _ _ _ _), OwnE.own (World.ownsRow_nil _ _ _ _), fun k e _ => by cases e⟩
theorem ownE_row {base g n cap : Nat} {w : World} {xs : List Int} (H : OwnE base 3 1 w (.slice (some ⟨g, 0, none⟩) n cap) xs.length (flatI xs)) {j : Nat} (hj : j < xs.length) :
    w.cell? ⟨g, j, none⟩ = some (.int .i64 (xs.getD j 0)) ∧ w.frozen? ⟨g, j, none⟩ = false ∧ base ≤ g ∧ g < w.heap.size := by
  rcases H with H | ⟨g', -, -, -, h0, -⟩
  · have hl := H.lt g rfl
    obtain ⟨ao, cap', e, -, -⟩ := own_slice H
    simp only [Value.slice.injEq] at e
    obtain ⟨rfl, rfl, rfl⟩ := e
    refine ⟨?_, H.frozenAt j, hl.1, hl.2⟩
    rw [H.cellAt j (by omega)]
    simp [flatI, hj]
  · omega
theorem PileOwn.form {base : Nat} {w : World} {l h : Value} {lo hi : List Int} (H : PileOwn base w l h lo hi) (t : Bool) {j : Nat} (hj : j < (rowR t lo hi).length) :
    ∃ g cap, rowV t l h = .slice (some ⟨g, 0, none⟩) (rowR t lo hi).length cap := by
  have key : ∀ (v : Value) (xs : List Int), OwnE base 3 1 w v xs.length (flatI xs) → j < xs.length → ∃ g cap, v = .slice (some ⟨g, 0, none⟩) xs.length cap := by
    intro v xs h hx
    rcases h with h | ⟨g, -, -, -, h0, -⟩
    · rcases h.2 with ⟨-, h0⟩ | ⟨g, cap, cur, e, -⟩
      · omega
      · exact ⟨g, cap, e⟩
    · omega
  cases t
  · exact key l lo H.lo hj
  · exact key h hi H.ho hj
theorem PileOwn.cellAt {base g n cap : Nat} {w : World} {l h : Value} {lo hi : List Int} (H : PileOwn base w l h lo hi) {t : Bool} (er : rowV t l h = .slice (some ⟨g, 0, none⟩) n cap) {j : Nat} (hj : j < (rowR t lo hi).length) :
    w.cell? ⟨g, j, none⟩ = some (.int .i64 ((rowR t lo hi).getD j 0)) ∧ w.frozen? ⟨g, j, none⟩ = false ∧ base ≤ g ∧ g < w.heap.size := by
  cases t
  · have e : l = _ := er
    subst e
    exact ownE_row H.lo hj
  · have e : h = _ := er
    subst e
    exact ownE_row H.ho hj
theorem PileOwn.set {base g n cap : Nat} {w : World} {l h : Value} {lo hi : List Int} (H : PileOwn base w l h lo hi) {t : Bool} (er : rowV t l h = .slice (some ⟨g, 0, none⟩) n cap) {j : Nat} (hj : j < (rowR t lo hi).length) (x : Int) :
    PileOwn base (w.setCell ⟨g, j, none⟩ (.int .i64 x)) l h (setR t lo hi (j : Int) x).1 (setR t lo hi (j : Int) x).2 ∧ Other g (g + 1) w (w.setCell ⟨g, j, none⟩ (.int .i64 x)) := by
  cases t
  · have e : l = _ := er
    subst e
    have hj' : j < lo.length := hj
    obtain ⟨h1, h2⟩ := OwnE.put (j := j) H.lo (by omega) (g := g) rfl (.int .i64 x)
    refine ⟨⟨by simpa [World.setCell] using H.hb, ?_, ?_, H.ap⟩, h2⟩
    · have : (setR false lo hi (j : Int) x).1 = lo.set j x := by simp [setR]
      rw [this, flatI_set, List.length_set]; exact h1
    · exact H.ho.other h2 fun k hk => by
        have := H.ap g rfl
        rcases Nat.lt_trichotomy k g with h | h | h
        · exact .inl h
        · subst h; exact absurd hk this
        · exact .inr h
  · have e : h = _ := er
    subst e
    have hj' : j < hi.length := hj
    obtain ⟨h1, h2⟩ := OwnE.put (j := j) H.ho (by omega) (g := g) rfl (.int .i64 x)
    refine ⟨⟨by simpa [World.setCell] using H.hb, ?_, ?_, H.ap⟩, h2⟩
    · exact H.lo.other h2 fun k hk => by
        have := H.ap.symm g rfl
        rcases Nat.lt_trichotomy k g with h | h | h
        · exact .inl h
        · subst h; exact absurd hk this
        · exact .inr h
    · have : (setR true lo hi (j : Int) x).2 = hi.set j x := by simp [setR]
      rw [this, flatI_set, List.length_set]; exact h1
theorem spot_put {W : World} {T8 B gg j : Nat} {u v x y : Value} (H : ((W.cell? ⟨T8, 0, none⟩ = some u ∧ W.cell? ⟨T8, 1, none⟩ = some v) ∧ (W.cell? ⟨B, 0, none⟩ = some x ∧ W.cell? ⟨B, 1, none⟩ = some y)) ∧ ((W.cell? ⟨gg, j, none⟩).isSome = true ∧ W.frozen? ⟨gg, j, none⟩ = false)) (h1 : gg ≠ T8) (h2 : gg ≠ B) (z : Value) :
    (((W.setCell ⟨gg, j, none⟩ z).cell? ⟨T8, 0, none⟩ = some u ∧ (W.setCell ⟨gg, j, none⟩ z).cell? ⟨T8, 1, none⟩ = some v) ∧ ((W.setCell ⟨gg, j, none⟩ z).cell? ⟨B, 0, none⟩ = some x ∧ (W.setCell ⟨gg, j, none⟩ z).cell? ⟨B, 1, none⟩ = some y)) ∧ (((W.setCell ⟨gg, j, none⟩ z).cell? ⟨gg, j, none⟩).isSome = true ∧ (W.setCell ⟨gg, j, none⟩ z).frozen? ⟨gg, j, none⟩ = false) := by
  obtain ⟨⟨⟨a, b⟩, ⟨c, d⟩⟩, e, f⟩ := H
  obtain ⟨o, ho⟩ := Option.isSome_iff_exists.1 e
  have n1 : ∀ k, (⟨gg, j, none⟩ : Addr) ≠ ⟨T8, k, none⟩ := fun k e => h1 (by injection e)
  have n2 : ∀ k, (⟨gg, j, none⟩ : Addr) ≠ ⟨B, k, none⟩ := fun k e => h2 (by injection e)
  refine ⟨⟨⟨?_, ?_⟩, ⟨?_, ?_⟩⟩, ?_, by rw [World.frozen?_setCell]; exact f⟩
  · rw [World.cell?_setCell_other _ _ _ _ (n1 0)]; exact a
  · rw [World.cell?_setCell_other _ _ _ _ (n1 1)]; exact b
  · rw [World.cell?_setCell_other _ _ _ _ (n2 0)]; exact c
  · rw [World.cell?_setCell_other _ _ _ _ (n2 1)]; exact d
  · rw [World.cell?_setCell_same _ _ _ ho]; rfl
theorem pile_lens {lo hi : List Int} (h : pileB lo hi = true) : lo.length ≤ 1000000 ∧ hi.length ≤ 1000000 := by
  have hv := pileB_iff.1 h
  have := hv.l6
  have := hv.lh
  omega
theorem put_bad {lo hi : List Int} {t : Bool} {p id : Int} (h : pileB lo hi = false) : putR lo hi t p id = (([], []), false) := by simp [putR, h]
theorem put_low {lo hi : List Int} {t : Bool} {p id : Int} (h : pileB lo hi = true) (h2 : id < 1) : putR lo hi t p id = ((lo, hi), false) := by simp [putR, h, h2]
theorem put_full {lo hi : List Int} {t : Bool} {p id : Int} (h : pileB lo hi = true) (h2 : atR lo hi t p ≠ 0) : putR lo hi t p id = ((lo, hi), false) := by simp [putR, h, h2]
theorem put_not {lo hi : List Int} {t : Bool} {p id : Int} (h : pileB lo hi = true) (h2 : atR lo hi t p = 0) (h3 : pileB (setR t lo hi p id).1 (setR t lo hi p id).2 = false) : putR lo hi t p id = ((lo, hi), false) := by
  simp [putR, h, h2, h3]
theorem put_yes {lo hi : List Int} {t : Bool} {p id : Int} (h : pileB lo hi = true) (h1 : ¬ id < 1) (h2 : atR lo hi t p = 0) (h3 : pileB (setR t lo hi p id).1 (setR t lo hi p id).2 = true) : putR lo hi t p id = (setR t lo hi p id, true) := by
  simp [putR, h, h1, h2, h3]
end Go.Proofs.YtmemgbklgcjobaaGreatDoor
