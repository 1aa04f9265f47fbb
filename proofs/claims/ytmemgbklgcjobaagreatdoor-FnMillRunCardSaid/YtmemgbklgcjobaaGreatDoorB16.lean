/-
  Parts of the proofs over mills, of: MixB, BestI, CoilD. Conditions: each theorem states its own.
-/
import Derived.Test.YtmemgbklgcjobaaGreatDoorB14
set_option linter.unusedSimpArgs false
set_option linter.unusedVariables false
set_option maxRecDepth 10000
namespace Go.Proofs.YtmemgbklgcjobaaGreatDoor
open Go.RowKit
def meetS (g : Gr) (T a b c : Int) : Bool := wi a (g.lc * T) (g.hc * T) && (wi b (g.lm * T) (g.hm * T) && wi c (g.ls * T) (g.hs * T))
theorem meet_eq {sts : List St} {mix : List Int} {g : Gr} (h1 : mixB sts mix = true) (h2 : grB g = true) (h3 : 0 < tonsR mix) : meetR sts mix g = meetS g (tonsR mix) (sumsR St.c sts mix) (sumsR St.m sts mix) (sumsR St.s sts mix) := by
  have h3' : decide (0 < tonsR mix) = true := by simpa using h3
  simp only [meetR, meetS, h1, h2, h3', Bool.true_and]
theorem meet_low {sts : List St} {mix : List Int} {g : Gr} (h3 : ¬ 0 < tonsR mix) : meetR sts mix g = false := by
  have h3' : decide (0 < tonsR mix) = false := by simpa using h3
  simp [meetR, h3']
theorem tons_bd {sts : List St} {mix : List Int} (h : mixB sts mix = true) : 0 ≤ tonsR mix ∧ tonsR mix ≤ 36 := by
  have h1 := sumTo_bd h mix.length (Nat.le_refl _)
  have h2 := mix_len4 h
  unfold tonsR
  omega
theorem gr_mul {x T : Int} (h1 : 0 ≤ x) (h2 : x ≤ 999) (h3 : 0 ≤ T) (h4 : T ≤ 36) : IntKind.i64.wrap (x * T) = x * T := by
  have := mul_bd h1 h2 h3 h4
  exact IntWalk.i64_in _ (by omega)
set_option maxHeartbeats 1600000 in
theorem meets_spec (sv mv : Value) (sts : List St) (mix : List Int) (g : Gr) (w : World) (Hs : StAt 0 w.heap.size w sv sts) (Hm : IntsAt 0 w.heap.size w mv mix) (hl4 : mix.length ≤ 4) (h60 : ∀ k, k < mix.length → 0 ≤ mix.getD k 0 ∧ mix.getD k 0 ≤ 60) :
    Calls Tryz.prog 204 #[sv, mv, grV g] w fun e w' => e = .returned (.bool (meetR sts mix g)) ∧ Below w.heap.size w w' := by
  have HS := hide Hs
  have HM := hide Hm
  clear Hs Hm
  have HV := hide (fun W H1 H2 => mixv_spec sv mv sts mix W H1 H2)
  have HU := hide (fun W H1 H2 => sums_spec sv mv sts mix W H1 H2)
  have hg := fun W => grv_spec g W
  have H60 := hide h60
  clear h60
  unfold grV at hg ⊢
  have HG := hide hg
  clear hg
  go_enter Tryz.func204, Tryz.ntmps204
  go_wp2_with fail
  refine calls_at fun wx hwx => ?_
  have A_0 : RowL wx (w.heap.size) 25 [.int .i64 g.lc, .int .i64 g.hc, .int .i64 g.lm, .int .i64 g.hm, .int .i64 g.ls, .int .i64 g.hs] := by rw [hwx]; exact (RowL.new _ 25 [.int .i64 g.lc, .int .i64 g.hc, .int .i64 g.lm, .int .i64 g.hm, .int .i64 g.ls, .int .i64 g.hs])
  have B_0 : Below w.heap.size w wx := by rw [hwx]; go_grown
  clear hwx
  have hL0 := A_0.lt
  have VS_0 := hide (HS.out.below B_0)
  have VM_0 := hide (HM.out.below B_0)
  have k1 := hide (HU.out wx ((VS_0.out).mono (Nat.le_refl _) (VS_0.out).lt (Nat.le_refl _)) ((VM_0.out).mono (Nat.le_refl _) (VM_0.out).lt (Nat.le_refl _)))
  obtain ⟨a, ha⟩ : ∃ a, sumsR St.c sts mix = a := ⟨_, rfl⟩
  obtain ⟨b, hb⟩ : ∃ b, sumsR St.m sts mix = b := ⟨_, rfl⟩
  obtain ⟨c, hc⟩ : ∃ c, sumsR St.s sts mix = c := ⟨_, rfl⟩
  rw [ha, hb, hc] at k1
  have HA := hide ha
  have HBB := hide hb
  have HC := hide hc
  clear ha hb hc
  refine (k1.out).mono ?_
  rintro e w1 ⟨rfl, hb⟩
  have A_1 := A_0.below hb A_0.lt
  have VS_1 := hide (VS_0.out.below hb)
  have VM_1 := hide (VM_0.out.below hb)
  have B_1 := hide (Below.step B_0 hb (Nat.le_refl _))
  have hz1 := hb.size
  clear hb
  go_wp2_with fail
  have k3 := hide (tons_spec mv mix _ _ w1 VM_1.out hl4 H60.out)
  obtain ⟨T, hTT⟩ : ∃ T, tonsR mix = T := ⟨_, rfl⟩
  have HT := hide hTT
  rw [hTT] at k3
  clear hTT
  refine k3.out.mono ?_
  rintro e wq ⟨rfl, rfl⟩
  go_wp2_with fail
  have k4 := HV.out w1 ((VS_1.out).mono (Nat.le_refl _) (VS_1.out).lt (Nat.le_refl _)) ((VM_1.out).mono (Nat.le_refl _) (VM_1.out).lt (Nat.le_refl _))
  cases c1 : mixB sts mix with
  | false =>
    rw [c1] at k4
    have HZ := hide (show meetR sts mix g = false by simp [meetR, c1])
    clear c1
    refine (k4).mono ?_
    rintro e w2 ⟨rfl, hb⟩
    have A_2 := A_1.below hb A_1.lt
    have VS_2 := hide (VS_1.out.below hb)
    have VM_2 := hide (VM_1.out.below hb)
    have B_2 := hide (Below.step B_1.out hb (Nat.le_refl _))
    have hz2 := hb.size
    clear hb
    go_wp2_with fail
    go_ret
    exact ⟨by rw [HZ.out]; rfl, B_2.out⟩
  | true =>
    rw [c1] at k4
    have C1 := hide c1
    clear c1
    refine (k4).mono ?_
    rintro e w2 ⟨rfl, hb⟩
    have A_2 := A_1.below hb A_1.lt
    have VS_2 := hide (VS_1.out.below hb)
    have VM_2 := hide (VM_1.out.below hb)
    have B_2 := hide (Below.step B_1.out hb (Nat.le_refl _))
    have hz2 := hb.size
    clear hb
    have cA0 := A_2.c 0 rfl
    have cA1 := A_2.c 1 rfl
    have cA2 := A_2.c 2 rfl
    have cA3 := A_2.c 3 rfl
    have cA4 := A_2.c 4 rfl
    have cA5 := A_2.c 5 rfl
    go_wp2_with fail
    have k2 := HG.out w2
    cases c2 : grB g with
    | false =>
      rw [c2] at k2
      have HZ := hide (show meetR sts mix g = false by simp [meetR, c2])
      clear c2
      refine (k2).mono ?_
      rintro e w3 ⟨rfl, hb⟩
      have A_3 := A_2.below hb A_2.lt
      have VS_3 := hide (VS_2.out.below hb)
      have VM_3 := hide (VM_2.out.below hb)
      have B_3 := hide (Below.step B_2.out hb (Nat.le_refl _))
      have hz3 := hb.size
      clear hb
      go_wp2_with fail
      go_ret
      exact ⟨by rw [HZ.out]; rfl, B_3.out⟩
    | true =>
      rw [c2] at k2
      have C2 := hide c2
      clear c2
      refine (k2).mono ?_
      rintro e w3 ⟨rfl, hb⟩
      have A_3 := A_2.below hb A_2.lt
      have VS_3 := hide (VS_2.out.below hb)
      have VM_3 := hide (VM_2.out.below hb)
      have B_3 := hide (Below.step B_2.out hb (Nat.le_refl _))
      have hz3 := hb.size
      clear hb
      have cA0 := A_3.c 0 rfl
      have cA1 := A_3.c 1 rfl
      have cA2 := A_3.c 2 rfl
      have cA3 := A_3.c 3 rfl
      have cA4 := A_3.c 4 rfl
      have cA5 := A_3.c 5 rfl
      obtain ⟨T1, T2⟩ := tons_bd C1.out
      rw [HT.out] at T1 T2
      by_cases hT : 0 < T
      rotate_left
      · have HZ := hide (meet_low (sts := sts) (g := g) (mix := mix) (by rw [HT.out]; exact hT))
        go_wp2_with fail
        go_ret
        exact ⟨by rw [HZ.out]; rfl, B_3.out⟩
      have HE := hide (meet_eq C1.out C2.out (by rw [HT.out]; exact hT))
      rw [HT.out, HA.out, HBB.out, HC.out] at HE
      obtain ⟨⟨q1, q2⟩, ⟨q3, q4⟩, ⟨q5, q6⟩, ⟨q7, q8⟩, ⟨q9, q10⟩, q11, q12⟩ := grB_iff.1 C2.out
      have hw0 : IntKind.i64.wrap (T * g.lc) = g.lc * T := by rw [Int.mul_comm]; exact gr_mul (by omega) (by omega) T1 T2
      have hw1 : IntKind.i64.wrap (T * g.hc) = g.hc * T := by rw [Int.mul_comm]; exact gr_mul (by omega) (by omega) T1 T2
      have hw2 : IntKind.i64.wrap (T * g.lm) = g.lm * T := by rw [Int.mul_comm]; exact gr_mul (by omega) (by omega) T1 T2
      have hw3 : IntKind.i64.wrap (T * g.hm) = g.hm * T := by rw [Int.mul_comm]; exact gr_mul (by omega) (by omega) T1 T2
      have hw4 : IntKind.i64.wrap (T * g.ls) = g.ls * T := by rw [Int.mul_comm]; exact gr_mul (by omega) (by omega) T1 T2
      have hw5 : IntKind.i64.wrap (T * g.hs) = g.hs * T := by rw [Int.mul_comm]; exact gr_mul (by omega) (by omega) T1 T2
      clear q1 q2 q3 q4 q5 q6 q7 q8 q9 q10 q11 q12
      go_wp2_with fail
      have kk := l1In_any a (g.lc * T) (g.hc * T)
      cases d1 : wi a (g.lc * T) (g.hc * T) with
      | false =>
        rw [d1] at kk
        have HZ := hide (show meetR sts mix g = false by rw [HE.out, meetS, d1]; simp)
        clear d1 HE
        refine (kk _).mono ?_
        rintro e wq ⟨rfl, rfl⟩
        clear kk
        go_wp2_with fail
        go_ret
        exact ⟨by rw [HZ.out]; rfl, B_3.out⟩
      | true =>
        rw [d1] at kk
        have D1 := hide d1
        clear d1
        refine (kk _).mono ?_
        rintro e wq ⟨rfl, rfl⟩
        clear kk
        go_wp2_with fail
        have kk := l1In_any b (g.lm * T) (g.hm * T)
        cases d2 : wi b (g.lm * T) (g.hm * T) with
        | false =>
          rw [d2] at kk
          have HZ := hide (show meetR sts mix g = false by rw [HE.out, meetS, d2]; simp)
          clear d2 HE
          refine (kk _).mono ?_
          rintro e wq ⟨rfl, rfl⟩
          clear kk
          go_wp2_with fail
          go_ret
          exact ⟨by rw [HZ.out]; rfl, B_3.out⟩
        | true =>
          rw [d2] at kk
          have D2 := hide d2
          clear d2
          refine (kk _).mono ?_
          rintro e wq ⟨rfl, rfl⟩
          clear kk
          go_wp2_with fail
          have kk := l1In_any c (g.ls * T) (g.hs * T)
          cases d3 : wi c (g.ls * T) (g.hs * T) with
          | false =>
            rw [d3] at kk
            have HZ := hide (show meetR sts mix g = false by rw [HE.out, meetS, d3]; simp)
            clear d3 HE
            refine (kk _).mono ?_
            rintro e wq ⟨rfl, rfl⟩
            clear kk
            go_wp2_with fail
            go_ret
            exact ⟨by rw [HZ.out]; rfl, B_3.out⟩
          | true =>
            rw [d3] at kk
            have D3 := hide d3
            clear d3
            refine (kk _).mono ?_
            rintro e wq ⟨rfl, rfl⟩
            clear kk
            go_wp2_with fail
            have HZ := hide (show meetR sts mix g = true by rw [HE.out, meetS, D1.out, D2.out, D3.out]; rfl)
            go_ret
            exact ⟨by rw [HZ.out]; rfl, B_3.out⟩
def srchC (stv bv : Value) (g : Gr) (M n : Nat) (c : Int) (f : Bool) : List Value :=
  [stv, .int .i64 g.lc, .int .i64 g.hc, .int .i64 g.lm, .int .i64 g.hm, .int .i64 g.ls, .int .i64 g.hs, .slice (some ⟨M, 0, none⟩) n n, bv, .int .i64 c, .bool f]
def bestIs (L : Nat) (w : World) (b : Option (List Int × Int)) (bv : Value) (c : Int) (f : Bool) : Prop :=
  match b with
  | none => f = false ∧ bv = .slice none 0 0
  | some (x, y) => f = true ∧ c = y ∧ OwnE L 3 1 w bv x.length (flatI x)
structure Srch (base L B M : Nat) (w : World) (stv : Value) (sts : List St) (g : Gr) (mix : List Int) (b : Option (List Int × Int)) : Prop where
  box : ∃ bv c f, RowL w B 199 (srchC stv bv g M mix.length c f) ∧ bestIs L w b bv c f
  mix : RowL w M 3 (flatI mix)
  sts : StAt 0 base w stv sts
  hB : base ≤ B ∧ B < L
  hM : base ≤ M ∧ M < L
  hBM : B ≠ M
  hL : L ≤ w.heap.size
theorem bestIs.below {L : Nat} {w w' : World} {b : Option (List Int × Int)} {bv : Value} {c : Int} {f : Bool} (h : bestIs L w b bv c f) (k : Below w.heap.size w w') : bestIs L w' b bv c f := by
  rcases b with _ | ⟨x, y⟩
  · exact h
  · exact ⟨h.1, h.2.1, h.2.2.below k (Nat.le_refl _)⟩
theorem bestIs.other {L a z : Nat} {w w' : World} {b : Option (List Int × Int)} {bv : Value} {c : Int} {f : Bool} (h : bestIs L w b bv c f) (k : Other a z w w') (hz : z ≤ L) : bestIs L w' b bv c f := by
  rcases b with _ | ⟨x, y⟩
  · exact h
  · exact ⟨h.1, h.2.1, h.2.2.other k fun g hg => by have := (h.2.2.lt g hg).1; omega⟩
theorem Srch.below {base L B M : Nat} {w w' : World} {stv : Value} {sts : List St} {g : Gr} {mix : List Int} {b : Option (List Int × Int)} (H : Srch base L B M w stv sts g mix b) (k : Below w.heap.size w w') : Srch base L B M w' stv sts g mix b := by
  obtain ⟨bv, c, f, h1, h2⟩ := H.box
  exact ⟨⟨bv, c, f, h1.below k h1.lt, h2.below k⟩, H.mix.below k H.mix.lt, H.sts.below k, H.hB, H.hM, H.hBM, Nat.le_trans H.hL k.size⟩
theorem Srch.put {base L B M : Nat} {w : World} {stv : Value} {sts : List St} {g : Gr} {mix : List Int} {b : Option (List Int × Int)} (H : Srch base L B M w stv sts g mix b) {j : Nat} (hj : j < mix.length) (x : Int) :
    Srch base L B M (w.setCell ⟨M, j, none⟩ (.int .i64 x)) stv sts g (mix.set j x) b := by
  obtain ⟨bv, c, f, h1, h2⟩ := H.box
  have hO : Other M (M + 1) w (w.setCell ⟨M, j, none⟩ (.int .i64 x)) := (Other.refl _ _ _).setCell (p := ⟨M, j, none⟩) (Nat.le_refl _) (Nat.lt_succ_self _) _
  have hM := H.hM
  have hBM := H.hBM
  refine ⟨⟨bv, c, f, ?_, h2.other hO (by omega)⟩, ?_, H.sts.other hO (.inl hM.1), H.hB, H.hM, H.hBM, by simpa [World.setCell] using H.hL⟩
  · rw [List.length_set]
    exact h1.other hO (by omega)
  · rw [flatI_set]
    exact H.mix.set j _ (by rw [flatI_len]; exact hj)
theorem Srch.keep {base L B M : Nat} {w : World} {stv bv v : Value} {sts : List St} {g : Gr} {mix : List Int} {b : Option (List Int × Int)} {x : Int} {f : Bool} (H : Srch base L B M w stv sts g mix b) (r : RowL w B 199 (srchC stv bv g M mix.length x f)) (o : OwnE L 3 1 w v mix.length (flatI mix)) (y : Int) :
    Srch base L B M (((w.setCell ⟨B, 8, none⟩ v).setCell ⟨B, 9, none⟩ (.int .i64 y)).setCell ⟨B, 10, none⟩ (.bool true)) stv sts g mix (some (mix, y)) ∧ Below base w (((w.setCell ⟨B, 8, none⟩ v).setCell ⟨B, 9, none⟩ (.int .i64 y)).setCell ⟨B, 10, none⟩ (.bool true)) := by
  have hO : Other B (B + 1) w (((w.setCell ⟨B, 8, none⟩ v).setCell ⟨B, 9, none⟩ (.int .i64 y)).setCell ⟨B, 10, none⟩ (.bool true)) :=
    (((Other.refl _ _ _).setCell (p := ⟨B, 8, none⟩) (Nat.le_refl _) (Nat.lt_succ_self _) _).setCell (p := ⟨B, 9, none⟩) (Nat.le_refl _) (Nat.lt_succ_self _) _).setCell (p := ⟨B, 10, none⟩) (Nat.le_refl _) (Nat.lt_succ_self _) _
  have hB := H.hB
  have hBM := H.hBM
  have hL := H.hL
  refine ⟨⟨⟨v, y, true, ?_, rfl, rfl, o.other hO fun k hk => by have := (o.lt k hk).1; omega⟩, H.mix.other hO (by omega), H.sts.other hO (.inl hB.1), H.hB, H.hM, H.hBM, Nat.le_trans hL hO.size⟩, hO.below (B := base) hB.1 (by omega)⟩
  exact ((r.set 8 v (by simp [srchC])).set 9 (.int .i64 y) (by simp [srchC])).set 10 (.bool true) (by simp [srchC])
theorem pileOwn_nil {base : Nat} {w : World} (h : base ≤ w.heap.size) : PileOwn base w (.slice none 0 0) (.slice none 0 0) [] [] :=
  ⟨h, OwnE.own (World.ownsRow_nil _ _ _ _), OwnE.own (World.ownsRow_nil _ _ _ _), fun k e _ => by cases e⟩
theorem ownE_row {base g n cap : Nat} {w : World} {xs : List Int} (H : OwnE base 3 1 w (.slice (some ⟨g, 0, none⟩) n cap) xs.length (flatI xs)) {j : Nat} (hj : j < xs.length) :
    w.cell? ⟨g, j, none⟩ = some (.int .i64 (xs.getD j 0)) ∧ w.frozen? ⟨g, j, none⟩ = false ∧ base ≤ g ∧ g < w.heap.size := by
  rcases H with H | ⟨g', -, -, -, h0, -⟩
  · have hl := H.lt g rfl
    obtain ⟨ao, cap', e, -, -⟩ := own_slice H
    simp only [Value.slice.injEq] at e
    obtain ⟨rfl, rfl, rfl⟩ := e
    refine ⟨?_, H.frozenAt j, hl.1, hl.2⟩
    rw [H.cellAt j (by omega)]
    simp [flatI, hj]
  · omega
theorem PileOwn.form {base : Nat} {w : World} {l h : Value} {lo hi : List Int} (H : PileOwn base w l h lo hi) (t : Bool) {j : Nat} (hj : j < (rowR t lo hi).length) :
    ∃ g cap, rowV t l h = .slice (some ⟨g, 0, none⟩) (rowR t lo hi).length cap := by
  have key : ∀ (v : Value) (xs : List Int), OwnE base 3 1 w v xs.length (flatI xs) → j < xs.length → ∃ g cap, v = .slice (some ⟨g, 0, none⟩) xs.length cap := by
    intro v xs h hx
    rcases h with h | ⟨g, -, -, -, h0, -⟩
    · rcases h.2 with ⟨-, h0⟩ | ⟨g, cap, cur, e, -⟩
      · omega
      · exact ⟨g, cap, e⟩
    · omega
  cases t
  · exact key l lo H.lo hj
  · exact key h hi H.ho hj
theorem PileOwn.cellAt {base g n cap : Nat} {w : World} {l h : Value} {lo hi : List Int} (H : PileOwn base w l h lo hi) {t : Bool} (er : rowV t l h = .slice (some ⟨g, 0, none⟩) n cap) {j : Nat} (hj : j < (rowR t lo hi).length) :
    w.cell? ⟨g, j, none⟩ = some (.int .i64 ((rowR t lo hi).getD j 0)) ∧ w.frozen? ⟨g, j, none⟩ = false ∧ base ≤ g ∧ g < w.heap.size := by
  cases t
  · have e : l = _ := er
    subst e
    exact ownE_row H.lo hj
  · have e : h = _ := er
    subst e
    exact ownE_row H.ho hj
theorem PileOwn.set {base g n cap : Nat} {w : World} {l h : Value} {lo hi : List Int} (H : PileOwn base w l h lo hi) {t : Bool} (er : rowV t l h = .slice (some ⟨g, 0, none⟩) n cap) {j : Nat} (hj : j < (rowR t lo hi).length) (x : Int) :
    PileOwn base (w.setCell ⟨g, j, none⟩ (.int .i64 x)) l h (setR t lo hi (j : Int) x).1 (setR t lo hi (j : Int) x).2 ∧ Other g (g + 1) w (w.setCell ⟨g, j, none⟩ (.int .i64 x)) := by
  cases t
  · have e : l = _ := er
    subst e
    have hj' : j < lo.length := hj
    obtain ⟨h1, h2⟩ := OwnE.put (j := j) H.lo (by omega) (g := g) rfl (.int .i64 x)
    refine ⟨⟨by simpa [World.setCell] using H.hb, ?_, ?_, H.ap⟩, h2⟩
    · have : (setR false lo hi (j : Int) x).1 = lo.set j x := by simp [setR]
      rw [this, flatI_set, List.length_set]; exact h1
    · exact H.ho.other h2 fun k hk => by
        have := H.ap g rfl
        rcases Nat.lt_trichotomy k g with h | h | h
        · exact .inl h
        · subst h; exact absurd hk this
        · exact .inr h
  · have e : h = _ := er
    subst e
    have hj' : j < hi.length := hj
    obtain ⟨h1, h2⟩ := OwnE.put (j := j) H.ho (by omega) (g := g) rfl (.int .i64 x)
    refine ⟨⟨by simpa [World.setCell] using H.hb, ?_, ?_, H.ap⟩, h2⟩
    · exact H.lo.other h2 fun k hk => by
        have := H.ap.symm g rfl
        rcases Nat.lt_trichotomy k g with h | h | h
        · exact .inl h
        · subst h; exact absurd hk this
        · exact .inr h
    · have : (setR true lo hi (j : Int) x).2 = hi.set j x := by simp [setR]
      rw [this, flatI_set, List.length_set]; exact h1
theorem pile_lens {lo hi : List Int} (h : pileB lo hi = true) : lo.length ≤ 1000000 ∧ hi.length ≤ 1000000 := by
  have hv := pileB_iff.1 h
  have := hv.l6
  have := hv.lh
  omega
theorem put_bad {lo hi : List Int} {t : Bool} {p id : Int} (h : pileB lo hi = false) : putR lo hi t p id = (([], []), false) := by simp [putR, h]
theorem put_low {lo hi : List Int} {t : Bool} {p id : Int} (h : pileB lo hi = true) (h2 : id < 1) : putR lo hi t p id = ((lo, hi), false) := by simp [putR, h, h2]
theorem put_full {lo hi : List Int} {t : Bool} {p id : Int} (h : pileB lo hi = true) (h2 : atR lo hi t p ≠ 0) : putR lo hi t p id = ((lo, hi), false) := by simp [putR, h, h2]
theorem put_not {lo hi : List Int} {t : Bool} {p id : Int} (h : pileB lo hi = true) (h2 : atR lo hi t p = 0) (h3 : pileB (setR t lo hi p id).1 (setR t lo hi p id).2 = false) : putR lo hi t p id = ((lo, hi), false) := by
  simp [putR, h, h2, h3]
theorem put_yes {lo hi : List Int} {t : Bool} {p id : Int} (h : pileB lo hi = true) (h1 : ¬ id < 1) (h2 : atR lo hi t p = 0) (h3 : pileB (setR t lo hi p id).1 (setR t lo hi p id).2 = true) : putR lo hi t p id = (setR t lo hi p id, true) := by
  simp [putR, h, h1, h2, h3]
end Go.Proofs.YtmemgbklgcjobaaGreatDoor
