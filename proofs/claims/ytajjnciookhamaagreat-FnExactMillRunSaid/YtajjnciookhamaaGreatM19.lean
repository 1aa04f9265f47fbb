/-
  Parts of the proof, of 3 texts: what BestI, BestF, PileF show. Conditions: each theorem states its own.
-/
import Derived.Test.YtajjnciookhamaaGreatM16
import Derived.Test.YtajjnciookhamaaGreatM09
import Derived.Test.YtajjnciookhamaaGreatM13
import Derived.Test.YtajjnciookhamaaGreatM11
namespace Go.Proofs.YtajjnciookhamaaGreat
open Go.RowKit
/-- The record's cells. -/
def srchC (stv bv : Value) (g : Gr) (M n : Nat) (c : Int) (f : Bool) : List Value :=
  [stv, .int .i64 g.lc, .int .i64 g.hc, .int .i64 g.lm, .int .i64 g.hm, .int .i64 g.ls, .int .i64 g.hs, .slice (some ⟨M, 0, none⟩) n n, bv, .int .i64 c, .bool f]
/-- What the record says of the best mixture. -/
def bestIs (L : Nat) (w : World) (b : Option (List Int × Int)) (bv : Value) (c : Int) (f : Bool) : Prop :=
  match b with
  | none => f = false ∧ bv = .slice none 0 0
  | some (x, y) => f = true ∧ c = y ∧ OwnE L 3 1 w bv x.length (flatI x)
/-- The search at a world: its record in B, the mixture in M. -/
structure Srch (base L B M : Nat) (w : World) (stv : Value) (sts : List St) (g : Gr) (mix : List Int) (b : Option (List Int × Int)) : Prop where
  box : ∃ bv c f, RowL w B 136 (srchC stv bv g M mix.length c f) ∧ bestIs L w b bv c f
  mix : RowL w M 3 (flatI mix)
  sts : StAt 0 base w stv sts
  hB : base ≤ B ∧ B < L
  hM : base ≤ M ∧ M < L
  hBM : B ≠ M
  hL : L ≤ w.heap.size
/-- A row read as a slice. -/
theorem ints_rowL {w : World} {M T : Nat} {xs : List Int} (h : RowL w M T (flatI xs)) (hl : xs.length ≤ 1000000) : IntsAt M (M + 1) w (.slice (some ⟨M, 0, none⟩) xs.length xs.length) xs := by
  refine ⟨_, _, rfl, Nat.le_refl _, by omega, h.lt, fun _ => ⟨M, 0, rfl, Nat.le_refl _, Nat.lt_succ_self _, fun i hi => ?_⟩⟩
  rw [Nat.zero_add]
  refine ⟨?_, h.frozen i⟩
  rw [h.cell i (by rw [flatI_len]; exact hi)]
  simp [flatI, hi]
theorem bestIs.below {L : Nat} {w w' : World} {b : Option (List Int × Int)} {bv : Value} {c : Int} {f : Bool} (h : bestIs L w b bv c f) (k : Below w.heap.size w w') : bestIs L w' b bv c f := by
  rcases b with _ | ⟨x, y⟩
  · exact h
  · exact ⟨h.1, h.2.1, h.2.2.below k (Nat.le_refl _)⟩
theorem bestIs.other {L a z : Nat} {w w' : World} {b : Option (List Int × Int)} {bv : Value} {c : Int} {f : Bool} (h : bestIs L w b bv c f) (k : Other a z w w') (hz : z ≤ L) : bestIs L w' b bv c f := by
  rcases b with _ | ⟨x, y⟩
  · exact h
  · exact ⟨h.1, h.2.1, h.2.2.other k fun g hg => by have := (h.2.2.lt g hg).1; omega⟩
theorem Srch.below {base L B M : Nat} {w w' : World} {stv : Value} {sts : List St} {g : Gr} {mix : List Int} {b : Option (List Int × Int)} (H : Srch base L B M w stv sts g mix b) (k : Below w.heap.size w w') : Srch base L B M w' stv sts g mix b := by
  obtain ⟨bv, c, f, h1, h2⟩ := H.box
  exact ⟨⟨bv, c, f, h1.below k h1.lt, h2.below k⟩, H.mix.below k H.mix.lt, H.sts.below k, H.hB, H.hM, H.hBM, Nat.le_trans H.hL k.size⟩
/-- A cell of the mixture is written. -/
theorem Srch.put {base L B M : Nat} {w : World} {stv : Value} {sts : List St} {g : Gr} {mix : List Int} {b : Option (List Int × Int)} (H : Srch base L B M w stv sts g mix b) {j : Nat} (hj : j < mix.length) (x : Int) :
    Srch base L B M (w.setCell ⟨M, j, none⟩ (.int .i64 x)) stv sts g (mix.set j x) b := by
  obtain ⟨bv, c, f, h1, h2⟩ := H.box
  have hO : Other M (M + 1) w (w.setCell ⟨M, j, none⟩ (.int .i64 x)) := (Other.refl _ _ _).setCell (p := ⟨M, j, none⟩) (Nat.le_refl _) (Nat.lt_succ_self _) _
  have hM := H.hM
  have hBM := H.hBM
  refine ⟨⟨bv, c, f, ?_, h2.other hO (by omega)⟩, ?_, H.sts.other hO (.inl hM.1), H.hB, H.hM, H.hBM, by simpa [World.setCell] using H.hL⟩
  · rw [List.length_set]
    exact h1.other hO (by omega)
  · rw [flatI_set]
    exact H.mix.set j _ (by rw [flatI_len]; exact hj)
/-- A better mixture is kept. -/
theorem Srch.keep {base L B M : Nat} {w : World} {stv bv v : Value} {sts : List St} {g : Gr} {mix : List Int} {b : Option (List Int × Int)} {x : Int} {f : Bool} (H : Srch base L B M w stv sts g mix b) (r : RowL w B 136 (srchC stv bv g M mix.length x f)) (o : OwnE L 3 1 w v mix.length (flatI mix)) (y : Int) :
    Srch base L B M (((w.setCell ⟨B, 8, none⟩ v).setCell ⟨B, 9, none⟩ (.int .i64 y)).setCell ⟨B, 10, none⟩ (.bool true)) stv sts g mix (some (mix, y)) ∧ Below base w (((w.setCell ⟨B, 8, none⟩ v).setCell ⟨B, 9, none⟩ (.int .i64 y)).setCell ⟨B, 10, none⟩ (.bool true)) := by
  have hO : Other B (B + 1) w (((w.setCell ⟨B, 8, none⟩ v).setCell ⟨B, 9, none⟩ (.int .i64 y)).setCell ⟨B, 10, none⟩ (.bool true)) :=
    (((Other.refl _ _ _).setCell (p := ⟨B, 8, none⟩) (Nat.le_refl _) (Nat.lt_succ_self _) _).setCell (p := ⟨B, 9, none⟩) (Nat.le_refl _) (Nat.lt_succ_self _) _).setCell (p := ⟨B, 10, none⟩) (Nat.le_refl _) (Nat.lt_succ_self _) _
  have hB := H.hB
  have hBM := H.hBM
  have hL := H.hL
  refine ⟨⟨⟨v, y, true, ?_, rfl, rfl, o.other hO fun k hk => by have := (o.lt k hk).1; omega⟩, H.mix.other hO (by omega), H.sts.other hO (.inl hB.1), H.hB, H.hM, H.hBM, Nat.le_trans hL hO.size⟩, hO.below (B := base) hB.1 (by omega)⟩
  exact ((r.set 8 v (by simp [srchC])).set 9 (.int .i64 y) (by simp [srchC])).set 10 (.bool true) (by simp [srchC])
set_option linter.unusedSimpArgs false in
set_option maxRecDepth 10000 in
set_option maxHeartbeats 1600000 in
theorem look_any {base L B M : Nat} {w : World} {stv : Value} {sts : List St} {g : Gr} {mix : List Int} {b : Option (List Int × Int)} (H : Srch base L B M w stv sts g mix b) (hv : stsB sts = true) (hlen : mix.length = sts.length) :
    Calls Tryz.prog 125 #[.pointer (some ⟨B, 0, none⟩)] w fun e w' => e = .returned (.tuple #[]) ∧ Srch base L B M w' stv sts g mix (stepM sts g b mix) ∧ Below base w w' := by
  have HLEN := hide hlen
  have HL4 := hide (show mix.length ≤ 1000000 by have := stsB_len hv; omega)
  clear hlen
  have hbz : base ≤ w.heap.size := Nat.le_trans H.hB.1 (Nat.le_trans (Nat.le_of_lt H.hB.2) H.hL)
  have HH := hide H
  obtain ⟨bv, c, f, h1, h2⟩ := H.box
  have hst := H.sts
  clear H
  obtain ⟨aos, cps, rfl, -, -, -, -⟩ := hst
  have HR := hide h1
  have c0 : w.cell? ⟨B, 0, none⟩ = _ := h1.cell 0 (by simp [srchC])
  have c1 : w.cell? ⟨B, 1, none⟩ = _ := h1.cell 1 (by simp [srchC])
  have c2 : w.cell? ⟨B, 2, none⟩ = _ := h1.cell 2 (by simp [srchC])
  have c3 : w.cell? ⟨B, 3, none⟩ = _ := h1.cell 3 (by simp [srchC])
  have c4 : w.cell? ⟨B, 4, none⟩ = _ := h1.cell 4 (by simp [srchC])
  have c5 : w.cell? ⟨B, 5, none⟩ = _ := h1.cell 5 (by simp [srchC])
  have c6 : w.cell? ⟨B, 6, none⟩ = _ := h1.cell 6 (by simp [srchC])
  have c7 : w.cell? ⟨B, 7, none⟩ = _ := h1.cell 7 (by simp [srchC])
  simp only [srchC, List.getD_cons_zero, List.getD_cons_succ] at c0 c1 c2 c3 c4 c5 c6 c7
  have H2 := hide h2
  clear h1 h2
  go_enter Tryz.func125, Tryz.ntmps125
  go_wp2_with fail
  go_still_tail 12, (by kernel_rfl)
  change wpList _ _ _ _ _ w.drew
  go_wp2_with fail
  have HD := HH.out.below (Below.refl _ _).drew
  refine (meets_impl (.slice aos sts.length cps) (.slice (some ⟨M, 0, none⟩) mix.length mix.length) sts mix g w.drew (HD.sts.mono (Nat.le_refl _) (Nat.le_trans HD.hB.1 (Nat.le_trans (Nat.le_of_lt HD.hB.2) HD.hL)) (Nat.le_refl _)) ((ints_rowL HD.mix HL4.out).mono (Nat.zero_le _) HD.mix.lt (Nat.le_refl _))).mono ?_
  rintro e w1 ⟨rfl, hb⟩
  have HK := hide (HD.below hb)
  have B_1 := hide (((Below.refl w.heap.size w).drew).trans hb)
  cases hm : meetR sts mix g with
  | false =>
    have hs : stepM sts g b mix = b := by simp [stepM, hm]
    clear hb
    go_wp2_with fail
    first | refine bodyPost_ret (results_none rfl _ _ _) rfl ?_ | refine bodyPost_end (results_none rfl _ _ _) rfl ?_
    exact ⟨rfl, by rw [hs]; exact HK.out, B_1.out.mono hbz⟩
  | true =>
    clear hb c0 c1 c2 c3 c4 c5 c6 c7
    obtain ⟨bv1, x1, f1, r1, -⟩ := HK.out.box
    have c0 : w1.cell? ⟨B, 0, none⟩ = _ := r1.cell 0 (by simp [srchC])
    have c7 : w1.cell? ⟨B, 7, none⟩ = _ := r1.cell 7 (by simp [srchC])
    simp only [srchC, List.getD_cons_zero, List.getD_cons_succ] at c0 c7
    go_wp2_with fail
    go_still_tail 8, (by kernel_rfl)
    change wpList _ _ _ _ _ w1.drew
    go_wp2_with fail
    have HD1 := HK.out.below (Below.refl _ _).drew
    refine (cost_impl (.slice aos sts.length cps) (.slice (some ⟨M, 0, none⟩) mix.length mix.length) sts mix w1.drew (HD1.sts.mono (Nat.le_refl _) (Nat.le_trans HD1.hB.1 (Nat.le_trans (Nat.le_of_lt HD1.hB.2) HD1.hL)) (Nat.le_refl _)) ((ints_rowL HD1.mix HL4.out).mono (Nat.zero_le _) HD1.mix.lt (Nat.le_refl _))).mono ?_
    rintro e w2 ⟨rfl, hb2⟩
    have HK2 := hide (HD1.below hb2)
    have B_2 := hide (B_1.out.trans (((Below.refl w1.heap.size w1).drew.trans hb2).mono B_1.out.size))
    clear hb2 c0 c7 r1
    obtain ⟨bv2, x2, f2, r2, q2⟩ := HK2.out.box
    have c4 : w2.cell? ⟨B, 9, none⟩ = _ := r2.cell 9 (by simp [srchC])
    have c5 : w2.cell? ⟨B, 10, none⟩ = _ := r2.cell 10 (by simp [srchC])
    have c7 : w2.cell? ⟨B, 7, none⟩ = _ := r2.cell 7 (by simp [srchC])
    simp only [srchC, List.getD_cons_zero, List.getD_cons_succ] at c4 c5 c7
    have hs : stepM sts g b mix = if (!f2 || decide (costR sts mix < x2)) then some (mix, costR sts mix) else b := by
      rcases b with _ | ⟨x, y⟩
      · obtain ⟨rfl, -⟩ := q2; simp [stepM, hm]
      · obtain ⟨rfl, rfl, -⟩ := q2; simp [stepM, hm]
    have HS := hide hs
    clear hs hm q2
    obtain ⟨y, hy⟩ : ∃ y, costR sts mix = y := ⟨_, rfl⟩
    rw [hy] at HS ⊢
    clear hy
    cases f2 with
    | false =>
      go_wp2_with fail
      refine (cloneI_any (.slice (some ⟨M, 0, none⟩) mix.length mix.length) mix M (M + 1) w2 (ints_rowL HK2.out.mix HL4.out) HL4.out).mono ?_
      rintro e w3 ⟨v3, rfl, own, hb3⟩
      have HK3 := hide (HK2.out.below hb3)
      have R_3 := r2.below hb3 r2.lt
      have B_3 := hide (Below.step B_2.out hb3 (Nat.le_refl _))
      have hz3 := hb3.size
      clear hb3
      obtain ⟨a3, p3, rfl, -, -⟩ := own_slice own
      have O_3 := hide own
      clear own
      have d8 : w3.cell? ⟨B, 8, none⟩ = some _ := R_3.cell 8 (by simp [srchC])
      have d9 : w3.cell? ⟨B, 9, none⟩ = some _ := R_3.cell 9 (by simp [srchC])
      have d10 : w3.cell? ⟨B, 10, none⟩ = some _ := R_3.cell 10 (by simp [srchC])
      have e8 := R_3.frozen 8
      have e9 := R_3.frozen 9
      have e10 := R_3.frozen 10
      go_wp2_with fail
      first | refine bodyPost_ret (results_none rfl _ _ _) rfl ?_ | refine bodyPost_end (results_none rfl _ _ _) rfl ?_
      obtain ⟨k1, k2⟩ := HK3.out.keep R_3 ((OwnE.own O_3.out).mono HK2.out.hL) y
      exact ⟨rfl, by rw [HS.out, if_pos (by simp)]; exact k1, (B_3.out.mono hbz).trans k2⟩
    | true =>
    by_cases hlt : y < x2
    · skip
      go_wp2_with fail
      refine (cloneI_any (.slice (some ⟨M, 0, none⟩) mix.length mix.length) mix M (M + 1) w2 (ints_rowL HK2.out.mix HL4.out) HL4.out).mono ?_
      rintro e w3 ⟨v3, rfl, own, hb3⟩
      have HK3 := hide (HK2.out.below hb3)
      have R_3 := r2.below hb3 r2.lt
      have B_3 := hide (Below.step B_2.out hb3 (Nat.le_refl _))
      have hz3 := hb3.size
      clear hb3
      obtain ⟨a3, p3, rfl, -, -⟩ := own_slice own
      have O_3 := hide own
      clear own
      have d8 : w3.cell? ⟨B, 8, none⟩ = some _ := R_3.cell 8 (by simp [srchC])
      have d9 : w3.cell? ⟨B, 9, none⟩ = some _ := R_3.cell 9 (by simp [srchC])
      have d10 : w3.cell? ⟨B, 10, none⟩ = some _ := R_3.cell 10 (by simp [srchC])
      have e8 := R_3.frozen 8
      have e9 := R_3.frozen 9
      have e10 := R_3.frozen 10
      go_wp2_with fail
      first | refine bodyPost_ret (results_none rfl _ _ _) rfl ?_ | refine bodyPost_end (results_none rfl _ _ _) rfl ?_
      obtain ⟨k1, k2⟩ := HK3.out.keep R_3 ((OwnE.own O_3.out).mono HK2.out.hL) y
      exact ⟨rfl, by rw [HS.out, if_pos (by simp [hlt])]; exact k1, (B_3.out.mono hbz).trans k2⟩
    · go_wp2_with fail
      first | refine bodyPost_ret (results_none rfl _ _ _) rfl ?_ | refine bodyPost_end (results_none rfl _ _ _) rfl ?_
      exact ⟨rfl, by rw [HS.out, if_neg (by simp [hlt])]; exact HK2.out, B_2.out.mono hbz⟩
end Go.Proofs.YtajjnciookhamaaGreat
namespace Go.Proofs.YtajjnciookhamaaGreat
open Go.RowKit
theorem set_same0 {mix : List Int} {k : Nat} (h : mix.getD k 0 = 0) (y : Int) : (mix.set k y).set k 0 = mix := by
  rw [List.set_set]
  apply List.ext_getElem (by simp)
  intro i h1 h2
  rw [List.getElem_set]
  split
  · rename_i e
    subst e
    simpa [h2] using h.symm
  · rfl
theorem set_none0 {mix : List Int} {k : Nat} (h : mix.getD k 0 = 0) : mix.set k 0 = mix := by
  apply List.ext_getElem (by simp)
  intro i h1 h2
  rw [List.getElem_set]
  split
  · rename_i e
    subst e
    simpa [h2] using h.symm
  · rfl
theorem take_set1 {mix : List Int} {k : Nat} (h : k < mix.length) (y : Int) : (mix.set k y).take (k + 1) = mix.take k ++ [y] := by
  rw [List.take_succ_eq_append_getElem (by simpa using h), List.take_set_of_le (Nat.le_refl _)]
  simp
theorem Srch.at7 {base L B M : Nat} {w : World} {stv : Value} {sts : List St} {g : Gr} {mix : List Int} {b : Option (List Int × Int)} (H : Srch base L B M w stv sts g mix b) :
    w.cell? ⟨B, 0, none⟩ = some stv ∧ w.cell? ⟨B, 7, none⟩ = some (.slice (some ⟨M, 0, none⟩) mix.length mix.length) ∧ B < w.heap.size := by
  obtain ⟨bv, c, f, h1, -⟩ := H.box
  exact ⟨h1.cell 0 (by simp [srchC]), h1.cell 7 (by simp [srchC]), h1.lt⟩
theorem Srch.atM {base L B M : Nat} {w : World} {stv : Value} {sts : List St} {g : Gr} {mix : List Int} {b : Option (List Int × Int)} (H : Srch base L B M w stv sts g mix b) {k : Nat} (hk : k < mix.length) :
    (∃ v, w.cell? ⟨M, k, none⟩ = some v) ∧ w.frozen? ⟨M, k, none⟩ = false ∧ M < w.heap.size := by
  exact ⟨⟨_, H.mix.cell k (by rw [flatI_len]; exact hk)⟩, H.mix.frozen k, H.mix.lt⟩
set_option linter.unusedSimpArgs false in
set_option maxRecDepth 10000 in
set_option maxHeartbeats 1600000 in
theorem from_any {base L B M : Nat} {stv : Value} {sts : List St} {g : Gr} (hv : stsB sts = true) : ∀ (n idx : Nat), idx + n = sts.length → ∀ (w : World) (mix : List Int) (b : Option (List Int × Int)) (left : Int), Srch base L B M w stv sts g mix b → mix.length = sts.length → (∀ k, idx ≤ k → mix.getD k 0 = 0) → 0 ≤ left → left ≤ 12 →
    Calls Tryz.prog 113 #[.pointer (some ⟨B, 0, none⟩), .int .i64 (idx : Int), .int .i64 left] w fun e w' => e = .returned (.tuple #[]) ∧ Srch base L B M w' stv sts g mix (foldM sts g b (withP (mix.take idx) (allM (stocks sts idx) left))) ∧ Below base w w' := by
  intro n
  induction n with
  | zero =>
    intro idx hn w mix b left H hlen h0 hl0 hl1
    obtain rfl : idx = sts.length := by omega
    have HE := hide (show withP (mix.take sts.length) (allM (stocks sts sts.length) left) = if left = 0 then [mix] else [] by
      rw [stocks_end, allM_end, ← hlen, List.take_length])
    have HLEN := hide hlen
    clear h0 hlen hn
    have HH := hide H
    obtain ⟨aos, cps, rfl, -, -, -, -⟩ := H.sts
    obtain ⟨c0, -, -⟩ := H.at7
    clear H
    go_enter Tryz.func113, Tryz.ntmps113
    by_cases hz : left = 0
    · subst hz
      have HE0 := hide (HE.out.trans (if_pos rfl))
      go_wp2_with fail
      refine (look_any HH.out hv HLEN.out).mono ?_
      rintro e w1 ⟨rfl, k1, k2⟩
      go_wp2_with fail
      first | refine bodyPost_ret (results_none rfl _ _ _) rfl ?_ | refine bodyPost_end (results_none rfl _ _ _) rfl ?_
      exact ⟨rfl, by rw [HE0.out, foldM_one]; exact k1, k2⟩
    · go_wp2_with fail
      first | refine bodyPost_ret (results_none rfl _ _ _) rfl ?_ | refine bodyPost_end (results_none rfl _ _ _) rfl ?_
      exact ⟨rfl, by rw [HE.out, if_neg hz, foldM_nil]; exact HH.out, Below.refl _ _⟩
  | succ n ih =>
    intro idx hn w mix b left H hlen h0 hl0 hl1
    have IH := hide ih
    clear ih
    have hidx : idx < sts.length := by omega
    have hL4 := stsB_len hv
    have HV := hide hv
    clear hv
    have HN := hide hn
    have HLEN := hide hlen
    have H0 := hide h0
    clear hn hlen h0
    have HH := hide H
    obtain ⟨s, hs⟩ : ∃ s, (sts.getD idx st0).k = s := ⟨_, rfl⟩
    have hs9 : 0 ≤ s ∧ s ≤ 9 := by rw [← hs]; exact stB_k (stsB_getD HV.out hidx)
    have HS := hide hs
    obtain ⟨m, hm⟩ : ∃ m : Nat, min left s + 1 = (m : Int) := ⟨(min left s + 1).toNat, by omega⟩
    have HE := hide (show allM (stocks sts idx) left = part (stocks sts (idx + 1)) left m by
      rw [allM_at hidx, hs, hm]; rfl)
    have hidxI : ((idx : Int) == (sts.length : Int)) = false := by rw [beq_eq_false_iff_ne]; omega
    have hiI : (idx : Int) < (sts.length : Int) := by omega
    have hi0 : (0 : Int) ≤ (idx : Int) := by omega
    obtain ⟨b0, o0, cap, rfl, -, -, -⟩ := st_at H.sts hidx
    obtain ⟨c0, -, -⟩ := H.at7
    clear hs H
    go_enter Tryz.func113, Tryz.ntmps113
    go_wp2_with fail
    go_loopw [6] (fun i wr => ∃ (t : Nat) (y : Int), t ≤ m ∧ i = .int .i64 (t : Int) ∧ Srch base L B M wr (.slice (some ⟨b0, o0, none⟩) sts.length cap) sts g (mix.set idx y) (foldM sts g b (withP (mix.take idx) (part (stocks sts (idx + 1)) left t))) ∧ Below base w wr) (fun i _ => m - (intOf i).toNat)
    case atStart =>
      refine ⟨0, 0, by omega, rfl, ?_, Below.refl _ _⟩
      rw [part_zero, show withP (mix.take idx) [] = [] from rfl, foldM_nil, set_none0 (H0.out idx (Nat.le_refl _))]
      exact HH.out
    case round =>
      obtain ⟨t, y, ht, rfl, K, hb⟩ := hrel
      have hml : idx < (mix.set idx y).length := by rw [List.length_set, HLEN.out]; exact hidx
      obtain ⟨b1, o1, cap1, e1, -, -, -, -, -, -, d4⟩ := st_at K.sts hidx
      cases e1
      rw [HS.out] at d4
      obtain ⟨c0, c7, q1⟩ := K.at7
      obtain ⟨⟨u, cM⟩, fM, q2⟩ := K.atM hml
      rw [List.length_set] at c7
      have hMi : (idx : Int) < (mix.length : Int) := by rw [HLEN.out]; exact hiI
      have KK := hide K
      have HB := hide hb
      clear K hb hml
      have hmin : (if s < left then s else left) = (m : Int) - 1 := by split <;> omega
      by_cases hlt : t < m
      · have hle : (t : Int) ≤ min left s := by omega
        have hidx1 : IntKind.i64.wrap ((idx : Int) + 1) = ((idx + 1 : Nat) : Int) := by rw [show (idx : Int) + 1 = ((idx + 1 : Nat) : Int) by omega]; exact IntWalk.i64_in _ (by omega)
        have hlt1 : IntKind.i64.wrap (left - (t : Int)) = left - (t : Int) := IntWalk.i64_in _ (by omega)
        go_wp2_with fail
        refine calls_at fun wx hwx => ?_
        have K2 := hide (show Srch base L B M wx (.slice (some ⟨b0, o0, none⟩) sts.length cap) sts g (mix.set idx (t : Int)) (foldM sts g b (withP (mix.take idx) (part (stocks sts (idx + 1)) left t))) by
          have := KK.out.put (j := idx) (by rw [List.length_set, HLEN.out]; exact hidx) (t : Int)
          rw [List.set_set] at this
          rw [hwx]; simpa using this)
        have HB2 := hide (show Below base w wx by
          rw [hwx]
          exact HB.out.setCell (by have := HH.out.hM; simp; omega) _)
        clear hwx
        refine (IH.out (idx + 1) (by have := HN.out; omega) wx (mix.set idx (t : Int)) _ (left - (t : Int)) K2.out (by rw [List.length_set, HLEN.out]) (fun k hk => ?_) (by omega) (by omega)).mono ?_
        · rw [List.getD_eq_getElem?_getD, List.getElem?_set_ne (by omega), ← List.getD_eq_getElem?_getD]
          exact H0.out k (by omega)
        rintro e w1 ⟨rfl, k1, k2⟩
        rw [take_set1 (by rw [HLEN.out]; exact hidx), ← foldM_append, ← withP_succ] at k1
        have K3 := hide k1
        have HB3 := hide (HB2.out.trans k2)
        clear k1 k2 c0 c7 cM fM d4
        go_wp2_with fail
        go_roundw
        case rel => exact ⟨t + 1, (t : Int), by omega, by go_num, K3.out, HB3.out⟩
        case measure => simp [intOf]; omega
      · obtain rfl : t = m := by omega
        have hle : ¬ (t : Int) ≤ (t : Int) - 1 := by omega
        go_wp2_with fail
        first | refine bodyPost_ret (results_none rfl _ _ _) rfl ?_ | refine bodyPost_end (results_none rfl _ _ _) rfl ?_
        refine ⟨rfl, ?_, ?_⟩
        · have := KK.out.put (j := idx) (by rw [List.length_set, HLEN.out]; exact hidx) 0
          rw [set_same0 (H0.out idx (Nat.le_refl _))] at this
          rw [HE.out]
          simpa using this
        · exact HB.out.setCell (by have := HH.out.hM; simp; omega) _
end Go.Proofs.YtajjnciookhamaaGreat
namespace Go.Proofs.YtajjnciookhamaaGreat
open Go.RowKit
theorem sort_any (base : Nat) (v : Value) (xs : List Int) (w : World) (h : w.ownsRow base 3 1 v xs.length (flatI xs)) (hl : xs.length ≤ 1000) (hb : base ≤ w.heap.size) :
    Calls Tryz.prog 111 #[v] w fun e w' => e = .returned (.tuple #[]) ∧ ∃ ys : List Int, ys.Perm xs ∧ ys.Pairwise (· ≤ ·) ∧ ys.length = xs.length ∧ w'.ownsRow base 3 1 v ys.length (flatI ys) ∧ Below base w w' := by
  rcases id h.2 with ⟨rfl, h0⟩ | ⟨g, cap, cur, rfl, hbg, hg, h1, h2, h3, h4⟩
  · obtain rfl : xs = [] := List.eq_nil_of_length_eq_zero h0
    exact (Tryz.slices_Sort_int_none none 0 w).mono fun e w' ⟨he, hw⟩ => ⟨he, [], List.Perm.refl _, List.Pairwise.nil, rfl, by rw [hw]; exact h, by rw [hw]; exact Below.refl _ _⟩
  · have hlt := (Array.getElem?_eq_some_iff.1 hg).1
    refine (Tryz.slices_Sort_int g 0 cap xs w (holds_of_blockI hg (by rw [Nat.mul_one] at h4; exact h4)) hlt (by omega)).mono ?_
    rintro e w' ⟨he, n, os, rfl⟩
    have hp := List.mergeSort_perm xs fun x y => decide (x ≤ y)
    have hlen := hp.length_eq
    refine ⟨he, _, hp, ?_, hlen, ?_, ?_⟩
    · have := List.pairwise_mergeSort (le := fun x y : Int => decide (x ≤ y)) (fun a b c h1 h2 => by simp at *; omega) (fun a b => by simp; omega) xs
      exact this.imp fun h => by simpa using h
    · rw [hlen]
      have := ownsRow_sortedI (os := os) (n := n) (w := w) hlen hbg hg h1 h2 h3
      exact this
    · exact (Below.refl _ _).grown (grownBy_sortedI _) hb fun k hk => by simp at hk; omega
theorem nz_take {xs : List Int} {k : Nat} (hk : k < xs.length) : nz (xs.take (k + 1)) = if xs[k] = 0 then nz (xs.take k) else nz (xs.take k) ++ [xs[k]] := by
  rw [List.take_succ_eq_append_getElem hk, nz_app]
  split
  · rename_i h; simp [nz, h]
  · rename_i h; simp [nz, h]
theorem nz_len (l : List Int) : (nz l).length ≤ l.length := List.length_filter_le _ _
set_option linter.unusedSimpArgs false in
set_option maxRecDepth 10000 in
set_option maxHeartbeats 1600000 in
theorem coils_impl (l h : Value) (lo hi : List Int) (w : World) (Hl : IntsAt 0 w.heap.size w l lo) (Hh : IntsAt 0 w.heap.size w h hi) :
    Calls Tryz.prog 76 #[pileV l h] w (IntsNew w.heap.size (coilR lo hi) w) := by
  have HL := hide Hl
  have HH := hide Hh
  obtain ⟨ao1, cap1, rfl, -, -, -, -⟩ := Hl
  obtain ⟨ao2, cap2, rfl, -, -, -, -⟩ := Hh
  have hP := fun W H1 H2 => pile_impl (.slice ao1 lo.length cap1) (.slice ao2 hi.length cap2) lo hi W H1 H2
  unfold pileV at hP ⊢
  have HP := hide hP
  obtain ⟨i0, hi0, hz0, hi1, hi2⟩ := info_parts info_int
  clear hP
  go_enter Tryz.func76, Tryz.ntmps76
  go_wp2_with fail
  refine calls_at fun wx hwx => ?_
  have R0 : RowL wx w.heap.size 37 [.slice ao1 lo.length cap1, .slice ao2 hi.length cap2] := by rw [hwx]; exact RowL.new _ _ _
  have hb0 : Below w.heap.size w wx := by rw [hwx]; go_grown
  clear hwx
  refine (HP.out wx ((HL.out.below hb0).mono (Nat.le_refl _) hb0.size (Nat.le_refl _)) ((HH.out.below hb0).mono (Nat.le_refl _) hb0.size (Nat.le_refl _))).mono ?_
  cases hv : pileB lo hi with
  | false =>
    rintro e w1 ⟨rfl, hb1⟩
    have HB1 := hide (Below.step hb0 hb1 (Nat.le_refl _))
    have HF := hide (show coilR lo hi = [] by simp [coilR, hv])
    clear hb1 hv
    go_wp2_with fail
    go_ret
    exact ⟨_, rfl, by rw [HF.out]; exact World.ownsRow_nil _ _ _ _, HB1.out⟩
  | true =>
    rintro e w1 ⟨rfl, hb1⟩
    have HV := hide (pileB_iff.1 hv)
    have HB1 := hide (Below.step hb0 hb1 (Nat.le_refl _))
    have R1 := R0.below hb1 R0.lt
    have hp0 := R1.cell 0 (by simp)
    have hp1 := R1.cell 1 (by simp)
    simp only [List.getD_cons_zero, List.getD_cons_succ] at hp0 hp1
    have q1 := HV.out.l1
    have q2 := HV.out.l6
    have q3 := HV.out.lh
    have hz0' := R1.lt
    clear hb1 hv
    go_wp2_with fail
    refine calls_at fun wy hwy => ?_
    have R2 : RowL wy w1.heap.size 26 [.slice ao1 lo.length cap1, .slice ao2 hi.length cap2] := by rw [hwy]; exact RowL.new _ _ _
    have hby : Below w1.heap.size w1 wy := by rw [hwy]; go_grown
    clear hwy hp0 hp1
    have hBy := Below.step HB1.out hby (Nat.le_refl _)
    refine (concat_any _ _ _ _ lo hi _ R2 ((HL.out.below hBy).mono (Nat.le_refl _) hBy.size (Nat.le_refl _)) ((HH.out.below hBy).mono (Nat.le_refl _) hBy.size (Nat.le_refl _)) (by omega) (by omega)).mono ?_
    rintro e w2 ⟨v, rfl, hown, hb2⟩
    have hat := ownI_at hown rfl hb2.size
    obtain ⟨ids, hids⟩ : ∃ ids, lo ++ hi = ids := ⟨_, rfl⟩
    have hil : ids.length = lo.length + hi.length := by rw [← hids]; simp
    rw [hids] at hat hown
    have HIDS := hide hids
    have HAT := hide hat
    have HB2 := hide (Below.step hBy hb2 (Nat.le_refl _))
    obtain ⟨aov, capv, rfl, -, -⟩ := own_slice hown
    have hl3 : ids.length ≤ 20 := by omega
    clear hown hb2 hids hat hil
    obtain ⟨aov', capv', e', -, -, -, hcv⟩ := HAT.out
    simp only [Value.slice.injEq] at e'
    obtain ⟨rfl, -, rfl⟩ := e'
    have HCV := hide hcv
    have hsz2 := HB2.out.size
    clear hcv
    go_wp2_with fail
    go_loopw [3, 5, 16] (fun o _ i wr => ∃ k : Nat, k ≤ ids.length ∧ i = .int .i64 k ∧ Below w2.heap.size w2 wr ∧ wr.ownsRow w2.heap.size 3 1 o (nz (ids.take k)).length (flatI (nz (ids.take k)))) (fun _ _ i _ => ids.length - (intOf i).toNat)
    case atStart => exact ⟨0, Nat.zero_le _, rfl, Below.refl _ _, World.ownsRow_nil _ _ _ _⟩
    case round =>
      obtain ⟨k, hk, rfl, hb, hown⟩ := hrel
      have HB := hide hb
      have HO := hide hown
      have hnl := nz_len (ids.take k)
      have htk : (ids.take k).length ≤ k := List.length_take_le _ _
      have hszr := hb.size
      obtain ⟨aow, capw, rfl, -, -⟩ := own_slice hown
      clear hown
      by_cases hlt : k < ids.length
      · obtain ⟨b, o, rfl, hx1, hx2, hcs⟩ := HCV.out (by omega)
        obtain ⟨r1, -⟩ := hcs k hlt
        rw [← hb.cell (p := ⟨b, _, none⟩) (by simpa using by omega)] at r1
        have HN := hide (nz_take hlt)
        obtain ⟨x, hx⟩ : ∃ x, ids[k] = x := ⟨_, rfl⟩
        rw [hx] at r1 HN
        have hkI : (k : Int) < (ids.length : Int) := by omega
        clear hcs hx hb
        by_cases hq : x = 0
        · have hqB : (x != 0) = false := by simp [hq]
          have HN2 := hide (show nz (ids.take (k + 1)) = nz (ids.take k) by rw [HN.out, if_pos hq])
          clear hq
          go_wp2_with fail
          go_roundw
          case rel => exact ⟨k + 1, by omega, by go_num, HB.out, by rw [HN2.out]; exact HO.out⟩
          case measure => simp [intOf]; omega
        · have hqB : (x != 0) = true := by simp [hq]
          have HN2 := hide (show nz (ids.take (k + 1)) = nz (ids.take k) ++ [x] by rw [HN.out, if_neg hq])
          clear hq
          go_wp2_with (at_builtin; refine wpList_append_view rfl _ _ 26 rfl w2.heap.size 3 i0 (.int .i64 0) 1 8 Tryz.underlying26 hi0 hz0 hi1 hi2 rfl (by decide) _ _ _ rfl (HO.out.alloc _) (.slice (some ⟨wr.heap.size, 0, none⟩) 1 1) 1 [.int .i64 x] rfl ?c0 ?c1 ?c2 ?c3 ?_)
          case c0 => exact Source.lit wr [.int .i64 x] 1 3 1 rfl (fun u hu => by simp at hu; subst hu; rfl) 1
          case c1 => unfold maxLen; omega
          case c2 => omega
          case c3 => simp; omega
          intro v2 w3 hown2 hgrow2 _
          have hB3 := (HB.out.alloc hszr (.cells #[.int .i64 x] 3)).trans (Below.grow hgrow2 (HO.out.alloc _) (Nat.le_refl _) (by simp; omega))
          have HB3 := hide hB3
          have HO3 := hide (show w3.ownsRow w2.heap.size 3 1 v2 (nz (ids.take (k + 1))).length (flatI (nz (ids.take (k + 1)))) by rw [HN2.out]; simpa [flatI] using hown2)
          clear hown2 hgrow2 hB3
          go_wp2_with fail
          go_roundw
          case rel => exact ⟨k + 1, by omega, by go_num, HB3.out, HO3.out⟩
          case measure => simp [intOf]; omega
      · obtain rfl : k = ids.length := by omega
        rw [List.take_of_length_le (Nat.le_refl _)] at HO ⊢
        have HBr := hide (HB2.out.trans (HB.out.mono hsz2))
        clear hb
        go_wp2_with fail
        refine (sort_any w2.heap.size _ (nz ids) _ HO.out (by have := nz_len ids; omega) hszr).mono ?_
        rintro e w4 ⟨rfl, ys, hp, hs, hly, hown, hb4⟩
        have hc := coil_sorted HV.out (l := ys) (by rw [HIDS.out]; exact hp) hs
        rw [hly] at hown
        have HO4 := hide (show w4.ownsRow w.heap.size 3 1 (.slice aow (nz ids).length capw) (coilR lo hi).length (flatI (coilR lo hi)) by rw [← hc, hly]; exact ownsRow_mono hown hsz2)
        have HB4 := hide (HBr.out.trans (hb4.mono hsz2))
        clear hp hs hly hown hb4 hc
        go_wp2_with fail
        go_ret
        exact ⟨_, rfl, HO4.out, HB4.out⟩
end Go.Proofs.YtajjnciookhamaaGreat
