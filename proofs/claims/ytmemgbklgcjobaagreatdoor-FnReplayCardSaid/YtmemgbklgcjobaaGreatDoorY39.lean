/-
  Parts of the proofs over mills, of: HelpJ, MillG, MixB, BestI, Spot, CutA, CutW, TextD, SepG. Conditions: each theorem states its own.
-/
import Derived.Test.YtmemgbklgcjobaaGreatDoorY37
import Derived.Test.YtmemgbklgcjobaaGreatDoorY38
set_option linter.unusedSimpArgs false
set_option linter.unusedVariables false
set_option maxRecDepth 10000
set_option maxHeartbeats 64000000
namespace Go.Proofs.YtmemgbklgcjobaaGreatDoor
open Go.RowKit
theorem info_J : (Tryz.prog.info? 48).map (fun i => (i.zero, i.size, i.bytes)) = some (some (.agg #[.int .i64 0, .int .i64 0, .int .i64 0]), 3, 24) := by kernel_rfl
def RunGot (base : Nat) (x : Mi × Int) (w : World) (e : Ending) (w' : World) : Prop := ∃ s p l h, e = .returned (.tuple #[millV s p l h x.1, .int .i64 x.2]) ∧ MillGot base w' s p l h x.1 ∧ Below base w w'
theorem mix_60 {sts : List St} {mix : List Int} (h : mixB sts mix = true) : ∀ k, k < mix.length → 0 ≤ mix.getD k 0 ∧ mix.getD k 0 ≤ 60 := fun k hk => by
 have := mix_bd h hk;omega
theorem meets_impl (sv mv : Value) (sts : List St) (mix : List Int) (g : Gr) (w : World) (Hs : StAt 0 w.heap.size w sv sts) (Hm : IntsAt 0 w.heap.size w mv mix) :
 Calls Tryz.prog 246 #[sv, mv, grV g] w fun e w' => e = .returned (.bool (meetR sts mix g)) ∧ Below w.heap.size w w' := by
 have HS := hide Hs;have HM := hide Hm;clear Hs Hm;have HV := hide (fun W H1 H2 => mixv_impl sv mv sts mix W H1 H2);have HU := hide (fun W H1 H2 => sums_impl sv mv sts mix W H1 H2);have hg := fun W => grv_impl g W;unfold grV at hg ⊢;have HG := hide hg;clear hg;go_enter Tryz.func246, Tryz.ntmps246;go_wp2_with fail
 refine calls_at fun wx hwx => ?_;have A_0 : RowL wx (w.heap.size) 25 [.int .i64 g.lc, .int .i64 g.hc, .int .i64 g.lm, .int .i64 g.hm, .int .i64 g.ls, .int .i64 g.hs] := by rw [hwx]; exact (RowL.new _ _ _)
 have B_0 : Below w.heap.size w wx := by rw [hwx]; go_grown
 clear hwx;have hL0 := A_0.lt;have VS_0 := hide (HS.out.below B_0);have VM_0 := hide (HM.out.below B_0);have k1 := HV.out wx ((VS_0.out).mono nl (VS_0.out).lt nl) ((VM_0.out).mono nl (VM_0.out).lt nl);cases c1 : mixB sts mix with
 | false =>
  rw [c1] at k1;have HZ := hide (show meetR sts mix g = false by simp [meetR, c1]);clear c1;refine (k1).mono ?_;rintro e w1 ⟨rfl, hb⟩;have A_1 := A_0.below hb A_0.lt;have VS_1 := hide (VS_0.out.below hb);have VM_1 := hide (VM_0.out.below hb);have B_1 := hide (Below.step B_0 hb nl);have hz1 := hb.size;clear hb;go_wp2_with fail
  go_ret;exact ⟨by rw [HZ.out]; rfl, B_1.out⟩
 | true =>
  rw [c1] at k1;have C1 := hide c1;have hl4 := mix_len4 c1;clear c1;refine (k1).mono ?_;rintro e w1 ⟨rfl, hb⟩;have A_1 := A_0.below hb A_0.lt;have VS_1 := hide (VS_0.out.below hb);have VM_1 := hide (VM_0.out.below hb);have B_1 := hide (Below.step B_0 hb nl);have hz1 := hb.size;clear hb;have cA0 := A_1.c 0 rfl;have cA1 := A_1.c 1 rfl;have cA2 := A_1.c 2 rfl;have cA3 := A_1.c 3 rfl;have cA4 := A_1.c 4 rfl;have cA5 := A_1.c 5 rfl;go_wp2_with fail
  have k2 := HG.out w1;cases c2 : grB g with
  | false =>
   rw [c2] at k2;have HZ := hide (show meetR sts mix g = false by simp [meetR, c2]);clear c2;refine (k2).mono ?_;rintro e w2 ⟨rfl, hb⟩;have A_2 := A_1.below hb A_1.lt;have VS_2 := hide (VS_1.out.below hb);have VM_2 := hide (VM_1.out.below hb);have B_2 := hide (Below.step B_1.out hb nl);have hz2 := hb.size;clear hb;go_wp2_with fail
   go_ret;exact ⟨by rw [HZ.out]; rfl, B_2.out⟩
  | true =>
   rw [c2] at k2;have C2 := hide c2;clear c2;refine (k2).mono ?_;rintro e w2 ⟨rfl, hb⟩;have A_2 := A_1.below hb A_1.lt;have VS_2 := hide (VS_1.out.below hb);have VM_2 := hide (VM_1.out.below hb);have B_2 := hide (Below.step B_1.out hb nl);have hz2 := hb.size;clear hb;go_wp2_with fail
   have k3 := hide (tons_impl mv mix _ _ w2 VM_2.out hl4 (mix_60 C1.out));refine k3.out.mono ?_;rintro e wq ⟨rfl, rfl⟩;obtain ⟨T1, T2⟩ := tons_bd C1.out;by_cases hT : 0 < tonsR mix;rotate_left
   ·have HZ := hide (meet_low (sts := sts) (g := g) hT)
    obtain ⟨T, hTT⟩ : ∃ T, tonsR mix = T := ⟨_, rfl⟩;rw [hTT] at hT T1 T2 ⊢;have hT1 : T < 1 := by omega
    clear hTT;go_wp2_with fail
    go_ret;exact ⟨by rw [HZ.out]; rfl, B_2.out⟩
   have HE := hide (meet_eq C1.out C2.out hT);have k4 := HU.out w2 ((VS_2.out).mono nl (VS_2.out).lt nl) ((VM_2.out).mono nl (VM_2.out).lt nl);obtain ⟨T, hTT⟩ : ∃ T, tonsR mix = T := ⟨_, rfl⟩;obtain ⟨a, ha⟩ : ∃ a, sumsR St.c sts mix = a := ⟨_, rfl⟩;obtain ⟨b, hb⟩ : ∃ b, sumsR St.m sts mix = b := ⟨_, rfl⟩;obtain ⟨c, hc⟩ : ∃ c, sumsR St.s sts mix = c := ⟨_, rfl⟩;rw [hTT] at hT T1 T2 HE ⊢;rw [ha, hb, hc] at HE k4;have hT1 : ¬ T < 1 := by omega
   have HK4 := hide k4;clear hTT ha hb hc k4;go_wp2_with fail
   refine (HK4.out).mono ?_;rintro e w3 ⟨rfl, hb⟩;have A_3 := A_2.below hb A_2.lt;have VS_3 := hide (VS_2.out.below hb);have VM_3 := hide (VM_2.out.below hb);have B_3 := hide (Below.step B_2.out hb nl);have hz3 := hb.size;clear hb;have cA0 := A_3.c 0 rfl;have cA1 := A_3.c 1 rfl;have cA2 := A_3.c 2 rfl;have cA3 := A_3.c 3 rfl;have cA4 := A_3.c 4 rfl;have cA5 := A_3.c 5 rfl;obtain ⟨⟨q1, q2⟩, ⟨q3, q4⟩, ⟨q5, q6⟩, ⟨q7, q8⟩, ⟨q9, q10⟩, q11, q12⟩ := grB_iff.1 C2.out;have hw0 : IntKind.i64.wrap (g.lc * T) = g.lc * T := gr_mul (by omega) (by omega) T1 T2;have hw1 : IntKind.i64.wrap (g.hc * T) = g.hc * T := gr_mul (by omega) (by omega) T1 T2;have hw2 : IntKind.i64.wrap (g.lm * T) = g.lm * T := gr_mul (by omega) (by omega) T1 T2;have hw3 : IntKind.i64.wrap (g.hm * T) = g.hm * T := gr_mul (by omega) (by omega) T1 T2;have hw4 : IntKind.i64.wrap (g.ls * T) = g.ls * T := gr_mul (by omega) (by omega) T1 T2;have hw5 : IntKind.i64.wrap (g.hs * T) = g.hs * T := gr_mul (by omega) (by omega) T1 T2;clear q1 q2 q3 q4 q5 q6 q7 q8 q9 q10 q11 q12 hT hT1;go_wp2_with fail
   have kk := within_any a (g.lc * T) (g.hc * T);cases d1 : wi a (g.lc * T) (g.hc * T) with
   | false =>
    rw [d1] at kk;have HZ := hide (show meetR sts mix g = false by rw [HE.out, meetS, d1]; simp);clear d1 HE;refine (kk _).mono ?_;rintro e wq ⟨rfl, rfl⟩;clear kk;go_wp2_with fail
    go_ret;exact ⟨by rw [HZ.out]; rfl, B_3.out⟩
   | true =>
    rw [d1] at kk;have D1 := hide d1;clear d1;refine (kk _).mono ?_;rintro e wq ⟨rfl, rfl⟩;clear kk;go_wp2_with fail
    have kk := within_any b (g.lm * T) (g.hm * T);cases d2 : wi b (g.lm * T) (g.hm * T) with
    | false =>
     rw [d2] at kk;have HZ := hide (show meetR sts mix g = false by rw [HE.out, meetS, d2]; simp);clear d2 HE;refine (kk _).mono ?_;rintro e wq ⟨rfl, rfl⟩;clear kk;go_wp2_with fail
     go_ret;exact ⟨by rw [HZ.out]; rfl, B_3.out⟩
    | true =>
     rw [d2] at kk;have D2 := hide d2;clear d2;refine (kk _).mono ?_;rintro e wq ⟨rfl, rfl⟩;clear kk;go_wp2_with fail
     have kk := within_any c (g.ls * T) (g.hs * T);cases d3 : wi c (g.ls * T) (g.hs * T) with
     | false =>
      rw [d3] at kk;have HZ := hide (show meetR sts mix g = false by rw [HE.out, meetS, d3]; simp);clear d3 HE;refine (kk _).mono ?_;rintro e wq ⟨rfl, rfl⟩;clear kk;go_wp2_with fail
      go_ret;exact ⟨by rw [HZ.out]; rfl, B_3.out⟩
     | true =>
      rw [d3] at kk;have D3 := hide d3;clear d3;refine (kk _).mono ?_;rintro e wq ⟨rfl, rfl⟩;clear kk;go_wp2_with fail
      have HZ := hide (show meetR sts mix g = true by rw [HE.out, meetS, D1.out, D2.out, D3.out]; rfl);go_ret;exact ⟨by rw [HZ.out]; rfl, B_3.out⟩
theorem ints_rowL {w : World} {M T : Nat} {xs : List Int} (h : RowL w M T (flatI xs)) (hl : xs.length ≤ 1000000) : IntsAt M (M + 1) w (.slice (some ⟨M, 0, none⟩) xs.length xs.length) xs := by
 refine ⟨_, _, rfl, Nat.le_refl _, by omega, h.lt, fun _ => ⟨M, 0, rfl, Nat.le_refl _, Nat.lt_succ_self _, fun i hi => ?_⟩⟩;rw [Nat.zero_add];refine ⟨?_, h.frozen i⟩;rw [h.cell i (by rw [flatI_len]; exact hi)];simp [flatI, hi]
theorem look_any {base L B M : Nat} {w : World} {stv : Value} {sts : List St} {g : Gr} {mix : List Int} {b : Option (List Int × Int)} (H : Srch base L B M w stv sts g mix b) (hv : stsB sts = true) (hlen : mix.length = sts.length) :
 Calls Tryz.prog 232 #[.pointer (some ⟨B, 0, none⟩)] w fun e w' => e = .returned (.tuple #[]) ∧ Srch base L B M w' stv sts g mix (stepM sts g b mix) ∧ Below base w w' := by
 have HLEN := hide hlen;have HL4 := hide (show mix.length ≤ 1000000 by have := stsB_len hv; omega);clear hlen;have hbz : base ≤ w.heap.size := Nat.le_trans H.hB.1 (Nat.le_trans (Nat.le_of_lt H.hB.2) H.hL);have HH := hide H;obtain ⟨bv, c, f, h1, h2⟩ := H.box;have hst := H.sts;clear H;obtain ⟨aos, cps, rfl, -, -, -, -⟩ := hst;have HR := hide h1;have c0 : w.cell? ⟨B, 0, none⟩ = _ := h1.cell 0 (by simp [srchC]);have c1 : w.cell? ⟨B, 1, none⟩ = _ := h1.cell 1 (by simp [srchC]);have c2 : w.cell? ⟨B, 2, none⟩ = _ := h1.cell 2 (by simp [srchC]);have c3 : w.cell? ⟨B, 3, none⟩ = _ := h1.cell 3 (by simp [srchC]);have c4 : w.cell? ⟨B, 4, none⟩ = _ := h1.cell 4 (by simp [srchC]);have c5 : w.cell? ⟨B, 5, none⟩ = _ := h1.cell 5 (by simp [srchC]);have c6 : w.cell? ⟨B, 6, none⟩ = _ := h1.cell 6 (by simp [srchC]);have c7 : w.cell? ⟨B, 7, none⟩ = _ := h1.cell 7 (by simp [srchC]);simp only [srchC, List.getD_cons_zero, List.getD_cons_succ] at c0 c1 c2 c3 c4 c5 c6 c7;have H2 := hide h2;clear h1 h2;go_enter Tryz.func232, Tryz.ntmps232;go_wp2_with fail
 go_still_tail 12, (by kernel_rfl)
 change wpList _ _ _ _ _ w.drew;go_wp2_with fail
 have HD := HH.out.below (Below.refl _ _).drew;refine (meets_impl (.slice aos sts.length cps) (.slice (some ⟨M, 0, none⟩) mix.length mix.length) sts mix g w.drew (HD.sts.mono nl (Nat.le_trans HD.hB.1 (Nat.le_trans (Nat.le_of_lt HD.hB.2) HD.hL)) nl) ((ints_rowL HD.mix HL4.out).mono (Nat.zero_le _) HD.mix.lt nl)).mono ?_;rintro e w1 ⟨rfl, hb⟩;have HK := hide (HD.below hb);have B_1 := hide (((Below.refl w.heap.size w).drew).trans hb);cases hm : meetR sts mix g with
 | false =>
  have hs : stepM sts g b mix = b := by simp [stepM, hm]
  clear hb;go_wp2_with fail
  first | refine bodyPost_ret (results_none rfl _ _ _) rfl ?_ | refine bodyPost_end (results_none rfl _ _ _) rfl ?_
  exact ⟨rfl, by rw [hs]; exact HK.out, B_1.out.mono hbz⟩
 | true =>
  clear hb c0 c1 c2 c3 c4 c5 c6 c7;obtain ⟨bv1, x1, f1, r1, -⟩ := HK.out.box;have c0 : w1.cell? ⟨B, 0, none⟩ = _ := r1.cell 0 (by simp [srchC]);have c7 : w1.cell? ⟨B, 7, none⟩ = _ := r1.cell 7 (by simp [srchC]);simp only [srchC, List.getD_cons_zero, List.getD_cons_succ] at c0 c7;go_wp2_with fail
  go_still_tail 8, (by kernel_rfl)
  change wpList _ _ _ _ _ w1.drew;go_wp2_with fail
  have HD1 := HK.out.below (Below.refl _ _).drew;refine (cost_impl (.slice aos sts.length cps) (.slice (some ⟨M, 0, none⟩) mix.length mix.length) sts mix w1.drew (HD1.sts.mono nl (Nat.le_trans HD1.hB.1 (Nat.le_trans (Nat.le_of_lt HD1.hB.2) HD1.hL)) nl) ((ints_rowL HD1.mix HL4.out).mono (Nat.zero_le _) HD1.mix.lt nl)).mono ?_;rintro e w2 ⟨rfl, hb2⟩;have HK2 := hide (HD1.below hb2);have B_2 := hide (B_1.out.trans (((Below.refl w1.heap.size w1).drew.trans hb2).mono B_1.out.size));clear hb2 c0 c7 r1;obtain ⟨bv2, x2, f2, r2, q2⟩ := HK2.out.box;have c4 : w2.cell? ⟨B, 9, none⟩ = _ := r2.cell 9 (by simp [srchC]);have c5 : w2.cell? ⟨B, 10, none⟩ = _ := r2.cell 10 (by simp [srchC]);have c7 : w2.cell? ⟨B, 7, none⟩ = _ := r2.cell 7 (by simp [srchC]);simp only [srchC, List.getD_cons_zero, List.getD_cons_succ] at c4 c5 c7;have hs : stepM sts g b mix = if (!f2 || decide (costR sts mix < x2)) then some (mix, costR sts mix) else b := by
   rcases b with _ | ⟨x, y⟩
   ·obtain ⟨rfl, -⟩ := q2; simp [stepM, hm]
   ·obtain ⟨rfl, rfl, -⟩ := q2; simp [stepM, hm]
  have HS := hide hs;clear hs hm q2;obtain ⟨y, hy⟩ : ∃ y, costR sts mix = y := ⟨_, rfl⟩;rw [hy] at HS ⊢;clear hy;cases f2 with
  | false =>
   go_wp2_with fail
   refine (cloneI_any (.slice (some ⟨M, 0, none⟩) mix.length mix.length) mix M (M + 1) w2 (ints_rowL HK2.out.mix HL4.out) HL4.out).mono ?_;rintro e w3 ⟨v3, rfl, own, hb3⟩;have HK3 := hide (HK2.out.below hb3);have R_3 := r2.below hb3 r2.lt;have B_3 := hide (Below.step B_2.out hb3 nl);have hz3 := hb3.size;clear hb3;obtain ⟨a3, p3, rfl, -, -⟩ := own_slice own;have O_3 := hide own;clear own;have d8 : w3.cell? ⟨B, 8, none⟩ = some _ := R_3.cell 8 (by simp [srchC]);have d9 : w3.cell? ⟨B, 9, none⟩ = some _ := R_3.cell 9 (by simp [srchC]);have d10 : w3.cell? ⟨B, 10, none⟩ = some _ := R_3.cell 10 (by simp [srchC]);have e8 := R_3.frozen 8;have e9 := R_3.frozen 9;have e10 := R_3.frozen 10;go_wp2_with fail
   first | refine bodyPost_ret (results_none rfl _ _ _) rfl ?_ | refine bodyPost_end (results_none rfl _ _ _) rfl ?_
   obtain ⟨k1, k2⟩ := HK3.out.keep R_3 ((OwnE.own O_3.out).mono HK2.out.hL) y;exact ⟨rfl, by rw [HS.out, if_pos (by simp)]; exact k1, (B_3.out.mono hbz).trans k2⟩
  | true =>
  by_cases hlt : y < x2
  ·skip
   go_wp2_with fail
   refine (cloneI_any (.slice (some ⟨M, 0, none⟩) mix.length mix.length) mix M (M + 1) w2 (ints_rowL HK2.out.mix HL4.out) HL4.out).mono ?_;rintro e w3 ⟨v3, rfl, own, hb3⟩;have HK3 := hide (HK2.out.below hb3);have R_3 := r2.below hb3 r2.lt;have B_3 := hide (Below.step B_2.out hb3 nl);have hz3 := hb3.size;clear hb3;obtain ⟨a3, p3, rfl, -, -⟩ := own_slice own;have O_3 := hide own;clear own;have d8 : w3.cell? ⟨B, 8, none⟩ = some _ := R_3.cell 8 (by simp [srchC]);have d9 : w3.cell? ⟨B, 9, none⟩ = some _ := R_3.cell 9 (by simp [srchC]);have d10 : w3.cell? ⟨B, 10, none⟩ = some _ := R_3.cell 10 (by simp [srchC]);have e8 := R_3.frozen 8;have e9 := R_3.frozen 9;have e10 := R_3.frozen 10;go_wp2_with fail
   first | refine bodyPost_ret (results_none rfl _ _ _) rfl ?_ | refine bodyPost_end (results_none rfl _ _ _) rfl ?_
   obtain ⟨k1, k2⟩ := HK3.out.keep R_3 ((OwnE.own O_3.out).mono HK2.out.hL) y;exact ⟨rfl, by rw [HS.out, if_pos (by simp [hlt])]; exact k1, (B_3.out.mono hbz).trans k2⟩
  ·go_wp2_with fail
   first | refine bodyPost_ret (results_none rfl _ _ _) rfl ?_ | refine bodyPost_end (results_none rfl _ _ _) rfl ?_
   exact ⟨rfl, by rw [HS.out, if_neg (by simp [hlt])]; exact HK2.out, B_2.out.mono hbz⟩
theorem spotN_impl (n : Int) (w : World) (h1 : 0 ≤ n) (h2 : n ≤ 9223372036854775807) :
 Calls Tryz.prog 166 #[.int .i64 n] w fun e w' => e = .returned (.agg #[.bool (spotTop n), .int .i64 (spotPlace n)]) ∧ Below w.heap.size w w' := by
 have hneg : ¬ n < 0 := by omega
 go_enter Tryz.func166, Tryz.ntmps166
 go_wp2
 go_returns
 exact ⟨by simp [spotTop, spotPlace, hneg] <;> omega, by go_grown⟩
theorem lens_impl (v : Value) (a b : Int) (lo hi : Nat) (w : World) (H : IntsAt lo hi w v [a, b]) :
 Calls Tryz.prog 161 #[v] w fun e w' => e = .returned (.bool (lensB a b)) ∧ w = w' := by
 obtain ⟨b0, o0, cap, rfl, -, -, c0, c1⟩ := two_at H;clear H;have HW := hide (fun n l h W => within_any n l h W);go_enter Tryz.func161, Tryz.ntmps161;go_wp2_with fail
 refine (HW.out 2 1 4 w).mono ?_;rintro e w1 ⟨rfl, rfl⟩;have hw : wi 2 1 4 = true := by decide
 rw [hw];go_wp2_with fail
 go_loop [3, 5, 12] (fun p _ i => (i = .int .i64 0 ∧ p = .int .i64 0) ∨ (i = .int .i64 1 ∧ p = .int .i64 a ∧ wi a 1 60 = true) ∨ (i = .int .i64 2 ∧ p = .int .i64 b ∧ lensB a b = true)) (fun _ _ i => 2 - (intOf i).toNat)
 case atStart => exact .inl ⟨rfl, rfl⟩
 case round =>
  rcases hrel with ⟨rfl, rfl⟩ | ⟨rfl, rfl, h⟩ | ⟨rfl, rfl, h⟩
  ·go_wp2_with fail
   refine (HW.out a 1 60 w).mono ?_;rintro e w1 ⟨rfl, rfl⟩;cases h : wi a 1 60 with
   | false =>
    go_wp2_with fail
    go_ret;simp [lensB, h]
   | true =>
    go_wp2_with fail
    go_round
    case rel => exact .inr (.inl ⟨rfl, rfl, h⟩)
    case measure => simp [intOf]
  ·have ha := (wi_iff.1 h)
   have hp : IntKind.i64.wrap (a + 1) = a + 1 := IntWalk.i64_in _ (by omega);go_wp2_with fail
   refine (HW.out b (a + 1) 60 w).mono ?_;rintro e w1 ⟨rfl, rfl⟩;cases h2 : wi b (a + 1) 60 with
   | false =>
    go_wp2_with fail
    go_ret;simp [lensB, h2]
   | true =>
    go_wp2_with fail
    go_round
    case rel => exact .inr (.inr ⟨rfl, rfl, by simp [lensB, h, h2]⟩)
    case measure => simp [intOf]
  ·go_wp2_with fail
   go_ret;simp [h]
theorem cutWaste_impl (v mv : Value) (a b : Int) (lo hi lo2 hi2 L : Nat) (hL : L ≤ 60) (hv : lensB a b = true) (w : World) (H : IntsAt lo hi w v [a, b]) (H2 : IntsAt lo2 hi2 w mv (manyL L a b)) :
 Calls Tryz.prog 163 #[.int .i64 (L : Int), v, mv] w fun e w' => e = .returned (.int .i64 (wasteR L a b)) ∧ w = w' := by
 have HV := hide hv;obtain ⟨⟨ha1, ha2⟩, hb1, hb2⟩ := lensB_iff.1 hv;obtain ⟨hn0, hn1⟩ := many_bd hv (show (0 : Int) ≤ L by omega);obtain ⟨hs0, hs1, hs2⟩ := many_sums (L := L) hv;have hlen := lens_impl v a b lo hi w H;rw [hv] at hlen;have HLN := hide hlen;obtain ⟨b0, o0, cap, rfl, -, -, c0, c1⟩ := two_at H;have hR : wasteR L a b = L - many0 L a b * a - many1 L a b * b := rfl;unfold manyL at H2;obtain ⟨n0, hn0e⟩ : ∃ n : Nat, many0 L a b = n := ⟨_, rfl⟩;obtain ⟨n1, hn1e⟩ : ∃ n : Nat, many1 L a b = n := ⟨_, rfl⟩;rw [hn0e, hn1e] at H2 hR;rw [hn0e] at hn1 hs0 hs2;rw [hn1e] at hn0 hs1 hs2;obtain ⟨b2, o2, cap2, rfl, -, -, m0, m1⟩ := two_at H2;have hq := fun W => within_any (L : Int) 0 60 W;rw [show wi (L : Int) 0 60 = true from wi_iff.2 (by omega)] at hq;have hq0 := fun W => within_any (n0 : Int) 0 (L : Int) W;rw [show wi (n0 : Int) 0 (L : Int) = true from wi_iff.2 (by omega)] at hq0;have hq1 := fun W => within_any (n1 : Int) 0 (L : Int) W;rw [show wi (n1 : Int) 0 (L : Int) = true from wi_iff.2 (by omega)] at hq1;have HQ := hide hq;have HQ0 := hide hq0;have HQ1 := hide hq1;obtain ⟨p0, hp0⟩ : ∃ p, (n0 : Int) * a = p := ⟨_, rfl⟩;obtain ⟨p1, hp1⟩ : ∃ p, (n1 : Int) * b = p := ⟨_, rfl⟩;rw [hp0] at hs0 hs2;rw [hp1] at hs1 hs2;have hR2 : wasteR L a b = L - p0 - p1 := by rw [hR, hp0, hp1]
 rw [hR2];have w0 : IntKind.i64.wrap ((n0 : Int) * a) = p0 := by rw [hp0]; exact IntWalk.i64_in _ (by omega)
 have w1 : IntKind.i64.wrap ((n1 : Int) * b) = p1 := by rw [hp1]; exact IntWalk.i64_in _ (by omega)
 have w2 : IntKind.i64.wrap ((L : Int) - p0) = (L : Int) - p0 := IntWalk.i64_in _ (by omega);have w3 : IntKind.i64.wrap ((L : Int) - p0 - p1) = (L : Int) - p0 - p1 := IntWalk.i64_in _ (by omega);have hnn : ¬ (L : Int) - p0 - p1 < -1 := by omega
 clear hn0e hn1e hR hR2 hp0 hp1 H H2 hlen hq hq0 hq1 hv;go_enter Tryz.func163, Tryz.ntmps163;go_wp2_with fail
 refine (HQ.out w).mono ?_;rintro e w1 ⟨rfl, rfl⟩;go_wp2_with fail
 refine HLN.out.mono ?_;rintro e w1 ⟨rfl, rfl⟩;go_wp2_with fail
 go_loop [7, 8, 9, 28] (fun x _ _ i => (i = .int .i64 0 ∧ x = .int .i64 (L : Int)) ∨ (i = .int .i64 1 ∧ x = .int .i64 ((L : Int) - p0)) ∨ (i = .int .i64 2 ∧ x = .int .i64 ((L : Int) - p0 - p1))) (fun _ _ _ i => 2 - (intOf i).toNat)
 case atStart => exact .inl ⟨rfl, rfl⟩
 case round =>
  rcases hrel with ⟨rfl, rfl⟩ | ⟨rfl, rfl⟩ | ⟨rfl, rfl⟩
  ·go_wp2_with fail
   refine (HQ0.out w).mono ?_;rintro e w1 ⟨rfl, rfl⟩;go_wp2_with fail
   go_round
   case rel => exact .inr (.inl ⟨rfl, rfl⟩)
   case measure => simp [intOf]
  ·go_wp2_with fail
   refine (HQ1.out w).mono ?_;rintro e w1 ⟨rfl, rfl⟩;go_wp2_with fail
   go_round
   case rel => exact .inr (.inr ⟨rfl, rfl⟩)
   case measure => simp [intOf]
  ·go_wp2_with fail
   go_ret;have hmx : max ((L : Int) - p0 - p1) (-1) = (L : Int) - p0 - p1 := by omega
   simp [hmx]
def cut32 : List UInt8 → List (List UInt8)
 | [] => [[]]
 | b :: l => if b = 32 then [] :: cut32 l else glue [b] (cut32 l)
theorem glue_ne (p : List UInt8) (c : List (List UInt8)) : glue p c ≠ [] := by cases c <;> simp [glue]
theorem cut32_ne (l : List UInt8) : cut32 l ≠ [] := by
 cases l with
 | nil => simp [cut32]
 | cons b l => rw [cut32]; split <;> simp [glue_ne]
theorem glue_nil {c : List (List UInt8)} (h : c ≠ []) : glue [] c = c := by cases c <;> simp_all [glue]
theorem glue_glue (p : List UInt8) (b : UInt8) (c : List (List UInt8)) (h : c ≠ []) : glue p (glue [b] c) = glue (p ++ [b]) c := by cases c <;> simp_all [glue]
theorem glue_sep (p : List UInt8) (l : List UInt8) : glue p (cut32 (32 :: l)) = p :: cut32 l := by
 rw [cut32, if_pos rfl]; simp [glue]
theorem glue_other (p : List UInt8) (b : UInt8) (l : List UInt8) (h : b ≠ 32) : glue p (cut32 (b :: l)) = glue (p ++ [b]) (cut32 l) := by
 rw [cut32, if_neg h, glue_glue _ _ _ (cut32_ne l)]
theorem OwnStr.grown {base : Nat} {w w' : World} {v v' : Value} {xs : List ByteArray} {y : ByteArray} {o : Obj} (hw : OwnStr base w v xs) (hz : base ≤ w.heap.size)
 (hown : w'.ownsRow base 9 1 v' (xs.length + 1) (xs.map Value.string ++ [.string y])) (hg : (w.alloc o).grownBy w' v.ownBlock) :
 Below base w w' ∧ OwnStr base w' v' (xs ++ [y]) := by
 have hB : Below base w w' := ((Below.refl _ _).alloc hz _).grown hg (Nat.le_trans hz (by simp)) fun k hk => (hw.2.lt k hk).1;have h : w'.ownsRow base 9 1 v' (xs ++ [y]).length ((xs ++ [y]).map Value.string) := by simpa using hown
 refine ⟨hB, ?_, h⟩;rcases h.2 with ⟨_, e⟩ | ⟨g, cap, cur, e, _, _, h1, h2, _⟩
 ·simp at e
 ·exact ⟨g, cap, e, h1, by unfold maxLen at h2; exact h2⟩
theorem info_str : (Tryz.prog.info? 9).map (fun i => (i.zero, i.size, i.bytes)) = some (some (.string ⟨#[]⟩), 1, 16) := by kernel_rfl
theorem info_split {o : Option TypeInfo} {a : Option Value} {b c : Nat} (h : o.map (fun i => (i.zero, i.size, i.bytes)) = some (a, b, c)) : ∃ i, o = some i ∧ i.zero = a ∧ i.size = b ∧ i.bytes = c := by
 obtain ⟨i, h1, h2⟩ := Option.map_eq_some_iff.1 h;simp only [Prod.mk.injEq] at h2;exact ⟨i, h1, h2.1, h2.2.1, h2.2.2⟩
theorem lit1 (w : World) (v : Value) (T : Nat) : ∀ j u, [v][j]? = some u → (w.alloc (.cells #[v] T)).cell? ((⟨w.heap.size, 0, none⟩ : Addr).add j) = some u := by
 intro j u hu;have hj : j = 0 := by
  cases j with
  | zero => rfl
  | succ n => simp at hu
 subst hj;simp at hu;subst hu;have hadd : (⟨w.heap.size, 0, none⟩ : Addr).add 0 = ⟨w.heap.size, 0, none⟩ := by simp [Addr.add]
 rw [hadd, Go.Joins.cell_alloc_mark_at _ _ _ _ _ _ rfl];rfl
def CutGot (s : ByteArray) (w : World) (e : Ending) (w' : World) : Prop :=
 ∃ (xs : List ByteArray) (g cap : Nat), e = .returned (.slice (some ⟨g, 0, none⟩) xs.length cap) ∧ xs.map (·.data.toList) = cut32 s.data.toList ∧ xs.length ≤ cap ∧ cap ≤ 9223372036854775807 ∧ w.heap.size ≤ g ∧ StrsAt w' g xs ∧ Below w.heap.size w w'
theorem l1Cut_any (s : ByteArray) (w : World) (hs : s.size < 4294967281) :
 Calls Tryz.prog 141 #[.string s, .int .u8 32] w (CutGot s w) := by
 obtain ⟨i0, hi0, hz0, hi1, hi2⟩ := info_split info_str;have HN := hide (OwnStr.new w.heap.size w nl);go_enter Tryz.func141, Tryz.ntmps141;go_wp2_with fail
 go_loopw [5, 6, 7] (fun o f i wr => ∃ (ps : List ByteArray) (a k : Nat), k ≤ s.size ∧ a ≤ k ∧ ps.length ≤ k ∧ i = .int .i64 k ∧ f = .int .i64 a ∧ Below w.heap.size w wr ∧ OwnStr w.heap.size wr o ps ∧
  cut32 s.data.toList = ps.map (·.data.toList) ++ glue ((s.data.toList.drop a).take (k - a)) (cut32 (s.data.toList.drop k))) (fun _ _ i _ => s.size - (intOf i).toNat)
 case atStart => exact ⟨[], 0, 0, Nat.zero_le _, Nat.le_refl _, by simp, rfl, rfl, (Below.refl _ _).alloc nl _, HN.out, by simp [glue_nil (cut32_ne _)]⟩
 case round =>
  obtain ⟨ps, a, k, hk, hak, hpk, rfl, rfl, hb, hown, heq⟩ := hrel;have HB := hide hb;have HO := hide hown;have HE := hide heq;obtain ⟨⟨g, cap, rfl, hc1, hc2⟩, -⟩ := hown;have hzr : w.heap.size ≤ wr.heap.size := hb.size;clear hb heq;by_cases hlt : k < s.size
  ·have hki : (k : Int) < (s.size : Int) := by omega
   have hk0 : (0 : Int) ≤ (k : Int) := by omega
   have HD := hide (drop_byte s k hlt);obtain ⟨u, hu⟩ : ∃ u, s[k]'hlt = u := ⟨_, rfl⟩;rw [hu] at HD;obtain ⟨b, hb⟩ : ∃ b : Nat, u.toNat = b := ⟨_, rfl⟩;by_cases h32 : b = 32
   ·subst h32
    have hu32 : u = 32 := by
     apply UInt8.toNat_inj.1;rw [hb]; rfl
    have HE2 := hide (show cut32 s.data.toList = (ps ++ [s.extract a k]).map (·.data.toList) ++ glue ((s.data.toList.drop (k + 1)).take (k + 1 - (k + 1))) (cut32 (s.data.toList.drop (k + 1))) by
     rw [HE.out, HD.out, hu32, glue_sep, Nat.sub_self, List.take_zero, glue_nil (cut32_ne _)];simp)
    have ha0 : (0 : Int) ≤ (a : Int) := by omega
    have haki : (a : Int) ≤ (k : Int) := by omega
    have hksi : (k : Int) ≤ (s.size : Int) := by omega
    clear hu32;go_wp2_with (at_builtin; refine wpList_append_own _ rfl _ _ _ rfl w.heap.size 9 i0 _ 1 16 Tryz.underlying138 hi0 hz0 hi1 hi2 rfl (by decide) _ ps.length (ps.map Value.string) rfl (HO.out.2.alloc _) ⟨wr.heap.size, 0, none⟩ 1 1 [.string (s.extract a k)] rfl rfl (lit1 wr _ _) ?g3 ?g4 ?g5 ?g6 ?_)
    case g3 => intro u hu; rw [List.mem_singleton] at hu; subst hu; rfl
    case g4 => unfold maxLen; omega
    case g5 => omega
    case g6 => exact Nat.le_trans hzr (by simp)
    intro v4 w4 hown4 hgrow4 _;obtain ⟨hB, hI⟩ := OwnStr.grown HO.out hzr hown4 hgrow4;have HI := hide hI;have HB4 := hide (HB.out.trans hB);clear hown4 hgrow4 hB;obtain ⟨⟨g4, cap4, rfl, hd1, hd2⟩, -⟩ := hI;go_wp2_with fail
    go_roundw
    case rel => exact ⟨ps ++ [s.extract a k], k + 1, k + 1, by omega, Nat.le_refl _, by simp; omega, by go_num, by go_num, HB4.out, HI.out, HE2.out⟩
    case measure => simp [intOf]; omega
   ·have hbB : ((b : Int) == 32) = false := by simp; omega
    have hu32 : u ≠ 32 := fun e => h32 (by rw [← hb, e]; rfl);have HE2 := hide (show cut32 s.data.toList = ps.map (·.data.toList) ++ glue ((s.data.toList.drop a).take (k + 1 - a)) (cut32 (s.data.toList.drop (k + 1))) by
     rw [HE.out, HD.out, glue_other _ _ _ hu32];congr 2;rw [show k + 1 - a = (k - a) + 1 by omega, List.take_add_one];congr 1;have e1 : (s.data.toList.drop a)[k - a]? = (s.data.toList.drop k)[0]? := by
      rw [List.getElem?_drop, List.getElem?_drop];congr 1; omega
     rw [e1, HD.out];rfl)
    clear hu32;go_wp2_with fail
    go_roundw
    case rel => exact ⟨ps, a, k + 1, by omega, by omega, by omega, by go_num, rfl, HB.out, HO.out, HE2.out⟩
    case measure => simp [intOf]; omega
  ·have hkn : k = s.size := by omega
   have ha0 : (0 : Int) ≤ (a : Int) := by omega
   have hasi : (a : Int) ≤ (s.size : Int) := by omega
   have HE2 := hide (show (ps ++ [s.extract a s.size]).map (·.data.toList) = cut32 s.data.toList by
    rw [HE.out, hkn, List.drop_of_length_le (Nat.le_of_eq (size_len s))];simp [cut32, glue])
   have hkB : decide ((k : Int) < (s.size : Int)) = false := by simp; omega
   go_wp2_with (at_builtin; refine wpList_append_own _ rfl _ _ _ rfl w.heap.size 9 i0 _ 1 16 Tryz.underlying138 hi0 hz0 hi1 hi2 rfl (by decide) _ ps.length (ps.map Value.string) rfl (HO.out.2.alloc _) ⟨wr.heap.size, 0, none⟩ 1 1 [.string (s.extract a s.size)] rfl rfl (lit1 wr _ _) ?g3 ?g4 ?g5 ?g6 ?_)
   case g3 => intro u hu; rw [List.mem_singleton] at hu; subst hu; rfl
   case g4 => unfold maxLen; omega
   case g5 => omega
   case g6 => exact Nat.le_trans hzr (by simp)
   intro v4 w4 hown4 hgrow4 _;obtain ⟨hB, hI⟩ := OwnStr.grown HO.out hzr hown4 hgrow4;have HB4 := hide (HB.out.trans hB);clear hown4 hgrow4 hB;obtain ⟨g4, cap4, rfl, hd1, hd2, hd3, hd4⟩ := hI.strs;have HD4 := hide hd4;clear hd4 hI;go_wp2_with fail
   go_ret;exact ⟨_, g4, cap4, rfl, HE2.out, hd1, hd2, hd3, HD4.out, HB4.out⟩
theorem row12_cells {w : World} {b T : Nat} {v0 v1 v2 v3 v4 v5 v6 v7 v8 v9 v10 v11 : Value} (h : RowL w b T [v0, v1, v2, v3, v4, v5, v6, v7, v8, v9, v10, v11]) :
 w.cell? ⟨b, 0, none⟩ = some v0 ∧ w.cell? ⟨b, 1, none⟩ = some v1 ∧ w.cell? ⟨b, 2, none⟩ = some v2 ∧ w.cell? ⟨b, 3, none⟩ = some v3 ∧ w.cell? ⟨b, 4, none⟩ = some v4 ∧ w.cell? ⟨b, 5, none⟩ = some v5 ∧ w.cell? ⟨b, 6, none⟩ = some v6 ∧ w.cell? ⟨b, 7, none⟩ = some v7 ∧ w.cell? ⟨b, 8, none⟩ = some v8 ∧ w.cell? ⟨b, 9, none⟩ = some v9 ∧ w.cell? ⟨b, 10, none⟩ = some v10 ∧ w.cell? ⟨b, 11, none⟩ = some v11 :=
 ⟨h.c 0 rfl, h.c 1 rfl, h.c 2 rfl, h.c 3 rfl, h.c 4 rfl, h.c 5 rfl, h.c 6 rfl, h.c 7 rfl, h.c 8 rfl, h.c 9 rfl, h.c 10 rfl, h.c 11 rfl⟩
end Go.Proofs.YtmemgbklgcjobaaGreatDoor
