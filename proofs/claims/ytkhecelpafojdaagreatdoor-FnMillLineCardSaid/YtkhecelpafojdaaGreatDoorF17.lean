/-
  Parts of the proofs over mills, of: MixB, BestI, BestF, BestMI. Conditions: each theorem states its own.
-/
import Derived.Test.YtkhecelpafojdaaGreatDoorF16
set_option linter.unusedSimpArgs false
set_option linter.unusedVariables false
set_option maxRecDepth 10000
set_option maxHeartbeats 64000000
namespace Go.Proofs.YtkhecelpafojdaaGreatDoor
open Go.RowKit
def meetS (g : Gr) (T a b c : Int) : Bool := wi a (g.lc * T) (g.hc * T) && (wi b (g.lm * T) (g.hm * T) && wi c (g.ls * T) (g.hs * T))
theorem meet_eq {sts : List St} {mix : List Int} {g : Gr} (h1 : eT sts mix = true) (h2 : grB g = true) (h3 : 0 < dV mix) : dP sts mix g = meetS g (dV mix) (bS St.c sts mix) (bS St.m sts mix) (bS St.s sts mix) := by
 have h3' : decide (0 < dV mix) = true := by simpa using h3
 simp only [dP, meetS, h1, h2, h3', Bool.true_and]
theorem meet_low {sts : List St} {mix : List Int} {g : Gr} (h3 : ¬ 0 < dV mix) : dP sts mix g = false := by
 have h3' : decide (0 < dV mix) = false := by simpa using h3
 simp [dP, h3']
theorem tons_bd {sts : List St} {mix : List Int} (h : eT sts mix = true) : 0 ≤ dV mix ∧ dV mix ≤ 36 := by
 have h1 := sumTo_bd h mix.length nl;have h2 := jM h;unfold dV;omega
theorem mix_60 {sts : List St} {mix : List Int} (h : eT sts mix = true) : ∀ k, k < mix.length → 0 ≤ mix.getD k 0 ∧ mix.getD k 0 ≤ 60 := fun k hk => by
 have := jQ h hk;omega
theorem iP {x T : Int} (h1 : 0 ≤ x) (h2 : x ≤ 999) (h3 : 0 ≤ T) (h4 : T ≤ 36) : IntKind.i64.wrap (x * T) = x * T := by
 have := jB h1 h2 h3 h4;exact IntWalk.i64_in _ (by omega)
theorem meets_impl (sv mv : Value) (sts : List St) (mix : List Int) (g : Gr) (w : World) (Hs : bW 0 w.heap.size w sv sts) (Hm : au 0 w.heap.size w mv mix) :
 Calls Tryz.prog 193 #[sv, mv, grV g] w fun e w' => e = .returned (.bool (dP sts mix g)) ∧ Below w.heap.size w w' := by
 have HS := hide Hs;have HM := hide Hm;clear Hs Hm;have HV := hide (fun W H1 H2 => mixv_impl sv mv sts mix W H1 H2);have HU := hide (fun W H1 H2 => sums_impl sv mv sts mix W H1 H2);have hg := fun W => grv_impl g W;unfold grV at hg ⊢;have HG := hide hg;clear hg;go_enter Tryz.func193, Tryz.ntmps193;go_wp2_with fail
 refine aj fun wx hwx => ?_;have A_0 : ae wx (w.heap.size) 25 [.int .i64 g.lc, .int .i64 g.hc, .int .i64 g.lm, .int .i64 g.hm, .int .i64 g.ls, .int .i64 g.hs] := by rw [hwx]; exact (ae.new _ _ _)
 have B_0 : Below w.heap.size w wx := by rw [hwx]; go_grown
 clear hwx;have hL0 := A_0.lt;have VS_0 := hide (HS.out.below B_0);have VM_0 := hide (HM.out.below B_0);have k1 := HV.out wx ((VS_0.out).mono nl (VS_0.out).lt nl) ((VM_0.out).mono nl (VM_0.out).lt nl);cases c1 : eT sts mix with
 | false =>
  rw [c1] at k1;have HZ := hide (show dP sts mix g = false by simp [dP, c1]);clear c1;refine (k1).mono ?_;rintro e w1 ⟨rfl, hb⟩;have A_1 := A_0.below hb A_0.lt;have VS_1 := hide (VS_0.out.below hb);have VM_1 := hide (VM_0.out.below hb);have B_1 := bs B_0 hb;have hz1 := hb.size;clear hb;go_wp2_with fail
  go_ret;exact ⟨by rw [HZ.out]; rfl, B_1.out⟩
 | true =>
  rw [c1] at k1;have C1 := hide c1;have hl4 := jM c1;clear c1;refine (k1).mono ?_;rintro e w1 ⟨rfl, hb⟩;have A_1 := A_0.below hb A_0.lt;have VS_1 := hide (VS_0.out.below hb);have VM_1 := hide (VM_0.out.below hb);have B_1 := bs B_0 hb;have hz1 := hb.size;clear hb;have cA0 := A_1.c 0 rfl;have cA1 := A_1.c 1 rfl;have cA2 := A_1.c 2 rfl;have cA3 := A_1.c 3 rfl;have cA4 := A_1.c 4 rfl;have cA5 := A_1.c 5 rfl;go_wp2_with fail
  have k2 := HG.out w1;cases c2 : grB g with
  | false =>
   rw [c2] at k2;have HZ := hide (show dP sts mix g = false by simp [dP, c2]);clear c2;refine (k2).mono ?_;rintro e w2 ⟨rfl, hb⟩;have A_2 := A_1.below hb A_1.lt;have VS_2 := hide (VS_1.out.below hb);have VM_2 := hide (VM_1.out.below hb);have B_2 := bs B_1.out hb;have hz2 := hb.size;clear hb;go_wp2_with fail
   go_ret;exact ⟨by rw [HZ.out]; rfl, B_2.out⟩
  | true =>
   rw [c2] at k2;have C2 := hide c2;clear c2;refine (k2).mono ?_;rintro e w2 ⟨rfl, hb⟩;have A_2 := A_1.below hb A_1.lt;have VS_2 := hide (VS_1.out.below hb);have VM_2 := hide (VM_1.out.below hb);have B_2 := bs B_1.out hb;have hz2 := hb.size;clear hb;go_wp2_with fail
   have k3 := hide (tons_impl mv mix _ _ w2 VM_2.out hl4 (mix_60 C1.out));refine k3.out.mono ?_;rintro e wq ⟨rfl, rfl⟩;obtain ⟨T1, T2⟩ := tons_bd C1.out;by_cases hT : 0 < dV mix;rotate_left
   ·have HZ := hide (meet_low (sts := sts) (g := g) hT)
    obtain ⟨T, hTT⟩ : ∃ T, dV mix = T := ⟨_, rfl⟩;rw [hTT] at hT T1 T2 ⊢;have hT1 : T < 1 := by omega
    clear hTT;go_wp2_with fail
    go_ret;exact ⟨by rw [HZ.out]; rfl, B_2.out⟩
   have HE := hide (meet_eq C1.out C2.out hT);have k4 := HU.out w2 ((VS_2.out).mono nl (VS_2.out).lt nl) ((VM_2.out).mono nl (VM_2.out).lt nl);obtain ⟨T, hTT⟩ : ∃ T, dV mix = T := ⟨_, rfl⟩;obtain ⟨a, ha⟩ : ∃ a, bS St.c sts mix = a := ⟨_, rfl⟩;obtain ⟨b, hb⟩ : ∃ b, bS St.m sts mix = b := ⟨_, rfl⟩;obtain ⟨c, hc⟩ : ∃ c, bS St.s sts mix = c := ⟨_, rfl⟩;rw [hTT] at hT T1 T2 HE ⊢;rw [ha, hb, hc] at HE k4;have hT1 : ¬ T < 1 := by omega
   have HK4 := hide k4;clear hTT ha hb hc k4;go_wp2_with fail
   refine (HK4.out).mono ?_;rintro e w3 ⟨rfl, hb⟩;have A_3 := A_2.below hb A_2.lt;have B_3 := bs B_2.out hb;have hz3 := hb.size;clear hb;have cA0 := A_3.c 0 rfl;have cA1 := A_3.c 1 rfl;have cA2 := A_3.c 2 rfl;have cA3 := A_3.c 3 rfl;have cA4 := A_3.c 4 rfl;have cA5 := A_3.c 5 rfl;obtain ⟨⟨q1, q2⟩, ⟨q3, q4⟩, ⟨q5, q6⟩, ⟨q7, q8⟩, ⟨q9, q10⟩, q11, q12⟩ := grB_iff.1 C2.out;have hw0 : IntKind.i64.wrap (g.lc * T) = g.lc * T := iP (by omega) (by omega) T1 T2;have hw1 : IntKind.i64.wrap (g.hc * T) = g.hc * T := iP (by omega) (by omega) T1 T2;have hw2 : IntKind.i64.wrap (g.lm * T) = g.lm * T := iP (by omega) (by omega) T1 T2;have hw3 : IntKind.i64.wrap (g.hm * T) = g.hm * T := iP (by omega) (by omega) T1 T2;have hw4 : IntKind.i64.wrap (g.ls * T) = g.ls * T := iP (by omega) (by omega) T1 T2;have hw5 : IntKind.i64.wrap (g.hs * T) = g.hs * T := iP (by omega) (by omega) T1 T2;clear q1 q2 q3 q4 q5 q6 q7 q8 q9 q10 q11 q12 hT hT1;go_wp2_with fail
   have kk := aU a (g.lc * T) (g.hc * T);cases d1 : wi a (g.lc * T) (g.hc * T) with
   | false =>
    rw [d1] at kk;have HZ := hide (show dP sts mix g = false by rw [HE.out, meetS, d1]; simp);clear d1 HE;refine (kk _).mono ?_;rintro e wq ⟨rfl, rfl⟩;clear kk;go_wp2_with fail
    go_ret;exact ⟨by rw [HZ.out]; rfl, B_3.out⟩
   | true =>
    rw [d1] at kk;have D1 := hide d1;clear d1;refine (kk _).mono ?_;rintro e wq ⟨rfl, rfl⟩;clear kk;go_wp2_with fail
    have kk := aU b (g.lm * T) (g.hm * T);cases d2 : wi b (g.lm * T) (g.hm * T) with
    | false =>
     rw [d2] at kk;have HZ := hide (show dP sts mix g = false by rw [HE.out, meetS, d2]; simp);clear d2 HE;refine (kk _).mono ?_;rintro e wq ⟨rfl, rfl⟩;clear kk;go_wp2_with fail
     go_ret;exact ⟨by rw [HZ.out]; rfl, B_3.out⟩
    | true =>
     rw [d2] at kk;have D2 := hide d2;clear d2;refine (kk _).mono ?_;rintro e wq ⟨rfl, rfl⟩;clear kk;go_wp2_with fail
     have kk := aU c (g.ls * T) (g.hs * T);cases d3 : wi c (g.ls * T) (g.hs * T) with
     | false =>
      rw [d3] at kk;have HZ := hide (show dP sts mix g = false by rw [HE.out, meetS, d3]; simp);clear d3 HE;refine (kk _).mono ?_;rintro e wq ⟨rfl, rfl⟩;clear kk;go_wp2_with fail
      go_ret;exact ⟨by rw [HZ.out]; rfl, B_3.out⟩
     | true =>
      rw [d3] at kk;have D3 := hide d3;clear d3;refine (kk _).mono ?_;rintro e wq ⟨rfl, rfl⟩;clear kk;go_wp2_with fail
      have HZ := hide (show dP sts mix g = true by rw [HE.out, meetS, D1.out, D2.out, D3.out]; rfl);go_ret;exact ⟨by rw [HZ.out]; rfl, B_3.out⟩
theorem meets_spec (sv mv : Value) (sts : List St) (mix : List Int) (g : Gr) (w : World) (Hs : bW 0 w.heap.size w sv sts) (Hm : au 0 w.heap.size w mv mix) (hl4 : mix.length ≤ 4) (h60 : ∀ k, k < mix.length → 0 ≤ mix.getD k 0 ∧ mix.getD k 0 ≤ 60) :
 Calls Tryz.prog 148 #[sv, mv, grV g] w fun e w' => e = .returned (.bool (dP sts mix g)) ∧ Below w.heap.size w w' := by
 have HS := hide Hs;have HM := hide Hm;clear Hs Hm;have HV := hide (fun W H1 H2 => mixv_spec sv mv sts mix W H1 H2);have HU := hide (fun W H1 H2 => sums_spec sv mv sts mix W H1 H2);have hg := fun W => grv_spec g W;have H60 := hide h60;clear h60;unfold grV at hg ⊢;have HG := hide hg;clear hg;go_enter Tryz.func148, Tryz.ntmps148;go_wp2_with fail
 refine aj fun wx hwx => ?_;have A_0 : ae wx (w.heap.size) 25 [.int .i64 g.lc, .int .i64 g.hc, .int .i64 g.lm, .int .i64 g.hm, .int .i64 g.ls, .int .i64 g.hs] := by rw [hwx]; exact (ae.new _ _ _)
 have B_0 : Below w.heap.size w wx := by rw [hwx]; go_grown
 clear hwx;have hL0 := A_0.lt;have VS_0 := hide (HS.out.below B_0);have VM_0 := hide (HM.out.below B_0);have k1 := hide (HU.out wx ((VS_0.out).mono nl (VS_0.out).lt nl) ((VM_0.out).mono nl (VM_0.out).lt nl));obtain ⟨a, ha⟩ : ∃ a, bS St.c sts mix = a := ⟨_, rfl⟩;obtain ⟨b, hb⟩ : ∃ b, bS St.m sts mix = b := ⟨_, rfl⟩;obtain ⟨c, hc⟩ : ∃ c, bS St.s sts mix = c := ⟨_, rfl⟩;rw [ha, hb, hc] at k1;have HA := hide ha;have HBB := hide hb;have HC := hide hc;clear ha hb hc;refine (k1.out).mono ?_;rintro e w1 ⟨rfl, hb⟩;have A_1 := A_0.below hb A_0.lt;have VS_1 := hide (VS_0.out.below hb);have VM_1 := hide (VM_0.out.below hb);have B_1 := bs B_0 hb;have hz1 := hb.size;clear hb;go_wp2_with fail
 have k3 := hide (tons_spec mv mix _ _ w1 VM_1.out hl4 H60.out);obtain ⟨T, hTT⟩ : ∃ T, dV mix = T := ⟨_, rfl⟩;have HT := hide hTT;rw [hTT] at k3;clear hTT;refine k3.out.mono ?_;rintro e wq ⟨rfl, rfl⟩;go_wp2_with fail
 have k4 := HV.out w1 ((VS_1.out).mono nl (VS_1.out).lt nl) ((VM_1.out).mono nl (VM_1.out).lt nl);cases c1 : eT sts mix with
 | false =>
  rw [c1] at k4;have HZ := hide (show dP sts mix g = false by simp [dP, c1]);clear c1;refine (k4).mono ?_;rintro e w2 ⟨rfl, hb⟩;have A_2 := A_1.below hb A_1.lt;have B_2 := bs B_1.out hb;have hz2 := hb.size;clear hb;go_wp2_with fail
  go_ret;exact ⟨by rw [HZ.out]; rfl, B_2.out⟩
 | true =>
  rw [c1] at k4;have C1 := hide c1;clear c1;refine (k4).mono ?_;rintro e w2 ⟨rfl, hb⟩;have A_2 := A_1.below hb A_1.lt;have B_2 := bs B_1.out hb;have hz2 := hb.size;clear hb;have cA0 := A_2.c 0 rfl;have cA1 := A_2.c 1 rfl;have cA2 := A_2.c 2 rfl;have cA3 := A_2.c 3 rfl;have cA4 := A_2.c 4 rfl;have cA5 := A_2.c 5 rfl;go_wp2_with fail
  have k2 := HG.out w2;cases c2 : grB g with
  | false =>
   rw [c2] at k2;have HZ := hide (show dP sts mix g = false by simp [dP, c2]);clear c2;refine (k2).mono ?_;rintro e w3 ⟨rfl, hb⟩;have A_3 := A_2.below hb A_2.lt;have B_3 := bs B_2.out hb;have hz3 := hb.size;clear hb;go_wp2_with fail
   go_ret;exact ⟨by rw [HZ.out]; rfl, B_3.out⟩
  | true =>
   rw [c2] at k2;have C2 := hide c2;clear c2;refine (k2).mono ?_;rintro e w3 ⟨rfl, hb⟩;have A_3 := A_2.below hb A_2.lt;have B_3 := bs B_2.out hb;have hz3 := hb.size;clear hb;have cA0 := A_3.c 0 rfl;have cA1 := A_3.c 1 rfl;have cA2 := A_3.c 2 rfl;have cA3 := A_3.c 3 rfl;have cA4 := A_3.c 4 rfl;have cA5 := A_3.c 5 rfl;obtain ⟨T1, T2⟩ := tons_bd C1.out;rw [HT.out] at T1 T2;by_cases hT : 0 < T;rotate_left
   ·have HZ := hide (meet_low (sts := sts) (g := g) (mix := mix) (by rw [HT.out]; exact hT))
    go_wp2_with fail
    go_ret;exact ⟨by rw [HZ.out]; rfl, B_3.out⟩
   have HE := hide (meet_eq C1.out C2.out (by rw [HT.out]; exact hT));rw [HT.out, HA.out, HBB.out, HC.out] at HE;obtain ⟨⟨q1, q2⟩, ⟨q3, q4⟩, ⟨q5, q6⟩, ⟨q7, q8⟩, ⟨q9, q10⟩, q11, q12⟩ := grB_iff.1 C2.out;have hw0 : IntKind.i64.wrap (T * g.lc) = g.lc * T := by rw [Int.mul_comm]; exact iP (by omega) (by omega) T1 T2
   have hw1 : IntKind.i64.wrap (T * g.hc) = g.hc * T := by rw [Int.mul_comm]; exact iP (by omega) (by omega) T1 T2
   have hw2 : IntKind.i64.wrap (T * g.lm) = g.lm * T := by rw [Int.mul_comm]; exact iP (by omega) (by omega) T1 T2
   have hw3 : IntKind.i64.wrap (T * g.hm) = g.hm * T := by rw [Int.mul_comm]; exact iP (by omega) (by omega) T1 T2
   have hw4 : IntKind.i64.wrap (T * g.ls) = g.ls * T := by rw [Int.mul_comm]; exact iP (by omega) (by omega) T1 T2
   have hw5 : IntKind.i64.wrap (T * g.hs) = g.hs * T := by rw [Int.mul_comm]; exact iP (by omega) (by omega) T1 T2
   clear q1 q2 q3 q4 q5 q6 q7 q8 q9 q10 q11 q12;go_wp2_with fail
   have kk := aY a (g.lc * T) (g.hc * T);cases d1 : wi a (g.lc * T) (g.hc * T) with
   | false =>
    rw [d1] at kk;have HZ := hide (show dP sts mix g = false by rw [HE.out, meetS, d1]; simp);clear d1 HE;refine (kk _).mono ?_;rintro e wq ⟨rfl, rfl⟩;clear kk;go_wp2_with fail
    go_ret;exact ⟨by rw [HZ.out]; rfl, B_3.out⟩
   | true =>
    rw [d1] at kk;have D1 := hide d1;clear d1;refine (kk _).mono ?_;rintro e wq ⟨rfl, rfl⟩;clear kk;go_wp2_with fail
    have kk := aY b (g.lm * T) (g.hm * T);cases d2 : wi b (g.lm * T) (g.hm * T) with
    | false =>
     rw [d2] at kk;have HZ := hide (show dP sts mix g = false by rw [HE.out, meetS, d2]; simp);clear d2 HE;refine (kk _).mono ?_;rintro e wq ⟨rfl, rfl⟩;clear kk;go_wp2_with fail
     go_ret;exact ⟨by rw [HZ.out]; rfl, B_3.out⟩
    | true =>
     rw [d2] at kk;have D2 := hide d2;clear d2;refine (kk _).mono ?_;rintro e wq ⟨rfl, rfl⟩;clear kk;go_wp2_with fail
     have kk := aY c (g.ls * T) (g.hs * T);cases d3 : wi c (g.ls * T) (g.hs * T) with
     | false =>
      rw [d3] at kk;have HZ := hide (show dP sts mix g = false by rw [HE.out, meetS, d3]; simp);clear d3 HE;refine (kk _).mono ?_;rintro e wq ⟨rfl, rfl⟩;clear kk;go_wp2_with fail
      go_ret;exact ⟨by rw [HZ.out]; rfl, B_3.out⟩
     | true =>
      rw [d3] at kk;have D3 := hide d3;clear d3;refine (kk _).mono ?_;rintro e wq ⟨rfl, rfl⟩;clear kk;go_wp2_with fail
      have HZ := hide (show dP sts mix g = true by rw [HE.out, meetS, D1.out, D2.out, D3.out]; rfl);go_ret;exact ⟨by rw [HZ.out]; rfl, B_3.out⟩
def cO (stv bv : Value) (g : Gr) (M n : Nat) (c : Int) (f : Bool) : List Value :=
 [stv, .int .i64 g.lc, .int .i64 g.hc, .int .i64 g.lm, .int .i64 g.hm, .int .i64 g.ls, .int .i64 g.hs, .slice (some ⟨M, 0, none⟩) n n, bv, .int .i64 c, .bool f]
def bestIs (L : Nat) (w : World) (b : Option (List Int × Int)) (bv : Value) (c : Int) (f : Bool) : Prop :=
 match b with
 | none => f = false ∧ bv = .slice none 0 0
 | some (x, y) => f = true ∧ c = y ∧ aK L 3 1 w bv x.length (aC x)
structure jq (base L B M : Nat) (w : World) (stv : Value) (sts : List St) (g : Gr) (mix : List Int) (b : Option (List Int × Int)) : Prop where
 box : ∃ bv c f, ae w B 151 (cO stv bv g M mix.length c f) ∧ bestIs L w b bv c f
 mix : ae w M 3 (aC mix)
 sts : bW 0 base w stv sts
 hB : base ≤ B ∧ B < L
 hM : base ≤ M ∧ M < L
 hBM : B ≠ M
 hL : L ≤ w.heap.size
theorem ints_rowL {w : World} {M T : Nat} {xs : List Int} (h : ae w M T (aC xs)) (hl : xs.length ≤ 1000000) : au M (M + 1) w (.slice (some ⟨M, 0, none⟩) xs.length xs.length) xs := by
 refine ⟨_, _, rfl, Nat.le_refl _, by omega, h.lt, fun _ => ⟨M, 0, rfl, Nat.le_refl _, Nat.lt_succ_self _, fun i hi => ?_⟩⟩;rw [Nat.zero_add];refine ⟨?_, h.frozen i⟩;rw [h.cell i (by rw [jG]; exact hi)];simp [aC, hi]
theorem bestIs.below {L : Nat} {w w' : World} {b : Option (List Int × Int)} {bv : Value} {c : Int} {f : Bool} (h : bestIs L w b bv c f) (k : Below w.heap.size w w') : bestIs L w' b bv c f := by
 rcases b with _ | ⟨x, y⟩
 ·exact h
 ·exact ⟨h.1, h.2.1, h.2.2.below k nl⟩
theorem bestIs.other {L a z : Nat} {w w' : World} {b : Option (List Int × Int)} {bv : Value} {c : Int} {f : Bool} (h : bestIs L w b bv c f) (k : ai a z w w') (hz : z ≤ L) : bestIs L w' b bv c f := by
 rcases b with _ | ⟨x, y⟩
 ·exact h
 ·exact ⟨h.1, h.2.1, h.2.2.other k fun g hg => by have := (h.2.2.lt g hg).1; omega⟩
theorem jq.below {base L B M : Nat} {w w' : World} {stv : Value} {sts : List St} {g : Gr} {mix : List Int} {b : Option (List Int × Int)} (H : jq base L B M w stv sts g mix b) (k : Below w.heap.size w w') : jq base L B M w' stv sts g mix b := by
 obtain ⟨bv, c, f, h1, h2⟩ := H.box;exact ⟨⟨bv, c, f, h1.below k h1.lt, h2.below k⟩, H.mix.below k H.mix.lt, H.sts.below k, H.hB, H.hM, H.hBM, Nat.le_trans H.hL k.size⟩
theorem jq.put {base L B M : Nat} {w : World} {stv : Value} {sts : List St} {g : Gr} {mix : List Int} {b : Option (List Int × Int)} (H : jq base L B M w stv sts g mix b) {j : Nat} (hj : j < mix.length) (x : Int) :
 jq base L B M (w.setCell ⟨M, j, none⟩ (.int .i64 x)) stv sts g (mix.set j x) b := by
 obtain ⟨bv, c, f, h1, h2⟩ := H.box;have hO : ai M (M + 1) w (w.setCell ⟨M, j, none⟩ (.int .i64 x)) := (ai.refl _ _ _).setCell (p := ⟨M, j, none⟩) nl ns _;have hM := H.hM;have hBM := H.hBM;refine ⟨⟨bv, c, f, ?_, h2.other hO (by omega)⟩, ?_, H.sts.other hO (.inl hM.1), H.hB, H.hM, H.hBM, by simpa [World.setCell] using H.hL⟩
 ·rw [List.length_set]
  exact h1.other hO (by omega)
 ·rw [flatI_set]
  exact H.mix.set j _ (by rw [jG]; exact hj)
theorem jq.keep {base L B M : Nat} {w : World} {stv bv v : Value} {sts : List St} {g : Gr} {mix : List Int} {b : Option (List Int × Int)} {x : Int} {f : Bool} (H : jq base L B M w stv sts g mix b) (r : ae w B 151 (cO stv bv g M mix.length x f)) (o : aK L 3 1 w v mix.length (aC mix)) (y : Int) :
 jq base L B M (((w.setCell ⟨B, 8, none⟩ v).setCell ⟨B, 9, none⟩ (.int .i64 y)).setCell ⟨B, 10, none⟩ (.bool true)) stv sts g mix (some (mix, y)) ∧ Below base w (((w.setCell ⟨B, 8, none⟩ v).setCell ⟨B, 9, none⟩ (.int .i64 y)).setCell ⟨B, 10, none⟩ (.bool true)) := by
 have hO : ai B (B + 1) w (((w.setCell ⟨B, 8, none⟩ v).setCell ⟨B, 9, none⟩ (.int .i64 y)).setCell ⟨B, 10, none⟩ (.bool true)) :=
  (((ai.refl _ _ _).setCell (p := ⟨B, 8, none⟩) nl ns _).setCell (p := ⟨B, 9, none⟩) nl ns _).setCell (p := ⟨B, 10, none⟩) nl ns _
 have hB := H.hB;have hBM := H.hBM;have hL := H.hL;refine ⟨⟨⟨v, y, true, ?_, rfl, rfl, o.other hO fun k hk => by have := (o.lt k hk).1; omega⟩, H.mix.other hO (by omega), H.sts.other hO (.inl hB.1), H.hB, H.hM, H.hBM, Nat.le_trans hL hO.size⟩, hO.below (B := base) hB.1 (by omega)⟩;exact ((r.set 8 v (by simp [cO])).set 9 (.int .i64 y) (by simp [cO])).set 10 (.bool true) (by simp [cO])
theorem look_any {base L B M : Nat} {w : World} {stv : Value} {sts : List St} {g : Gr} {mix : List Int} {b : Option (List Int × Int)} (H : jq base L B M w stv sts g mix b) (hv : dY sts = true) (hlen : mix.length = sts.length) :
 Calls Tryz.prog 176 #[.pointer (some ⟨B, 0, none⟩)] w fun e w' => e = .returned (.tuple #[]) ∧ jq base L B M w' stv sts g mix (gu sts g b mix) ∧ Below base w w' := by
 have HL4 := hide (show mix.length ≤ 1000000 by have := dG hv; omega);clear hlen;have hbz : base ≤ w.heap.size := Nat.le_trans H.hB.1 (Nat.le_trans (Nat.le_of_lt H.hB.2) H.hL);have HH := hide H;obtain ⟨bv, c, f, h1, h2⟩ := H.box;have hst := H.sts;clear H;obtain ⟨aos, cps, rfl, -, -, -, -⟩ := hst;have c0 : w.cell? ⟨B, 0, none⟩ = _ := h1.cell 0 (by simp [cO]);have c1 : w.cell? ⟨B, 1, none⟩ = _ := h1.cell 1 (by simp [cO]);have c2 : w.cell? ⟨B, 2, none⟩ = _ := h1.cell 2 (by simp [cO]);have c3 : w.cell? ⟨B, 3, none⟩ = _ := h1.cell 3 (by simp [cO]);have c4 : w.cell? ⟨B, 4, none⟩ = _ := h1.cell 4 (by simp [cO]);have c5 : w.cell? ⟨B, 5, none⟩ = _ := h1.cell 5 (by simp [cO]);have c6 : w.cell? ⟨B, 6, none⟩ = _ := h1.cell 6 (by simp [cO]);have c7 : w.cell? ⟨B, 7, none⟩ = _ := h1.cell 7 (by simp [cO]);simp only [cO, List.getD_cons_zero, List.getD_cons_succ] at c0 c1 c2 c3 c4 c5 c6 c7;clear h1 h2;go_enter Tryz.func176, Tryz.ntmps176;go_wp2_with fail
 go_still_tail 12, (by kernel_rfl)
 change wpList _ _ _ _ _ w.drew;go_wp2_with fail
 have HD := HH.out.below (Below.refl _ _).drew;refine (meets_impl (.slice aos sts.length cps) (.slice (some ⟨M, 0, none⟩) mix.length mix.length) sts mix g w.drew (HD.sts.mono nl (Nat.le_trans HD.hB.1 (Nat.le_trans (Nat.le_of_lt HD.hB.2) HD.hL)) nl) ((ints_rowL HD.mix HL4.out).mono (Nat.zero_le _) HD.mix.lt nl)).mono ?_;rintro e w1 ⟨rfl, hb⟩;have HK := hide (HD.below hb);have B_1 := hide (((Below.refl w.heap.size w).drew).trans hb);cases hm : dP sts mix g with
 | false =>
  have hs : gu sts g b mix = b := by simp [gu, hm]
  clear hb;go_wp2_with fail
  first | refine bodyPost_ret (results_none rfl _ _ _) rfl ?_ | refine bodyPost_end (results_none rfl _ _ _) rfl ?_
  exact ⟨rfl, by rw [hs]; exact HK.out, B_1.out.mono hbz⟩
 | true =>
  clear hb c0 c1 c2 c3 c4 c5 c6 c7;obtain ⟨bv1, x1, f1, r1, -⟩ := HK.out.box;have c0 : w1.cell? ⟨B, 0, none⟩ = _ := r1.cell 0 (by simp [cO]);have c7 : w1.cell? ⟨B, 7, none⟩ = _ := r1.cell 7 (by simp [cO]);simp only [cO, List.getD_cons_zero, List.getD_cons_succ] at c0 c7;go_wp2_with fail
  go_still_tail 8, (by kernel_rfl)
  change wpList _ _ _ _ _ w1.drew;go_wp2_with fail
  have HD1 := HK.out.below (Below.refl _ _).drew;refine (cost_impl (.slice aos sts.length cps) (.slice (some ⟨M, 0, none⟩) mix.length mix.length) sts mix w1.drew (HD1.sts.mono nl (Nat.le_trans HD1.hB.1 (Nat.le_trans (Nat.le_of_lt HD1.hB.2) HD1.hL)) nl) ((ints_rowL HD1.mix HL4.out).mono (Nat.zero_le _) HD1.mix.lt nl)).mono ?_;rintro e w2 ⟨rfl, hb2⟩;have HK2 := hide (HD1.below hb2);have B_2 := hide (B_1.out.trans (((Below.refl w1.heap.size w1).drew.trans hb2).mono B_1.out.size));clear hb2 c0 c7 r1;obtain ⟨bv2, x2, f2, r2, q2⟩ := HK2.out.box;have c4 : w2.cell? ⟨B, 9, none⟩ = _ := r2.cell 9 (by simp [cO]);have c5 : w2.cell? ⟨B, 10, none⟩ = _ := r2.cell 10 (by simp [cO]);have c7 : w2.cell? ⟨B, 7, none⟩ = _ := r2.cell 7 (by simp [cO]);simp only [cO, List.getD_cons_zero, List.getD_cons_succ] at c4 c5 c7;have hs : gu sts g b mix = if (!f2 || decide (fH sts mix < x2)) then some (mix, fH sts mix) else b := by
   rcases b with _ | ⟨x, y⟩
   ·obtain ⟨rfl, -⟩ := q2; simp [gu, hm]
   ·obtain ⟨rfl, rfl, -⟩ := q2; simp [gu, hm]
  have HS := hide hs;clear hs hm q2;obtain ⟨y, hy⟩ : ∃ y, fH sts mix = y := ⟨_, rfl⟩;rw [hy] at HS ⊢;clear hy;cases f2 with
  | false =>
   go_wp2_with fail
   refine (jU (.slice (some ⟨M, 0, none⟩) mix.length mix.length) mix M (M + 1) w2 (ints_rowL HK2.out.mix HL4.out) HL4.out).mono ?_;rintro e w3 ⟨v3, rfl, own, hb3⟩;have HK3 := hide (HK2.out.below hb3);have R_3 := r2.below hb3 r2.lt;have B_3 := bs B_2.out hb3;have hz3 := hb3.size;clear hb3;obtain ⟨a3, p3, rfl, -, -⟩ := aB own;have O_3 := hide own;clear own;have d8 : w3.cell? ⟨B, 8, none⟩ = some _ := R_3.cell 8 (by simp [cO]);have d9 : w3.cell? ⟨B, 9, none⟩ = some _ := R_3.cell 9 (by simp [cO]);have d10 : w3.cell? ⟨B, 10, none⟩ = some _ := R_3.cell 10 (by simp [cO]);have e8 := R_3.frozen 8;have e9 := R_3.frozen 9;have e10 := R_3.frozen 10;go_wp2_with fail
   first | refine bodyPost_ret (results_none rfl _ _ _) rfl ?_ | refine bodyPost_end (results_none rfl _ _ _) rfl ?_
   obtain ⟨k1, k2⟩ := HK3.out.keep R_3 ((aK.own O_3.out).mono HK2.out.hL) y;exact ⟨rfl, by rw [HS.out, if_pos (by simp)]; exact k1, (B_3.out.mono hbz).trans k2⟩
  | true =>
  by_cases hlt : y < x2
  ·skip
   go_wp2_with fail
   refine (jU (.slice (some ⟨M, 0, none⟩) mix.length mix.length) mix M (M + 1) w2 (ints_rowL HK2.out.mix HL4.out) HL4.out).mono ?_;rintro e w3 ⟨v3, rfl, own, hb3⟩;have HK3 := hide (HK2.out.below hb3);have R_3 := r2.below hb3 r2.lt;have B_3 := bs B_2.out hb3;have hz3 := hb3.size;clear hb3;obtain ⟨a3, p3, rfl, -, -⟩ := aB own;have O_3 := hide own;clear own;have d8 : w3.cell? ⟨B, 8, none⟩ = some _ := R_3.cell 8 (by simp [cO]);have d9 : w3.cell? ⟨B, 9, none⟩ = some _ := R_3.cell 9 (by simp [cO]);have d10 : w3.cell? ⟨B, 10, none⟩ = some _ := R_3.cell 10 (by simp [cO]);have e8 := R_3.frozen 8;have e9 := R_3.frozen 9;have e10 := R_3.frozen 10;go_wp2_with fail
   first | refine bodyPost_ret (results_none rfl _ _ _) rfl ?_ | refine bodyPost_end (results_none rfl _ _ _) rfl ?_
   obtain ⟨k1, k2⟩ := HK3.out.keep R_3 ((aK.own O_3.out).mono HK2.out.hL) y;exact ⟨rfl, by rw [HS.out, if_pos (by simp [hlt])]; exact k1, (B_3.out.mono hbz).trans k2⟩
  ·go_wp2_with fail
   first | refine bodyPost_ret (results_none rfl _ _ _) rfl ?_ | refine bodyPost_end (results_none rfl _ _ _) rfl ?_
   exact ⟨rfl, by rw [HS.out, if_neg (by simp [hlt])]; exact HK2.out, B_2.out.mono hbz⟩
theorem set_same0 {mix : List Int} {k : Nat} (h : mix.getD k 0 = 0) (y : Int) : (mix.set k y).set k 0 = mix := by
 rw [List.set_set];apply List.ext_getElem (by simp);intro i h1 h2;rw [List.getElem_set];split
 ·rename_i e
  subst e;simpa [h2] using h.symm
 ·rfl
theorem set_none0 {mix : List Int} {k : Nat} (h : mix.getD k 0 = 0) : mix.set k 0 = mix := by
 apply List.ext_getElem (by simp);intro i h1 h2;rw [List.getElem_set];split
 ·rename_i e
  subst e;simpa [h2] using h.symm
 ·rfl
theorem take_set1 {mix : List Int} {k : Nat} (h : k < mix.length) (y : Int) : (mix.set k y).take (k + 1) = mix.take k ++ [y] := by
 rw [List.take_succ_eq_append_getElem (by simpa using h), List.take_set_of_le nl];simp
theorem jq.at7 {base L B M : Nat} {w : World} {stv : Value} {sts : List St} {g : Gr} {mix : List Int} {b : Option (List Int × Int)} (H : jq base L B M w stv sts g mix b) :
 w.cell? ⟨B, 0, none⟩ = some stv ∧ w.cell? ⟨B, 7, none⟩ = some (.slice (some ⟨M, 0, none⟩) mix.length mix.length) ∧ B < w.heap.size := by
 obtain ⟨bv, c, f, h1, -⟩ := H.box;exact ⟨h1.cell 0 (by simp [cO]), h1.cell 7 (by simp [cO]), h1.lt⟩
theorem jq.atM {base L B M : Nat} {w : World} {stv : Value} {sts : List St} {g : Gr} {mix : List Int} {b : Option (List Int × Int)} (H : jq base L B M w stv sts g mix b) {k : Nat} (hk : k < mix.length) :
 (∃ v, w.cell? ⟨M, k, none⟩ = some v) ∧ w.frozen? ⟨M, k, none⟩ = false ∧ M < w.heap.size := by
 exact ⟨⟨_, H.mix.cell k (by rw [jG]; exact hk)⟩, H.mix.frozen k, H.mix.lt⟩
theorem from_any {base L B M : Nat} {stv : Value} {sts : List St} {g : Gr} (hv : dY sts = true) : ∀ (n idx : Nat), idx + n = sts.length → ∀ (w : World) (mix : List Int) (b : Option (List Int × Int)) (left : Int), jq base L B M w stv sts g mix b → mix.length = sts.length → (∀ k, idx ≤ k → mix.getD k 0 = 0) → 0 ≤ left → left ≤ 12 →
 Calls Tryz.prog 138 #[.pointer (some ⟨B, 0, none⟩), .int .i64 (idx : Int), .int .i64 left] w fun e w' => e = .returned (.tuple #[]) ∧ jq base L B M w' stv sts g mix (fD sts g b (dH (mix.take idx) (allM (bN sts idx) left))) ∧ Below base w w' := by
 intro n
 induction n with
 | zero =>
  intro idx hn w mix b left H hlen h0 hl0 hl1;obtain rfl : idx = sts.length := by omega
  have HE := hide (show dH (mix.take sts.length) (allM (bN sts sts.length) left) = if left = 0 then [mix] else [] by
   rw [stocks_end, allM_end, ← hlen, List.take_length])
  have HLEN := hide hlen;clear h0 hlen hn;have HH := hide H;obtain ⟨aos, cps, rfl, -, -, -, -⟩ := H.sts;obtain ⟨c0, -, -⟩ := H.at7;clear H;go_enter Tryz.func138, Tryz.ntmps138;by_cases hz : left = 0
  ·subst hz
   have HE0 := hide (HE.out.trans (if_pos rfl));go_wp2_with fail
   refine (look_any HH.out hv HLEN.out).mono ?_;rintro e w1 ⟨rfl, k1, k2⟩;go_wp2_with fail
   first | refine bodyPost_ret (results_none rfl _ _ _) rfl ?_ | refine bodyPost_end (results_none rfl _ _ _) rfl ?_
   exact ⟨rfl, by rw [HE0.out, foldM_one]; exact k1, k2⟩
  ·go_wp2_with fail
   first | refine bodyPost_ret (results_none rfl _ _ _) rfl ?_ | refine bodyPost_end (results_none rfl _ _ _) rfl ?_
   exact ⟨rfl, by rw [HE.out, if_neg hz, foldM_nil]; exact HH.out, Below.refl _ _⟩
 | succ n ih =>
  intro idx hn w mix b left H hlen h0 hl0 hl1;have IH := hide ih;clear ih;have hidx : idx < sts.length := by omega
  have hL4 := dG hv;have HV := hide hv;clear hv;have HN := hide hn;have HLEN := hide hlen;have H0 := hide h0;clear hn hlen h0;have HH := hide H;obtain ⟨s, hs⟩ : ∃ s, (sts.getD idx st0).k = s := ⟨_, rfl⟩;have hs9 : 0 ≤ s ∧ s ≤ 9 := by rw [← hs]; exact stB_k (bR HV.out hidx)
  have HS := hide hs;obtain ⟨m, hm⟩ : ∃ m : Nat, min left s + 1 = (m : Int) := ⟨(min left s + 1).toNat, by omega⟩;have HE := hide (show allM (bN sts idx) left = part (bN sts (idx + 1)) left m by
   rw [allM_at hidx, hs, hm]; rfl)
  have hidxI : ((idx : Int) == (sts.length : Int)) = false := by rw [beq_eq_false_iff_ne]; omega
  have hiI : (idx : Int) < (sts.length : Int) := by omega
  have hi0 : (0 : Int) ≤ (idx : Int) := by omega
  obtain ⟨b0, o0, cap, rfl, -, -, -⟩ := jD H.sts hidx;obtain ⟨c0, -, -⟩ := H.at7;clear hs H;go_enter Tryz.func138, Tryz.ntmps138;go_wp2_with fail
  go_loopw [6] (fun i wr => ∃ (t : Nat) (y : Int), t ≤ m ∧ i = .int .i64 (t : Int) ∧ jq base L B M wr (.slice (some ⟨b0, o0, none⟩) sts.length cap) sts g (mix.set idx y) (fD sts g b (dH (mix.take idx) (part (bN sts (idx + 1)) left t))) ∧ Below base w wr) (fun i _ => m - (intOf i).toNat)
  case atStart =>
   refine ⟨0, 0, by omega, rfl, ?_, Below.refl _ _⟩;rw [part_zero, show dH (mix.take idx) [] = [] from rfl, foldM_nil, set_none0 (H0.out idx nl)];exact HH.out
  case round =>
   obtain ⟨t, y, ht, rfl, K, hb⟩ := hrel;have hml : idx < (mix.set idx y).length := by rw [List.length_set, HLEN.out]; exact hidx
   obtain ⟨b1, o1, cap1, e1, -, -, -, -, -, -, d4⟩ := jD K.sts hidx;cases e1;rw [HS.out] at d4;obtain ⟨c0, c7, q1⟩ := K.at7;obtain ⟨⟨u, cM⟩, fM, q2⟩ := K.atM hml;rw [List.length_set] at c7;have hMi : (idx : Int) < (mix.length : Int) := by rw [HLEN.out]; exact hiI
   have KK := hide K;have HB := hide hb;clear K hb hml;have hmin : (if s < left then s else left) = (m : Int) - 1 := by split <;> omega
   by_cases hlt : t < m
   ·have hle : (t : Int) ≤ min left s := by omega
    have hidx1 : IntKind.i64.wrap ((idx : Int) + 1) = ((idx + 1 : Nat) : Int) := by rw [show (idx : Int) + 1 = ((idx + 1 : Nat) : Int) by omega]; exact IntWalk.i64_in _ (by omega)
    have hlt1 : IntKind.i64.wrap (left - (t : Int)) = left - (t : Int) := IntWalk.i64_in _ (by omega);go_wp2_with fail
    refine aj fun wx hwx => ?_;have K2 := hide (show jq base L B M wx (.slice (some ⟨b0, o0, none⟩) sts.length cap) sts g (mix.set idx (t : Int)) (fD sts g b (dH (mix.take idx) (part (bN sts (idx + 1)) left t))) by
     have := KK.out.put (j := idx) (by rw [List.length_set, HLEN.out]; exact hidx) (t : Int);rw [List.set_set] at this;rw [hwx]; simpa using this)
    have HB2 := hide (show Below base w wx by
     rw [hwx];exact HB.out.setCell (by have := HH.out.hM; simp; omega) _)
    clear hwx;refine (IH.out (idx + 1) (by have := HN.out; omega) wx (mix.set idx (t : Int)) _ (left - (t : Int)) K2.out (by rw [List.length_set, HLEN.out]) (fun k hk => ?_) (by omega) (by omega)).mono ?_
    ·rw [List.getD_eq_getElem?_getD, List.getElem?_set_ne (by omega), ← List.getD_eq_getElem?_getD]
     exact H0.out k (by omega)
    rintro e w1 ⟨rfl, k1, k2⟩;rw [take_set1 (by rw [HLEN.out]; exact hidx), ← foldM_append, ← withP_succ] at k1;have K3 := hide k1;have HB3 := hide (HB2.out.trans k2);clear k1 k2 c0 c7 cM fM d4;go_wp2_with fail
    go_roundw
    case rel => exact ⟨t + 1, (t : Int), by omega, by go_num, K3.out, HB3.out⟩
    case measure => simp [intOf]; omega
   ·obtain rfl : t = m := by omega
    have hle : ¬ (t : Int) ≤ (t : Int) - 1 := by omega
    go_wp2_with fail
    first | refine bodyPost_ret (results_none rfl _ _ _) rfl ?_ | refine bodyPost_end (results_none rfl _ _ _) rfl ?_
    refine ⟨rfl, ?_, ?_⟩
    ·have := KK.out.put (j := idx) (by rw [List.length_set, HLEN.out]; exact hidx) 0
     rw [set_same0 (H0.out idx nl)] at this;rw [HE.out];simpa using this
    ·exact HB.out.setCell (by have := HH.out.hM; simp; omega) _
def BestGot (base : Nat) (r : Option (List Int)) (w : World) (e : Ending) (w' : World) : Prop :=
 ∃ ao n cap, e = .returned (.tuple #[.slice ao n cap, .bool r.isSome]) ∧ (∀ mix, r = some mix → au base w'.heap.size w' (.slice ao n cap) mix) ∧ Below base w w'
theorem best_no1 {sts : List St} {g : Gr} {t : Int} (h : dY sts = false) : dM sts g t = none := by simp [dM, h]
theorem best_no2 {sts : List St} {g : Gr} {t : Int} (h : grB g = false) : dM sts g t = none := by simp [dM, h]
theorem best_no3 {sts : List St} {g : Gr} {t : Int} (h : wi t 1 12 = false) : dM sts g t = none := by simp [dM, h]
theorem best_yes {sts : List St} {g : Gr} {t : Int} (h1 : dY sts = true) (h2 : grB g = true) (h3 : wi t 1 12 = true) : dM sts g t = (fD sts g none (dH [] (allM (bN sts 0) t))).map (·.1) := by
 simp [dM, h1, h2, h3, withP_none, stocks_zero]
theorem rowL_made (w : World) (n : Nat) : ae (w.alloc (.cells (madeCells #[.int .i64 0] n) 3)) w.heap.size 3 (aC (List.replicate n 0)) := by
 have h := World.rowIs_made w (.int .i64 0) n 3;unfold ae;rw [jG, List.length_replicate];exact h.congr fun i hi => by simp [aC, hi]
theorem rep_zero (n k : Nat) : (List.replicate n (0 : Int)).getD k 0 = 0 := by
 rw [List.getD_eq_getElem?_getD, List.getElem?_replicate];split <;> rfl
theorem srch_start {base B M : Nat} {w : World} {stv : Value} {sts : List St} {g : Gr} (h1 : ae w B 151 (cO stv (.slice none 0 0) g M sts.length 0 false)) (h2 : ae w M 3 (aC (List.replicate sts.length 0))) (hs : bW 0 base w stv sts) (hB : base ≤ B) (hM : base ≤ M) (hne : B ≠ M) :
 jq base w.heap.size B M w stv sts g (List.replicate sts.length 0) none :=
 ⟨⟨.slice none 0 0, 0, false, by rw [List.length_replicate]; exact h1, rfl, rfl⟩, h2, hs, ⟨hB, h1.lt⟩, ⟨hM, h2.lt⟩, hne, Nat.le_refl _⟩
theorem best_impl (sv : Value) (sts : List St) (g : Gr) (tons : Int) (w : World) (Hs : bW 0 w.heap.size w sv sts) :
 Calls Tryz.prog 108 #[sv, grV g, .int .i64 tons] w (BestGot w.heap.size (dM sts g tons) w) := by
 have HS := hide Hs;have hsl := Hs.len;have HVV := hide (fun W lo hi H => stsv_impl sv sts lo hi W H);have HTT := hide (fun W => aU tons 1 12 W);have hg := fun W => grv_impl g W;obtain ⟨aos, cps, rfl, -, -, -, -⟩ := Hs;unfold grV at hg ⊢;have HG := hide hg;clear hg;go_enter Tryz.func108, Tryz.ntmps108;go_wp2_with fail
 refine aj fun wx hwx => ?_;have A_0 : ae wx (w.heap.size) 25 [.int .i64 g.lc, .int .i64 g.hc, .int .i64 g.lm, .int .i64 g.hm, .int .i64 g.ls, .int .i64 g.hs] := by rw [hwx]; exact (ae.new _ _ _)
 have B_0 : Below w.heap.size w wx := by rw [hwx]; go_grown
 clear hwx;have VS_0 := hide (HS.out.below B_0);have k1 := HVV.out wx _ _ VS_0.out;cases c1 : dY sts with
 | false =>
  have HZ := hide (best_no1 (g := g) (t := tons) c1);rw [c1] at k1;clear c1;refine (k1).mono ?_;rintro e w1 ⟨rfl, hb⟩;have B_1 := bs B_0 hb;clear hb k1;go_wp2_with fail
  go_ret2
  exact ⟨_, _, _, by rw [HZ.out]; rfl, by rw [HZ.out]; (intro mix h; cases h), B_1.out⟩
 | true =>
 have C1 := hide c1;have hl4 := dG c1;rw [c1] at k1;clear c1;refine (k1).mono ?_;rintro e w1 ⟨rfl, hb⟩;have A_1 := A_0.below hb A_0.lt;have VS_1 := hide (VS_0.out.below hb);have B_1 := bs B_0 hb;clear hb k1;have cA0 := A_1.c 0 rfl;have cA1 := A_1.c 1 rfl;have cA2 := A_1.c 2 rfl;have cA3 := A_1.c 3 rfl;have cA4 := A_1.c 4 rfl;have cA5 := A_1.c 5 rfl;go_wp2_with fail
 have k2 := HG.out w1;cases c2 : grB g with
 | false =>
  have HZ := hide (best_no2 (sts := sts) (t := tons) c2);rw [c2] at k2;clear c2;refine (k2).mono ?_;rintro e w2 ⟨rfl, hb⟩;have B_2 := bs B_1.out hb;clear hb k2 cA0 cA1 cA2 cA3 cA4 cA5;go_wp2_with fail
  go_ret2
  exact ⟨_, _, _, by rw [HZ.out]; rfl, by rw [HZ.out]; (intro mix h; cases h), B_2.out⟩
 | true =>
 have C2 := hide c2;rw [c2] at k2;clear c2;refine (k2).mono ?_;rintro e w2 ⟨rfl, hb⟩;have A_2 := A_1.below hb A_1.lt;have VS_2 := hide (VS_1.out.below hb);have B_2 := bs B_1.out hb;clear hb k2 cA0 cA1 cA2 cA3 cA4 cA5;have k3 := HTT.out w2;go_wp2_with fail
 cases c3 : wi tons 1 12 with
 | false =>
  have HZ := hide (best_no3 (sts := sts) (g := g) c3);rw [c3] at k3;clear c3;refine (k3).mono ?_;rintro e w3 ⟨rfl, rfl⟩;clear k3;go_wp2_with fail
  go_ret2
  exact ⟨_, _, _, by rw [HZ.out]; rfl, by rw [HZ.out]; (intro mix h; cases h), B_2.out⟩
 | true =>
 have C3 := hide c3;rw [c3] at k3;clear c3;refine (k3).mono ?_;rintro e w3 ⟨rfl, rfl⟩;clear k3;have cA0 := A_2.c 0 rfl;have cA1 := A_2.c 1 rfl;have cA2 := A_2.c 2 rfl;have cA3 := A_2.c 3 rfl;have cA4 := A_2.c 4 rfl;have cA5 := A_2.c 5 rfl;have hL := A_2.lt;have hmk := fun W => gN (P := Tryz.prog) 27 3 _ _ _ Tryz.underlying27 bF .i64 .i64 sts.length (by omega) (by omega) W;go_wp2_with fail
 go_region
 ·clear hmk cA0 cA1 cA2 cA3 cA4 cA5 A_1 A_2
  go_wp2_with fail
  refine aj fun wx hwx => ?_;have SR : jq w2.heap.size wx.heap.size (w2.heap.size + 1) (w2.heap.size) wx (.slice aos sts.length cps) sts g (List.replicate sts.length 0) none := by
   refine srch_start ?_ ?_ ?_ (by omega) (by omega) (by omega)
   ·rw [hwx]; exact ae.drew (by have h := ae.new (w2.alloc (.cells (madeCells #[.int .i64 0] sts.length) 3)) 151 (cO (.slice aos sts.length cps) (.slice none 0 0) g w2.heap.size sts.length 0 false); rw [show (w2.alloc (.cells (madeCells #[.int .i64 0] sts.length) 3)).heap.size = w2.heap.size + 1 by simp] at h; exact h)
   ·rw [hwx]; exact ae.drew ((rowL_made w2 sts.length).alloc _)
   ·rw [hwx]; exact ((VS_2.out.mono nl B_2.out.size nl).below ((((Below.refl _ _).alloc nl _).alloc (by simp) _).drew))
  have HBx := hide (show Below w2.heap.size w2 wx by rw [hwx]; exact (((Below.refl _ _).alloc nl _).alloc (by simp) _).drew);clear hwx;obtain ⟨ht1, ht2⟩ := aN.1 C3.out;refine (from_any C1.out sts.length 0 (by omega) wx (List.replicate sts.length 0) none tons SR (by simp) (fun k _ => rep_zero _ _) (by omega) ht2).mono ?_;rintro e w3 ⟨rfl, K, hb3⟩;have HK := hide K;have HB3 := hide (B_2.out.trans ((HBx.out.trans hb3).mono B_2.out.size));clear hb3 SR;obtain ⟨bv, c, f, r, q⟩ := K.box;have d8 : w3.cell? ⟨w2.heap.size + 1, 8, none⟩ = some bv := r.cell 8 (by simp [cO]);have d10 := r.c 10 rfl;have hE := best_yes C1.out C2.out C3.out;clear K r;rw [List.take_zero] at q;generalize fD sts g none (dH [] (allM (bN sts 0) tons)) = b at q hE;have HE := hide hE;have HQ := hide q;clear hE q;go_wp2_with fail
  go_quiet (fail)
  go_wp2_with fail
  rcases b with _ | ⟨x, y⟩
  ·obtain ⟨rfl, rfl⟩ := HQ.out
   go_ret2
   exact ⟨none, 0, 0, by rw [HE.out]; rfl, by rw [HE.out]; (intro mix h; cases h), below_drewN HB3.out _⟩
  ·obtain ⟨rfl, rfl, own⟩ := HQ.out
   obtain ⟨ao, cap, rfl, -, -⟩ := own.form
   go_ret2
   refine ⟨ao, x.length, cap, by rw [HE.out]; rfl, fun mix h => ?_, below_drewN HB3.out _⟩;rw [HE.out] at h;obtain rfl := Option.some.inj h;have hLx := HK.out.hL;exact (iy own rfl hLx).mono (by have := HBx.out.size; have := B_2.out.size; omega) nl nl
 ·clear hmk cA0 cA1 cA2 cA3 cA4 cA5 A_1 A_2
  go_wp2_with fail
  refine aj fun wx hwx => ?_;have SR : jq w2.heap.size wx.heap.size (w2.heap.size) (w2.heap.size + 1) wx (.slice aos sts.length cps) sts g (List.replicate sts.length 0) none := by
   refine srch_start ?_ ?_ ?_ (by omega) (by omega) (by omega)
   ·rw [hwx]; exact ae.drew ((ae.new w2 151 (cO (.slice aos sts.length cps) (.slice none 0 0) g (w2.heap.size + 1) sts.length 0 false)).alloc _)
   ·rw [hwx]; exact ae.drew (by have h := rowL_made (w2.alloc (.cells (cO (.slice aos sts.length cps) (.slice none 0 0) g (w2.heap.size + 1) sts.length 0 false).toArray 151)) sts.length; rw [show (w2.alloc (.cells (cO (.slice aos sts.length cps) (.slice none 0 0) g (w2.heap.size + 1) sts.length 0 false).toArray 151)).heap.size = w2.heap.size + 1 by simp] at h; exact h)
   ·rw [hwx]; exact ((VS_2.out.mono nl B_2.out.size nl).below ((((Below.refl _ _).alloc nl _).alloc (by simp) _).drew))
  have HBx := hide (show Below w2.heap.size w2 wx by rw [hwx]; exact (((Below.refl _ _).alloc nl _).alloc (by simp) _).drew);clear hwx;obtain ⟨ht1, ht2⟩ := aN.1 C3.out;refine (from_any C1.out sts.length 0 (by omega) wx (List.replicate sts.length 0) none tons SR (by simp) (fun k _ => rep_zero _ _) (by omega) ht2).mono ?_;rintro e w3 ⟨rfl, K, hb3⟩;have HK := hide K;have HB3 := hide (B_2.out.trans ((HBx.out.trans hb3).mono B_2.out.size));clear hb3 SR;obtain ⟨bv, c, f, r, q⟩ := K.box;have d8 : w3.cell? ⟨w2.heap.size, 8, none⟩ = some bv := r.cell 8 (by simp [cO]);have d10 := r.c 10 rfl;have hE := best_yes C1.out C2.out C3.out;clear K r;rw [List.take_zero] at q;generalize fD sts g none (dH [] (allM (bN sts 0) tons)) = b at q hE;have HE := hide hE;have HQ := hide q;clear hE q;go_wp2_with fail
  go_quiet (fail)
  go_wp2_with fail
  rcases b with _ | ⟨x, y⟩
  ·obtain ⟨rfl, rfl⟩ := HQ.out
   go_ret2
   exact ⟨none, 0, 0, by rw [HE.out]; rfl, by rw [HE.out]; (intro mix h; cases h), below_drewN HB3.out _⟩
  ·obtain ⟨rfl, rfl, own⟩ := HQ.out
   obtain ⟨ao, cap, rfl, -, -⟩ := own.form
   go_ret2
   refine ⟨ao, x.length, cap, by rw [HE.out]; rfl, fun mix h => ?_, below_drewN HB3.out _⟩;rw [HE.out] at h;obtain rfl := Option.some.inj h;have hLx := HK.out.hL;exact (iy own rfl hLx).mono (by have := HBx.out.size; have := B_2.out.size; omega) nl nl
end Go.Proofs.YtkhecelpafojdaaGreatDoor
