/-
  Parts of the proofs over mills, of: MillOwn, DrawMA, DrawMB, PileA, DrawMC, DrawMP, SameM, Alive, PlainJ, JournC, CardD, RdPast, DrawMZ. Conditions: each theorem states its own.
-/
import Derived.Test.YtmemgbklgcjobaaGreatDoorY20
import Derived.Test.YtmemgbklgcjobaaGreatDoorY28
set_option linter.unusedSimpArgs false
set_option linter.unusedVariables false
set_option maxRecDepth 10000
set_option maxHeartbeats 64000000
namespace Go.Proofs.YtmemgbklgcjobaaGreatDoor
open Go.RowKit
theorem flatS_append (a b : List St) : flatS (a ++ b) = flatS a ++ flatS b := by simp [flatS]
theorem flatP_append (a b : List Pc) : flatP (a ++ b) = flatP a ++ flatP b := by simp [flatP]
theorem odd_none (R : Nat) (w : World) :
 Calls Tryz.prog 120 #[.pointer (some ⟨R, 0, none⟩), .int .i64 0] w fun e w' => e = .returned (.bool false) ∧ Below w.heap.size w w' := by
 go_enter Tryz.func120, Tryz.ntmps120;go_wp2_with fail
 go_ret;exact ⟨rfl, by go_grown⟩
theorem l20Stuff_any (R k : Nat) (w : World) (h : Rd R k w) (hk : k ≤ 100000) :
 Calls Tryz.prog 178 #[.pointer (some ⟨R, 0, none⟩), .int .i64 0] w fun e w' => ∃ s : St, e = .returned (.agg #[.int .i64 s.c, .int .i64 s.m, .int .i64 s.s, .int .i64 s.p, .int .i64 s.k]) ∧ stB s = true ∧ Other R (R + 1) w w' ∧ Rd R (k + 5) w' := by
 have hlt := h.lt;have HRx := hide h;clear h;go_enter Tryz.func178, Tryz.ntmps178;go_wp2_with fail
 refine calls_at fun wx hwx => ?_;have Z0 : RowL wx w.heap.size 65 [.int .i64 0, .int .i64 0, .int .i64 0, .int .i64 0, .int .i64 0] := by rw [hwx]; exact RowL.new _ _ _
 have hb : Below w.heap.size w wx := by rw [hwx]; go_grown
 have HO0 := hide (Other.of_below (lo := R) (hi := R + 1) hb);have HR0 := hide (HRx.out.keep hb hlt);have hz0 := hb.size;have hZl := Z0.lt;clear hwx hb;refine (pick_in R _ 9 wx HR0.out (by omega) (by omega) (by omega)).mono ?_;rintro e w1 ⟨a, rfl, aa, ab, ho, hr⟩;have HO1 := hide (HO0.out.trans ho);have Z1 := Z0.other ho (by omega);have hz1 := ho.size;have HR1 := hide hr;clear ho hr;go_wp2_with fail
 refine (pick_in R _ 7 w1 HR1.out (by omega) (by omega) (by omega)).mono ?_;rintro e w2 ⟨b, rfl, ba, bb, ho, hr⟩;have HO2 := hide (HO1.out.trans ho);have Z2 := Z1.other ho (by omega);have hz2 := ho.size;have HR2 := hide hr;clear ho hr;go_wp2_with fail
 refine (pick_in R _ 5 w2 HR2.out (by omega) (by omega) (by omega)).mono ?_;rintro e w3 ⟨c, rfl, ca, cb, ho, hr⟩;have HO3 := hide (HO2.out.trans ho);have Z3 := Z2.other ho (by omega);have hz3 := ho.size;have HR3 := hide hr;clear ho hr;go_wp2_with fail
 refine (pick_in R _ 30 w3 HR3.out (by omega) (by omega) (by omega)).mono ?_;rintro e w4 ⟨d, rfl, da, db, ho, hr⟩;have HO4 := hide (HO3.out.trans ho);have Z4 := Z3.other ho (by omega);have hz4 := ho.size;have HR4 := hide hr;clear ho hr;go_wp2_with fail
 refine (pick_in R _ 10 w4 HR4.out (by omega) (by omega) (by omega)).mono ?_;rintro e w5 ⟨g, rfl, ga, gb, ho, hr⟩;have HO5 := hide (HO4.out.trans ho);have Z5 := Z4.other ho (by omega);have hz5 := ho.size;have HR5 := hide hr;clear ho hr;go_wp2_with fail
 refine calls_at fun wy hwy => ?_;have S0 : RowL wy w5.heap.size 65 [.int .i64 (a * 5), .int .i64 (b * 10), .int .i64 (c * 10), .int .i64 d, .int .i64 g] := by rw [hwy]; exact RowL.new _ _ _
 have hb : Below w5.heap.size w5 wy := by rw [hwy]; exact (Below.refl _ _).alloc nl _
 have HOy := hide (HO5.out.step hb (by omega));have HRy := hide (HR5.out.keep hb (by omega));have Zy := Z5.below hb Z5.lt;have hzy := hb.size;clear hwy hb;refine (odd_none R wy).mono ?_;rintro e wz ⟨rfl, hb⟩;have HOz := hide (HOy.out.step hb (by omega));have HRz := hide (HRy.out.keep hb (by omega));have Zz := Zy.below hb Zy.lt;have Sz := S0.below hb S0.lt;have hzz := hb.size;clear hb;have cS0 : wz.cell? ⟨w5.heap.size, 0, none⟩ = some (.int .i64 (a * 5)) := Sz.cell 0 (by simp);have cS1 : wz.cell? ⟨w5.heap.size, 1, none⟩ = some (.int .i64 (b * 10)) := Sz.cell 1 (by simp);have cS2 : wz.cell? ⟨w5.heap.size, 2, none⟩ = some (.int .i64 (c * 10)) := Sz.cell 2 (by simp);have cS3 : wz.cell? ⟨w5.heap.size, 3, none⟩ = some (.int .i64 d) := Sz.cell 3 (by simp);have cS4 : wz.cell? ⟨w5.heap.size, 4, none⟩ = some (.int .i64 g) := Sz.cell 4 (by simp);have cZ0 : wz.cell? ⟨w.heap.size, 0, none⟩ = some (.int .i64 0) := Zz.cell 0 (by simp);have fZ0 := Zz.frozen 0;have cZ1 : wz.cell? ⟨w.heap.size, 1, none⟩ = some (.int .i64 0) := Zz.cell 1 (by simp);have fZ1 := Zz.frozen 1;have cZ2 : wz.cell? ⟨w.heap.size, 2, none⟩ = some (.int .i64 0) := Zz.cell 2 (by simp);have fZ2 := Zz.frozen 2;have cZ3 : wz.cell? ⟨w.heap.size, 3, none⟩ = some (.int .i64 0) := Zz.cell 3 (by simp);have fZ3 := Zz.frozen 3;have cZ4 : wz.cell? ⟨w.heap.size, 4, none⟩ = some (.int .i64 0) := Zz.cell 4 (by simp);have fZ4 := Zz.frozen 4;go_wp2_with fail
 refine bodyPost_ret (by simp [results, Tryz.results178, go_sem, cZ0, cZ1, cZ2, cZ3, cZ4]; try rfl) rfl ?_;refine ⟨⟨a * 5, b * 10, c * 10, d, g⟩, rfl, stB_iff.2 ⟨by constructor <;> dsimp only <;> omega, by constructor <;> dsimp only <;> omega, by constructor <;> dsimp only <;> omega, by constructor <;> dsimp only <;> omega, by constructor <;> dsimp only <;> omega⟩, HOz.out.step (B := w.heap.size) (by go_grown) nl, HRz.out.keep (B := w.heap.size) (by go_grown) hlt⟩
def StuffsGot (R k : Nat) (w : World) (e : Ending) (w' : World) : Prop :=
 ∃ v xs, e = .returned v ∧ xs.length ≤ 4 ∧ stsB xs = true ∧ w'.ownsRow w.heap.size 65 5 v xs.length (flatS xs) ∧ Other R (R + 1) w w' ∧ Rd R (k + 22) w'
theorem stsB_app {xs : List St} {s : St} (h : stsB xs = true) (hl : xs.length ≤ 3) (hs : stB s = true) : stsB (xs ++ [s]) = true := by
 unfold stsB at h ⊢;simp only [Bool.and_eq_true, decide_eq_true_eq, List.all_append, List.length_append, List.length_cons, List.length_nil, List.all_cons, List.all_nil, Bool.and_true] at h ⊢;exact ⟨by omega, h.2, hs⟩
theorem l20Stuffs_any (R k : Nat) (w : World) (h : Rd R k w) (hk : k ≤ 50000) :
 Calls Tryz.prog 126 #[.pointer (some ⟨R, 0, none⟩), .int .i64 0] w (StuffsGot R k w) := by
 obtain ⟨i0, hi0, hz0, hi1, hi2⟩ := info_parts info_St;have HR := hide h;have hlt := h.lt;clear h;go_enter Tryz.func126, Tryz.ntmps126;go_wp2_with fail
 refine calls_at fun wx hwx => ?_;have O_0 : wx.ownsRow w.heap.size 65 5 (.slice (some ⟨w.heap.size, 0, none⟩) 0 0) 0 [] := by rw [hwx]; simpa using World.ownsRow_lit (e := 65) (size := 5) (base := w.heap.size) w #[] 0 nl (by unfold maxLen; omega) (by simp)
 have hbx : Below w.heap.size w wx := by rw [hwx]; exact (Below.refl _ _).alloc nl _
 have HO0 := hide (Other.of_below (lo := R) (hi := R + 1) hbx);have HR0 := hide (HR.out.keep hbx hlt);clear hwx hbx;have HKO := hide (show ∀ (W W' : World) (u : Value) (m : Nat) (cs : List Value), W.ownsRow w.heap.size 65 5 u m cs → Other R (R + 1) W W' → W'.ownsRow w.heap.size 65 5 u m cs from fun _ _ _ _ _ h k => ownsRow_other h k fun g hg => .inr (Nat.lt_of_lt_of_le hlt (h.lt g hg).1));refine (pick_in R _ 4 wx HR0.out (by omega) (by omega) (by omega)).mono ?_;rintro e w1 ⟨x, rfl, x0, x1, ho, hr⟩;have O_1 := HKO.out _ _ _ _ _ O_0 ho;have HO1 := hide (HO0.out.trans ho);have HR1 := hide hr;clear ho hr O_0;go_wp2_with fail
 refine (pick_in R _ 2 w1 HR1.out (by omega) (by omega) (by omega)).mono ?_;rintro e w2 ⟨y, rfl, y0, y1, ho, hr⟩;have O_2 := hide (HKO.out _ _ _ _ _ O_1 ho);have HO2 := hide (HO1.out.trans ho);have HR2 := hide hr;clear ho hr O_1;obtain ⟨c, hc, hc4⟩ : ∃ c : Nat, x + y = c ∧ c ≤ 4 := ⟨(x + y).toNat, by omega, by omega⟩;have hwr : IntKind.i64.wrap (x + y) = (c : Int) := by rw [hc]; exact IntWalk.i64_in _ (by omega)
 go_wp2_with fail
 go_loopw [5, 6] (fun o i wr => ∃ (c : Nat) (xs : List St), i = .int .i64 c ∧ c + xs.length ≤ 4 ∧ stsB xs = true ∧ Rd R (k + 2 + 5 * xs.length) wr ∧ Other R (R + 1) w wr ∧ wr.ownsRow w.heap.size 65 5 o xs.length (flatS xs)) (fun _ i _ => (intOf i).toNat)
 case atStart => exact ⟨c, [], by first | rfl | (rw [hc]) | (simp [hc]), by simp; omega, rfl, HR2.out, HO2.out, O_2.out⟩
 case round =>
  obtain ⟨c, xs, rfl, hcl, hst, hr, hb, hown⟩ := hrel;have HB := hide hb;have HO := hide hown;have HR := hide hr;have HS := hide hst;obtain ⟨aow, capw, rfl, -, -⟩ := own_slice hown;clear hr hb hown hst;by_cases hc : 0 < c
  ·obtain ⟨d, rfl⟩ : ∃ d, c = d + 1 := ⟨c - 1, by omega⟩
   have hcI : (0 : Int) < ((d + 1 : Nat) : Int) := by omega
   go_wp2_with fail
   refine (l20Stuff_any R _ wr HR.out (by omega)).mono ?_;rintro e w3 ⟨s, rfl, hs, ho, hr3⟩;have HO3 := hide (HKO.out _ _ _ _ _ HO.out ho);have HB3 := hide (HB.out.trans ho);have HS3 := hide (stsB_app HS.out (by omega) hs);have HR3 := hide hr3;have hz3 := HB3.out.size;clear ho hr3 hs;go_wp2_with (at_builtin; refine wpList_append_view rfl _ _ 23 rfl w.heap.size 65 i0 _ 5 40 Tryz.underlying23 hi0 hz0 hi1 hi2 rfl (by decide) _ _ _ rfl (HO3.out.alloc _) (.slice (some ⟨w3.heap.size, 0, none⟩) 1 1) 1 (flatS [s]) rfl ?c0 ?c1 ?c2 ?c3 ?_)
   case c0 => exact Source.lit w3 (flatS [s]) 5 65 1 rfl (flatS_one _) 1
   case c1 => unfold maxLen; omega
   case c2 => omega
   case c3 => simp; omega
   intro v2 w4 hown2 hgrow2 _;have hB4 : Below w.heap.size w3 w4 := ((Below.refl _ w3).alloc (by omega) (.cells (flatS [s]).toArray 65)).trans (Below.grow hgrow2 (HO3.out.alloc _) nl (by simp; omega));have HB4 := hide (HB3.out.step hB4 nl);have HR4 := hide ((HR3.out.keep hB4 hlt).mono (m := k + 2 + 5 * (xs ++ [s]).length) (by simp; omega));have HO4 := hide (show w4.ownsRow w.heap.size 65 5 v2 (xs ++ [s]).length (flatS (xs ++ [s])) by rw [flatS_append, List.length_append]; exact hown2);clear hown2 hgrow2 hB4;go_wp2_with fail
   go_roundw
   case rel => exact ⟨d, xs ++ [s], by go_num, by simp; omega, HS3.out, HR4.out, HB4.out, HO4.out⟩
   case measure => simp [intOf] <;> omega
  ·obtain rfl : c = 0 := by omega
   go_wp2_with fail
   refine (odd_none R wr).mono ?_;rintro e w3 ⟨rfl, hb⟩;have HO3 := hide (ownsRow_below HO.out hb nl);have HB3 := hide (HB.out.step hb HB.out.size);have HR3 := hide (HR.out.keep hb HR.out.lt);clear hb;go_wp2_with fail
   go_ret;exact ⟨_, xs, rfl, by omega, HS.out, HO3.out, HB3.out, HR3.out.mono (by omega)⟩
theorem flatI_append (a b : List Int) : flatI (a ++ b) = flatI a ++ flatI b := by simp [flatI]
def MixGot (R k n : Nat) (w : World) (e : Ending) (w' : World) : Prop :=
 ∃ v mix, e = .returned v ∧ mix.length = n ∧ (∀ j, j < mix.length → 0 ≤ mix.getD j 0 ∧ mix.getD j 0 ≤ 9) ∧ w'.ownsRow w.heap.size 3 1 v mix.length (flatI mix) ∧ Other R (R + 1) w w' ∧ Rd R (k + 8) w'
theorem getD_snoc9 {mix : List Int} {x : Int} (h : ∀ j, j < mix.length → 0 ≤ mix.getD j 0 ∧ mix.getD j 0 ≤ 9) (h0 : 0 ≤ x) (h9 : x ≤ 9) : ∀ j, j < (mix ++ [x]).length → 0 ≤ (mix ++ [x]).getD j 0 ∧ (mix ++ [x]).getD j 0 ≤ 9 := by
 intro j hj;rw [List.getD_eq_getElem?_getD, List.getElem?_append];split
 ·rename_i hl
  have := h j hl
  rwa [List.getD_eq_getElem?_getD] at this
 ·have e : j - mix.length = 0 := by simp at hj; omega
  rw [e]; simp [h0, h9]
theorem l20Mix_any (R k lo hi : Nat) (sv : Value) (xs : List St) (w : World) (h : Rd R k w) (hk : k ≤ 50000) (Hs : StAt lo hi w sv xs) (hlo : R + 1 ≤ lo) (hst : stsB xs = true) :
 Calls Tryz.prog 129 #[.pointer (some ⟨R, 0, none⟩), sv, .int .i64 0] w (MixGot R k xs.length w) := by
 obtain ⟨i0, hi0, hz0, hi1, hi2⟩ := info_parts info_int;have HR := hide h;have hlt := h.lt;have HS := hide Hs;have HST := hide hst;have hl4 := stsB_len hst;obtain ⟨aos, caps, rfl, -, -, hhi, -⟩ := Hs;clear h hst;go_enter Tryz.func129, Tryz.ntmps129;go_wp2_with fail
 have O_0 := hide (show (w.alloc (.cells #[] 3)).ownsRow w.heap.size 3 1 (.slice (some ⟨w.heap.size, 0, none⟩) 0 0) 0 [] by simpa using World.ownsRow_lit (e := 3) (size := 1) (base := w.heap.size) w #[] 0 nl (by unfold maxLen; omega) (by simp));have HKO := hide (show ∀ (W W' : World) (u : Value) (m : Nat) (cs : List Value), W.ownsRow w.heap.size 3 1 u m cs → Other R (R + 1) W W' → W'.ownsRow w.heap.size 3 1 u m cs from fun _ _ _ _ _ h k => ownsRow_other h k fun g hg => .inr (Nat.lt_of_lt_of_le hlt (h.lt g hg).1));have hb0 : Below w.heap.size w (w.alloc (.cells #[] 3)) := (Below.refl _ _).alloc nl _;have HO0 := hide (Other.of_below (lo := R) (hi := R + 1) hb0);have HR0 := hide (HR.out.keep hb0 hlt);clear hb0
 go_loopw [7, 8] (fun o i wr => ∃ (mix : List Int), i = .int .i64 mix.length ∧ mix.length ≤ xs.length ∧ (∀ j, j < mix.length → 0 ≤ mix.getD j 0 ∧ mix.getD j 0 ≤ 9) ∧ Rd R (k + 2 * mix.length) wr ∧ Other R (R + 1) w wr ∧ wr.ownsRow w.heap.size 3 1 o mix.length (flatI mix)) (fun _ i _ => xs.length - (intOf i).toNat)
 case atStart => exact ⟨[], rfl, by simp, fun j hj => absurd hj (Nat.not_lt_zero _), HR0.out, HO0.out, O_0.out⟩
 case round =>
  obtain ⟨mix, rfl, hcl, hmx, hr, hb, hown⟩ := hrel;have HB := hide hb;have HO := hide hown;have HR := hide hr;have HM := hide hmx;obtain ⟨aow, capw, rfl, -, -⟩ := own_slice hown;clear hr hb hown hmx;by_cases hc : mix.length < xs.length
  ·have hcI : (mix.length : Int) < (xs.length : Int) := by omega
   have hsc := stB_iff.1 (stsB_getD HST.out hc);obtain ⟨b, o, cps, e1, -, -, -, -, -, -, r1⟩ := st_at (HS.out.other HB.out (.inr hlo)) hc;simp only [Value.slice.injEq, true_and] at e1;obtain ⟨rfl, rfl⟩ := e1;obtain ⟨q, hq, hq0, hq9⟩ : ∃ q : Int, (xs.getD mix.length st0).k = q ∧ 0 ≤ q ∧ q ≤ 9 := ⟨_, rfl, hsc.2.2.2.2.1, hsc.2.2.2.2.2⟩;rw [hq] at r1;have hmax : max q 0 = q := by omega
   clear hq hsc;go_wp2_with fail
   refine (pick_in R _ _ wr HR.out (by omega) (by omega) (by omega)).mono ?_;rintro e w2 ⟨x, rfl, x0, x1, ho, hr⟩;have HO2 := hide (HKO.out _ _ _ _ _ HO.out ho);have HB2 := hide (HB.out.trans ho);have HR2 := hide hr;clear ho hr r1;go_wp2_with fail
   refine (pick_in R _ 3 w2 HR2.out (by omega) (by omega) (by omega)).mono ?_;rintro e w3 ⟨y, rfl, y0, y1, ho, hr⟩;have HO3 := hide (HKO.out _ _ _ _ _ HO2.out ho);have HB3 := hide (HB2.out.trans ho);have HR3 := hide hr;have hz3 := HB3.out.size;clear ho hr;obtain ⟨t, ht, ht0, ht9⟩ : ∃ t : Int, x.tdiv (1 + y) = t ∧ 0 ≤ t ∧ t ≤ 9 := by
    have hx9 : x ≤ 9 := by omega
    refine ⟨_, rfl, Int.tdiv_nonneg x0 (by omega), ?_⟩;rw [Int.tdiv_eq_ediv_of_nonneg x0];exact Int.le_trans (Int.ediv_le_self _ x0) hx9
   have hy1 : ((1 + y) == 0) = false := by simp; omega
   go_wp2_with (at_builtin; refine wpList_append_view rfl _ _ 27 rfl w.heap.size 3 i0 _ 1 8 Tryz.underlying27 hi0 hz0 hi1 hi2 rfl (by decide) _ _ _ rfl (HO3.out.alloc _) (.slice (some ⟨w3.heap.size, 0, none⟩) 1 1) 1 (flatI [t]) rfl ?c0 ?c1 ?c2 ?c3 ?_)
   case c0 => exact Source.lit w3 (flatI [t]) 1 3 1 rfl (flatI_one _) 1
   case c1 => unfold maxLen; omega
   case c2 => omega
   case c3 => simp; omega
   intro v2 w4 hown2 hgrow2 _;have hB4 : Below w.heap.size w3 w4 := ((Below.refl _ w3).alloc (by omega) (.cells (flatI [t]).toArray 3)).trans (Below.grow hgrow2 (HO3.out.alloc _) nl (by simp; omega));have HB4 := hide (HB3.out.step hB4 nl);have HR4 := hide ((HR3.out.keep hB4 hlt).mono (m := k + 2 * (mix ++ [t]).length) (by simp; omega));have HO4 := hide (show w4.ownsRow w.heap.size 3 1 v2 (mix ++ [t]).length (flatI (mix ++ [t])) by rw [flatI_append, List.length_append]; exact hown2);have HM4 := hide (getD_snoc9 HM.out ht0 ht9);clear hown2 hgrow2 hB4 ht;go_wp2_with fail
   go_roundw
   case rel => exact ⟨mix ++ [t], by rw [List.length_append]; go_num, by simp; omega, HM4.out, HR4.out, HB4.out, HO4.out⟩
   case measure => simp [intOf] <;> omega
  ·go_wp2_with fail
   refine (odd_none R wr).mono ?_;rintro e w3 ⟨rfl, hb⟩;have HO3 := hide (ownsRow_below HO.out hb nl);have HB3 := hide (HB.out.step hb HB.out.size);have HR3 := hide (HR.out.keep hb HR.out.lt);clear hb;go_wp2_with fail
   go_ret;exact ⟨_, mix, rfl, by omega, HM.out, HO3.out, HB3.out, HR3.out.mono (by omega)⟩
theorem do_small {m : Mi} {d : J} (h : (doR m d).2 = true) : (doR m d).1.pieces.length ≤ 30 ∧ (doR m d).1.low.length ≤ 6 := by
 cases hv : millB m
 ·rw [do_bad hv] at h; cases h
 ·have hx := millB_iff.1 (do_law hv h).2.1
  exact ⟨hx.len, hx.pile.l6⟩
theorem tight_do {m : Mi} {d : J} (h : (doR m d).2 = true) : Tight (doR m d).1 := by
 obtain ⟨h1, h2⟩ := do_small h;exact ⟨h1, h2⟩
theorem row12_all {w : World} {b T : Nat} {v0 v1 v2 v3 v4 v5 v6 v7 v8 v9 v10 v11 : Value} (h : RowL w b T [v0, v1, v2, v3, v4, v5, v6, v7, v8, v9, v10, v11]) :
 w.cell? ⟨b, 0, none⟩ = some v0 ∧ w.cell? ⟨b, 1, none⟩ = some v1 ∧ w.cell? ⟨b, 2, none⟩ = some v2 ∧ w.cell? ⟨b, 3, none⟩ = some v3 ∧ w.cell? ⟨b, 4, none⟩ = some v4 ∧ w.cell? ⟨b, 5, none⟩ = some v5 ∧ w.cell? ⟨b, 6, none⟩ = some v6 ∧ w.cell? ⟨b, 7, none⟩ = some v7 ∧ w.cell? ⟨b, 8, none⟩ = some v8 ∧ w.cell? ⟨b, 9, none⟩ = some v9 ∧ w.cell? ⟨b, 10, none⟩ = some v10 ∧ w.cell? ⟨b, 11, none⟩ = some v11 :=
 ⟨h.c 0 rfl, h.c 1 rfl, h.c 2 rfl, h.c 3 rfl, h.c 4 rfl, h.c 5 rfl, h.c 6 rfl, h.c 7 rfl, h.c 8 rfl, h.c 9 rfl, h.c 10 rfl, h.c 11 rfl⟩
theorem mixTons_23 (b : Nat) (w : World) (h0 : w.cell? ⟨b, 0, none⟩ = some (.int .i64 2)) (h1 : w.cell? ⟨b, 1, none⟩ = some (.int .i64 3)) :
 Calls Tryz.prog 71 #[.slice (some ⟨b, 0, none⟩) 2 2] w fun e w' => e = .returned (.int .i64 5) ∧ w = w' := by
 go_enter Tryz.func71, Tryz.ntmps71
 go_wp2
 go_loop [3, 8] (fun s i => ∃ k : Nat, k ≤ 2 ∧ i = .int .i64 k ∧ s = .int .i64 (if k = 0 then 0 else if k = 1 then 2 else 5)) (fun _ i => 2 - (intOf i).toNat)
 case atStart => exact ⟨0, Nat.zero_le _, rfl, rfl⟩
 case round =>
  obtain ⟨k, hk, rfl, rfl⟩ := hrel;have hk3 : k = 0 ∨ k = 1 ∨ k = 2 := by omega
  rcases hk3 with rfl | rfl | rfl
  ·go_wp2
   go_round
   case rel => exact ⟨1, by omega, rfl, rfl⟩
   case measure => simp [intOf]
  ·go_wp2
   go_round
   case rel => exact ⟨2, by omega, rfl, rfl⟩
   case measure => simp [intOf]
  ·go_wp2
   go_ret;exact ⟨rfl, rfl⟩
theorem gradeValid_5 (w : World) :
 Calls Tryz.prog 83 #[.agg #[.int .i64 5, .int .i64 0, .int .i64 0, .int .i64 0, .int .i64 0, .int .i64 0]] w fun e w' => e = .returned (.bool false) ∧ Below w.heap.size w w' := by
 have e1 : wi 5 0 999 = true := rfl;have e2 : wi 0 5 999 = false := rfl;go_enter Tryz.func83, Tryz.ntmps83;go_wp2_with (go_at_call 79; refine (within_any _ _ _ _).mono ?_; rintro e w' ⟨rfl, rfl⟩)
 all_goals
  go_ret;exact ⟨rfl, by go_grown⟩
theorem gradeText_5 (w : World) :
 Calls Tryz.prog 72 #[.agg #[.int .i64 5, .int .i64 0, .int .i64 0, .int .i64 0, .int .i64 0, .int .i64 0]] w fun e w' => e = .returned (.string ⟨#[]⟩) ∧ Below w.heap.size w w' := by
 go_enter Tryz.func72, Tryz.ntmps72;go_wp2_with fail
 refine (gradeValid_5 _).mono ?_;rintro e w1 ⟨rfl, hb⟩;go_wp2_with fail
 go_ret;exact ⟨rfl, Below.step ((Below.refl _ _).alloc nl _) hb nl⟩
theorem alive_any (w : World) : Calls Tryz.prog 20 #[] w fun e w' => e = .returned (.bool true) ∧ Below w.heap.size w w' := by
 go_enter Tryz.func20, Tryz.ntmps20;go_wp2_with fail
 refine (mixTons_23 _ _ (by simp [go_sem]) (by simp [go_sem])).mono ?_;rintro e w1 ⟨rfl, rfl⟩;go_wp2_with fail
 refine (gradeText_5 _).mono ?_;rintro e w1 ⟨rfl, hb⟩;go_wp2_with fail
 go_ret;exact ⟨rfl, Below.step ((Below.refl _ _).alloc nl _) hb nl⟩
def dtJ (d : J) : ByteArray := dtB d.s d.d d.g
theorem dtJ_len (d : J) : (dtJ d).size ≤ 60 := by
 unfold dtJ dtB;split
 ·rename_i h
  simp only [Bool.and_eq_true, wi_iff] at h;obtain ⟨-, h2, h3, -⟩ := h;have n1 := name_len d.s;have n2 := numB_len d.d (by omega) (by omega);have n3 := numB_len d.g (by omega) (by omega);have n4 : spB.size = 1 := rfl;split
  ·simp only [ByteArray.size_append]; omega
  ·simp only [ByteArray.size_append]; omega
 ·exact Nat.zero_le _
end Go.Proofs.YtmemgbklgcjobaaGreatDoor
namespace Go.Proofs.YtmemgbklgcjobaaGreatDoor
open Go.ChangeShapes Go.WideShapes Go.Deep Go.RowKit Go.ChangeAt
section
variable {H : Type} {enc : TypeId × Value → H} {P : Program}
theorem open_bytesAt {t e : TypeId} {w : World} {v : Value} {d : DataW H} {ps : List MemPlace} (ht : P.underlying t = some (.slice e)) (he : P.underlying e = some (.int .u8)) (hc : P.cellsOf e = 1)
 (h : DataW.Trod enc P w 0 (fun _ => true) true t v d ps) (hvs : ∃ ao n c, v = .slice ao n c) : ∃ n, BytesAt 0 w.heap.size w v n := by
 obtain ⟨ao, n0, c0, rfl⟩ := hvs;obtain ⟨fuel, hf⟩ := h;rcases open_slice1 ht hc hf with ⟨hcs, hx⟩ | ⟨a, len, cap, m, n, V, D, Pl, hcs, hb, hl, hm, hmm, hx, hi⟩
 ·simp only [Value.cells, List.cons.injEq, and_true] at hcs
  rw [hcs];exact ⟨0, none, 0, rfl, Nat.le_refl _, by omega, Nat.le_refl _, fun h => absurd h (Nat.not_lt_zero _)⟩
 ·simp only [Value.cells, List.cons.injEq, and_true] at hcs
  rw [hcs];simp only [↓reduceIte] at hmm;subst hmm;have hint : ∀ i, i < m → ∃ x : Int, V i = .int .u8 x ∧ 0 ≤ x ∧ x ≤ 255 := fun i him => by
   obtain ⟨_, ht'⟩ := hi i him;obtain ⟨x, e1, _, e3⟩ := DataW.trod_int he ht';simp only [List.cons.injEq, and_true] at e1;simp [Lit.wf, IntKind.min, IntKind.max, IntKind.signed, IntKind.bits] at e3;exact ⟨x, e1, by omega, by omega⟩
  refine ⟨len, some a, m, rfl, hl, by unfold maxLen at hm; omega, Nat.le_refl _, fun hn => ?_⟩;obtain ⟨h0, _⟩ := hi 0 (by omega);have ha0 : a.add 0 = a := by simp [Addr.add]
  rw [ha0] at h0;obtain ⟨hs, hblt⟩ := cell_spot h0;obtain ⟨b, o, sp⟩ := a;simp only at hs hblt;subst hs;refine ⟨b, o, rfl, Nat.zero_le _, hblt, fun i hi' => ?_⟩;obtain ⟨h1, _⟩ := hi i (by omega);obtain ⟨x, e1, e2, e3⟩ := hint i (by omega);have hadd : (⟨b, o, none⟩ : Addr).add i = ⟨b, o + i, none⟩ := by
   unfold Addr.add;split
   ·next h => subst h; rfl
   ·rfl
  rw [hadd] at h1;exact ⟨x, by rw [h1, e1], e2, e3⟩
end
end Go.Proofs.YtmemgbklgcjobaaGreatDoor
namespace Go.Proofs.YtmemgbklgcjobaaGreatDoor
open Go.RowKit
theorem no8_zero : ∀ u ∈ [Value.slice none 0 0, Value.int .i64 0, Value.int .i64 0, Value.int .i64 0, Value.int .i64 0, Value.int .i64 0, Value.int .i64 0, Value.int .i64 0, Value.slice none 0 0, Value.slice none 0 0, Value.slice none 0 0, Value.int .i64 0], ∀ x, u ≠ Value.int .u8 x := by
 intro u hu x;simp only [List.mem_cons, List.not_mem_nil, or_false] at hu;rcases hu with rfl | rfl | rfl | rfl | rfl | rfl | rfl | rfl | rfl | rfl | rfl | rfl <;> (intro h; cases h)
def MillIsAt (b Z : Nat) (w0 : World) (s p l h : Value) (m : Mi) (W : World) : Prop :=
 RowL W Z 31 (millC s p l h m) ∧ MillGot b W s p l h m ∧ Below b w0 W
theorem mia_z {b b' Z : Nat} {w0 w : World} {s p l h : Value} {us : List Value} {m : Mi} (rz : RowL w Z 31 us) (hl : us.length = 12) (G : MillGot b' w s p l h m) (B : Below b w0 w) (hbb : b ≤ b') (hz : b ≤ w0.heap.size) (h1 : b ≤ Z) :
 MillIsAt b Z w0 s p l h m (((((((((((((w).setCell ⟨Z, 0, none⟩ (s)).setCell ⟨Z, 1, none⟩ (.int .i64 m.rule.lc)).setCell ⟨Z, 2, none⟩ (.int .i64 m.rule.hc)).setCell ⟨Z, 3, none⟩ (.int .i64 m.rule.lm)).setCell ⟨Z, 4, none⟩ (.int .i64 m.rule.hm)).setCell ⟨Z, 5, none⟩ (.int .i64 m.rule.ls)).setCell ⟨Z, 6, none⟩ (.int .i64 m.rule.hs)).setCell ⟨Z, 7, none⟩ (.int .i64 m.strand)).setCell ⟨Z, 8, none⟩ (p)).setCell ⟨Z, 9, none⟩ (l)).setCell ⟨Z, 10, none⟩ (h)).setCell ⟨Z, 11, none⟩ (.int .i64 m.scrap)) := by
 have T := other12 Z w s (.int .i64 m.rule.lc) (.int .i64 m.rule.hc) (.int .i64 m.rule.lm) (.int .i64 m.rule.hm) (.int .i64 m.rule.ls) (.int .i64 m.rule.hs) (.int .i64 m.strand) p l h (.int .i64 m.scrap);exact ⟨row12 rz hl _ _ _ _ _ _ _ _ _ _ _ _, (G.past rz T).mono hbb, B.trans (T.below h1 (Nat.le_trans hz B.size))⟩
theorem mia_0 {b b' Z : Nat} {w0 w : World} {s p l h : Value} {m : Mi} (rz : RowL w Z 31 (millC s p l h m)) (G : MillGot b' w s p l h m) (B : Below b w0 w) (hbb : b ≤ b') : MillIsAt b Z w0 s p l h m w := ⟨rz, G.mono hbb, B⟩
end Go.Proofs.YtmemgbklgcjobaaGreatDoor
