/-
  Parts of the proofs over mills, of: PileA, PileB. Conditions: each theorem states its own.
-/
import Derived.Lib.AppendZeros
import Derived.Test.YtkhecelpafojdaaGreatDoorF08
set_option linter.unusedSimpArgs false
set_option linter.unusedVariables false
set_option maxRecDepth 10000
set_option maxHeartbeats 64000000
namespace Go.Proofs.YtkhecelpafojdaaGreatDoor
open Go.RowKit
theorem au.take {lo hi n cap k : Nat} {ao : Option Addr} {w : World} {xs : List Int} (h : au lo hi w (.slice ao n cap) xs) (hk : k ≤ n) : au lo hi w (.slice ao k cap) (xs.take k) := by
 obtain ⟨ao', cap', e, a1, a2, a3, a4⟩ := h;simp only [Value.slice.injEq] at e;obtain ⟨rfl, rfl, rfl⟩ := e;have hl : (xs.take k).length = k := by simp; omega
 refine ⟨ao, cap, by rw [hl], by omega, a2, a3, fun hn => ?_⟩;obtain ⟨b, o, ea, hb1, hb2, hc⟩ := a4 (by omega);refine ⟨b, o, ea, hb1, hb2, fun i hi => ?_⟩;rw [List.getElem_take];exact hc i (by omega)
theorem l1Has_any (v : Value) (xs : List Int) (lo hi : Nat) (n : Int) (w : World) (h : au lo hi w v xs) :
 Calls Tryz.prog 97 #[v, .int .i64 n] w fun e w' => e = .returned (.bool (jo xs n)) ∧ w = w' := by
 obtain ⟨ao, cap, rfl, hlc, hcap, hhi, hc⟩ := h;have Hc := hide hc;clear hc;go_enter Tryz.func97, Tryz.ntmps97;go_wp2_with fail
 go_loop [5] (fun i => ∃ k : Nat, k ≤ xs.length ∧ i = .int .i64 k ∧ (∀ j (_ : j < xs.length), j < k → xs[j] ≠ n)) (fun i => xs.length - (intOf i).toNat)
 case atStart => exact ⟨0, Nat.zero_le _, rfl, fun _ _ h => absurd h (Nat.not_lt_zero _)⟩
 case round =>
  obtain ⟨k, hk, rfl, hall⟩ := hrel;have Ha := hide hall;clear hall;by_cases hlt : k < xs.length
  ·obtain ⟨b, o, rfl, hb1, hb2, hcs⟩ := Hc.out (by omega)
   obtain ⟨h1, -⟩ := hcs k hlt;clear hcs;by_cases hq : xs[k] = n
   ·have hqB : (xs[k] == n) = true := by simp [hq]
    have hm : jo xs n = true := dE.2 (by rw [← hq]; exact List.getElem_mem _);have HM := hide hm;clear hq hm;go_wp2_with fail
    go_ret;exact ⟨by rw [HM.out]; rfl, rfl⟩
   ·have hqB : (xs[k] == n) = false := by simp [hq]
    have HQ := hide hq;clear hq;go_wp2_with fail
    go_round
    case rel =>
     refine ⟨k + 1, by omega, by go_num, fun j hj hjk => ?_⟩;rcases Nat.lt_or_ge j k with h | h
     ·exact Ha.out j hj h
     ·obtain rfl : j = k := by omega
      exact HQ.out
    case measure => simp [intOf]; omega
  ·have hm : jo xs n = false := by
    rw [hasI_false];intro hx;obtain ⟨j, hj, e⟩ := List.getElem_of_mem hx;exact Ha.out j hj (by omega) e
   have HM := hide hm;clear hm;go_wp2_with fail
   go_ret;exact ⟨by rw [HM.out]; rfl, rfl⟩
theorem contains_hasI (xs : List Int) (n : Int) : xs.contains n = jo xs n := by
 rw [Bool.eq_iff_iff, dE]; simp
theorem getD_eq {xs : List Int} {j : Nat} (h : j < xs.length) : xs.getD j 0 = xs[j] := by simp [h]
theorem contains_any (ao : Option Addr) (cap k : Nat) (xs : List Int) (lo hi : Nat) (n : Int) (w : World) (h : au lo hi w (.slice ao xs.length cap) xs) (hk : k ≤ xs.length) :
 Calls Tryz.prog 101 #[.slice ao k cap, .int .i64 n] w fun e w' => e = .returned (.bool (jo (xs.take k) n)) ∧ w = w' := by
 rcases Nat.eq_zero_or_pos k with rfl | hk0
 ·exact (Tryz.slices_Contains_int_empty ao cap n w).mono fun e w' ⟨he, hw⟩ => ⟨by rw [he]; rfl, hw.symm⟩
 ·have hlen := h.len
  obtain ⟨ao', cap', e, a1, a2, a3, a4⟩ := h;simp only [Value.slice.injEq] at e;obtain ⟨rfl, -, rfl⟩ := e;obtain ⟨b, o, rfl, hb1, hb2, hc⟩ := a4 (by omega);exact (Tryz.slices_Contains_int b o k cap xs n w hk (by omega) (fun j hj => by rw [(hc j hj).1, getD_eq hj])).mono fun e w' ⟨he, hw⟩ => ⟨by rw [he, contains_hasI], hw.symm⟩
theorem grow_any (n : Nat) (h0 : 0 < n) (h1 : n ≤ 1000) (w : World) :
 Calls Tryz.prog 119 #[.slice none 0 0, .int .i64 n] w fun e w' => ∃ cap, e = .returned (.slice (some ⟨w.heap.size, 0, none⟩) 0 cap) ∧ w'.ownsRow w.heap.size 3 1 (.slice (some ⟨w.heap.size, 0, none⟩) 0 cap) 0 [] ∧ Below w.heap.size w w' := by
 obtain ⟨i0, hi0, hz0, hi1, hi2⟩ := info_parts bF;have hn0 : (0 : Int) < (n : Int) := by omega
 have hrun := Lib.run_append_nil_zeros (P := Tryz.prog) w 27 3 27 3 i0 (.int .i64 0) .i64 .i64 Tryz.underlying27 Tryz.underlying3 hi0 hz0 n h0 (by omega) (by omega) (by rw [hi2]; omega);have hge := grownCap_ge w n 0 3;have hle := grownCap_le_maxLen w n 0 3 (by unfold maxLen; omega);obtain ⟨cap, hcap⟩ : ∃ cap, grownCap w n 0 3 = cap := ⟨_, rfl⟩;rw [hcap] at hrun hge hle;have HR := hide hrun;unfold maxLen at hle;have hwr : IntKind.i64.wrap (n : Int) = n := by rw [IntWalk.i64_in] <;> omega
 clear hrun hcap hi1 hi2 hz0;go_enter Tryz.func119, Tryz.ntmps119;go_wp2_with (at_builtin; refine Lib.wpList_append_run w rfl _ _ 27 3 rfl (.slice none 0 0) (.int .i64 n) rfl rfl _ _ HR.out ?_)
 go_wp2_with fail
 go_ret;refine ⟨cap, rfl, ?_, by go_grown⟩;have hw : ∀ cs : Array Value, cs.size = cap → (w.drew.alloc (.cells cs 3)).ownsRow w.heap.size 3 1 (.slice (some ⟨w.heap.size, 0, none⟩) 0 cap) 0 [] := fun cs hcs =>
  ⟨rfl, .inr ⟨w.heap.size, cap, cs, rfl, Nat.le_refl _, heap_alloc_new w.drew _, Nat.zero_le _, by unfold maxLen; omega, by omega, by simp⟩⟩
 exact hw _ (by simp [size_zeroCells]; omega)
def fA (base : Nat) (xs : List Int) (w : World) (e : Ending) (w' : World) : Prop := ∃ v, e = .returned v ∧ w'.ownsRow base 3 1 v xs.length (aC xs) ∧ Below base w w'
def jJ (xs ys : List Int) (k : Nat) : List Int := if k = 0 then [] else if k = 1 then xs else xs ++ ys
theorem flatI_append (a b : List Int) : aC (a ++ b) = aC a ++ aC b := by simp [aC]
theorem jG (a : List Int) : (aC a).length = a.length := by simp [aC]
theorem concat_any (B T : Nat) (l h : Value) (xs ys : List Int) (w : World) (hr : ae w B T [l, h]) (Hl : au 0 w.heap.size w l xs) (Hh : au 0 w.heap.size w h ys) (h0 : 0 < xs.length + ys.length) (h1 : xs.length + ys.length ≤ 1000) :
 Calls Tryz.prog 70 #[.slice (some ⟨B, 0, none⟩) 2 2] w (fA w.heap.size (xs ++ ys) w) := by
 have HL := hide Hl;have HH := hide Hh;have c0 : w.cell? ⟨B, 0, none⟩ = some l := hr.cell 0 (by simp);have c1 : w.cell? ⟨B, 1, none⟩ = some h := hr.cell 1 (by simp);have hB := hr.lt;obtain ⟨ao1, cap1, rfl, -, -, -, -⟩ := Hl;obtain ⟨ao2, cap2, rfl, -, -, -, -⟩ := Hh;obtain ⟨i0, hi0, hz0, hi1, hi2⟩ := info_parts bF;have HR := hide hr;clear hr;go_enter Tryz.func70, Tryz.ntmps70;go_wp2_with fail
 go_loop [3, 5, 11] (fun z s i => ∃ k : Nat, k ≤ 2 ∧ i = .int .i64 k ∧ z = .int .i64 ((jJ xs ys k).length : Nat)) (fun _ _ i => 2 - (intOf i).toNat)
 case atStart => exact ⟨0, Nat.zero_le _, rfl, rfl⟩
 case round =>
  obtain ⟨k, hk, rfl, rfl⟩ := hrel;have hk3 : k = 0 ∨ k = 1 ∨ k = 2 := by omega
  rcases hk3 with rfl | rfl | rfl
  ·have e : (jJ xs ys 0).length = 0 := rfl
   rw [e];clear e;go_wp2_with fail
   go_round
   case rel => exact ⟨1, by omega, rfl, by go_num⟩
   case measure => simp [intOf]
  ·have e : (jJ xs ys 1).length = xs.length := rfl
   rw [e];clear e;go_wp2_with fail
   go_round
   case rel => exact ⟨2, by omega, rfl, by simp [jJ]⟩
   case measure => simp [intOf]
  ·obtain ⟨n, hn⟩ : ∃ n, xs.length + ys.length = n := ⟨_, rfl⟩
   have e : (jJ xs ys 2).length = n := by rw [← hn]; simp [jJ]
   rw [e];have hn0 : 0 < n := by omega
   have hn1 : n ≤ 1000 := by omega
   clear e hn;go_wp2_with fail
   refine (grow_any n hn0 hn1 w).mono ?_;rintro e w1 ⟨cap, rfl, hown, hb1⟩;have HO := hide hown;have HB1 := hide hb1;clear hown hb1 c0 c1;go_wp2_with fail
   go_loopw [6, 8, 27] (fun v s i wr => ∃ k : Nat, k ≤ 2 ∧ i = .int .i64 k ∧ wr.ownsRow w.heap.size 3 1 v (jJ xs ys k).length (aC (jJ xs ys k)) ∧ Below w.heap.size w wr) (fun _ _ i _ => 2 - (intOf i).toNat)
   case atStart => exact ⟨0, by omega, rfl, by simpa [jJ, aC] using HO.out, HB1.out⟩
   case round =>
    obtain ⟨k, hk, rfl, hown, hb⟩ := hrel;have HW := hide hown;have HBr := hide hb;obtain ⟨aov, capv, rfl, -, -⟩ := aB hown;have HRr := hide (HR.out.below hb HR.out.lt);have hz := hb.size;clear hown hb;have hk3 : k = 0 ∨ k = 1 ∨ k = 2 := by omega
    rcases hk3 with rfl | rfl | rfl
    ·have d0 : wr.cell? ⟨B, 0, none⟩ = some (.slice ao1 xs.length cap1) := HRr.out.cell 0 (by simp)
     have hsrc := (HL.out.below HBr.out).source;have HS := hide hsrc;clear hsrc;go_wp2_with (at_builtin; refine aA rfl _ _ 27 rfl w.heap.size 3 i0 (.int .i64 0) 1 8 Tryz.underlying27 hi0 hz0 hi1 hi2 rfl (by decide) _ _ _ rfl HW.out _ _ _ rfl HS.out ?c1 ?c2 hz ?_)
     case c1 => unfold maxLen; simp [jJ]; omega
     case c2 => simp [jJ]; omega
     intro v2 w2 hown2 hgrow2 _;have hB2 : Below w.heap.size w w2 := HBr.out.trans (Below.grow hgrow2 HW.out nl hz);have HO2 := hide (show w2.ownsRow w.heap.size 3 1 v2 (jJ xs ys 1).length (aC (jJ xs ys 1)) by simpa [jJ, aC] using hown2);have HB2 := hide hB2;clear hown2 hgrow2 hB2 d0;go_wp2_with fail
     go_roundw
     case rel => exact ⟨1, by omega, rfl, HO2.out, HB2.out⟩
     case measure => simp [intOf]
    ·have d0 : wr.cell? ⟨B, 1, none⟩ = some (.slice ao2 ys.length cap2) := HRr.out.cell 1 (by simp)
     have hsrc := (HH.out.below HBr.out).source;have HS := hide hsrc;clear hsrc;go_wp2_with (at_builtin; refine aA rfl _ _ 27 rfl w.heap.size 3 i0 (.int .i64 0) 1 8 Tryz.underlying27 hi0 hz0 hi1 hi2 rfl (by decide) _ _ _ rfl HW.out _ _ _ rfl HS.out ?c1 ?c2 hz ?_)
     case c1 => unfold maxLen; simp [jJ]; omega
     case c2 => simp [jJ]; omega
     intro v2 w2 hown2 hgrow2 _;have hB2 : Below w.heap.size w w2 := HBr.out.trans (Below.grow hgrow2 HW.out nl hz);have HO2 := hide (show w2.ownsRow w.heap.size 3 1 v2 (jJ xs ys 2).length (aC (jJ xs ys 2)) by simpa [jJ, aC] using hown2);have HB2 := hide hB2;clear hown2 hgrow2 hB2 d0;go_wp2_with fail
     go_roundw
     case rel => exact ⟨2, by omega, rfl, HO2.out, HB2.out⟩
     case measure => simp [intOf]
    ·go_wp2_with fail
     go_ret;exact ⟨_, rfl, by simpa [jJ] using HW.out, HBr.out⟩
theorem pileB_no1 {lo hi : List Int} (h : wi lo.length 1 6 = false) : aO lo hi = false := by simp [aO, h]
theorem pileB_no2 {lo hi : List Int} (h : ((hi.length : Int) != (lo.length : Int) - 1) = true) : aO lo hi = false := by
 have : decide ((hi.length : Int) = (lo.length : Int) - 1) = false := by simpa using h
 simp [aO, this]
theorem idK_at {ids : List Int} {k : Nat} (hk : k < ids.length) : idK ids k = (wi ids[k] 0 99 && (ids[k] == 0 || !jo (ids.take k) ids[k])) := by simp [idK, hk]
theorem onK_at {lo hi : List Int} {k : Nat} (hk : k < hi.length) (h1 : k + 1 < lo.length) : onK lo hi k = (hi[k] == 0 || (lo[k] != 0 && lo[k + 1] != 0)) := by
 have : k < lo.length := by omega
 simp [onK, hk, this, h1]
theorem pileB_ids {lo hi : List Int} {k : Nat} (hk : k < (lo ++ hi).length) (h : idK (lo ++ hi) k = false) : aO lo hi = false := by
 simp only [aO, upTo_false hk h, Bool.false_and, Bool.and_false]
theorem pileB_on {lo hi : List Int} {k : Nat} (hk : k < hi.length) (h : onK lo hi k = false) : aO lo hi = false := by
 simp only [aO, upTo_false hk h, Bool.and_false]
theorem pileB_yes {lo hi : List Int} (h1 : wi lo.length 1 6 = true) (h2 : ((hi.length : Int) != (lo.length : Int) - 1) = false) (h3 : ∀ k, k < (lo ++ hi).length → idK (lo ++ hi) k = true) (h4 : ∀ k, k < hi.length → onK lo hi k = true) : aO lo hi = true := by
 have : decide ((hi.length : Int) = (lo.length : Int) - 1) = true := by simpa using h2
 unfold aO;rw [h1, this, upTo_true h3, upTo_true h4]; rfl
theorem gI (l h : Value) (lo hi : List Int) (w : World) (Hl : au 0 w.heap.size w l lo) (Hh : au 0 w.heap.size w h hi) :
 Calls Tryz.prog 52 #[aD l h] w fun e w' => e = .returned (.bool (aO lo hi)) ∧ Below w.heap.size w w' := by
 have HL := hide Hl;have HH := hide Hh;have hl1 := Hl.len;have hl2 := Hh.len;obtain ⟨ao1, cap1, rfl, -, -, -, -⟩ := Hl;obtain ⟨ao2, cap2, rfl, -, -, -, -⟩ := Hh;unfold aD;have hI := fun w => aU lo.length 1 6 w;cases h1 : wi lo.length 1 6 with
 | false =>
  rw [h1] at hI;have hf := pileB_no1 (hi := hi) h1;have HF := hide hf;clear hf h1;go_enter Tryz.func52, Tryz.ntmps52;go_wp2_with fail
  refine (hI _).mono ?_;rintro e w1 ⟨rfl, rfl⟩;go_wp2_with fail
  go_ret;exact ⟨by rw [HF.out]; rfl, by go_grown⟩
 | true =>
  rw [h1] at hI;obtain ⟨q1, q2⟩ := aN.1 h1;cases h2 : ((hi.length : Int) != (lo.length : Int) - 1) with
  | true =>
   have hf := pileB_no2 (lo := lo) h2;have HF := hide hf;clear hf;go_enter Tryz.func52, Tryz.ntmps52;go_wp2_with fail
   refine (hI _).mono ?_;rintro e w1 ⟨rfl, rfl⟩;go_wp2_with fail
   go_ret;exact ⟨by rw [HF.out]; rfl, by go_grown⟩
  | false =>
   have hlen : hi.length + 1 = lo.length := by simp at h2; omega
   have H1 := hide h1;have H2 := hide h2;clear h1;go_enter Tryz.func52, Tryz.ntmps52;go_wp2_with fail
   refine (hI _).mono ?_;rintro e w1 ⟨rfl, rfl⟩;go_wp2_with fail
   refine aj fun wx hwx => ?_;have R1 : ae wx w.heap.size 29 [.slice ao1 lo.length cap1, .slice ao2 hi.length cap2] := by rw [hwx]; exact (ae.new _ _ _).alloc _
   have R2 : ae wx (w.heap.size + 1) 27 [.slice ao1 lo.length cap1, .slice ao2 hi.length cap2] := by rw [hwx]; simpa using ae.new (w.alloc _) 27 [.slice ao1 lo.length cap1, .slice ao2 hi.length cap2]
   have hb0 : Below w.heap.size w wx := by rw [hwx]; go_grown
   clear hwx;refine (concat_any _ _ _ _ lo hi _ R2 ((HL.out.below hb0).mono nl hb0.size nl) ((HH.out.below hb0).mono nl hb0.size nl) (by omega) (by omega)).mono ?_;rintro e w1 ⟨v, rfl, hown, hb1⟩;have hat := bH hown rfl hb1.size;obtain ⟨ids, hids⟩ : ∃ ids, lo ++ hi = ids := ⟨_, rfl⟩;have hil : ids.length = lo.length + hi.length := by rw [← hids]; simp
   rw [hids] at hat hown;have HIDS := hide hids;have HAT := hide hat;have HB1 := bs hb0 hb1;have R1b := R1.below hb1 R1.lt;have hx0 := R1.lt;obtain ⟨aov, capv, rfl, -, -⟩ := aB hown;have hl3 : ids.length ≤ 20 := by omega
   clear hown hb1 hids hat hil;obtain ⟨aov', capv', e', hcc, -, -, hcv⟩ := HAT.out;simp only [Value.slice.injEq] at e';obtain ⟨rfl, -, rfl⟩ := e';have HCV := hide hcv;clear hcv;have hp := R1b.cell 0 (by simp);have hp1 := R1b.cell 1 (by simp);simp only [List.getD_cons_zero, List.getD_cons_succ] at hp hp1;go_wp2_with fail
   go_loop [4, 5, 31] (fun _ _ i => ∃ k : Nat, k ≤ ids.length ∧ i = .int .i64 k ∧ (∀ j, j < k → idK ids j = true)) (fun _ _ i => ids.length - (intOf i).toNat)
   case atStart => exact ⟨0, Nat.zero_le _, rfl, fun _ h => absurd h (Nat.not_lt_zero _)⟩
   case round =>
    obtain ⟨k, hk, rfl, hall⟩ := hrel;have HA := hide hall;clear hall;by_cases hlt : k < ids.length
    ·obtain ⟨b, o, rfl, hx1, hx2, hcs⟩ := HCV.out (by omega)
     obtain ⟨r1, -⟩ := hcs k hlt;have hk1 := idK_at hlt;obtain ⟨x, hx⟩ : ∃ x, ids[k] = x := ⟨_, rfl⟩;rw [hx] at r1 hk1;have HK1 := hide hk1;clear hcs hk1 hx;have hW := fun w => aU x 0 99 w;have hC' := contains_any (some ⟨b, o, none⟩) capv k ids _ _ x w1 HAT.out (by omega);have hkI : (k : Int) < (ids.length : Int) := by omega
     have hkc : (k : Int) ≤ (capv : Int) := by omega
     have hk0 : (0 : Int) ≤ (k : Int) := by omega
     cases g1 : wi x 0 99 with
     | false =>
      rw [g1] at hW;have HF := hide (show aO lo hi = false from pileB_ids (k := k) (by rw [HIDS.out]; exact hlt) (by rw [HIDS.out, HK1.out, g1]; rfl));clear g1;go_wp2_with fail
      refine (hW _).mono ?_;rintro e w2 ⟨rfl, rfl⟩;go_wp2_with fail
      go_ret;exact ⟨by rw [HF.out]; rfl, HB1.out⟩
     | true =>
      rw [g1] at hW;cases g2 : (x == 0) with
      | true =>
       have g3 : (x != 0) = false := by rw [bne, g2]; rfl
       have HN := hide (show idK ids k = true by rw [HK1.out, g1, g2]; rfl);clear g1 g2;go_wp2_with fail
       refine (hW _).mono ?_;rintro e w2 ⟨rfl, rfl⟩;go_wp2_with fail
       go_round
       case rel => exact ⟨k + 1, by omega, by go_num, dn HA.out HN.out⟩
       case measure => simp [intOf]; omega
      | false =>
       have g3 : (x != 0) = true := by rw [bne, g2]; rfl
       cases g4 : jo (ids.take k) x with
       | true =>
        rw [g4] at hC';have HF := hide (show aO lo hi = false from pileB_ids (k := k) (by rw [HIDS.out]; exact hlt) (by rw [HIDS.out, HK1.out, g1, g2, g4]; rfl));clear g1 g2 g4;go_wp2_with fail
        refine (hW _).mono ?_;rintro e w2 ⟨rfl, rfl⟩;go_wp2_with fail
        refine hC'.mono ?_;rintro e w2 ⟨rfl, rfl⟩;go_wp2_with fail
        go_ret;exact ⟨by rw [HF.out]; rfl, HB1.out⟩
       | false =>
        rw [g4] at hC';have HN := hide (show idK ids k = true by rw [HK1.out, g1, g2, g4]; rfl);clear g1 g2 g4;go_wp2_with fail
        refine (hW _).mono ?_;rintro e w2 ⟨rfl, rfl⟩;go_wp2_with fail
        refine hC'.mono ?_;rintro e w2 ⟨rfl, rfl⟩;go_wp2_with fail
        go_round
        case rel => exact ⟨k + 1, by omega, by go_num, dn HA.out HN.out⟩
        case measure => simp [intOf]; omega
    ·obtain rfl : k = ids.length := by omega
     have HLw := hide (HL.out.below HB1.out);have HHw := hide (HH.out.below HB1.out);clear HCV HAT;go_wp2_with fail
     go_loop [6, 7, 54] (fun _ _ i => ∃ k : Nat, k ≤ hi.length ∧ i = .int .i64 k ∧ (∀ j, j < k → onK lo hi j = true)) (fun _ _ i => hi.length - (intOf i).toNat)
     case atStart => exact ⟨0, Nat.zero_le _, rfl, fun _ h => absurd h (Nat.not_lt_zero _)⟩
     case round =>
      obtain ⟨k, hk, rfl, hall⟩ := hrel;have HA2 := hide hall;clear hall;by_cases hlt : k < hi.length
      ·obtain ⟨_, _, e1, -, -, -, hcl⟩ := HLw.out
       obtain ⟨_, _, e2, -, -, -, hch⟩ := HHw.out;simp only [Value.slice.injEq] at e1 e2;obtain ⟨rfl, -, rfl⟩ := e1;obtain ⟨rfl, -, rfl⟩ := e2;obtain ⟨b1, o1, rfl, -, -, hcs1⟩ := hcl (by omega);obtain ⟨b2, o2, rfl, -, -, hcs2⟩ := hch (by omega);obtain ⟨r1, -⟩ := hcs1 k (by omega);obtain ⟨r2, -⟩ := hcs1 (k + 1) (by omega);obtain ⟨r3, -⟩ := hcs2 k hlt;have hk1 := onK_at hlt (show k + 1 < lo.length by omega);obtain ⟨x, hx⟩ : ∃ x, hi[k] = x := ⟨_, rfl⟩;obtain ⟨y, hy⟩ : ∃ y, lo[k]'(by omega) = y := ⟨_, rfl⟩;obtain ⟨z, hz⟩ : ∃ z, lo[k + 1]'(by omega) = z := ⟨_, rfl⟩;rw [hx, hy, hz] at hk1;rw [hx] at r3;rw [hy] at r1;rw [hz] at r2;have HK1 := hide hk1;clear hcl hch hcs1 hcs2 hk1 hx hy hz;have hkI : (k : Int) < (hi.length : Int) := by omega
       have hkI2 : (k : Int) < (lo.length : Int) := by omega
       have hkI3 : (k : Int) + 1 < (lo.length : Int) := by omega
       cases g1 : (x == 0) with
       | true =>
        have g3 : (x != 0) = false := by rw [bne, g1]; rfl
        have HN := hide (show onK lo hi k = true by rw [HK1.out, g1]; rfl);clear g1;go_wp2_with fail
        go_round
        case rel => exact ⟨k + 1, by omega, by go_num, dn HA2.out HN.out⟩
        case measure => simp [intOf]; omega
       | false =>
        have g3 : (x != 0) = true := by rw [bne, g1]; rfl
        cases g4 : (y == 0) with
        | true =>
         have HF := hide (show aO lo hi = false from pileB_on hlt (by rw [HK1.out, g1, bne, g4]; rfl));clear g1;go_wp2_with fail
         go_ret;exact ⟨by rw [HF.out]; rfl, HB1.out⟩
        | false =>
         cases g5 : (z == 0) with
         | true =>
          have HF := hide (show aO lo hi = false from pileB_on hlt (by rw [HK1.out, g1, bne, bne, g4, g5]; rfl));clear g1;go_wp2_with fail
          go_ret;exact ⟨by rw [HF.out]; rfl, HB1.out⟩
         | false =>
          have HN := hide (show onK lo hi k = true by rw [HK1.out, g1, bne, bne, g4, g5]; rfl);clear g1;go_wp2_with fail
          go_round
          case rel => exact ⟨k + 1, by omega, by go_num, dn HA2.out HN.out⟩
          case measure => simp [intOf]; omega
      ·obtain rfl : k = hi.length := by omega
       have HF := hide (show aO lo hi = true from pileB_yes H1.out H2.out (by rw [HIDS.out]; exact HA.out) HA2.out);go_wp2_with fail
       go_ret;exact ⟨by rw [HF.out]; rfl, HB1.out⟩
end Go.Proofs.YtkhecelpafojdaaGreatDoor
