/-
  Parts of the proofs over mills, of: PileC, CoilA. Conditions: each theorem states its own.
-/
import Derived.Test.YtkhecelpafojdaaGreatDoorF09
set_option linter.unusedSimpArgs false
set_option linter.unusedVariables false
set_option maxRecDepth 10000
set_option maxHeartbeats 64000000
namespace Go.Proofs.YtkhecelpafojdaaGreatDoor
open Go.RowKit
theorem bL {P : Program} {f : FuncId} {args : Array Value} {w : World} {n : Nat} {v : Value}
 (h : Calls P f args (w.drewN n) fun e w' => e = .returned v ∧ w.drewN n = w') : Calls P f args (w.drewN n) fun e w'' => e = .returned v ∧ ∃ m, w'' = w.drewN m :=
 h.mono fun _ _ ⟨he, hm⟩ => ⟨he, n, hm.symm⟩
theorem gJ (l h : Value) (lo hi : List Int) (w : World) (Hl : au 0 w.heap.size w l lo) (Hh : au 0 w.heap.size w h hi) :
 Calls Tryz.prog 43 #[aD l h] w fun e w' => e = .returned (.bool (aO lo hi)) ∧ Below w.heap.size w w' := by
 have HL := hide Hl;have HH := hide Hh;have hl1 := Hl.len;have hl2 := Hh.len;obtain ⟨ao1, cap1, rfl, -, -, -, -⟩ := Hl;obtain ⟨ao2, cap2, rfl, -, -, -, -⟩ := Hh;unfold aD;have hI := fun w => aY lo.length 1 6 w;cases h1 : wi lo.length 1 6 with
 | false =>
  rw [h1] at hI;have hf := pileB_no1 (hi := hi) h1;have HF := hide hf;clear hf h1;go_enter Tryz.func43, Tryz.ntmps43;go_wp2_with fail
  refine (hI _).mono ?_;rintro e w1 ⟨rfl, rfl⟩;go_wp2_with fail
  go_ret;exact ⟨by rw [HF.out]; rfl, by go_grown⟩
 | true =>
  rw [h1] at hI;obtain ⟨q1, q2⟩ := aN.1 h1;cases h2 : ((hi.length : Int) != (lo.length : Int) - 1) with
  | true =>
   have hf := pileB_no2 (lo := lo) h2;have HF := hide hf;clear hf;go_enter Tryz.func43, Tryz.ntmps43;go_wp2_with fail
   refine (hI _).mono ?_;rintro e w1 ⟨rfl, rfl⟩;go_wp2_with fail
   go_ret;exact ⟨by rw [HF.out]; rfl, by go_grown⟩
  | false =>
   have hlen : hi.length + 1 = lo.length := by simp at h2; omega
   have H1 := hide h1;have H2 := hide h2;clear h1;obtain ⟨i0, hi0, hz0, hi1, hi2⟩ := info_parts bF;go_enter Tryz.func43, Tryz.ntmps43;go_wp2_with fail
   refine (hI _).mono ?_;rintro e w1 ⟨rfl, rfl⟩;go_wp2_with fail
   obtain ⟨wx, hwx⟩ : ∃ wx, wx = w.alloc (Obj.cells #[.slice ao1 lo.length cap1, .slice ao2 hi.length cap2] 29) := ⟨_, rfl⟩;rw [← hwx];have R1 : ae wx w.heap.size 29 [.slice ao1 lo.length cap1, .slice ao2 hi.length cap2] := by rw [hwx]; exact ae.new _ _ _
   have hb0 : Below w.heap.size w wx := by rw [hwx]; go_grown
   have hlt := R1.lt;clear hwx;have hp := R1.cell 0 (by simp);have hp1 := R1.cell 1 (by simp);simp only [List.getD_cons_zero, List.getD_cons_succ] at hp hp1;have o1 : (wx.alloc (.cells #[] 3)).ownsRow wx.heap.size 3 1 (.slice (some ⟨wx.heap.size, 0, none⟩) 0 0) 0 [] := by simpa using World.ownsRow_lit (e := 3) (size := 1) wx #[] 0 nl (by unfold maxLen; omega) (by simp)
   have O1 := hide (show (wx.alloc (.cells #[] 3)).drew.ownsRow wx.heap.size 3 1 (.slice (some ⟨wx.heap.size, 0, none⟩) 0 0) 0 [] from o1);have HB0 := hide (show Below wx.heap.size wx (wx.alloc (.cells #[] 3)).drew from ((Below.refl _ _).alloc nl _).drew);have S1 := hide (show Source (wx.alloc (.cells #[] 3)).drew 1 (.slice ao1 lo.length cap1) lo.length (aC lo) from ((HL.out.below hb0).below HB0.out).source);have HSZ := hide (show wx.heap.size ≤ (wx.alloc (.cells #[] 3)).drew.heap.size by simp);clear o1
   go_cut [3] from 21 to 27 (fun v wr => wr.ownsRow wx.heap.size 3 1 v (lo ++ hi).length (aC (lo ++ hi)) ∧ Below wx.heap.size wx wr)
   case first =>
    go_region_law (first
     | (refine ed rfl (.tmp 21) (.tmp 23) 27 rfl wx.heap.size 3 i0 (.int .i64 0) 1 8 Tryz.underlying27 hi0 hz0 hi1 hi2 rfl (by decide) _ _ _ (by simp [Act.eval]) O1.out _ _ _ (by simp [Act.eval]) S1.out (by unfold maxLen; omega) (by omega) HSZ.out ?_; intro v2 w2 hown2 hgrow2 _; have hb2 := HB0.out.trans (Below.grow hgrow2 O1.out nl HSZ.out); have c2 : w2.cell? ⟨w.heap.size, 1, none⟩ = some (.slice ao2 hi.length cap2) := (R1.below hb2 R1.lt).cell 1 (by simp); have S2 := hide (((HH.out.below hb0).below hb2).source))
     | (refine ed rfl (.tmp 24) (.tmp 26) 27 rfl wx.heap.size 3 i0 (.int .i64 0) 1 8 Tryz.underlying27 hi0 hz0 hi1 hi2 rfl (by decide) _ _ _ (by simp [Act.eval]) hown2 _ _ _ (by simp [Act.eval]) S2.out (by unfold maxLen; omega) (by omega) hb2.size ?_; intro v3 w3 hown3 hgrow3 _))
    all_goals
     have hb3 := hb2.trans (Below.grow hgrow3 hown2 nl hb2.size);have HO3 := hide (show w3.ownsRow wx.heap.size 3 1 v3 (lo ++ hi).length (aC (lo ++ hi)) by simpa [aC] using hown3);have HB3 := hide hb3;clear hown3 hgrow3 hown2 hgrow2 hb3;go_wp2_with fail
     go_meet;exact ⟨HO3.out, HB3.out⟩
   case rest =>
    obtain ⟨hown, hb1⟩ := hcut;have hat := bH hown rfl hb1.size;obtain ⟨ids, hids⟩ : ∃ ids, lo ++ hi = ids := ⟨_, rfl⟩;have hil : ids.length = lo.length + hi.length := by rw [← hids]; simp
    rw [hids] at hat hown;have HIDS := hide hids;have HAT := hide hat;have HB1 := bs hb0 hb1;have R1b := R1.below hb1 R1.lt;obtain ⟨aov, capv, rfl, -, -⟩ := aB hown;have hl3 : ids.length ≤ 20 := by omega
    clear hown hb1 hids hat hil O1 S1 hp hp1;obtain ⟨aov', capv', e', hcc, -, -, hcv⟩ := HAT.out;simp only [Value.slice.injEq] at e';obtain ⟨rfl, -, rfl⟩ := e';have HCV := hide hcv;clear hcv;go_wp2_with fail
    go_loopw [4] (fun i wr => ∃ k : Nat, k ≤ ids.length ∧ i = .int .i64 k ∧ Below wc.heap.size wc wr ∧ (∀ j, j < k → idK ids j = true)) (fun i _ => ids.length - (intOf i).toNat)
    case atStart => exact ⟨0, Nat.zero_le _, rfl, Below.refl _ _, fun _ h => absurd h (Nat.not_lt_zero _)⟩
    case round =>
     obtain ⟨k, hk, rfl, hb, hall⟩ := hrel;have HA := hide hall;clear hall;by_cases hlt : k < ids.length
     ·obtain ⟨b, o, rfl, hx1, hx2, hcs⟩ := HCV.out (by omega)
      obtain ⟨r1, -⟩ := hcs k hlt;rw [← hb.cell (p := ⟨b, _, none⟩) (by simpa using by omega)] at r1;have hk1 := idK_at hlt;have HHr := hide (au.take (HAT.out.below hb) hk);obtain ⟨x, hx⟩ : ∃ x, ids[k] = x := ⟨_, rfl⟩;rw [hx] at r1 hk1;have HK1 := hide hk1;clear hcs hk1 hx;have hW := fun w => aY x 0 99 w;have hkI : (k : Int) < (ids.length : Int) := by omega
      have hkc : (k : Int) ≤ (capv : Int) := by omega
      have hk0 : (0 : Int) ≤ (k : Int) := by omega
      have HBr := bs HB1.out hb;cases g1 : wi x 0 99 with
      | false =>
       rw [g1] at hW;have HF := hide (show aO lo hi = false from pileB_ids (k := k) (by rw [HIDS.out]; exact hlt) (by rw [HIDS.out, HK1.out, g1]; rfl));clear g1;go_wp2_with fail
       go_quiet ((go_at_call 42; exact bL (hW _)))
       go_wp2_with fail
       go_ret;exact ⟨by rw [HF.out]; rfl, below_drewN HBr.out _⟩
      | true =>
       rw [g1] at hW;obtain ⟨x0, x9⟩ := aN.1 g1;by_cases g2 : x = 0
       ·have g3 : decide (0 < x) = false := by simp; omega
        have HN := hide (show idK ids k = true by rw [HK1.out, g1, g2]; rfl);clear g1 g2;go_wp2_with fail
        go_quiet ((go_at_call 42; exact bL (hW _)))
        go_wp2_with fail
        go_roundw
        case rel => exact ⟨k + 1, by omega, by go_num, below_drewN hb _, dn HA.out HN.out⟩
        case measure => simp [intOf]; omega
       ·have g3 : decide (0 < x) = true := by simp; omega
        have g5 : (x == 0) = false := by simp; omega
        cases g4 : jo (ids.take k) x with
        | true =>
         have HF := hide (show aO lo hi = false from pileB_ids (k := k) (by rw [HIDS.out]; exact hlt) (by rw [HIDS.out, HK1.out, g1, g5, g4]; rfl));clear g1 g2 g5;go_wp2_with fail
         go_quiet ((first | (go_at_call 42; exact bL (hW _)) | (go_at_call 97; exact bL (l1Has_any _ (ids.take k) _ _ _ _ HHr.out))))
         go_wp2_with fail
         go_ret;exact ⟨by rw [HF.out]; rfl, below_drewN HBr.out _⟩
        | false =>
         have HN := hide (show idK ids k = true by rw [HK1.out, g1, g5, g4]; rfl);clear g1 g2 g5;go_wp2_with fail
         go_quiet ((first | (go_at_call 42; exact bL (hW _)) | (go_at_call 97; exact bL (l1Has_any _ (ids.take k) _ _ _ _ HHr.out))))
         go_wp2_with fail
         go_roundw
         case rel => exact ⟨k + 1, by omega, by go_num, below_drewN hb _, dn HA.out HN.out⟩
         case measure => simp [intOf]; omega
     ·obtain rfl : k = ids.length := by omega
      have HBr := bs HB1.out hb;have HLw := hide (HL.out.below HBr.out);have HHw := hide (HH.out.below HBr.out);have RW := R1b.below hb R1b.lt;have hp := RW.cell 0 (by simp);have hp1 := RW.cell 1 (by simp);simp only [List.getD_cons_zero, List.getD_cons_succ] at hp hp1;clear HCV HAT hb R1b R1;obtain ⟨wo, rfl⟩ : ∃ wo : World, wo = wr := ⟨_, rfl⟩;go_wp2_with fail
      go_loop [5] (fun i => ∃ k : Nat, k ≤ hi.length ∧ i = .int .i64 k ∧ (∀ j, j < k → onK lo hi j = true)) (fun i => hi.length - (intOf i).toNat)
      case atStart => exact ⟨0, Nat.zero_le _, rfl, fun _ h => absurd h (Nat.not_lt_zero _)⟩
      case round =>
       obtain ⟨k, hk, rfl, hall⟩ := hrel;have HA2 := hide hall;clear hall;by_cases hlt : k < hi.length
       ·obtain ⟨_, _, e1, -, -, -, hcl⟩ := HLw.out
        obtain ⟨_, _, e2, -, -, -, hch⟩ := HHw.out;simp only [Value.slice.injEq] at e1 e2;obtain ⟨rfl, -, rfl⟩ := e1;obtain ⟨rfl, -, rfl⟩ := e2;obtain ⟨b1, o1, rfl, -, -, hcs1⟩ := hcl (by omega);obtain ⟨b2, o2, rfl, -, -, hcs2⟩ := hch (by omega);obtain ⟨r1, -⟩ := hcs1 k (by omega);obtain ⟨r2, -⟩ := hcs1 (k + 1) (by omega);obtain ⟨r3, -⟩ := hcs2 k hlt;have hk1 := onK_at hlt (show k + 1 < lo.length by omega);obtain ⟨x, hx⟩ : ∃ x, hi[k] = x := ⟨_, rfl⟩;obtain ⟨y, hy⟩ : ∃ y, lo[k]'(by omega) = y := ⟨_, rfl⟩;obtain ⟨z, hz⟩ : ∃ z, lo[k + 1]'(by omega) = z := ⟨_, rfl⟩;have hxm : x ∈ ids := by rw [← HIDS.out, ← hx]; exact List.mem_append_right _ (List.getElem_mem _)
        have hx0 : 0 ≤ x := by
         obtain ⟨j, hj, ej⟩ := jh hxm;have := HA.out j hj;unfold idK at this;rw [ej, Bool.and_eq_true, aN] at this;exact this.1.1
        rw [hx, hy, hz] at hk1;rw [hx] at r3;rw [hy] at r1;rw [hz] at r2;have HK1 := hide hk1;clear hcl hch hcs1 hcs2 hk1 hx hy hz hxm;have hkI : (k : Int) < (hi.length : Int) := by omega
        have hkI2 : (k : Int) < (lo.length : Int) := by omega
        have hkI3 : (k : Int) + 1 < (lo.length : Int) := by omega
        by_cases g1 : x = 0
        ·have g3 : decide (0 < x) = false := by simp; omega
         have HN := hide (show onK lo hi k = true by rw [HK1.out, g1]; rfl);clear g1;go_wp2_with fail
         go_round
         case rel => exact ⟨k + 1, by omega, by go_num, dn HA2.out HN.out⟩
         case measure => simp [intOf]; omega
        ·have g3 : decide (0 < x) = true := by simp; omega
         have g6 : (x == 0) = false := by simp; omega
         cases g4 : (y == 0) with
         | true =>
          have HF := hide (show aO lo hi = false from pileB_on hlt (by rw [HK1.out, g6, bne, g4]; rfl));clear g1 g6;go_wp2_with fail
          go_ret;exact ⟨by rw [HF.out]; rfl, HBr.out⟩
         | false =>
          cases g5 : (z == 0) with
          | true =>
           have HF := hide (show aO lo hi = false from pileB_on hlt (by rw [HK1.out, g6, bne, bne, g4, g5]; rfl));clear g1 g6;go_wp2_with fail
           go_ret;exact ⟨by rw [HF.out]; rfl, HBr.out⟩
          | false =>
           have HN := hide (show onK lo hi k = true by rw [HK1.out, g6, bne, bne, g4, g5]; rfl);clear g1 g6;go_wp2_with fail
           go_round
           case rel => exact ⟨k + 1, by omega, by go_num, dn HA2.out HN.out⟩
           case measure => simp [intOf]; omega
       ·obtain rfl : k = hi.length := by omega
        have HF := hide (show aO lo hi = true from pileB_yes H1.out H2.out (by rw [HIDS.out]; exact HA.out) HA2.out);go_wp2_with fail
        go_ret;exact ⟨by rw [HF.out]; rfl, HBr.out⟩
theorem calls_val {P : Program} {f : FuncId} {args : Array Value} {W : World} {v v2 : Value} (h : Calls P f args W fun e w2 => e = .returned v ∧ Below W.heap.size W w2) (e : v = v2) : Calls P f args W fun e w2 => e = .returned v2 ∧ Below W.heap.size W w2 := e ▸ h
theorem held4 {P : Program} {f : FuncId} {args : Array Value} {r : Value} (hc : ∀ w, Calls P f args w fun e w2 => e = .returned r ∧ Below w.heap.size w w2) {w0 W : World} {B : Nat} {u v x y : Value}
 (h0 : W.cell? ⟨B, 0, none⟩ = some u) (h1 : W.cell? ⟨B, 1, none⟩ = some v) (g0 : W.cell? ⟨B + 1, 0, none⟩ = some x) (g1 : W.cell? ⟨B + 1, 1, none⟩ = some y) (h2 : B + 1 < W.heap.size) (h3 : Below w0.heap.size w0 W) :
 Calls P f args W fun e w2 => e = .returned r ∧ (w2.cell? ⟨B, 0, none⟩ = some u ∧ w2.cell? ⟨B, 1, none⟩ = some v) ∧ (w2.cell? ⟨B + 1, 0, none⟩ = some x ∧ w2.cell? ⟨B + 1, 1, none⟩ = some y) ∧ B + 1 < w2.heap.size ∧ Below w0.heap.size w0 w2 :=
 (hc W).mono fun e w2 ⟨he, hb⟩ => ⟨he, ⟨by rw [hb.cell (Nat.lt_of_succ_lt h2)]; exact h0, by rw [hb.cell (Nat.lt_of_succ_lt h2)]; exact h1⟩, ⟨by rw [hb.cell h2]; exact g0, by rw [hb.cell h2]; exact g1⟩, Nat.lt_of_lt_of_le h2 hb.size, Below.step h3 hb nl⟩
theorem held5 {P : Program} {f : FuncId} {args : Array Value} {r : Value} (hc : ∀ w, Calls P f args w fun e w2 => e = .returned r ∧ Below w.heap.size w w2) {w0 W : World} {B b o : Nat} {u v x y z : Value}
 (h0 : W.cell? ⟨B, 0, none⟩ = some u) (h1 : W.cell? ⟨B, 1, none⟩ = some v) (g0 : W.cell? ⟨B + 1, 0, none⟩ = some x) (g1 : W.cell? ⟨B + 1, 1, none⟩ = some y) (h2 : B + 1 < W.heap.size) (h3 : Below w0.heap.size w0 W) (h4 : b < B) (h5 : W.cell? ⟨b, o, none⟩ = some z) :
 Calls P f args W fun e w2 => e = .returned r ∧ (w2.cell? ⟨B, 0, none⟩ = some u ∧ w2.cell? ⟨B, 1, none⟩ = some v) ∧ (w2.cell? ⟨B + 1, 0, none⟩ = some x ∧ w2.cell? ⟨B + 1, 1, none⟩ = some y) ∧ B + 1 < w2.heap.size ∧ Below w0.heap.size w0 w2 ∧ w2.cell? ⟨b, o, none⟩ = some z :=
 (hc W).mono fun e w2 ⟨he, hb⟩ => ⟨he, ⟨by rw [hb.cell (Nat.lt_of_succ_lt h2)]; exact h0, by rw [hb.cell (Nat.lt_of_succ_lt h2)]; exact h1⟩, ⟨by rw [hb.cell h2]; exact g0, by rw [hb.cell h2]; exact g1⟩, Nat.lt_of_lt_of_le h2 hb.size, Below.step h3 hb nl, by rw [hb.cell (p := ⟨b, o, none⟩) (Nat.lt_trans h4 (Nat.lt_of_succ_lt h2))]; exact h5⟩
def rowV (t : Bool) (l h : Value) : Value := if t then h else l
theorem ints_row {a z : Nat} {w : World} {l h : Value} {lo hi : List Int} (Hl : au a z w l lo) (Hh : au a z w h hi) (t : Bool) : au a z w (rowV t l h) (cZ t lo hi) := by
 cases t
 ·exact Hl
 ·exact Hh
theorem ints_at {lo hi : Nat} {w : World} {v : Value} {xs : List Int} (h : au lo hi w v xs) {k : Nat} (hk : k < xs.length) :
 ∃ b o cap, v = .slice (some ⟨b, o, none⟩) xs.length cap ∧ lo ≤ b ∧ b < hi ∧ w.cell? ⟨b, o + k, none⟩ = some (.int .i64 (xs.getD k 0)) ∧ w.frozen? ⟨b, o + k, none⟩ = false := by
 obtain ⟨ao, cap, rfl, h1, h2, h3, h4⟩ := h;obtain ⟨b, o, rfl, b1, b2, hc⟩ := h4 (by omega);refine ⟨b, o, cap, rfl, b1, b2, ?_, (hc k hk).2⟩;rw [(hc k hk).1]; simp [hk]
theorem iF {lo hi : Nat} {w : World} {v : Value} {xs : List Int} (h : au lo hi w v xs) : ∃ ao cap, v = .slice ao xs.length cap := by
 obtain ⟨ao, cap, e, -⟩ := h;exact ⟨ao, cap, e⟩
theorem at_bad {lo hi : List Int} {t : Bool} {p : Int} (h : aO lo hi = false) : atR lo hi t p = -1 := by simp [atR, h]
theorem at_out {lo hi : List Int} {t : Bool} {p : Int} (h : wi p 0 ((cZ t lo hi).length - 1) = false) : atR lo hi t p = -1 := by simp [atR, h]
theorem at_in {lo hi : List Int} {t : Bool} {p : Int} (h : aO lo hi = true) (h2 : wi p 0 ((cZ t lo hi).length - 1) = true) : atR lo hi t p = (cZ t lo hi).getD p.toNat 0 := by simp [atR, h, h2]
theorem row_any (l h : Value) (t : Bool) (p : Int) (w : World) :
 Calls Tryz.prog 142 #[aD l h, .agg #[.bool t, .int .i64 p]] w fun e w' => e = .returned (rowV t l h) ∧ Below w.heap.size w w' := by
 unfold aD;cases t;all_goals
  go_enter Tryz.func142, Tryz.ntmps142;go_wp2_with fail
  go_ret;exact ⟨rfl, by go_grown⟩
theorem spotIn_any (l h : Value) (lo hi : List Int) (t : Bool) (p : Int) (w : World) (Hl : au 0 w.heap.size w l lo) (Hh : au 0 w.heap.size w h hi) :
 Calls Tryz.prog 177 #[aD l h, .agg #[.bool t, .int .i64 p]] w fun e w' => e = .returned (.bool (wi p 0 ((cZ t lo hi).length - 1))) ∧ Below w.heap.size w w' := by
 obtain ⟨ao, cap, er⟩ := iF (ints_row Hl Hh t);have HER := hide er;have hln := (ints_row Hl Hh t).len;clear er;have hr := row_any l h t p;obtain ⟨n, hn⟩ : ∃ n, (cZ t lo hi).length = n := ⟨_, rfl⟩;rw [hn] at HER hln ⊢;clear hn;clear Hl Hh;unfold aD;unfold aD at hr;have HR := hide (fun W => calls_val (hr W) HER.out);clear hr HER;go_enter Tryz.func177, Tryz.ntmps177;go_wp2_with fail
 obtain ⟨wx, hwx⟩ : ∃ wx, wx = (w.alloc (.cells #[l, h] 29)).alloc (.cells #[.bool t, .int .i64 p] 111) := ⟨_, rfl⟩;rw [← hwx];have A_0 : ae wx (w.heap.size) 29 [l, h] := by rw [hwx]; exact ((ae.new _ _ _).alloc _)
 have S_0 : ae wx (w.heap.size + 1) 111 [.bool t, .int .i64 p] := by rw [hwx]; simpa using (ae.new (World.alloc _ _) 111 [.bool t, .int .i64 p])
 have B_0 : Below w.heap.size w wx := by rw [hwx]; go_grown
 clear hwx;have hL0 := S_0.lt;have cA0 := A_0.c 0 rfl;have cA1 := A_0.c 1 rfl;have cS0 := S_0.c 0 rfl;have cS1 := S_0.c 1 rfl;have hw : IntKind.i64.wrap ((n : Int) - 1) = (n : Int) - 1 := IntWalk.i64_in _ (by omega);have hd : (wx.drew.cell? ⟨w.heap.size, 0, none⟩ = some l ∧ wx.drew.cell? ⟨w.heap.size, 1, none⟩ = some h) ∧ (wx.drew.cell? ⟨w.heap.size + 1, 0, none⟩ = some (.bool t) ∧ wx.drew.cell? ⟨w.heap.size + 1, 1, none⟩ = some (.int .i64 p)) ∧ w.heap.size + 1 < wx.drew.heap.size ∧ Below w.heap.size w wx.drew := ⟨⟨cA0, cA1⟩, ⟨cS0, cS1⟩, hL0, B_0.drew⟩;obtain ⟨⟨hd0, hd1⟩, ⟨hd2, hd3⟩, hd4, hd5⟩ := hd;clear hL0 B_0 cA0 cA1 cS0 cS1
 go_region_held (fun w' => (w'.cell? ⟨w.heap.size, 0, none⟩ = some l ∧ w'.cell? ⟨w.heap.size, 1, none⟩ = some h) ∧ (w'.cell? ⟨w.heap.size + 1, 0, none⟩ = some (.bool t) ∧ w'.cell? ⟨w.heap.size + 1, 1, none⟩ = some (.int .i64 p)) ∧ w.heap.size + 1 < w'.heap.size ∧ Below w.heap.size w w') (exact ⟨⟨by assumption, by assumption⟩, ⟨by assumption, by assumption⟩, by assumption, by assumption⟩) (first | (go_at_call 142; refine (held4 (w0 := w) (B := w.heap.size) (u := l) (v := h) (x := .bool t) (y := .int .i64 p) HR.out (by assumption) (by assumption) (by assumption) (by assumption) (by assumption) (by assumption)).mono ?_; rintro e w9 ⟨rfl, ⟨k0, k1⟩, ⟨k2, k3⟩, k4, k5⟩) | (go_at_call 45; refine (aU _ _ _ _).mono ?_; rintro e wq ⟨rfl, rfl⟩))
 all_goals
  have HB9 := hide k5;clear k5;go_wp2_with fail
  go_ret;exact ⟨rfl, HB9.out⟩
theorem at_impl (l h : Value) (lo hi : List Int) (t : Bool) (p : Int) (w : World) (Hl : au 0 w.heap.size w l lo) (Hh : au 0 w.heap.size w h hi) :
 Calls Tryz.prog 141 #[aD l h, .agg #[.bool t, .int .i64 p]] w fun e w' => e = .returned (.int .i64 (atR lo hi t p)) ∧ Below w.heap.size w w' := by
 have HL := hide Hl;have HH := hide Hh;have hr := row_any l h t p;have hp := fun W => gI l h lo hi W;have hq := fun W => spotIn_any l h lo hi t p W;clear Hl Hh;unfold aD;unfold aD at hr hp hq;have HR := hide hr;have HP := hide hp;have HQ := hide hq;clear hr hp hq;go_enter Tryz.func141, Tryz.ntmps141;go_wp2_with fail
 refine aj fun wx hwx => ?_;have A_0 : ae wx (w.heap.size) 29 [l, h] := by rw [hwx]; exact ((ae.new _ _ _).alloc _)
 have S_0 : ae wx (w.heap.size + 1) 111 [.bool t, .int .i64 p] := by rw [hwx]; simpa using (ae.new (World.alloc _ _) 111 [.bool t, .int .i64 p])
 have B_0 : Below w.heap.size w wx := by rw [hwx]; go_grown
 clear hwx;have hL0 := S_0.lt;have VL_0 := hide (HL.out.below B_0);have VH_0 := hide (HH.out.below B_0);have k_c1 := HP.out wx ((VL_0.out).mono nl (VL_0.out).lt nl) ((VH_0.out).mono nl (VH_0.out).lt nl);cases c1 : aO lo hi with
 | false =>
  rw [c1] at k_c1;have Hc1 := hide (show atR lo hi t p = -1 from at_bad c1);clear c1;refine (k_c1).mono ?_;rintro e w1 ⟨rfl, hb⟩;have A_1 := A_0.below hb A_0.lt;have S_1 := S_0.below hb S_0.lt;have VL_1 := hide (VL_0.out.below hb);have VH_1 := hide (VH_0.out.below hb);have B_1 := bs B_0 hb;have hz1 := hb.size;clear hb;clear k_c1;go_wp2_with fail
  go_ret;exact ⟨by rw [Hc1.out]; rfl, B_1.out⟩
 | true =>
  rw [c1] at k_c1;have Kc1 := hide c1;clear c1;refine (k_c1).mono ?_;rintro e w1 ⟨rfl, hb⟩;have A_1 := A_0.below hb A_0.lt;have S_1 := S_0.below hb S_0.lt;have VL_1 := hide (VL_0.out.below hb);have VH_1 := hide (VH_0.out.below hb);have B_1 := bs B_0 hb;have hz1 := hb.size;clear hb;have cA0 := A_1.c 0 rfl;have cA1 := A_1.c 1 rfl;have cS0 := S_1.c 0 rfl;have cS1 := S_1.c 1 rfl;clear k_c1;go_wp2_with fail
  have k_c2 := HQ.out w1 ((VL_1.out).mono nl (VL_1.out).lt nl) ((VH_1.out).mono nl (VH_1.out).lt nl);cases c2 : wi p 0 ((cZ t lo hi).length - 1) with
  | false =>
   rw [c2] at k_c2;have Hc2 := hide (show atR lo hi t p = -1 from at_out c2);clear c2;refine (k_c2).mono ?_;rintro e w2 ⟨rfl, hb⟩;have A_2 := A_1.below hb A_1.lt;have S_2 := S_1.below hb S_1.lt;have VL_2 := hide (VL_1.out.below hb);have VH_2 := hide (VH_1.out.below hb);have B_2 := bs B_1.out hb;have hz2 := hb.size;clear hb;clear k_c2;go_wp2_with fail
   go_ret;exact ⟨by rw [Hc2.out]; rfl, B_2.out⟩
  | true =>
   rw [c2] at k_c2;have Kc2 := hide c2;clear c2;refine (k_c2).mono ?_;rintro e w2 ⟨rfl, hb⟩;have A_2 := A_1.below hb A_1.lt;have S_2 := S_1.below hb S_1.lt;have VL_2 := hide (VL_1.out.below hb);have VH_2 := hide (VH_1.out.below hb);have B_2 := bs B_1.out hb;have hz2 := hb.size;clear hb;have cA0 := A_2.c 0 rfl;have cA1 := A_2.c 1 rfl;have cS0 := S_2.c 0 rfl;have cS1 := S_2.c 1 rfl;clear k_c2;go_wp2_with fail
   have hw := aN.1 Kc2.out;obtain ⟨j, rfl⟩ : ∃ j : Nat, p = j := ⟨p.toNat, by omega⟩;have HA := hide (at_in Kc1.out Kc2.out);rw [Int.toNat_natCast] at HA;have HV := hide (ints_row VL_2.out VH_2.out t);have hjl : j < (cZ t lo hi).length := by omega
   obtain ⟨b, o, cap, er, -, hbz, r1, -⟩ := ints_at HV.out hjl;obtain ⟨n, hn⟩ : ∃ n, (cZ t lo hi).length = n := ⟨_, rfl⟩;rw [hn] at er hjl hw;have HR2 := hide (fun W => calls_val (HR.out W) er);have hjI : (j : Int) < (n : Int) := by omega
   obtain ⟨x, hx⟩ : ∃ x, (cZ t lo hi).getD j 0 = x := ⟨_, rfl⟩;rw [hx] at r1 HA;have HX := hide r1;clear hn er hw hx r1;have hd : (w2.drew.cell? ⟨w.heap.size, 0, none⟩ = some l ∧ w2.drew.cell? ⟨w.heap.size, 1, none⟩ = some h) ∧ (w2.drew.cell? ⟨w.heap.size + 1, 0, none⟩ = some (.bool t) ∧ w2.drew.cell? ⟨w.heap.size + 1, 1, none⟩ = some (.int .i64 (j : Int))) ∧ w.heap.size + 1 < w2.drew.heap.size ∧ Below w.heap.size w w2.drew ∧ w2.drew.cell? ⟨b, o + j, none⟩ = some (.int .i64 x) := ⟨⟨cA0, cA1⟩, ⟨cS0, cS1⟩, S_2.lt, (B_2.out).drew, HX.out⟩;have hbz2 : b < w.heap.size := hbz;obtain ⟨⟨hd0, hd1⟩, ⟨hd2, hd3⟩, hd4, hd5, hd6⟩ := hd;clear cA0 cA1 cS0 cS1
   go_region_held (fun w' => (w'.cell? ⟨w.heap.size, 0, none⟩ = some l ∧ w'.cell? ⟨w.heap.size, 1, none⟩ = some h) ∧ (w'.cell? ⟨w.heap.size + 1, 0, none⟩ = some (.bool t) ∧ w'.cell? ⟨w.heap.size + 1, 1, none⟩ = some (.int .i64 (j : Int))) ∧ w.heap.size + 1 < w'.heap.size ∧ Below w.heap.size w w' ∧ w'.cell? ⟨b, o + j, none⟩ = some (.int .i64 x)) (exact ⟨⟨by assumption, by assumption⟩, ⟨by assumption, by assumption⟩, by assumption, by assumption, by assumption⟩) (first | (go_at_call 142; refine (held5 (w0 := w) (B := w.heap.size) (b := b) (o := o + j) (u := l) (v := h) (x := .bool t) (y := .int .i64 (j : Int)) (z := .int .i64 x) HR2.out (by assumption) (by assumption) (by assumption) (by assumption) (by assumption) (by assumption) hbz2 (by assumption)).mono ?_; rintro e w9 ⟨rfl, ⟨k0, k1⟩, ⟨k2, k3⟩, k4, k5, k6⟩))
   all_goals
    have HB9 := hide k5;clear k5;go_wp2_with fail
    go_ret;exact ⟨by rw [HA.out]; rfl, HB9.out⟩
theorem l6Spot_any (l h : Value) (lo hi : List Int) (t : Bool) (p : Int) (w : World) (Hl : au 0 w.heap.size w l lo) (Hh : au 0 w.heap.size w h hi) :
 Calls Tryz.prog 153 #[aD l h, .agg #[.bool t, .int .i64 p]] w fun e w' => e = .returned (.bool (wi p 0 ((cZ t lo hi).length - 1))) ∧ Below w.heap.size w w' := by
 obtain ⟨ao1, cap1, rfl⟩ := iF Hl;obtain ⟨ao2, cap2, rfl⟩ := iF Hh;have hl1 := Hl.len;have hl2 := Hh.len;clear Hl Hh;unfold aD;cases t;all_goals
  go_enter Tryz.func153, Tryz.ntmps153;go_wp2_with fail
  refine (aY _ _ _ _).mono ?_;rintro e wq ⟨rfl, rfl⟩;go_wp2_with fail
  go_ret;exact ⟨rfl, by go_grown⟩
theorem at_spec (l h : Value) (lo hi : List Int) (t : Bool) (p : Int) (w : World) (Hl : au 0 w.heap.size w l lo) (Hh : au 0 w.heap.size w h hi) :
 Calls Tryz.prog 126 #[aD l h, .agg #[.bool t, .int .i64 p]] w fun e w' => e = .returned (.int .i64 (atR lo hi t p)) ∧ Below w.heap.size w w' := by
 have HL := hide Hl;have HH := hide Hh;have hp := fun W => gJ l h lo hi W;have hq := fun W => l6Spot_any l h lo hi t p W;clear Hl Hh;unfold aD;unfold aD at hp hq;have HP := hide hp;have HQ := hide hq;clear hp hq;go_enter Tryz.func126, Tryz.ntmps126;go_wp2_with fail
 refine aj fun wx hwx => ?_;have A_0 : ae wx (w.heap.size) 29 [l, h] := by rw [hwx]; exact ((ae.new _ _ _).alloc _)
 have S_0 : ae wx (w.heap.size + 1) 111 [.bool t, .int .i64 p] := by rw [hwx]; simpa using (ae.new (World.alloc _ _) 111 [.bool t, .int .i64 p])
 have B_0 : Below w.heap.size w wx := by rw [hwx]; go_grown
 clear hwx;have hL0 := S_0.lt;have VL_0 := hide (HL.out.below B_0);have VH_0 := hide (HH.out.below B_0);have k_c1 := HP.out wx ((VL_0.out).mono nl (VL_0.out).lt nl) ((VH_0.out).mono nl (VH_0.out).lt nl);cases c1 : aO lo hi with
 | false =>
  rw [c1] at k_c1;have Hc1 := hide (show atR lo hi t p = -1 from at_bad c1);clear c1;refine (k_c1).mono ?_;rintro e w1 ⟨rfl, hb⟩;have A_1 := A_0.below hb A_0.lt;have S_1 := S_0.below hb S_0.lt;have VL_1 := hide (VL_0.out.below hb);have VH_1 := hide (VH_0.out.below hb);have B_1 := bs B_0 hb;have hz1 := hb.size;clear hb;clear k_c1;go_wp2_with fail
  go_ret;exact ⟨by rw [Hc1.out]; rfl, B_1.out⟩
 | true =>
  rw [c1] at k_c1;have Kc1 := hide c1;clear c1;refine (k_c1).mono ?_;rintro e w1 ⟨rfl, hb⟩;have A_1 := A_0.below hb A_0.lt;have S_1 := S_0.below hb S_0.lt;have VL_1 := hide (VL_0.out.below hb);have VH_1 := hide (VH_0.out.below hb);have B_1 := bs B_0 hb;have hz1 := hb.size;clear hb;have cA0 := A_1.c 0 rfl;have cA1 := A_1.c 1 rfl;have cS0 := S_1.c 0 rfl;have cS1 := S_1.c 1 rfl;clear k_c1;go_wp2_with fail
  have k_c2 := HQ.out w1 ((VL_1.out).mono nl (VL_1.out).lt nl) ((VH_1.out).mono nl (VH_1.out).lt nl);cases c2 : wi p 0 ((cZ t lo hi).length - 1) with
  | false =>
   rw [c2] at k_c2;have Hc2 := hide (show atR lo hi t p = -1 from at_out c2);clear c2;refine (k_c2).mono ?_;rintro e w2 ⟨rfl, hb⟩;have A_2 := A_1.below hb A_1.lt;have S_2 := S_1.below hb S_1.lt;have VL_2 := hide (VL_1.out.below hb);have VH_2 := hide (VH_1.out.below hb);have B_2 := bs B_1.out hb;have hz2 := hb.size;clear hb;clear k_c2;go_wp2_with fail
   go_ret;exact ⟨by rw [Hc2.out]; rfl, B_2.out⟩
  | true =>
   rw [c2] at k_c2;have Kc2 := hide c2;clear c2;refine (k_c2).mono ?_;rintro e w2 ⟨rfl, hb⟩;have A_2 := A_1.below hb A_1.lt;have S_2 := S_1.below hb S_1.lt;have VL_2 := hide (VL_1.out.below hb);have VH_2 := hide (VH_1.out.below hb);have B_2 := bs B_1.out hb;have hz2 := hb.size;clear hb;have cA0 := A_2.c 0 rfl;have cA1 := A_2.c 1 rfl;have cS0 := S_2.c 0 rfl;have cS1 := S_2.c 1 rfl;clear k_c2;have hw := aN.1 Kc2.out;obtain ⟨j, rfl⟩ : ∃ j : Nat, p = j := ⟨p.toNat, by omega⟩;have HV := hide (ints_row VL_2.out VH_2.out t);have HA := hide (at_in Kc1.out Kc2.out);rw [Int.toNat_natCast] at HA;have hjl : j < (cZ t lo hi).length := by omega
   obtain ⟨b, o, cap, er, -, -, r1, -⟩ := ints_at HV.out hjl;obtain ⟨n, hn⟩ : ∃ n, (cZ t lo hi).length = n := ⟨_, rfl⟩;rw [hn] at er hjl hw;have hjI : (j : Int) < (n : Int) := by omega
   obtain ⟨x, hx⟩ : ∃ x, (cZ t lo hi).getD j 0 = x := ⟨_, rfl⟩;rw [hx] at r1 HA;clear hn hx hw;cases t;all_goals
    simp only [rowV, if_true, if_false, Bool.false_eq_true] at er;subst er;go_wp2_with fail
    go_ret;exact ⟨by rw [HA.out]; rfl, B_2.out⟩
end Go.Proofs.YtkhecelpafojdaaGreatDoor
