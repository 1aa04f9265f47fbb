/-
  Parts of the proofs over mills, of: CoilOn. Conditions: each theorem states its own.
-/
import Derived.Test.YtkhecelpafojdaaGreatDoorF19
set_option linter.unusedSimpArgs false
set_option linter.unusedVariables false
set_option maxRecDepth 10000
set_option maxHeartbeats 64000000
namespace Go.Proofs.YtkhecelpafojdaaGreatDoor
open Go.RowKit
def iO (lo hi : List Int) (p : Int) (k : Nat) : List Int := ([atR lo hi true (p - 1), atR lo hi true p].take k).filter (fun x => decide (0 < x))
theorem onTo_len (lo hi : List Int) (p : Int) (k : Nat) : (iO lo hi p k).length ≤ 2 := by
 unfold iO;refine Nat.le_trans (List.length_filter_le _ _) ?_;simp; omega
theorem onTo_yes {lo hi : List Int} {p x : Int} {k : Nat} (hk : k < 2) (hx : atR lo hi true (p - 1 + k) = x) (h : 0 < x) : iO lo hi p (k + 1) = iO lo hi p k ++ [x] := by
 have : k = 0 ∨ k = 1 := by omega
 rcases this with rfl | rfl
 ·have hx : atR lo hi true (p - 1) = x := by simpa using hx
  simp [iO, hx, h]
 ·have hx : atR lo hi true p = x := by rw [← hx]; congr 1; omega
  simp [iO, List.filter_cons, hx, h];split <;> simp
theorem onTo_no {lo hi : List Int} {p x : Int} {k : Nat} (hk : k < 2) (hx : atR lo hi true (p - 1 + k) = x) (h : ¬ 0 < x) : iO lo hi p (k + 1) = iO lo hi p k := by
 have : k = 0 ∨ k = 1 := by omega
 rcases this with rfl | rfl
 ·have hx : atR lo hi true (p - 1) = x := by simpa using hx
  simp [iO, hx, h]
 ·have hx : atR lo hi true p = x := by rw [← hx]; congr 1; omega
  simp [iO, List.filter_cons, hx, h]
theorem on_all {lo hi : List Int} {p : Int} (h : ¬ atR lo hi false p < 1) : onR lo hi false p = iO lo hi p 2 := by
 simp [onR, iO, h]
theorem on_low {lo hi : List Int} {t : Bool} {p : Int} (h : atR lo hi t p < 1) : onR lo hi t p = [] := by simp [onR, h]
theorem on_top {lo hi : List Int} {p : Int} : onR lo hi true p = [] := by simp [onR]
theorem on_impl (l h : Value) (lo hi : List Int) (t : Bool) (p : Int) (w : World) (Hl : au 0 w.heap.size w l lo) (Hh : au 0 w.heap.size w h hi) :
 Calls Tryz.prog 143 #[aD l h, .agg #[.bool t, .int .i64 p]] w (fA w.heap.size (onR lo hi t p) w) := by
 have HL := hide Hl;have HH := hide Hh;clear Hl Hh;obtain ⟨i0, hi0, hz0, hi1, hi2⟩ := info_parts bF;have hq := fun t p W => at_impl l h lo hi t p W;unfold aD at hq ⊢;have HQ := hide hq;clear hq;go_enter Tryz.func143, Tryz.ntmps143;go_wp2_with fail
 refine aj fun wx hwx => ?_;have A_0 : ae wx w.heap.size 29 [l, h] := by rw [hwx]; exact (ae.new _ _ _).alloc _
 have S_0 : ae wx (w.heap.size + 1) 111 [.bool t, .int .i64 p] := by rw [hwx]; simpa using ae.new (World.alloc _ _) 111 [.bool t, .int .i64 p]
 have B_0 : Below w.heap.size w wx := by rw [hwx]; go_grown
 clear hwx;refine (HQ.out t p wx ((HL.out.below B_0).mono nl B_0.size nl) ((HH.out.below B_0).mono nl B_0.size nl)).mono ?_;rintro e w1 ⟨rfl, hb⟩;have A_1 := A_0.below hb A_0.lt;have S_1 := S_0.below hb S_0.lt;have B_1 := bs B_0 hb;clear hb A_0 S_0 B_0;have cS0 := S_1.c 0 rfl;have cS1 := S_1.c 1 rfl;by_cases ha : atR lo hi t p < 1
 ·have HF := hide (on_low ha)
  obtain ⟨a, hae⟩ : ∃ a, atR lo hi t p = a := ⟨_, rfl⟩;rw [hae] at ha ⊢;clear hae;go_wp2_with fail
  go_ret;rw [HF.out];exact ⟨_, rfl, World.ownsRow_nil _ _ _ _, B_1.out⟩
 cases t with
 | true =>
  obtain ⟨a, hae⟩ : ∃ a, atR lo hi true p = a := ⟨_, rfl⟩;rw [hae] at ha ⊢;clear hae;go_wp2_with fail
  go_ret;rw [on_top];exact ⟨_, rfl, World.ownsRow_nil _ _ _ _, B_1.out⟩
 | false =>
  have HF := hide (on_all ha);obtain ⟨hv, j, rfl, hjl, -⟩ := jX (show 0 ≤ atR lo hi false p by omega);have hj6 : j < 6 := Nat.lt_of_lt_of_le hjl hv.l6;obtain ⟨a, hae⟩ : ∃ a, atR lo hi false (j : Int) = a := ⟨_, rfl⟩;rw [hae] at ha ⊢;clear hae hv hjl;go_wp2_with fail
  go_loopw [5, 6, 7] (fun o i _ wr => ∃ k : Nat, k ≤ 2 ∧ i = .int .i64 ((j : Int) - 1 + k) ∧ Below w.heap.size w wr ∧ ae wr w.heap.size 29 [l, h] ∧ ae wr (w.heap.size + 1) 111 [.bool false, .int .i64 (j : Int)] ∧ wr.ownsRow (w.heap.size + 2) 3 1 o (iO lo hi j k).length (aC (iO lo hi j k))) (fun _ i _ _ => ((j : Int) + 1 - intOf i).toNat)
  case atStart => exact ⟨0, by omega, by simp, B_1.out, A_1, S_1, by simpa [iO, aC] using World.ownsRow_nil _ _ _ _⟩
  case round =>
   obtain ⟨k, hk, rfl, hb, hA, hS, hown⟩ := hrel;have HB := hide hb;have HA := hide hA;have HS := hide hS;have HO := hide hown;have hol := onTo_len lo hi j k;have hzr := hS.lt;have hp0 : wr.cell? ⟨w.heap.size, 0, none⟩ = some l := hA.cell 0 (by simp);have hp1 : wr.cell? ⟨w.heap.size, 1, none⟩ = some h := hA.cell 1 (by simp);have hs1 := hS.c 1 rfl;obtain ⟨aov, capv, rfl, -, -⟩ := aB hown;have HLr := hide ((HL.out.below hb).mono nl hb.size nl);have HHr := hide ((HH.out.below hb).mono nl hb.size nl);clear hb hA hS hown;by_cases hlt : k < 2
   ·have hkI : (j : Int) - 1 + k ≤ (j : Int) := by omega
    obtain ⟨x, hx⟩ : ∃ x, atR lo hi true ((j : Int) - 1 + k) = x := ⟨_, rfl⟩;have hcon := HQ.out true ((j : Int) - 1 + k) wr HLr.out HHr.out;rw [hx] at hcon;have HCON := hide hcon;clear hcon;by_cases hx0 : 0 < x
    ·have HN := hide (onTo_yes hlt hx hx0)
     clear hx;go_wp2_with fail
     refine HCON.out.mono ?_;rintro e w2 ⟨rfl, hb⟩;have HB2 := bs HB.out hb;have HA2 := hide (HA.out.below hb HA.out.lt);have HS2 := hide (HS.out.below hb HS.out.lt);have HO2 := hide (ownsRow_below HO.out hb nl);have hz2 := HS2.out.lt;clear hb hp0 hp1 hs1;go_wp2_with (at_builtin; refine aA rfl _ _ 27 rfl (w.heap.size + 2) 3 i0 (.int .i64 0) 1 8 Tryz.underlying27 hi0 hz0 hi1 hi2 rfl (by decide) _ _ _ rfl (HO2.out.alloc _) (.slice (some ⟨w2.heap.size, 0, none⟩) 1 1) 1 [.int .i64 x] rfl ?c0 ?c1 ?c2 ?c3 ?_)
     case c0 => exact Source.lit w2 [.int .i64 x] 1 3 1 rfl (fun u hu => by simp at hu; subst hu; rfl) 1
     case c1 => unfold maxLen; omega
     case c2 => omega
     case c3 => simp; omega
     intro v2 w3 hown2 hgrow2 _;have hgB : Below (w.heap.size + 2) w2 w3 := ((Below.refl _ w2).alloc (by omega) _).trans (Below.grow hgrow2 (HO2.out.alloc _) nl (by simp; omega));have HB3 := hide (HB2.out.trans (hgB.mono (by omega)));have HA3 := hide (HA2.out.below hgB (by omega));have HS3 := hide (HS2.out.below hgB (by omega));have HO3 := hide (show w3.ownsRow (w.heap.size + 2) 3 1 v2 (iO lo hi j (k + 1)).length (aC (iO lo hi j (k + 1))) by rw [HN.out]; simpa [aC] using hown2);clear hown2 hgrow2 hgB;go_wp2_with fail
     go_roundw
     case rel => exact ⟨k + 1, by omega, by go_num, HB3.out, HA3.out, HS3.out, HO3.out⟩
     case measure => simp [intOf]; omega
    ·have HN := hide (onTo_no hlt hx hx0)
     clear hx;go_wp2_with fail
     refine HCON.out.mono ?_;rintro e w2 ⟨rfl, hb⟩;have HB2 := bs HB.out hb;have HA2 := hide (HA.out.below hb HA.out.lt);have HS2 := hide (HS.out.below hb HS.out.lt);have HO2 := hide (ownsRow_below HO.out hb nl);clear hb hp0 hp1 hs1;go_wp2_with fail
     go_roundw
     case rel => exact ⟨k + 1, by omega, by go_num, HB2.out, HA2.out, HS2.out, by rw [HN.out]; exact HO2.out⟩
     case measure => simp [intOf]; omega
   ·obtain rfl : k = 2 := by omega
    have hkI : ¬ (j : Int) - 1 + ((2 : Nat) : Int) ≤ (j : Int) := by omega
    go_wp2_with fail
    go_ret;rw [HF.out];exact ⟨_, rfl, aJ HO.out (by omega), HB.out⟩
theorem at_top {lo hi : List Int} (hv : aO lo hi = true) {m : Nat} (hm : m < hi.length) : atR lo hi true (m : Int) = hi.getD m 0 := by
 have := at_in (t := true) (p := (m : Int)) hv (by rw [aN]; simp [cZ]; omega);rw [this, Int.toNat_natCast]; rfl
theorem at_past {lo hi : List Int} {m : Int} (hm : m < 0 ∨ (hi.length : Int) ≤ m) : atR lo hi true m = -1 := by
 apply at_out;cases h : wi m 0 ((cZ true lo hi).length - 1) with
 | false => rfl
 | true =>
  have := aN.1 h;simp [cZ] at this;omega
theorem on_spec (l h : Value) (lo hi : List Int) (t : Bool) (p : Int) (w : World) (Hl : au 0 w.heap.size w l lo) (Hh : au 0 w.heap.size w h hi) :
 Calls Tryz.prog 127 #[aD l h, .agg #[.bool t, .int .i64 p]] w (fA w.heap.size (onR lo hi t p) w) := by
 have HL := hide Hl;have HH := hide Hh;have hhl := Hh.len;obtain ⟨aoh, caph, rfl, -, -, -, -⟩ := id Hh;clear Hl Hh;obtain ⟨i0, hi0, hz0, hi1, hi2⟩ := info_parts bF;have hq := fun t p W => at_spec l (.slice aoh hi.length caph) lo hi t p W;unfold aD at hq ⊢;have HQ := hide hq;clear hq;go_enter Tryz.func127, Tryz.ntmps127;go_wp2_with fail
 refine aj fun wx hwx => ?_;have A_0 : ae wx w.heap.size 29 [l, .slice aoh hi.length caph] := by rw [hwx]; exact ((ae.new _ _ _).alloc _).alloc _
 have S_0 : ae wx (w.heap.size + 1) 111 [.bool t, .int .i64 p] := by rw [hwx]; simpa using (ae.new (World.alloc _ _) 111 [.bool t, .int .i64 p]).alloc _
 have B_0 : Below w.heap.size w wx := by rw [hwx]; go_grown
 have O_0 : wx.ownsRow (w.heap.size + 2) 3 1 (.slice (some ⟨w.heap.size + 1 + 1, 0, none⟩) 0 0) 0 [] := by
  rw [hwx];simpa using World.ownsRow_lit (e := 3) (size := 1) (base := w.heap.size + 2) ((w.alloc (.cells #[l, .slice aoh hi.length caph] 29)).alloc (.cells #[.bool t, .int .i64 p] 111)) #[] 0 (by simp) (by unfold maxLen; omega) (by simp)
 clear hwx;refine (HQ.out t p wx ((HL.out.below B_0).mono nl B_0.size nl) ((HH.out.below B_0).mono nl B_0.size nl)).mono ?_;rintro e w1 ⟨rfl, hb⟩;have A_1 := A_0.below hb A_0.lt;have S_1 := S_0.below hb S_0.lt;have O_1 := hide (ownsRow_below O_0 hb nl);have B_1 := bs B_0 hb;clear hb A_0 S_0 B_0 O_0;have cS0 := S_1.c 0 rfl;have cS1 := S_1.c 1 rfl;by_cases ha : atR lo hi t p < 1
 ·have HF := hide (on_low ha)
  obtain ⟨a, hae⟩ : ∃ a, atR lo hi t p = a := ⟨_, rfl⟩;rw [hae] at ha ⊢;clear hae;go_wp2_with fail
  go_ret;rw [HF.out];exact ⟨_, rfl, aJ O_1.out (by omega), B_1.out⟩
 cases t with
 | true =>
  obtain ⟨a, hae⟩ : ∃ a, atR lo hi true p = a := ⟨_, rfl⟩;rw [hae] at ha ⊢;clear hae;go_wp2_with fail
  go_ret;rw [on_top];exact ⟨_, rfl, aJ O_1.out (by omega), B_1.out⟩
 | false =>
  have HF := hide (on_all ha);obtain ⟨hv, j, rfl, hjl, -⟩ := jX (show 0 ≤ atR lo hi false p by omega);have hj6 : j < 6 := Nat.lt_of_lt_of_le hjl hv.l6;have HV := hide (aZ.2 hv);obtain ⟨a, hae⟩ : ∃ a, atR lo hi false (j : Int) = a := ⟨_, rfl⟩;rw [hae] at ha ⊢;clear hae hv hjl;obtain ⟨k0, hk0, hmax, hst⟩ : ∃ k0 : Nat, k0 ≤ 2 ∧ max ((j : Int) - 1) 0 = (j : Int) - 1 + k0 ∧ (k0 = 0 ∧ 1 ≤ j ∨ k0 = 1 ∧ j = 0) := by
   by_cases h0 : j = 0
   ·exact ⟨1, by omega, by omega, .inr ⟨rfl, h0⟩⟩
   ·exact ⟨0, by omega, by omega, .inl ⟨rfl, by omega⟩⟩
  have hon : iO lo hi j k0 = [] := by
   rcases hst with ⟨rfl, -⟩ | ⟨rfl, rfl⟩
   ·simp [iO]
   ·have h1 := onTo_no (lo := lo) (hi := hi) (p := ((0 : Nat) : Int)) (k := 0) (by omega) rfl (by rw [at_past (.inl (by omega))]; omega)
    rw [h1]; simp [iO]
  have HON := hide hon;have hge : ∀ k : Nat, k0 ≤ k → 0 ≤ (j : Int) - 1 + k := fun k hk => by omega
  have HGE := hide hge;clear hon hge hst;go_wp2_with fail
  go_loopw [5, 6] (fun o i wr => ∃ k : Nat, k0 ≤ k ∧ k ≤ 2 ∧ i = .int .i64 ((j : Int) - 1 + k) ∧ Below w.heap.size w wr ∧ ae wr w.heap.size 29 [l, .slice aoh hi.length caph] ∧ ae wr (w.heap.size + 1) 111 [.bool false, .int .i64 (j : Int)] ∧ wr.ownsRow (w.heap.size + 2) 3 1 o (iO lo hi j k).length (aC (iO lo hi j k))) (fun _ i _ => ((j : Int) + 1 - intOf i).toNat)
  case atStart => exact ⟨k0, Nat.le_refl _, hk0, by first | rw [hmax] | simp, B_1.out, A_1, S_1, by rw [HON.out]; simpa [aC] using O_1.out⟩
  case round =>
   obtain ⟨k, hkk, hk, rfl, hb, hA, hS, hown⟩ := hrel;have HB := hide hb;have HA := hide hA;have HS := hide hS;have HO := hide hown;have hol := onTo_len lo hi j k;have hzr := hS.lt;have hp1 := hA.c 1 rfl;have hs1 := hS.c 1 rfl;obtain ⟨aov, capv, rfl, -, -⟩ := aB hown;have HHr := hide ((HH.out.below hb).mono nl hb.size nl);have hm0 := HGE.out k hkk;clear hb hA hS hown hmax;by_cases hlt : k < 2
   ·have hkI : (j : Int) - 1 + k ≤ (j : Int) := by omega
    obtain ⟨m, hm⟩ : ∃ m : Nat, (j : Int) - 1 + k = m := ⟨((j : Int) - 1 + k).toNat, by omega⟩;by_cases hmh : m < hi.length
    ·obtain ⟨b, o, cap', e', -, -, r1, -⟩ := ints_at HHr.out hmh
     simp only [Value.slice.injEq] at e';obtain ⟨rfl, -, rfl⟩ := e';have hat := at_top HV.out hmh;obtain ⟨x, hx⟩ : ∃ x, hi.getD m 0 = x := ⟨_, rfl⟩;rw [hx] at r1 hat;rw [← hm] at hat;have hN1 := fun h0 => onTo_yes (lo := lo) (hi := hi) (p := (j : Int)) hlt hat h0;have hN2 := fun h0 => onTo_no (lo := lo) (hi := hi) (p := (j : Int)) hlt hat h0;have HN1 := hide hN1;have HN2 := hide hN2;have HM := hide (show (m : Int) + 1 = (j : Int) - 1 + ((k + 1 : Nat) : Int) by omega);have hmj : (m : Int) ≤ (j : Int) := by omega
     have hmI : (m : Int) < (hi.length : Int) := by omega
     rw [hm];clear hx hat hN1 hN2 hm hkI hm0;by_cases hx0 : 0 < x
     ·have HN := hide (HN1.out hx0)
      go_wp2_with (at_builtin; refine aA rfl _ _ 27 rfl (w.heap.size + 2) 3 i0 (.int .i64 0) 1 8 Tryz.underlying27 hi0 hz0 hi1 hi2 rfl (by decide) _ _ _ rfl (HO.out.alloc _) (.slice (some ⟨wr.heap.size, 0, none⟩) 1 1) 1 [.int .i64 x] rfl ?c0 ?c1 ?c2 ?c3 ?_)
      case c0 => exact Source.lit wr [.int .i64 x] 1 3 1 rfl (fun u hu => by simp at hu; subst hu; rfl) 1
      case c1 => unfold maxLen; omega
      case c2 => omega
      case c3 => first | omega | (simp; omega)
      intro v2 w3 hown2 hgrow2 _;have hgB : Below (w.heap.size + 2) wr w3 := ((Below.refl _ wr).alloc (by omega) _).trans (Below.grow hgrow2 (HO.out.alloc _) nl (by simp; omega));have HB3 := hide (HB.out.trans (hgB.mono (by omega)));have HA3 := hide (HA.out.below hgB (by omega));have HS3 := hide (HS.out.below hgB (by omega));have HO3 := hide (show w3.ownsRow (w.heap.size + 2) 3 1 v2 (iO lo hi j (k + 1)).length (aC (iO lo hi j (k + 1))) by rw [HN.out]; simpa [aC] using hown2);clear hown2 hgrow2 hgB;go_wp2_with fail
      go_roundw
      case rel => exact ⟨k + 1, by omega, by omega, by rw [← HM.out], HB3.out, HA3.out, HS3.out, HO3.out⟩
      case measure => have := HM.out; simp [intOf]; omega
     ·have HN := hide (HN2.out hx0)
      go_wp2_with fail
      go_roundw
      case rel => exact ⟨k + 1, by omega, by omega, by rw [← HM.out], HB.out, HA.out, HS.out, by rw [HN.out]; exact HO.out⟩
      case measure => have := HM.out; simp [intOf]; omega
    ·have hfin : iO lo hi j 2 = iO lo hi j k := by
      have e1 := onTo_no (lo := lo) (hi := hi) (p := (j : Int)) hlt rfl (by rw [at_past (.inr (by omega))]; omega);have : k = 0 ∨ k = 1 := by omega
      rcases this with rfl | rfl
      ·rw [← e1]
       exact onTo_no (lo := lo) (hi := hi) (p := (j : Int)) (k := 1) (by omega) rfl (by rw [at_past (.inr (by omega))]; omega)
      ·exact e1
     have HFN := hide hfin;have hmj : (m : Int) ≤ (j : Int) := by omega
     have hmI : ¬ (m : Int) < (hi.length : Int) := by omega
     rw [hm];clear hfin hm hkI hm0;go_wp2_with fail
     go_ret;rw [HF.out, HFN.out];exact ⟨_, rfl, aJ HO.out (by omega), HB.out⟩
   ·obtain rfl : k = 2 := by omega
    have hkI : ¬ (j : Int) - 1 + ((2 : Nat) : Int) ≤ (j : Int) := by omega
    go_wp2_with fail
    go_ret;rw [HF.out];exact ⟨_, rfl, aJ HO.out (by omega), HB.out⟩
end Go.Proofs.YtkhecelpafojdaaGreatDoor
