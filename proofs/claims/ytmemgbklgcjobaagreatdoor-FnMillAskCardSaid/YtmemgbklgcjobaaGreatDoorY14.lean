/-
  Parts of the proofs over mills, of: CoilOn, CoilTS. Conditions: each theorem states its own.
-/
import Derived.Test.YtmemgbklgcjobaaGreatDoorY12
import Derived.Test.YtmemgbklgcjobaaGreatDoorY13
set_option linter.unusedSimpArgs false
set_option linter.unusedVariables false
set_option maxRecDepth 10000
set_option maxHeartbeats 64000000
namespace Go.Proofs.YtmemgbklgcjobaaGreatDoor
open Go.RowKit
def onTo (lo hi : List Int) (p : Int) (k : Nat) : List Int := ([atR lo hi true (p - 1), atR lo hi true p].take k).filter (fun x => decide (0 < x))
theorem onTo_len (lo hi : List Int) (p : Int) (k : Nat) : (onTo lo hi p k).length ≤ 2 := by
 unfold onTo;refine Nat.le_trans (List.length_filter_le _ _) ?_;simp; omega
theorem onTo_yes {lo hi : List Int} {p x : Int} {k : Nat} (hk : k < 2) (hx : atR lo hi true (p - 1 + k) = x) (h : 0 < x) : onTo lo hi p (k + 1) = onTo lo hi p k ++ [x] := by
 have : k = 0 ∨ k = 1 := by omega
 rcases this with rfl | rfl
 ·have hx : atR lo hi true (p - 1) = x := by simpa using hx
  simp [onTo, hx, h]
 ·have hx : atR lo hi true p = x := by rw [← hx]; congr 1; omega
  simp [onTo, List.filter_cons, hx, h];split <;> simp
theorem onTo_no {lo hi : List Int} {p x : Int} {k : Nat} (hk : k < 2) (hx : atR lo hi true (p - 1 + k) = x) (h : ¬ 0 < x) : onTo lo hi p (k + 1) = onTo lo hi p k := by
 have : k = 0 ∨ k = 1 := by omega
 rcases this with rfl | rfl
 ·have hx : atR lo hi true (p - 1) = x := by simpa using hx
  simp [onTo, hx, h]
 ·have hx : atR lo hi true p = x := by rw [← hx]; congr 1; omega
  simp [onTo, List.filter_cons, hx, h]
theorem on_all {lo hi : List Int} {p : Int} (h : ¬ atR lo hi false p < 1) : onR lo hi false p = onTo lo hi p 2 := by
 simp [onR, onTo, h]
theorem on_low {lo hi : List Int} {t : Bool} {p : Int} (h : atR lo hi t p < 1) : onR lo hi t p = [] := by simp [onR, h]
theorem on_top {lo hi : List Int} {p : Int} : onR lo hi true p = [] := by simp [onR]
theorem at_top {lo hi : List Int} (hv : pileB lo hi = true) {m : Nat} (hm : m < hi.length) : atR lo hi true (m : Int) = hi.getD m 0 := by
 have := at_in (t := true) (p := (m : Int)) hv (by rw [wi_iff]; simp [rowR]; omega);rw [this, Int.toNat_natCast]; rfl
theorem at_past {lo hi : List Int} {m : Int} (hm : m < 0 ∨ (hi.length : Int) ≤ m) : atR lo hi true m = -1 := by
 apply at_out;cases h : wi m 0 ((rowR true lo hi).length - 1) with
 | false => rfl
 | true =>
  have := wi_iff.1 h;simp [rowR] at this;omega
theorem on_spec (l h : Value) (lo hi : List Int) (t : Bool) (p : Int) (w : World) (Hl : IntsAt 0 w.heap.size w l lo) (Hh : IntsAt 0 w.heap.size w h hi) :
 Calls Tryz.prog 175 #[pileV l h, .agg #[.bool t, .int .i64 p]] w (IntsNew w.heap.size (onR lo hi t p) w) := by
 have HL := hide Hl;have HH := hide Hh;have hhl := Hh.len;obtain ⟨aoh, caph, rfl, -, -, -, -⟩ := id Hh;clear Hl Hh;obtain ⟨i0, hi0, hz0, hi1, hi2⟩ := info_parts info_int;have hq := fun t p W => at_spec l (.slice aoh hi.length caph) lo hi t p W;unfold pileV at hq ⊢;have HQ := hide hq;clear hq;go_enter Tryz.func175, Tryz.ntmps175;go_wp2_with fail
 refine calls_at fun wx hwx => ?_;have A_0 : RowL wx w.heap.size 29 [l, .slice aoh hi.length caph] := by rw [hwx]; exact ((RowL.new _ _ _).alloc _).alloc _
 have S_0 : RowL wx (w.heap.size + 1) 128 [.bool t, .int .i64 p] := by rw [hwx]; simpa using (RowL.new (World.alloc _ _) 128 [.bool t, .int .i64 p]).alloc _
 have B_0 : Below w.heap.size w wx := by rw [hwx]; go_grown
 have O_0 : wx.ownsRow (w.heap.size + 2) 3 1 (.slice (some ⟨w.heap.size + 1 + 1, 0, none⟩) 0 0) 0 [] := by
  rw [hwx];simpa using World.ownsRow_lit (e := 3) (size := 1) (base := w.heap.size + 2) ((w.alloc (.cells #[l, .slice aoh hi.length caph] 29)).alloc (.cells #[.bool t, .int .i64 p] 128)) #[] 0 (by simp) (by unfold maxLen; omega) (by simp)
 clear hwx;refine (HQ.out t p wx ((HL.out.below B_0).mono nl B_0.size nl) ((HH.out.below B_0).mono nl B_0.size nl)).mono ?_;rintro e w1 ⟨rfl, hb⟩;have A_1 := A_0.below hb A_0.lt;have S_1 := S_0.below hb S_0.lt;have O_1 := hide (ownsRow_below O_0 hb nl);have B_1 := hide (Below.step B_0 hb nl);clear hb A_0 S_0 B_0 O_0;have cS0 := S_1.c 0 rfl;have cS1 := S_1.c 1 rfl;by_cases ha : atR lo hi t p < 1
 ·have HF := hide (on_low ha)
  obtain ⟨a, hae⟩ : ∃ a, atR lo hi t p = a := ⟨_, rfl⟩;rw [hae] at ha ⊢;clear hae;go_wp2_with fail
  go_ret;rw [HF.out];exact ⟨_, rfl, ownsRow_mono O_1.out (by omega), B_1.out⟩
 cases t with
 | true =>
  obtain ⟨a, hae⟩ : ∃ a, atR lo hi true p = a := ⟨_, rfl⟩;rw [hae] at ha ⊢;clear hae;go_wp2_with fail
  go_ret;rw [on_top];exact ⟨_, rfl, ownsRow_mono O_1.out (by omega), B_1.out⟩
 | false =>
  have HF := hide (on_all ha);obtain ⟨hv, j, rfl, hjl, -⟩ := at_row (show 0 ≤ atR lo hi false p by omega);have hj6 : j < 6 := Nat.lt_of_lt_of_le hjl hv.l6;have HV := hide (pileB_iff.2 hv);obtain ⟨a, hae⟩ : ∃ a, atR lo hi false (j : Int) = a := ⟨_, rfl⟩;rw [hae] at ha ⊢;clear hae hv hjl;obtain ⟨k0, hk0, hmax, hst⟩ : ∃ k0 : Nat, k0 ≤ 2 ∧ max ((j : Int) - 1) 0 = (j : Int) - 1 + k0 ∧ (k0 = 0 ∧ 1 ≤ j ∨ k0 = 1 ∧ j = 0) := by
   by_cases h0 : j = 0
   ·exact ⟨1, by omega, by omega, .inr ⟨rfl, h0⟩⟩
   ·exact ⟨0, by omega, by omega, .inl ⟨rfl, by omega⟩⟩
  have hon : onTo lo hi j k0 = [] := by
   rcases hst with ⟨rfl, -⟩ | ⟨rfl, rfl⟩
   ·simp [onTo]
   ·have h1 := onTo_no (lo := lo) (hi := hi) (p := ((0 : Nat) : Int)) (k := 0) (by omega) rfl (by rw [at_past (.inl (by omega))]; omega)
    rw [h1]; simp [onTo]
  have HON := hide hon;have hge : ∀ k : Nat, k0 ≤ k → 0 ≤ (j : Int) - 1 + k := fun k hk => by omega
  have HGE := hide hge;clear hon hge hst;go_wp2_with fail
  go_loopw [5, 6] (fun o i wr => ∃ k : Nat, k0 ≤ k ∧ k ≤ 2 ∧ i = .int .i64 ((j : Int) - 1 + k) ∧ Below w.heap.size w wr ∧ RowL wr w.heap.size 29 [l, .slice aoh hi.length caph] ∧ RowL wr (w.heap.size + 1) 128 [.bool false, .int .i64 (j : Int)] ∧ wr.ownsRow (w.heap.size + 2) 3 1 o (onTo lo hi j k).length (flatI (onTo lo hi j k))) (fun _ i _ => ((j : Int) + 1 - intOf i).toNat)
  case atStart => exact ⟨k0, Nat.le_refl _, hk0, by first | rw [hmax] | simp, B_1.out, A_1, S_1, by rw [HON.out]; simpa [flatI] using O_1.out⟩
  case round =>
   obtain ⟨k, hkk, hk, rfl, hb, hA, hS, hown⟩ := hrel;have HB := hide hb;have HA := hide hA;have HS := hide hS;have HO := hide hown;have hol := onTo_len lo hi j k;have hzr := hS.lt;have hp1 := hA.c 1 rfl;have hs1 := hS.c 1 rfl;obtain ⟨aov, capv, rfl, -, -⟩ := own_slice hown;have HHr := hide ((HH.out.below hb).mono nl hb.size nl);have hm0 := HGE.out k hkk;clear hb hA hS hown hmax;by_cases hlt : k < 2
   ·have hkI : (j : Int) - 1 + k ≤ (j : Int) := by omega
    obtain ⟨m, hm⟩ : ∃ m : Nat, (j : Int) - 1 + k = m := ⟨((j : Int) - 1 + k).toNat, by omega⟩;by_cases hmh : m < hi.length
    ·obtain ⟨b, o, cap', e', -, -, r1, -⟩ := ints_at HHr.out hmh
     simp only [Value.slice.injEq] at e';obtain ⟨rfl, -, rfl⟩ := e';have hat := at_top HV.out hmh;obtain ⟨x, hx⟩ : ∃ x, hi.getD m 0 = x := ⟨_, rfl⟩;rw [hx] at r1 hat;rw [← hm] at hat;have hN1 := fun h0 => onTo_yes (lo := lo) (hi := hi) (p := (j : Int)) hlt hat h0;have hN2 := fun h0 => onTo_no (lo := lo) (hi := hi) (p := (j : Int)) hlt hat h0;have HN1 := hide hN1;have HN2 := hide hN2;have HM := hide (show (m : Int) + 1 = (j : Int) - 1 + ((k + 1 : Nat) : Int) by omega);have hmj : (m : Int) ≤ (j : Int) := by omega
     have hmI : (m : Int) < (hi.length : Int) := by omega
     rw [hm];clear hx hat hN1 hN2 hm hkI hm0;by_cases hx0 : 0 < x
     ·have HN := hide (HN1.out hx0)
      go_wp2_with (at_builtin; refine wpList_append_view rfl _ _ 27 rfl (w.heap.size + 2) 3 i0 (.int .i64 0) 1 8 Tryz.underlying27 hi0 hz0 hi1 hi2 rfl (by decide) _ _ _ rfl (HO.out.alloc _) (.slice (some ⟨wr.heap.size, 0, none⟩) 1 1) 1 [.int .i64 x] rfl ?c0 ?c1 ?c2 ?c3 ?_)
      case c0 => exact Source.lit wr [.int .i64 x] 1 3 1 rfl (fun u hu => by simp at hu; subst hu; rfl) 1
      case c1 => unfold maxLen; omega
      case c2 => omega
      case c3 => first | omega | (simp; omega)
      intro v2 w3 hown2 hgrow2 _;have hgB : Below (w.heap.size + 2) wr w3 := ((Below.refl _ wr).alloc (by omega) _).trans (Below.grow hgrow2 (HO.out.alloc _) nl (by simp; omega));have HB3 := hide (HB.out.trans (hgB.mono (by omega)));have HA3 := hide (HA.out.below hgB (by omega));have HS3 := hide (HS.out.below hgB (by omega));have HO3 := hide (show w3.ownsRow (w.heap.size + 2) 3 1 v2 (onTo lo hi j (k + 1)).length (flatI (onTo lo hi j (k + 1))) by rw [HN.out]; simpa [flatI] using hown2);clear hown2 hgrow2 hgB;go_wp2_with fail
      go_roundw
      case rel => exact ⟨k + 1, by omega, by omega, by rw [← HM.out], HB3.out, HA3.out, HS3.out, HO3.out⟩
      case measure => have := HM.out; simp [intOf]; omega
     ·have HN := hide (HN2.out hx0)
      go_wp2_with fail
      go_roundw
      case rel => exact ⟨k + 1, by omega, by omega, by rw [← HM.out], HB.out, HA.out, HS.out, by rw [HN.out]; exact HO.out⟩
      case measure => have := HM.out; simp [intOf]; omega
    ·have hfin : onTo lo hi j 2 = onTo lo hi j k := by
      have e1 := onTo_no (lo := lo) (hi := hi) (p := (j : Int)) hlt rfl (by rw [at_past (.inr (by omega))]; omega);have : k = 0 ∨ k = 1 := by omega
      rcases this with rfl | rfl
      ·rw [← e1]
       exact onTo_no (lo := lo) (hi := hi) (p := (j : Int)) (k := 1) (by omega) rfl (by rw [at_past (.inr (by omega))]; omega)
      ·exact e1
     have HFN := hide hfin;have hmj : (m : Int) ≤ (j : Int) := by omega
     have hmI : ¬ (m : Int) < (hi.length : Int) := by omega
     rw [hm];clear hfin hm hkI hm0;go_wp2_with fail
     go_ret;rw [HF.out, HFN.out];exact ⟨_, rfl, ownsRow_mono HO.out (by omega), HB.out⟩
   ·obtain rfl : k = 2 := by omega
    have hkI : ¬ (j : Int) - 1 + ((2 : Nat) : Int) ≤ (j : Int) := by omega
    go_wp2_with fail
    go_ret;rw [HF.out];exact ⟨_, rfl, ownsRow_mono HO.out (by omega), HB.out⟩
theorem tk_below {w W W2 : World} {l h x y : Value} {t : Bool} {p : Int} {T8 b0 : Nat} {lo2 hi2 : List Int} (H : ((W.cell? ⟨w.heap.size, 0, none⟩ = some l ∧ W.cell? ⟨w.heap.size, 1, none⟩ = some h) ∧ (W.cell? ⟨w.heap.size + 1, 0, none⟩ = some (.bool t) ∧ W.cell? ⟨w.heap.size + 1, 1, none⟩ = some (.int .i64 p))) ∧ ((W.cell? ⟨T8, 0, none⟩ = some x ∧ W.cell? ⟨T8, 1, none⟩ = some y) ∧ ((W.cell? ⟨w.heap.size + 1 + 1, 0, none⟩).isSome = true ∧ (W.cell? ⟨w.heap.size + 1 + 1, 1, none⟩).isSome = true) ∧ (W.frozen? ⟨w.heap.size + 1 + 1, 0, none⟩ = false ∧ W.frozen? ⟨w.heap.size + 1 + 1, 1, none⟩ = false)) ∧ (T8 < W.heap.size ∧ Below w.heap.size w W ∧ PileOwn b0 W x y lo2 hi2)) (k : Below W.heap.size W W2) (hT : w.heap.size + 1 + 1 < T8) : ((W2.cell? ⟨w.heap.size, 0, none⟩ = some l ∧ W2.cell? ⟨w.heap.size, 1, none⟩ = some h) ∧ (W2.cell? ⟨w.heap.size + 1, 0, none⟩ = some (.bool t) ∧ W2.cell? ⟨w.heap.size + 1, 1, none⟩ = some (.int .i64 p))) ∧ ((W2.cell? ⟨T8, 0, none⟩ = some x ∧ W2.cell? ⟨T8, 1, none⟩ = some y) ∧ ((W2.cell? ⟨w.heap.size + 1 + 1, 0, none⟩).isSome = true ∧ (W2.cell? ⟨w.heap.size + 1 + 1, 1, none⟩).isSome = true) ∧ (W2.frozen? ⟨w.heap.size + 1 + 1, 0, none⟩ = false ∧ W2.frozen? ⟨w.heap.size + 1 + 1, 1, none⟩ = false)) ∧ (T8 < W2.heap.size ∧ Below w.heap.size w W2 ∧ PileOwn b0 W2 x y lo2 hi2) := by
 obtain ⟨⟨⟨h0, h1⟩, h2, h3⟩, ⟨⟨h4, h5⟩, ⟨h6, h7⟩, h8, h9⟩, h10, h11, h12⟩ := H;have a0 : w.heap.size < W.heap.size := by omega
 have a1 : w.heap.size + 1 < W.heap.size := by omega
 have a2 : w.heap.size + 1 + 1 < W.heap.size := by omega
 exact ⟨⟨⟨by rw [k.cell (p := ⟨w.heap.size, 0, none⟩) a0]; exact h0, by rw [k.cell (p := ⟨w.heap.size, 1, none⟩) a0]; exact h1⟩, by rw [k.cell (p := ⟨w.heap.size + 1, 0, none⟩) a1]; exact h2, by rw [k.cell (p := ⟨w.heap.size + 1, 1, none⟩) a1]; exact h3⟩,
  ⟨⟨by rw [k.cell (p := ⟨T8, 0, none⟩) h10]; exact h4, by rw [k.cell (p := ⟨T8, 1, none⟩) h10]; exact h5⟩, ⟨by rw [k.cell (p := ⟨w.heap.size + 1 + 1, 0, none⟩) a2]; exact h6, by rw [k.cell (p := ⟨w.heap.size + 1 + 1, 1, none⟩) a2]; exact h7⟩, by rw [k.frozen (p := ⟨w.heap.size + 1 + 1, 0, none⟩) a2]; exact h8, by rw [k.frozen (p := ⟨w.heap.size + 1 + 1, 1, none⟩) a2]; exact h9⟩,
  Nat.lt_of_lt_of_le h10 k.size, h11.trans (k.mono (by omega)), h12.below k nl⟩
theorem tk_store {w W : World} {l h x y : Value} {t : Bool} {p : Int} {T8 b0 : Nat} {lo2 hi2 : List Int} (H : ((W.cell? ⟨w.heap.size, 0, none⟩ = some l ∧ W.cell? ⟨w.heap.size, 1, none⟩ = some h) ∧ (W.cell? ⟨w.heap.size + 1, 0, none⟩ = some (.bool t) ∧ W.cell? ⟨w.heap.size + 1, 1, none⟩ = some (.int .i64 p))) ∧ ((W.cell? ⟨T8, 0, none⟩ = some x ∧ W.cell? ⟨T8, 1, none⟩ = some y) ∧ ((W.cell? ⟨w.heap.size + 1 + 1, 0, none⟩).isSome = true ∧ (W.cell? ⟨w.heap.size + 1 + 1, 1, none⟩).isSome = true) ∧ (W.frozen? ⟨w.heap.size + 1 + 1, 0, none⟩ = false ∧ W.frozen? ⟨w.heap.size + 1 + 1, 1, none⟩ = false)) ∧ (T8 < W.heap.size ∧ Below w.heap.size w W ∧ PileOwn b0 W x y lo2 hi2)) (hT : w.heap.size + 1 + 1 < T8) (hb0 : w.heap.size + 1 + 1 < b0) (u v : Value) : ((((W.setCell ⟨w.heap.size + 1 + 1, 0, none⟩ u).setCell ⟨w.heap.size + 1 + 1, 1, none⟩ v).cell? ⟨w.heap.size, 0, none⟩ = some l ∧ ((W.setCell ⟨w.heap.size + 1 + 1, 0, none⟩ u).setCell ⟨w.heap.size + 1 + 1, 1, none⟩ v).cell? ⟨w.heap.size, 1, none⟩ = some h) ∧ (((W.setCell ⟨w.heap.size + 1 + 1, 0, none⟩ u).setCell ⟨w.heap.size + 1 + 1, 1, none⟩ v).cell? ⟨w.heap.size + 1, 0, none⟩ = some (.bool t) ∧ ((W.setCell ⟨w.heap.size + 1 + 1, 0, none⟩ u).setCell ⟨w.heap.size + 1 + 1, 1, none⟩ v).cell? ⟨w.heap.size + 1, 1, none⟩ = some (.int .i64 p))) ∧ ((((W.setCell ⟨w.heap.size + 1 + 1, 0, none⟩ u).setCell ⟨w.heap.size + 1 + 1, 1, none⟩ v).cell? ⟨T8, 0, none⟩ = some x ∧ ((W.setCell ⟨w.heap.size + 1 + 1, 0, none⟩ u).setCell ⟨w.heap.size + 1 + 1, 1, none⟩ v).cell? ⟨T8, 1, none⟩ = some y) ∧ ((((W.setCell ⟨w.heap.size + 1 + 1, 0, none⟩ u).setCell ⟨w.heap.size + 1 + 1, 1, none⟩ v).cell? ⟨w.heap.size + 1 + 1, 0, none⟩).isSome = true ∧ (((W.setCell ⟨w.heap.size + 1 + 1, 0, none⟩ u).setCell ⟨w.heap.size + 1 + 1, 1, none⟩ v).cell? ⟨w.heap.size + 1 + 1, 1, none⟩).isSome = true) ∧ (((W.setCell ⟨w.heap.size + 1 + 1, 0, none⟩ u).setCell ⟨w.heap.size + 1 + 1, 1, none⟩ v).frozen? ⟨w.heap.size + 1 + 1, 0, none⟩ = false ∧ ((W.setCell ⟨w.heap.size + 1 + 1, 0, none⟩ u).setCell ⟨w.heap.size + 1 + 1, 1, none⟩ v).frozen? ⟨w.heap.size + 1 + 1, 1, none⟩ = false)) ∧ (T8 < ((W.setCell ⟨w.heap.size + 1 + 1, 0, none⟩ u).setCell ⟨w.heap.size + 1 + 1, 1, none⟩ v).heap.size ∧ Below w.heap.size w ((W.setCell ⟨w.heap.size + 1 + 1, 0, none⟩ u).setCell ⟨w.heap.size + 1 + 1, 1, none⟩ v) ∧ PileOwn b0 ((W.setCell ⟨w.heap.size + 1 + 1, 0, none⟩ u).setCell ⟨w.heap.size + 1 + 1, 1, none⟩ v) x y lo2 hi2) := by
 obtain ⟨⟨⟨h0, h1⟩, h2, h3⟩, ⟨⟨h4, h5⟩, ⟨h6, h7⟩, h8, h9⟩, h10, h11, h12⟩ := H;have f : ∀ (q : Addr), q.block ≠ w.heap.size + 1 + 1 → ((W.setCell ⟨w.heap.size + 1 + 1, 0, none⟩ u).setCell ⟨w.heap.size + 1 + 1, 1, none⟩ v).cell? q = W.cell? q := fun q hq => by
  rw [World.cell?_setCell_far _ _ _ _ (fun e => hq e.symm), World.cell?_setCell_far _ _ _ _ (fun e => hq e.symm)]
 obtain ⟨u0, hu⟩ := Option.isSome_iff_exists.1 h6;obtain ⟨v0, hv⟩ := Option.isSome_iff_exists.1 h7;refine ⟨⟨⟨?_, ?_⟩, ?_, ?_⟩, ⟨⟨?_, ?_⟩, ⟨?_, ?_⟩, by simp only [World.frozen?_setCell]; exact h8, by simp only [World.frozen?_setCell]; exact h9⟩, by simpa [World.setCell] using h10, (h11.setCell (by simp; omega) _).setCell (by simp; omega) _, h12.other (((Other.refl (w.heap.size + 1 + 1) (w.heap.size + 1 + 1 + 1) W).setCell (p := ⟨w.heap.size + 1 + 1, 0, none⟩) nl (Nat.lt_succ_self _) _).setCell (p := ⟨w.heap.size + 1 + 1, 1, none⟩) nl (Nat.lt_succ_self _) _) (by omega)⟩
 ·rw [f _ (show w.heap.size ≠ _ by omega)]; exact h0
 ·rw [f _ (show w.heap.size ≠ _ by omega)]; exact h1
 ·rw [f _ (show w.heap.size + 1 ≠ _ by omega)]; exact h2
 ·rw [f _ (show w.heap.size + 1 ≠ _ by omega)]; exact h3
 ·rw [f _ (show T8 ≠ _ by omega)]; exact h4
 ·rw [f _ (show T8 ≠ _ by omega)]; exact h5
 ·rw [World.cell?_setCell_other _ _ _ _ (by simp), World.cell?_setCell_same _ _ _ hu]; rfl
 ·rw [World.cell?_setCell_same _ _ _ (by rw [World.cell?_setCell_other _ _ _ _ (by simp)]; exact hv)]; rfl
theorem tk_call {P : Program} {f : FuncId} {args : Array Value} {r : Value} {w W : World} {l h x y : Value} {t : Bool} {p : Int} {T8 b0 : Nat} {lo2 hi2 : List Int} (H : ((W.cell? ⟨w.heap.size, 0, none⟩ = some l ∧ W.cell? ⟨w.heap.size, 1, none⟩ = some h) ∧ (W.cell? ⟨w.heap.size + 1, 0, none⟩ = some (.bool t) ∧ W.cell? ⟨w.heap.size + 1, 1, none⟩ = some (.int .i64 p))) ∧ ((W.cell? ⟨T8, 0, none⟩ = some x ∧ W.cell? ⟨T8, 1, none⟩ = some y) ∧ ((W.cell? ⟨w.heap.size + 1 + 1, 0, none⟩).isSome = true ∧ (W.cell? ⟨w.heap.size + 1 + 1, 1, none⟩).isSome = true) ∧ (W.frozen? ⟨w.heap.size + 1 + 1, 0, none⟩ = false ∧ W.frozen? ⟨w.heap.size + 1 + 1, 1, none⟩ = false)) ∧ (T8 < W.heap.size ∧ Below w.heap.size w W ∧ PileOwn b0 W x y lo2 hi2)) (hT : w.heap.size + 1 + 1 < T8)
 {lo hi : List Int} (hl : IntsAt 0 w.heap.size w l lo) (hh : IntsAt 0 w.heap.size w h hi) (hc : ∀ W, IntsAt 0 W.heap.size W l lo → IntsAt 0 W.heap.size W h hi → Calls P f args W (fun e W2 => e = .returned r ∧ Below W.heap.size W W2)) :
 Calls P f args W (fun e W2 => e = .returned r ∧ Below W.heap.size W W2 ∧ ((W2.cell? ⟨w.heap.size, 0, none⟩ = some l ∧ W2.cell? ⟨w.heap.size, 1, none⟩ = some h) ∧ (W2.cell? ⟨w.heap.size + 1, 0, none⟩ = some (.bool t) ∧ W2.cell? ⟨w.heap.size + 1, 1, none⟩ = some (.int .i64 p))) ∧ ((W2.cell? ⟨T8, 0, none⟩ = some x ∧ W2.cell? ⟨T8, 1, none⟩ = some y) ∧ ((W2.cell? ⟨w.heap.size + 1 + 1, 0, none⟩).isSome = true ∧ (W2.cell? ⟨w.heap.size + 1 + 1, 1, none⟩).isSome = true) ∧ (W2.frozen? ⟨w.heap.size + 1 + 1, 0, none⟩ = false ∧ W2.frozen? ⟨w.heap.size + 1 + 1, 1, none⟩ = false)) ∧ (T8 < W2.heap.size ∧ Below w.heap.size w W2 ∧ PileOwn b0 W2 x y lo2 hi2)) :=
 (hc W ((hl.below H.2.2.2.1).mono nl (hl.below H.2.2.2.1).lt nl) ((hh.below H.2.2.2.1).mono nl (hh.below H.2.2.2.1).lt nl)).mono fun _ _ q => ⟨q.1, q.2, tk_below H q.2 hT⟩
theorem takeP_spec (l h : Value) (lo hi : List Int) (t : Bool) (p : Int) (w : World) (Hl : IntsAt 0 w.heap.size w l lo) (Hh : IntsAt 0 w.heap.size w h hi) :
 Calls Tryz.prog 119 #[pileV l h, .agg #[.bool t, .int .i64 p]] w (PileGot2 w.heap.size (takeR lo hi t p).1 (.int .i64 (takeR lo hi t p).2) w) := by
 have HL := hide Hl;have HH := hide Hh;clear Hl Hh;have hp := fun W => pile_spec l h lo hi W;have hq := fun W => at_spec l h lo hi t p W;have hc := fun W H1 H2 n1 n2 => l6Copy_any l h lo hi W H1 H2 n1 n2;unfold pileV at hp hq hc ⊢;have HP := hide hp;have HQ := hide hq;have HC := hide hc;clear hp hq hc;go_enter Tryz.func119, Tryz.ntmps119;go_wp2_with fail
 refine calls_at fun wx hwx => ?_;have A_0 : RowL wx (w.heap.size) 29 [l, h] := by rw [hwx]; exact (((RowL.new _ _ _).alloc _).alloc _)
 have S_0 : RowL wx (w.heap.size + 1) 128 [.bool t, .int .i64 p] := by rw [hwx]; simpa using ((RowL.new (World.alloc _ _) 128 [.bool t, .int .i64 p]).alloc _)
 have R_0 : RowL wx (w.heap.size + 1 + 1) 29 [.slice none 0 0, .slice none 0 0] := by rw [hwx]; simpa using (RowL.new (World.alloc (World.alloc _ _) _) 29 [.slice none 0 0, .slice none 0 0])
 have B_0 : Below w.heap.size w wx := by rw [hwx]; go_grown
 clear hwx;have hL0 := R_0.lt;have VL_0 := hide (HL.out.below B_0);have VH_0 := hide (HH.out.below B_0);have k1 := HP.out wx ((VL_0.out).mono nl (VL_0.out).lt nl) ((VH_0.out).mono nl (VH_0.out).lt nl);cases c1 : pileB lo hi with
 | false =>
  rw [c1] at k1;have HZ := hide (take_bad (t := t) (p := p) c1);clear c1;refine (k1).mono ?_;rintro e w1 ⟨rfl, hb⟩;have A_1 := A_0.below hb A_0.lt;have S_1 := S_0.below hb S_0.lt;have R_1 := R_0.below hb R_0.lt;have VL_1 := hide (VL_0.out.below hb);have VH_1 := hide (VH_0.out.below hb);have B_1 := hide (Below.step B_0 hb nl);have hz1 := hb.size;clear hb;have cR0 := R_1.c 0 rfl;have cR1 := R_1.c 1 rfl;have fR0 := R_1.frozen 0;have fR1 := R_1.frozen 1;clear k1;go_wp2_with fail
  refine bodyPost_ret (by simp [results, Tryz.results119, go_sem, cR0, cR1]; try rfl) rfl ?_;rw [HZ.out];exact ⟨_, _, rfl, pileOwn_nil (by have := (B_1.out).size; simpa [World.setCell] using this), ((B_1.out).setCell (by simp; omega) _).setCell (by simp; omega) _⟩
 | true =>
  rw [c1] at k1;obtain ⟨n1, n2⟩ := pile_lens c1;have C1 := hide c1;clear c1;refine (k1).mono ?_;rintro e w1 ⟨rfl, hb⟩;have A_1 := A_0.below hb A_0.lt;have S_1 := S_0.below hb S_0.lt;have R_1 := R_0.below hb R_0.lt;have VL_1 := hide (VL_0.out.below hb);have VH_1 := hide (VH_0.out.below hb);have B_1 := hide (Below.step B_0 hb nl);have hz1 := hb.size;clear hb;have cA0 := A_1.c 0 rfl;have cA1 := A_1.c 1 rfl;have cS0 := S_1.c 0 rfl;have cS1 := S_1.c 1 rfl;clear k1;go_wp2_with fail
  have hzR := R_1.lt;refine (HC.out w1 ((VL_1.out).mono nl (VL_1.out).lt nl) ((VH_1.out).mono nl (VH_1.out).lt nl) n1 n2).mono ?_;rintro e w2 ⟨lc, hc, rfl, own, hb⟩;have A_2 := A_1.below hb A_1.lt;have S_2 := S_1.below hb S_1.lt;have R_2 := R_1.below hb R_1.lt;have VL_2 := hide (VL_1.out.below hb);have VH_2 := hide (VH_1.out.below hb);have B_2 := hide (Below.step B_1.out hb nl);have hz2 := hb.size;clear hb;have cA0 := A_2.c 0 rfl;have cA1 := A_2.c 1 rfl;have cS0 := S_2.c 0 rfl;have cS1 := S_2.c 1 rfl;have cR0 := R_2.c 0 rfl;have cR1 := R_2.c 1 rfl;have fR0 := R_2.frozen 0;have fR1 := R_2.frozen 1;simp only [pileV];have O_c := hide own;obtain ⟨alc, clc, rfl, -, -⟩ := own.lo.form;obtain ⟨ahc, chc, rfl, -, -⟩ := own.ho.form;clear own;have hzcc : w.heap.size + 1 + 1 + 1 ≤ w1.heap.size := hzR;have hzR2 := R_2.lt;have hzA2 := A_2.lt;have hzS2 := S_2.lt;go_wp2_with fail
  refine calls_at fun w4 hw4 => ?_;have T_4 : RowL w4 w2.heap.size 29 [.slice alc lo.length clc, .slice ahc hi.length chc] := by rw [hw4]; exact RowL.new _ _ _
  have hb4 : Below w2.heap.size w2 w4 := by rw [hw4]; exact (Below.refl _ _).alloc nl _
  have A_4 := A_2.below hb4 A_2.lt;have S_4 := S_2.below hb4 S_2.lt;have R_4 := R_2.below hb4 R_2.lt;have VL_4 := hide (VL_2.out.below hb4);have VH_4 := hide (VH_2.out.below hb4);have B_4 := hide (Below.step B_2.out hb4 nl);have O_4 := hide (O_c.out.below hb4 nl);have hoT := O_c.out;clear hw4 hb4 cA0 cA1 cS0 cS1 cR0 cR1 fR0 fR1;have hT4 := T_4.lt;refine (HQ.out w4 ((VL_4.out).mono nl (VL_4.out).lt nl) ((VH_4.out).mono nl (VH_4.out).lt nl)).mono ?_;rintro e w5 ⟨rfl, hb⟩;have A_5 := A_4.below hb A_4.lt;have S_5 := S_4.below hb S_4.lt;have R_5 := R_4.below hb R_4.lt;have T_5 := T_4.below hb T_4.lt;have VL_5 := hide (VL_4.out.below hb);have VH_5 := hide (VH_4.out.below hb);have B_5 := hide (Below.step B_4.out hb nl);have hz5 := hb.size;have O_5 := hide (O_4.out.below hb nl);clear hb;have cT0 := T_5.c 0 rfl;have cT1 := T_5.c 1 rfl;have cA0 := A_5.c 0 rfl;have cA1 := A_5.c 1 rfl;have cS0 := S_5.c 0 rfl;have cS1 := S_5.c 1 rfl;have cR0 := R_5.c 0 rfl;have cR1 := R_5.c 1 rfl;have fR0 := R_5.frozen 0;have fR1 := R_5.frozen 1;by_cases ha : atR lo hi t p < 1
  ·have HZ := hide (take_low (t := t) (p := p) C1.out ha)
   obtain ⟨a, hae⟩ : ∃ a, atR lo hi t p = a := ⟨_, rfl⟩;rw [hae] at ha ⊢;clear hae hoT;go_wp2_with fail
   refine bodyPost_ret (by simp [results, Tryz.results119, go_sem, cR0, cR1]; try rfl) rfl ?_;rw [HZ.out];exact ⟨_, _, rfl, (O_5.out.other (((Other.refl (w.heap.size + 1 + 1) (w.heap.size + 1 + 1 + 1) w5).setCell (p := ⟨w.heap.size + 1 + 1, 0, none⟩) nl (Nat.lt_succ_self _) _).setCell (p := ⟨w.heap.size + 1 + 1, 1, none⟩) nl (Nat.lt_succ_self _) _) (by omega)).mono (by omega), ((B_5.out).setCell (by simp; omega) _).setCell (by simp; omega) _⟩
  have HHA := hide ha;obtain ⟨-, j, rfl, hjl, hje⟩ := at_row (show 0 ≤ atR lo hi t p by omega);obtain ⟨a, hae⟩ : ∃ a, atR lo hi t (j : Int) = a := ⟨_, rfl⟩;have HAE := hide hae;rw [hae] at ha ⊢;clear hae hje;obtain ⟨nn, hnn⟩ : ∃ nn, (onR lo hi t (j : Int)).length = nn := ⟨_, rfl⟩;have HNN := hide hnn;have HON := hide (on_spec l h lo hi t (j : Int) w5 ((VL_5.out).mono nl (VL_5.out).lt nl) ((VH_5.out).mono nl (VH_5.out).lt nl));unfold pileV at HON;clear hnn;go_wp2_with fail
  refine (HON.out).mono ?_;rintro e w6 ⟨v6, rfl, hov, hb⟩;have A_6 := A_5.below hb A_5.lt;have S_6 := S_5.below hb S_5.lt;have R_6 := R_5.below hb R_5.lt;have T_6 := T_5.below hb T_5.lt;have VL_6 := hide (VL_5.out.below hb);have VH_6 := hide (VH_5.out.below hb);have B_6 := hide (Below.step B_5.out hb nl);have hz6 := hb.size;have O_6 := hide (O_5.out.below hb nl);clear hb;have cT0 := T_6.c 0 rfl;have cT1 := T_6.c 1 rfl;have cA0 := A_6.c 0 rfl;have cA1 := A_6.c 1 rfl;have cS0 := S_6.c 0 rfl;have cS1 := S_6.c 1 rfl;have cR0 := R_6.c 0 rfl;have cR1 := R_6.c 1 rfl;have fR0 := R_6.frozen 0;have fR1 := R_6.frozen 1;obtain ⟨aov, cov, rfl, -, -⟩ := own_slice hov;rw [HNN.out];clear hov;by_cases hnz : 0 < nn
  ·have HZ := hide (take_under (t := t) (p := (j : Int)) C1.out (by rw [HNN.out]; exact hnz))
   have hnzI : (0 : Int) < (nn : Int) := by omega
   clear hoT;go_wp2_with fail
   refine bodyPost_ret (by simp [results, Tryz.results119, go_sem, cR0, cR1]; try rfl) rfl ?_;rw [HZ.out];exact ⟨_, _, rfl, (O_6.out.other (((Other.refl (w.heap.size + 1 + 1) (w.heap.size + 1 + 1 + 1) w6).setCell (p := ⟨w.heap.size + 1 + 1, 0, none⟩) nl (Nat.lt_succ_self _) _).setCell (p := ⟨w.heap.size + 1 + 1, 1, none⟩) nl (Nat.lt_succ_self _) _) (by omega)).mono (by omega), ((B_6.out).setCell (by simp; omega) _).setCell (by simp; omega) _⟩
  have HZ := hide (take_yes (t := t) (p := (j : Int)) C1.out (by have := HHA.out; omega) (by rw [HNN.out]; exact hnz));rw [HAE.out] at HZ;obtain rfl : nn = 0 := by omega
  clear cS0 cS1 fR0 fR1 cR0 cR1 cT0 cT1 cA0 cA1;cases t with
  | false =>
   obtain ⟨gg, cg, er⟩ := O_6.out.form false hjl;have er2 : Value.slice alc lo.length clc = .slice (some ⟨gg, 0, none⟩) lo.length cg := er;simp only [Value.slice.injEq] at er2;obtain ⟨rfl, -, rfl⟩ := er2;have hgT : gg < w2.heap.size := (hoT.cellAt er hjl).2.2.2;obtain ⟨cg0, fg0, hgb, hgl⟩ := O_6.out.cellAt er hjl;have HER := hide er;have hjl2 : j < lo.length := hjl;have hjI : (j : Int) < (lo.length : Int) := by omega
   have hj0 : (0 : Int) ≤ (j : Int) := by omega
   clear er hoT;have hneT : gg ≠ w2.heap.size := by omega
   have hneT2 : w2.heap.size ≠ gg := by omega
   have cT0 := T_6.c 0 rfl;have cT1 := T_6.c 1 rfl;have cS0 := S_6.c 0 rfl;have cS1 := S_6.c 1 rfl;have HAT := fun W => at_spec l h lo hi false (j : Int) W;unfold pileV at HAT;rw [HAE.out] at HAT;have HAT2 := hide HAT;clear HAT;obtain ⟨w7, hw7⟩ : ∃ w7, w7 = w6.setCell ⟨gg, j, none⟩ (.int .i64 0) := ⟨_, rfl⟩;obtain ⟨q1, ho6⟩ := O_6.out.set HER.out hjl 0;rw [← hw7] at q1 ho6;have O_7 := hide q1;clear q1;have A_7 := A_6.other ho6 (by omega);have S_7 := S_6.other ho6 (by omega);have R_7 := R_6.other ho6 (by omega);have T_7 := T_6.other ho6 (by omega);have B_7 := hide (B_6.out.trans (ho6.below (B := w.heap.size) (by omega) (B_6.out).size));have hR1 := R_1.lt;have hT7 := T_7.lt;have hTR : w.heap.size + 1 + 1 < w2.heap.size := R_2.lt;have hI : (((World.drew w7).cell? ⟨w.heap.size, 0, none⟩ = some l ∧ (World.drew w7).cell? ⟨w.heap.size, 1, none⟩ = some h) ∧ ((World.drew w7).cell? ⟨w.heap.size + 1, 0, none⟩ = some (.bool false) ∧ (World.drew w7).cell? ⟨w.heap.size + 1, 1, none⟩ = some (.int .i64 (j : Int)))) ∧ (((World.drew w7).cell? ⟨w2.heap.size, 0, none⟩ = some (.slice (some ⟨gg, 0, none⟩) lo.length clc) ∧ (World.drew w7).cell? ⟨w2.heap.size, 1, none⟩ = some (.slice ahc hi.length chc)) ∧ (((World.drew w7).cell? ⟨w.heap.size + 1 + 1, 0, none⟩).isSome = true ∧ ((World.drew w7).cell? ⟨w.heap.size + 1 + 1, 1, none⟩).isSome = true) ∧ ((World.drew w7).frozen? ⟨w.heap.size + 1 + 1, 0, none⟩ = false ∧ (World.drew w7).frozen? ⟨w.heap.size + 1 + 1, 1, none⟩ = false)) ∧ (w2.heap.size < (World.drew w7).heap.size ∧ Below w.heap.size w (World.drew w7) ∧ PileOwn w1.heap.size (World.drew w7) (.slice (some ⟨gg, 0, none⟩) lo.length clc) (.slice ahc hi.length chc) (setR false lo hi (j : Int) 0).1 (setR false lo hi (j : Int) 0).2) := ⟨⟨⟨A_7.cell 0 (by simp), A_7.cell 1 (by simp)⟩, S_7.cell 0 (by simp), S_7.cell 1 (by simp)⟩, ⟨⟨T_7.cell 0 (by simp), T_7.cell 1 (by simp)⟩, ⟨by rw [show (World.drew w7).cell? ⟨w.heap.size + 1 + 1, 0, none⟩ = _ from R_7.cell 0 (by simp)]; rfl, by rw [show (World.drew w7).cell? ⟨w.heap.size + 1 + 1, 1, none⟩ = _ from R_7.cell 1 (by simp)]; rfl⟩, R_7.frozen 0, R_7.frozen 1⟩, hT7, B_7.out.trans (Below.refl _ _).drew, O_7.out.below (B := w7.heap.size) (Below.refl _ _).drew nl⟩;clear ho6;have hI2 := hI;obtain ⟨⟨⟨p0, p1⟩, p2, p3⟩, ⟨⟨p4, p5⟩, ⟨p6, p7⟩, p8, p9⟩, p10, p11, p12⟩ := hI2;obtain ⟨s6, g6⟩ := Option.isSome_iff_exists.1 p6;obtain ⟨s7, g7⟩ := Option.isSome_iff_exists.1 p7;go_wp2_with fail
   rw [← hw7];clear hw7 cg0 fg0 cT0 cT1 cS0 cS1
   go_region_held (fun w' => ((w'.cell? ⟨w.heap.size, 0, none⟩ = some l ∧ w'.cell? ⟨w.heap.size, 1, none⟩ = some h) ∧ (w'.cell? ⟨w.heap.size + 1, 0, none⟩ = some (.bool false) ∧ w'.cell? ⟨w.heap.size + 1, 1, none⟩ = some (.int .i64 (j : Int)))) ∧ ((w'.cell? ⟨w2.heap.size, 0, none⟩ = some (.slice (some ⟨gg, 0, none⟩) lo.length clc) ∧ w'.cell? ⟨w2.heap.size, 1, none⟩ = some (.slice ahc hi.length chc)) ∧ ((w'.cell? ⟨w.heap.size + 1 + 1, 0, none⟩).isSome = true ∧ (w'.cell? ⟨w.heap.size + 1 + 1, 1, none⟩).isSome = true) ∧ (w'.frozen? ⟨w.heap.size + 1 + 1, 0, none⟩ = false ∧ w'.frozen? ⟨w.heap.size + 1 + 1, 1, none⟩ = false)) ∧ (w2.heap.size < w'.heap.size ∧ Below w.heap.size w w' ∧ PileOwn w1.heap.size w' (.slice (some ⟨gg, 0, none⟩) lo.length clc) (.slice ahc hi.length chc) (setR false lo hi (j : Int) 0).1 (setR false lo hi (j : Int) 0).2)) (first | exact hI | exact hS | exact tk_store (by assumption) hTR hR1 _ _) (first | (go_at_call 174; refine (tk_call (by assumption) hTR HL.out HH.out HAT2.out).mono ?_; rintro e w8 ⟨rfl, kb, hS⟩; have hS2 := hS; obtain ⟨⟨⟨q0, q1⟩, q2, q3⟩, ⟨⟨q4, q5⟩, ⟨q6, q7⟩, q8, q9⟩, q10, q11, q12⟩ := hS2; obtain ⟨r6, h6⟩ := Option.isSome_iff_exists.1 q6; obtain ⟨r7, h7⟩ := Option.isSome_iff_exists.1 q7))
   have O_8 := hide q12;have B_8 := hide q11;clear hS q12 q11 p12 p11 hI kb q0 q1 q2 q3 q4 q5 p0 p1 p2 p3 p4 p5;have HZ2 := hide (take_yes (t := false) (p := (j : Int)) C1.out (by have := HHA.out; omega) (by rw [HNN.out]; omega));rw [HAE.out] at HZ2;go_wp2_with fail
   have cR0 := h6;have cR1 := h7;refine bodyPost_ret (by simp [results, Tryz.results119, go_sem, cR0, cR1]; try rfl) rfl ?_;rw [HZ2.out];exact ⟨_, _, rfl, (O_8.out.other (((Other.refl (w.heap.size + 1 + 1) (w.heap.size + 1 + 1 + 1) w8).setCell (p := ⟨w.heap.size + 1 + 1, 0, none⟩) nl (Nat.lt_succ_self _) _).setCell (p := ⟨w.heap.size + 1 + 1, 1, none⟩) nl (Nat.lt_succ_self _) _) (by omega)).mono (by omega), ((B_8.out).setCell (by simp; omega) _).setCell (by simp; omega) _⟩
  | true =>
   obtain ⟨gg, cg, er⟩ := O_6.out.form true hjl;have er2 : Value.slice ahc hi.length chc = .slice (some ⟨gg, 0, none⟩) hi.length cg := er;simp only [Value.slice.injEq] at er2;obtain ⟨rfl, -, rfl⟩ := er2;have hgT : gg < w2.heap.size := (hoT.cellAt er hjl).2.2.2;obtain ⟨cg0, fg0, hgb, hgl⟩ := O_6.out.cellAt er hjl;have HER := hide er;have hjl2 : j < hi.length := hjl;have hjI : (j : Int) < (hi.length : Int) := by omega
   have hj0 : (0 : Int) ≤ (j : Int) := by omega
   clear er hoT;have hneT : gg ≠ w2.heap.size := by omega
   have hneT2 : w2.heap.size ≠ gg := by omega
   have cT0 := T_6.c 0 rfl;have cT1 := T_6.c 1 rfl;have cS0 := S_6.c 0 rfl;have cS1 := S_6.c 1 rfl;have HAT := fun W => at_spec l h lo hi true (j : Int) W;unfold pileV at HAT;rw [HAE.out] at HAT;have HAT2 := hide HAT;clear HAT;obtain ⟨w7, hw7⟩ : ∃ w7, w7 = w6.setCell ⟨gg, j, none⟩ (.int .i64 0) := ⟨_, rfl⟩;obtain ⟨q1, ho6⟩ := O_6.out.set HER.out hjl 0;rw [← hw7] at q1 ho6;have O_7 := hide q1;clear q1;have A_7 := A_6.other ho6 (by omega);have S_7 := S_6.other ho6 (by omega);have R_7 := R_6.other ho6 (by omega);have T_7 := T_6.other ho6 (by omega);have B_7 := hide (B_6.out.trans (ho6.below (B := w.heap.size) (by omega) (B_6.out).size));have hR1 := R_1.lt;have hT7 := T_7.lt;have hTR : w.heap.size + 1 + 1 < w2.heap.size := R_2.lt;have hI : (((World.drew w7).cell? ⟨w.heap.size, 0, none⟩ = some l ∧ (World.drew w7).cell? ⟨w.heap.size, 1, none⟩ = some h) ∧ ((World.drew w7).cell? ⟨w.heap.size + 1, 0, none⟩ = some (.bool true) ∧ (World.drew w7).cell? ⟨w.heap.size + 1, 1, none⟩ = some (.int .i64 (j : Int)))) ∧ (((World.drew w7).cell? ⟨w2.heap.size, 0, none⟩ = some (.slice alc lo.length clc) ∧ (World.drew w7).cell? ⟨w2.heap.size, 1, none⟩ = some (.slice (some ⟨gg, 0, none⟩) hi.length chc)) ∧ (((World.drew w7).cell? ⟨w.heap.size + 1 + 1, 0, none⟩).isSome = true ∧ ((World.drew w7).cell? ⟨w.heap.size + 1 + 1, 1, none⟩).isSome = true) ∧ ((World.drew w7).frozen? ⟨w.heap.size + 1 + 1, 0, none⟩ = false ∧ (World.drew w7).frozen? ⟨w.heap.size + 1 + 1, 1, none⟩ = false)) ∧ (w2.heap.size < (World.drew w7).heap.size ∧ Below w.heap.size w (World.drew w7) ∧ PileOwn w1.heap.size (World.drew w7) (.slice alc lo.length clc) (.slice (some ⟨gg, 0, none⟩) hi.length chc) (setR true lo hi (j : Int) 0).1 (setR true lo hi (j : Int) 0).2) := ⟨⟨⟨A_7.cell 0 (by simp), A_7.cell 1 (by simp)⟩, S_7.cell 0 (by simp), S_7.cell 1 (by simp)⟩, ⟨⟨T_7.cell 0 (by simp), T_7.cell 1 (by simp)⟩, ⟨by rw [show (World.drew w7).cell? ⟨w.heap.size + 1 + 1, 0, none⟩ = _ from R_7.cell 0 (by simp)]; rfl, by rw [show (World.drew w7).cell? ⟨w.heap.size + 1 + 1, 1, none⟩ = _ from R_7.cell 1 (by simp)]; rfl⟩, R_7.frozen 0, R_7.frozen 1⟩, hT7, B_7.out.trans (Below.refl _ _).drew, O_7.out.below (B := w7.heap.size) (Below.refl _ _).drew nl⟩;clear ho6;have hI2 := hI;obtain ⟨⟨⟨p0, p1⟩, p2, p3⟩, ⟨⟨p4, p5⟩, ⟨p6, p7⟩, p8, p9⟩, p10, p11, p12⟩ := hI2;obtain ⟨s6, g6⟩ := Option.isSome_iff_exists.1 p6;obtain ⟨s7, g7⟩ := Option.isSome_iff_exists.1 p7;go_wp2_with fail
   rw [← hw7];clear hw7 cg0 fg0 cT0 cT1 cS0 cS1
   go_region_held (fun w' => ((w'.cell? ⟨w.heap.size, 0, none⟩ = some l ∧ w'.cell? ⟨w.heap.size, 1, none⟩ = some h) ∧ (w'.cell? ⟨w.heap.size + 1, 0, none⟩ = some (.bool true) ∧ w'.cell? ⟨w.heap.size + 1, 1, none⟩ = some (.int .i64 (j : Int)))) ∧ ((w'.cell? ⟨w2.heap.size, 0, none⟩ = some (.slice alc lo.length clc) ∧ w'.cell? ⟨w2.heap.size, 1, none⟩ = some (.slice (some ⟨gg, 0, none⟩) hi.length chc)) ∧ ((w'.cell? ⟨w.heap.size + 1 + 1, 0, none⟩).isSome = true ∧ (w'.cell? ⟨w.heap.size + 1 + 1, 1, none⟩).isSome = true) ∧ (w'.frozen? ⟨w.heap.size + 1 + 1, 0, none⟩ = false ∧ w'.frozen? ⟨w.heap.size + 1 + 1, 1, none⟩ = false)) ∧ (w2.heap.size < w'.heap.size ∧ Below w.heap.size w w' ∧ PileOwn w1.heap.size w' (.slice alc lo.length clc) (.slice (some ⟨gg, 0, none⟩) hi.length chc) (setR true lo hi (j : Int) 0).1 (setR true lo hi (j : Int) 0).2)) (first | exact hI | exact hS | exact tk_store (by assumption) hTR hR1 _ _) (first | (go_at_call 174; refine (tk_call (by assumption) hTR HL.out HH.out HAT2.out).mono ?_; rintro e w8 ⟨rfl, kb, hS⟩; have hS2 := hS; obtain ⟨⟨⟨q0, q1⟩, q2, q3⟩, ⟨⟨q4, q5⟩, ⟨q6, q7⟩, q8, q9⟩, q10, q11, q12⟩ := hS2; obtain ⟨r6, h6⟩ := Option.isSome_iff_exists.1 q6; obtain ⟨r7, h7⟩ := Option.isSome_iff_exists.1 q7))
   have O_8 := hide q12;have B_8 := hide q11;clear hS q12 q11 p12 p11 hI kb q0 q1 q2 q3 q4 q5 p0 p1 p2 p3 p4 p5;have HZ2 := hide (take_yes (t := true) (p := (j : Int)) C1.out (by have := HHA.out; omega) (by rw [HNN.out]; omega));rw [HAE.out] at HZ2;go_wp2_with fail
   have cR0 := h6;have cR1 := h7;refine bodyPost_ret (by simp [results, Tryz.results119, go_sem, cR0, cR1]; try rfl) rfl ?_;rw [HZ2.out];exact ⟨_, _, rfl, (O_8.out.other (((Other.refl (w.heap.size + 1 + 1) (w.heap.size + 1 + 1 + 1) w8).setCell (p := ⟨w.heap.size + 1 + 1, 0, none⟩) nl (Nat.lt_succ_self _) _).setCell (p := ⟨w.heap.size + 1 + 1, 1, none⟩) nl (Nat.lt_succ_self _) _) (by omega)).mono (by omega), ((B_8.out).setCell (by simp; omega) _).setCell (by simp; omega) _⟩
end Go.Proofs.YtmemgbklgcjobaaGreatDoor
