/-
  Parts of the proofs over mills, of: CoilOn, CoilTI. Conditions: each theorem states its own.
-/
import Derived.Test.YtmemgbklgcjobaaGreatDoorX17
import Derived.Test.YtmemgbklgcjobaaGreatDoorX19
set_option linter.unusedSimpArgs false
set_option linter.unusedVariables false
set_option maxRecDepth 10000
namespace Go.Proofs.YtmemgbklgcjobaaGreatDoor
open Go.RowKit
def onTo (lo hi : List Int) (p : Int) (k : Nat) : List Int := ([atR lo hi true (p - 1), atR lo hi true p].take k).filter (fun x => decide (0 < x))
theorem onTo_len (lo hi : List Int) (p : Int) (k : Nat) : (onTo lo hi p k).length ≤ 2 := by
  unfold onTo
  refine Nat.le_trans (List.length_filter_le _ _) ?_
  simp; omega
theorem onTo_yes {lo hi : List Int} {p x : Int} {k : Nat} (hk : k < 2) (hx : atR lo hi true (p - 1 + k) = x) (h : 0 < x) : onTo lo hi p (k + 1) = onTo lo hi p k ++ [x] := by
  have : k = 0 ∨ k = 1 := by omega
  rcases this with rfl | rfl
  · have hx : atR lo hi true (p - 1) = x := by simpa using hx
    simp [onTo, hx, h]
  · have hx : atR lo hi true p = x := by rw [← hx]; congr 1; omega
    simp [onTo, List.filter_cons, hx, h]
    split <;> simp
theorem onTo_no {lo hi : List Int} {p x : Int} {k : Nat} (hk : k < 2) (hx : atR lo hi true (p - 1 + k) = x) (h : ¬ 0 < x) : onTo lo hi p (k + 1) = onTo lo hi p k := by
  have : k = 0 ∨ k = 1 := by omega
  rcases this with rfl | rfl
  · have hx : atR lo hi true (p - 1) = x := by simpa using hx
    simp [onTo, hx, h]
  · have hx : atR lo hi true p = x := by rw [← hx]; congr 1; omega
    simp [onTo, List.filter_cons, hx, h]
theorem on_all {lo hi : List Int} {p : Int} (h : ¬ atR lo hi false p < 1) : onR lo hi false p = onTo lo hi p 2 := by
  simp [onR, onTo, h]
theorem on_low {lo hi : List Int} {t : Bool} {p : Int} (h : atR lo hi t p < 1) : onR lo hi t p = [] := by simp [onR, h]
theorem on_top {lo hi : List Int} {p : Int} : onR lo hi true p = [] := by simp [onR]
set_option maxHeartbeats 1600000 in
theorem on_impl (l h : Value) (lo hi : List Int) (t : Bool) (p : Int) (w : World) (Hl : IntsAt 0 w.heap.size w l lo) (Hh : IntsAt 0 w.heap.size w h hi) :
    Calls Tryz.prog 202 #[pileV l h, .agg #[.bool t, .int .i64 p]] w (IntsNew w.heap.size (onR lo hi t p) w) := by
  have HL := hide Hl
  have HH := hide Hh
  clear Hl Hh
  obtain ⟨i0, hi0, hz0, hi1, hi2⟩ := info_parts info_int
  have hq := fun t p W => at_impl l h lo hi t p W
  unfold pileV at hq ⊢
  have HQ := hide hq
  clear hq
  go_enter Tryz.func202, Tryz.ntmps202
  go_wp2_with fail
  refine calls_at fun wx hwx => ?_
  have A_0 : RowL wx w.heap.size 29 [l, h] := by rw [hwx]; exact (RowL.new _ _ _).alloc _
  have S_0 : RowL wx (w.heap.size + 1) 128 [.bool t, .int .i64 p] := by rw [hwx]; simpa using RowL.new (World.alloc _ _) 128 [.bool t, .int .i64 p]
  have B_0 : Below w.heap.size w wx := by rw [hwx]; go_grown
  clear hwx
  refine (HQ.out t p wx ((HL.out.below B_0).mono (Nat.le_refl _) B_0.size (Nat.le_refl _)) ((HH.out.below B_0).mono (Nat.le_refl _) B_0.size (Nat.le_refl _))).mono ?_
  rintro e w1 ⟨rfl, hb⟩
  have A_1 := A_0.below hb A_0.lt
  have S_1 := S_0.below hb S_0.lt
  have B_1 := hide (Below.step B_0 hb (Nat.le_refl _))
  clear hb A_0 S_0 B_0
  have cS0 := S_1.c 0 rfl
  have cS1 := S_1.c 1 rfl
  by_cases ha : atR lo hi t p < 1
  · have HF := hide (on_low ha)
    obtain ⟨a, hae⟩ : ∃ a, atR lo hi t p = a := ⟨_, rfl⟩
    rw [hae] at ha ⊢
    clear hae
    go_wp2_with fail
    go_ret
    rw [HF.out]
    exact ⟨_, rfl, World.ownsRow_nil _ _ _ _, B_1.out⟩
  cases t with
  | true =>
    obtain ⟨a, hae⟩ : ∃ a, atR lo hi true p = a := ⟨_, rfl⟩
    rw [hae] at ha ⊢
    clear hae
    go_wp2_with fail
    go_ret
    rw [on_top]
    exact ⟨_, rfl, World.ownsRow_nil _ _ _ _, B_1.out⟩
  | false =>
    have HF := hide (on_all ha)
    obtain ⟨hv, j, rfl, hjl, -⟩ := at_row (show 0 ≤ atR lo hi false p by omega)
    have hj6 : j < 6 := Nat.lt_of_lt_of_le hjl hv.l6
    obtain ⟨a, hae⟩ : ∃ a, atR lo hi false (j : Int) = a := ⟨_, rfl⟩
    rw [hae] at ha ⊢
    clear hae hv hjl
    go_wp2_with fail
    go_loopw [5, 6, 7] (fun o i _ wr => ∃ k : Nat, k ≤ 2 ∧ i = .int .i64 ((j : Int) - 1 + k) ∧ Below w.heap.size w wr ∧ RowL wr w.heap.size 29 [l, h] ∧ RowL wr (w.heap.size + 1) 128 [.bool false, .int .i64 (j : Int)] ∧ wr.ownsRow (w.heap.size + 2) 3 1 o (onTo lo hi j k).length (flatI (onTo lo hi j k))) (fun _ i _ _ => ((j : Int) + 1 - intOf i).toNat)
    case atStart => exact ⟨0, by omega, by simp, B_1.out, A_1, S_1, by simpa [onTo, flatI] using World.ownsRow_nil _ _ _ _⟩
    case round =>
      obtain ⟨k, hk, rfl, hb, hA, hS, hown⟩ := hrel
      have HB := hide hb
      have HA := hide hA
      have HS := hide hS
      have HO := hide hown
      have hol := onTo_len lo hi j k
      have hzr := hS.lt
      have hp0 : wr.cell? ⟨w.heap.size, 0, none⟩ = some l := hA.cell 0 (by simp)
      have hp1 : wr.cell? ⟨w.heap.size, 1, none⟩ = some h := hA.cell 1 (by simp)
      have hs1 := hS.c 1 rfl
      obtain ⟨aov, capv, rfl, -, -⟩ := own_slice hown
      have HLr := hide ((HL.out.below hb).mono (Nat.le_refl _) hb.size (Nat.le_refl _))
      have HHr := hide ((HH.out.below hb).mono (Nat.le_refl _) hb.size (Nat.le_refl _))
      clear hb hA hS hown
      by_cases hlt : k < 2
      · have hkI : (j : Int) - 1 + k ≤ (j : Int) := by omega
        obtain ⟨x, hx⟩ : ∃ x, atR lo hi true ((j : Int) - 1 + k) = x := ⟨_, rfl⟩
        have hcon := HQ.out true ((j : Int) - 1 + k) wr HLr.out HHr.out
        rw [hx] at hcon
        have HCON := hide hcon
        clear hcon
        by_cases hx0 : 0 < x
        · have HN := hide (onTo_yes hlt hx hx0)
          clear hx
          go_wp2_with fail
          refine HCON.out.mono ?_
          rintro e w2 ⟨rfl, hb⟩
          have HB2 := hide (Below.step HB.out hb (Nat.le_refl _))
          have HA2 := hide (HA.out.below hb HA.out.lt)
          have HS2 := hide (HS.out.below hb HS.out.lt)
          have HO2 := hide (ownsRow_below HO.out hb (Nat.le_refl _))
          have hz2 := HS2.out.lt
          clear hb hp0 hp1 hs1
          go_wp2_with (at_builtin; refine wpList_append_view rfl _ _ 27 rfl (w.heap.size + 2) 3 i0 (.int .i64 0) 1 8 Tryz.underlying27 hi0 hz0 hi1 hi2 rfl (by decide) _ _ _ rfl (HO2.out.alloc _) (.slice (some ⟨w2.heap.size, 0, none⟩) 1 1) 1 [.int .i64 x] rfl ?c0 ?c1 ?c2 ?c3 ?_)
          case c0 => exact Source.lit w2 [.int .i64 x] 1 3 1 rfl (fun u hu => by simp at hu; subst hu; rfl) 1
          case c1 => unfold maxLen; omega
          case c2 => omega
          case c3 => simp; omega
          intro v2 w3 hown2 hgrow2 _
          have hgB : Below (w.heap.size + 2) w2 w3 := ((Below.refl _ w2).alloc (by omega) _).trans (Below.grow hgrow2 (HO2.out.alloc _) (Nat.le_refl _) (by simp; omega))
          have HB3 := hide (HB2.out.trans (hgB.mono (by omega)))
          have HA3 := hide (HA2.out.below hgB (by omega))
          have HS3 := hide (HS2.out.below hgB (by omega))
          have HO3 := hide (show w3.ownsRow (w.heap.size + 2) 3 1 v2 (onTo lo hi j (k + 1)).length (flatI (onTo lo hi j (k + 1))) by rw [HN.out]; simpa [flatI] using hown2)
          clear hown2 hgrow2 hgB
          go_wp2_with fail
          go_roundw
          case rel => exact ⟨k + 1, by omega, by go_num, HB3.out, HA3.out, HS3.out, HO3.out⟩
          case measure => simp [intOf]; omega
        · have HN := hide (onTo_no hlt hx hx0)
          clear hx
          go_wp2_with fail
          refine HCON.out.mono ?_
          rintro e w2 ⟨rfl, hb⟩
          have HB2 := hide (Below.step HB.out hb (Nat.le_refl _))
          have HA2 := hide (HA.out.below hb HA.out.lt)
          have HS2 := hide (HS.out.below hb HS.out.lt)
          have HO2 := hide (ownsRow_below HO.out hb (Nat.le_refl _))
          clear hb hp0 hp1 hs1
          go_wp2_with fail
          go_roundw
          case rel => exact ⟨k + 1, by omega, by go_num, HB2.out, HA2.out, HS2.out, by rw [HN.out]; exact HO2.out⟩
          case measure => simp [intOf]; omega
      · obtain rfl : k = 2 := by omega
        have hkI : ¬ (j : Int) - 1 + ((2 : Nat) : Int) ≤ (j : Int) := by omega
        go_wp2_with fail
        go_ret
        rw [HF.out]
        exact ⟨_, rfl, ownsRow_mono HO.out (by omega), HB.out⟩
theorem at_top {lo hi : List Int} (hv : pileB lo hi = true) {m : Nat} (hm : m < hi.length) : atR lo hi true (m : Int) = hi.getD m 0 := by
  have := at_in (t := true) (p := (m : Int)) hv (by rw [wi_iff]; simp [rowR]; omega)
  rw [this, Int.toNat_natCast]; rfl
theorem at_past {lo hi : List Int} {m : Int} (hm : m < 0 ∨ (hi.length : Int) ≤ m) : atR lo hi true m = -1 := by
  apply at_out
  cases h : wi m 0 ((rowR true lo hi).length - 1) with
  | false => rfl
  | true =>
    have := wi_iff.1 h
    simp [rowR] at this
    omega
set_option maxHeartbeats 1600000 in
theorem on_spec (l h : Value) (lo hi : List Int) (t : Bool) (p : Int) (w : World) (Hl : IntsAt 0 w.heap.size w l lo) (Hh : IntsAt 0 w.heap.size w h hi) :
    Calls Tryz.prog 175 #[pileV l h, .agg #[.bool t, .int .i64 p]] w (IntsNew w.heap.size (onR lo hi t p) w) := by
  have HL := hide Hl
  have HH := hide Hh
  have hhl := Hh.len
  obtain ⟨aoh, caph, rfl, -, -, -, -⟩ := id Hh
  clear Hl Hh
  obtain ⟨i0, hi0, hz0, hi1, hi2⟩ := info_parts info_int
  have hq := fun t p W => at_spec l (.slice aoh hi.length caph) lo hi t p W
  unfold pileV at hq ⊢
  have HQ := hide hq
  clear hq
  go_enter Tryz.func175, Tryz.ntmps175
  go_wp2_with fail
  refine calls_at fun wx hwx => ?_
  have A_0 : RowL wx w.heap.size 29 [l, .slice aoh hi.length caph] := by rw [hwx]; exact ((RowL.new _ _ _).alloc _).alloc _
  have S_0 : RowL wx (w.heap.size + 1) 128 [.bool t, .int .i64 p] := by rw [hwx]; simpa using (RowL.new (World.alloc _ _) 128 [.bool t, .int .i64 p]).alloc _
  have B_0 : Below w.heap.size w wx := by rw [hwx]; go_grown
  have O_0 : wx.ownsRow (w.heap.size + 2) 3 1 (.slice (some ⟨w.heap.size + 1 + 1, 0, none⟩) 0 0) 0 [] := by
    rw [hwx]
    simpa using World.ownsRow_lit (e := 3) (size := 1) (base := w.heap.size + 2) ((w.alloc (.cells #[l, .slice aoh hi.length caph] 29)).alloc (.cells #[.bool t, .int .i64 p] 128)) #[] 0 (by simp) (by unfold maxLen; omega) (by simp)
  clear hwx
  refine (HQ.out t p wx ((HL.out.below B_0).mono (Nat.le_refl _) B_0.size (Nat.le_refl _)) ((HH.out.below B_0).mono (Nat.le_refl _) B_0.size (Nat.le_refl _))).mono ?_
  rintro e w1 ⟨rfl, hb⟩
  have A_1 := A_0.below hb A_0.lt
  have S_1 := S_0.below hb S_0.lt
  have O_1 := hide (ownsRow_below O_0 hb (Nat.le_refl _))
  have B_1 := hide (Below.step B_0 hb (Nat.le_refl _))
  clear hb A_0 S_0 B_0 O_0
  have cS0 := S_1.c 0 rfl
  have cS1 := S_1.c 1 rfl
  by_cases ha : atR lo hi t p < 1
  · have HF := hide (on_low ha)
    obtain ⟨a, hae⟩ : ∃ a, atR lo hi t p = a := ⟨_, rfl⟩
    rw [hae] at ha ⊢
    clear hae
    go_wp2_with fail
    go_ret
    rw [HF.out]
    exact ⟨_, rfl, ownsRow_mono O_1.out (by omega), B_1.out⟩
  cases t with
  | true =>
    obtain ⟨a, hae⟩ : ∃ a, atR lo hi true p = a := ⟨_, rfl⟩
    rw [hae] at ha ⊢
    clear hae
    go_wp2_with fail
    go_ret
    rw [on_top]
    exact ⟨_, rfl, ownsRow_mono O_1.out (by omega), B_1.out⟩
  | false =>
    have HF := hide (on_all ha)
    obtain ⟨hv, j, rfl, hjl, -⟩ := at_row (show 0 ≤ atR lo hi false p by omega)
    have hj6 : j < 6 := Nat.lt_of_lt_of_le hjl hv.l6
    have HV := hide (pileB_iff.2 hv)
    obtain ⟨a, hae⟩ : ∃ a, atR lo hi false (j : Int) = a := ⟨_, rfl⟩
    rw [hae] at ha ⊢
    clear hae hv hjl
    obtain ⟨k0, hk0, hmax, hst⟩ : ∃ k0 : Nat, k0 ≤ 2 ∧ max ((j : Int) - 1) 0 = (j : Int) - 1 + k0 ∧ (k0 = 0 ∧ 1 ≤ j ∨ k0 = 1 ∧ j = 0) := by
      by_cases h0 : j = 0
      · exact ⟨1, by omega, by omega, .inr ⟨rfl, h0⟩⟩
      · exact ⟨0, by omega, by omega, .inl ⟨rfl, by omega⟩⟩
    have hon : onTo lo hi j k0 = [] := by
      rcases hst with ⟨rfl, -⟩ | ⟨rfl, rfl⟩
      · simp [onTo]
      · have h1 := onTo_no (lo := lo) (hi := hi) (p := ((0 : Nat) : Int)) (k := 0) (by omega) rfl (by rw [at_past (.inl (by omega))]; omega)
        rw [h1]; simp [onTo]
    have HON := hide hon
    have hge : ∀ k : Nat, k0 ≤ k → 0 ≤ (j : Int) - 1 + k := fun k hk => by omega
    have HGE := hide hge
    clear hon hge hst
    go_wp2_with fail
    go_loopw [5, 6] (fun o i wr => ∃ k : Nat, k0 ≤ k ∧ k ≤ 2 ∧ i = .int .i64 ((j : Int) - 1 + k) ∧ Below w.heap.size w wr ∧ RowL wr w.heap.size 29 [l, .slice aoh hi.length caph] ∧ RowL wr (w.heap.size + 1) 128 [.bool false, .int .i64 (j : Int)] ∧ wr.ownsRow (w.heap.size + 2) 3 1 o (onTo lo hi j k).length (flatI (onTo lo hi j k))) (fun _ i _ => ((j : Int) + 1 - intOf i).toNat)
    case atStart => exact ⟨k0, Nat.le_refl _, hk0, by first | rw [hmax] | simp, B_1.out, A_1, S_1, by rw [HON.out]; simpa [flatI] using O_1.out⟩
    case round =>
      obtain ⟨k, hkk, hk, rfl, hb, hA, hS, hown⟩ := hrel
      have HB := hide hb
      have HA := hide hA
      have HS := hide hS
      have HO := hide hown
      have hol := onTo_len lo hi j k
      have hzr := hS.lt
      have hp1 := hA.c 1 rfl
      have hs1 := hS.c 1 rfl
      obtain ⟨aov, capv, rfl, -, -⟩ := own_slice hown
      have HHr := hide ((HH.out.below hb).mono (Nat.le_refl _) hb.size (Nat.le_refl _))
      have hm0 := HGE.out k hkk
      clear hb hA hS hown hmax
      by_cases hlt : k < 2
      · have hkI : (j : Int) - 1 + k ≤ (j : Int) := by omega
        obtain ⟨m, hm⟩ : ∃ m : Nat, (j : Int) - 1 + k = m := ⟨((j : Int) - 1 + k).toNat, by omega⟩
        by_cases hmh : m < hi.length
        · obtain ⟨b, o, cap', e', -, -, r1, -⟩ := ints_at HHr.out hmh
          simp only [Value.slice.injEq] at e'
          obtain ⟨rfl, -, rfl⟩ := e'
          have hat := at_top HV.out hmh
          obtain ⟨x, hx⟩ : ∃ x, hi.getD m 0 = x := ⟨_, rfl⟩
          rw [hx] at r1 hat
          rw [← hm] at hat
          have hN1 := fun h0 => onTo_yes (lo := lo) (hi := hi) (p := (j : Int)) hlt hat h0
          have hN2 := fun h0 => onTo_no (lo := lo) (hi := hi) (p := (j : Int)) hlt hat h0
          have HN1 := hide hN1
          have HN2 := hide hN2
          have HM := hide (show (m : Int) + 1 = (j : Int) - 1 + ((k + 1 : Nat) : Int) by omega)
          have hmj : (m : Int) ≤ (j : Int) := by omega
          have hmI : (m : Int) < (hi.length : Int) := by omega
          rw [hm]
          clear hx hat hN1 hN2 hm hkI hm0
          by_cases hx0 : 0 < x
          · have HN := hide (HN1.out hx0)
            go_wp2_with (at_builtin; refine wpList_append_view rfl _ _ 27 rfl (w.heap.size + 2) 3 i0 (.int .i64 0) 1 8 Tryz.underlying27 hi0 hz0 hi1 hi2 rfl (by decide) _ _ _ rfl (HO.out.alloc _) (.slice (some ⟨wr.heap.size, 0, none⟩) 1 1) 1 [.int .i64 x] rfl ?c0 ?c1 ?c2 ?c3 ?_)
            case c0 => exact Source.lit wr [.int .i64 x] 1 3 1 rfl (fun u hu => by simp at hu; subst hu; rfl) 1
            case c1 => unfold maxLen; omega
            case c2 => omega
            case c3 => first | omega | (simp; omega)
            intro v2 w3 hown2 hgrow2 _
            have hgB : Below (w.heap.size + 2) wr w3 := ((Below.refl _ wr).alloc (by omega) _).trans (Below.grow hgrow2 (HO.out.alloc _) (Nat.le_refl _) (by simp; omega))
            have HB3 := hide (HB.out.trans (hgB.mono (by omega)))
            have HA3 := hide (HA.out.below hgB (by omega))
            have HS3 := hide (HS.out.below hgB (by omega))
            have HO3 := hide (show w3.ownsRow (w.heap.size + 2) 3 1 v2 (onTo lo hi j (k + 1)).length (flatI (onTo lo hi j (k + 1))) by rw [HN.out]; simpa [flatI] using hown2)
            clear hown2 hgrow2 hgB
            go_wp2_with fail
            go_roundw
            case rel => exact ⟨k + 1, by omega, by omega, by rw [← HM.out], HB3.out, HA3.out, HS3.out, HO3.out⟩
            case measure => have := HM.out; simp [intOf]; omega
          · have HN := hide (HN2.out hx0)
            go_wp2_with fail
            go_roundw
            case rel => exact ⟨k + 1, by omega, by omega, by rw [← HM.out], HB.out, HA.out, HS.out, by rw [HN.out]; exact HO.out⟩
            case measure => have := HM.out; simp [intOf]; omega
        · have hfin : onTo lo hi j 2 = onTo lo hi j k := by
            have e1 := onTo_no (lo := lo) (hi := hi) (p := (j : Int)) hlt rfl (by rw [at_past (.inr (by omega))]; omega)
            have : k = 0 ∨ k = 1 := by omega
            rcases this with rfl | rfl
            · rw [← e1]
              exact onTo_no (lo := lo) (hi := hi) (p := (j : Int)) (k := 1) (by omega) rfl (by rw [at_past (.inr (by omega))]; omega)
            · exact e1
          have HFN := hide hfin
          have hmj : (m : Int) ≤ (j : Int) := by omega
          have hmI : ¬ (m : Int) < (hi.length : Int) := by omega
          rw [hm]
          clear hfin hm hkI hm0
          go_wp2_with fail
          go_ret
          rw [HF.out, HFN.out]
          exact ⟨_, rfl, ownsRow_mono HO.out (by omega), HB.out⟩
      · obtain rfl : k = 2 := by omega
        have hkI : ¬ (j : Int) - 1 + ((2 : Nat) : Int) ≤ (j : Int) := by omega
        go_wp2_with fail
        go_ret
        rw [HF.out]
        exact ⟨_, rfl, ownsRow_mono HO.out (by omega), HB.out⟩
theorem take_bad {lo hi : List Int} {t : Bool} {p : Int} (h : pileB lo hi = false) : takeR lo hi t p = (([], []), 0) := by simp [takeR, h]
theorem take_low {lo hi : List Int} {t : Bool} {p : Int} (h : pileB lo hi = true) (h2 : atR lo hi t p < 1) : takeR lo hi t p = ((lo, hi), 0) := by simp [takeR, h, h2]
theorem take_under {lo hi : List Int} {t : Bool} {p : Int} (h : pileB lo hi = true) (h2 : 0 < (onR lo hi t p).length) : takeR lo hi t p = ((lo, hi), 0) := by
  unfold takeR
  rw [if_pos h, if_pos (by simp only [h2, decide_true, Bool.or_true])]
theorem take_yes {lo hi : List Int} {t : Bool} {p : Int} (h : pileB lo hi = true) (h2 : ¬ atR lo hi t p < 1) (h3 : ¬ 0 < (onR lo hi t p).length) : takeR lo hi t p = (setR t lo hi p 0, atR lo hi t p) := by
  unfold takeR
  rw [if_pos h, if_neg (by simp only [h2, h3, decide_false, Bool.or_false]; decide)]
set_option maxHeartbeats 3200000 in
theorem takeP_impl (l h : Value) (lo hi : List Int) (t : Bool) (p : Int) (w : World) (Hl : IntsAt 0 w.heap.size w l lo) (Hh : IntsAt 0 w.heap.size w h hi) :
    Calls Tryz.prog 169 #[pileV l h, .agg #[.bool t, .int .i64 p]] w (PileGot2 w.heap.size (takeR lo hi t p).1 (.int .i64 (takeR lo hi t p).2) w) := by
  have HL := hide Hl
  have HH := hide Hh
  clear Hl Hh
  have hp := fun W => pile_impl l h lo hi W
  have hq := fun W => at_impl l h lo hi t p W
  have hc := fun W H1 H2 n1 n2 => copyPile_any l h lo hi W H1 H2 n1 n2
  unfold pileV at hp hq hc ⊢
  have HP := hide hp
  have HQ := hide hq
  have HC := hide hc
  clear hp hq hc
  go_enter Tryz.func169, Tryz.ntmps169
  go_wp2_with fail
  refine calls_at fun wx hwx => ?_
  have A_0 : RowL wx (w.heap.size) 29 [l, h] := by rw [hwx]; exact (((RowL.new _ 29 [l, h]).alloc _).alloc _)
  have S_0 : RowL wx (w.heap.size + 1) 128 [.bool t, .int .i64 p] := by rw [hwx]; simpa using ((RowL.new (World.alloc _ _) 128 [.bool t, .int .i64 p]).alloc _)
  have R_0 : RowL wx (w.heap.size + 1 + 1) 29 [.slice none 0 0, .slice none 0 0] := by rw [hwx]; simpa using (RowL.new (World.alloc (World.alloc _ _) _) 29 [.slice none 0 0, .slice none 0 0])
  have B_0 : Below w.heap.size w wx := by rw [hwx]; go_grown
  clear hwx
  have hL0 := R_0.lt
  have VL_0 := hide (HL.out.below B_0)
  have VH_0 := hide (HH.out.below B_0)
  have k1 := HP.out wx ((VL_0.out).mono (Nat.le_refl _) (VL_0.out).lt (Nat.le_refl _)) ((VH_0.out).mono (Nat.le_refl _) (VH_0.out).lt (Nat.le_refl _))
  cases c1 : pileB lo hi with
  | false =>
    rw [c1] at k1
    have HZ := hide (take_bad (t := t) (p := p) c1)
    clear c1
    refine (k1).mono ?_
    rintro e w1 ⟨rfl, hb⟩
    have A_1 := A_0.below hb A_0.lt
    have S_1 := S_0.below hb S_0.lt
    have R_1 := R_0.below hb R_0.lt
    have VL_1 := hide (VL_0.out.below hb)
    have VH_1 := hide (VH_0.out.below hb)
    have B_1 := hide (Below.step B_0 hb (Nat.le_refl _))
    have hz1 := hb.size
    clear hb
    have cR0 := R_1.c 0 rfl
    have cR1 := R_1.c 1 rfl
    have fR0 := R_1.frozen 0
    have fR1 := R_1.frozen 1
    clear k1
    go_wp2_with fail
    refine bodyPost_ret (by simp [results, Tryz.results169, go_sem, cR0, cR1]; try rfl) rfl ?_
    rw [HZ.out]
    exact ⟨_, _, rfl, pileOwn_nil (by have := (B_1.out).size; simpa [World.setCell] using this), ((B_1.out).setCell (by simp; omega) _).setCell (by simp; omega) _⟩
  | true =>
    rw [c1] at k1
    obtain ⟨n1, n2⟩ := pile_lens c1
    have C1 := hide c1
    clear c1
    refine (k1).mono ?_
    rintro e w1 ⟨rfl, hb⟩
    have A_1 := A_0.below hb A_0.lt
    have S_1 := S_0.below hb S_0.lt
    have R_1 := R_0.below hb R_0.lt
    have VL_1 := hide (VL_0.out.below hb)
    have VH_1 := hide (VH_0.out.below hb)
    have B_1 := hide (Below.step B_0 hb (Nat.le_refl _))
    have hz1 := hb.size
    clear hb
    have cA0 := A_1.c 0 rfl
    have cA1 := A_1.c 1 rfl
    have cS0 := S_1.c 0 rfl
    have cS1 := S_1.c 1 rfl
    clear k1
    go_wp2_with fail
    have hzR := R_1.lt
    refine (HC.out w1 ((VL_1.out).mono (Nat.le_refl _) (VL_1.out).lt (Nat.le_refl _)) ((VH_1.out).mono (Nat.le_refl _) (VH_1.out).lt (Nat.le_refl _)) n1 n2).mono ?_
    rintro e w2 ⟨lc, hc, rfl, own, hb⟩
    have A_2 := A_1.below hb A_1.lt
    have S_2 := S_1.below hb S_1.lt
    have R_2 := R_1.below hb R_1.lt
    have VL_2 := hide (VL_1.out.below hb)
    have VH_2 := hide (VH_1.out.below hb)
    have B_2 := hide (Below.step B_1.out hb (Nat.le_refl _))
    have hz2 := hb.size
    clear hb
    have cA0 := A_2.c 0 rfl
    have cA1 := A_2.c 1 rfl
    have cS0 := S_2.c 0 rfl
    have cS1 := S_2.c 1 rfl
    have cR0 := R_2.c 0 rfl
    have cR1 := R_2.c 1 rfl
    have fR0 := R_2.frozen 0
    have fR1 := R_2.frozen 1
    simp only [pileV]
    have O_c := hide own
    obtain ⟨alc, clc, rfl, -, -⟩ := own.lo.form
    obtain ⟨ahc, chc, rfl, -, -⟩ := own.ho.form
    clear own
    have hzcc : w.heap.size + 1 + 1 + 1 ≤ w1.heap.size := hzR
    have hzR2 := R_2.lt
    have hzA2 := A_2.lt
    have hzS2 := S_2.lt
    go_wp2_with fail
    refine calls_at fun w4 hw4 => ?_
    have T_4 : RowL w4 w2.heap.size 29 [.slice alc lo.length clc, .slice ahc hi.length chc] := by rw [hw4]; exact RowL.new _ _ _
    have hb4 : Below w2.heap.size w2 w4 := by rw [hw4]; exact (Below.refl _ _).alloc (Nat.le_refl _) _
    have A_4 := A_2.below hb4 A_2.lt
    have S_4 := S_2.below hb4 S_2.lt
    have R_4 := R_2.below hb4 R_2.lt
    have VL_4 := hide (VL_2.out.below hb4)
    have VH_4 := hide (VH_2.out.below hb4)
    have B_4 := hide (Below.step B_2.out hb4 (Nat.le_refl _))
    have O_4 := hide (O_c.out.below hb4 (Nat.le_refl _))
    have hoT := O_c.out
    clear hw4 hb4 cA0 cA1 cS0 cS1 cR0 cR1 fR0 fR1
    have hT4 := T_4.lt
    refine (HQ.out w4 ((VL_4.out).mono (Nat.le_refl _) (VL_4.out).lt (Nat.le_refl _)) ((VH_4.out).mono (Nat.le_refl _) (VH_4.out).lt (Nat.le_refl _))).mono ?_
    rintro e w5 ⟨rfl, hb⟩
    have A_5 := A_4.below hb A_4.lt
    have S_5 := S_4.below hb S_4.lt
    have R_5 := R_4.below hb R_4.lt
    have T_5 := T_4.below hb T_4.lt
    have VL_5 := hide (VL_4.out.below hb)
    have VH_5 := hide (VH_4.out.below hb)
    have B_5 := hide (Below.step B_4.out hb (Nat.le_refl _))
    have hz5 := hb.size
    have O_5 := hide (O_4.out.below hb (Nat.le_refl _))
    clear hb
    have cT0 := T_5.c 0 rfl
    have cT1 := T_5.c 1 rfl
    have cA0 := A_5.c 0 rfl
    have cA1 := A_5.c 1 rfl
    have cS0 := S_5.c 0 rfl
    have cS1 := S_5.c 1 rfl
    have cR0 := R_5.c 0 rfl
    have cR1 := R_5.c 1 rfl
    have fR0 := R_5.frozen 0
    have fR1 := R_5.frozen 1
    by_cases ha : atR lo hi t p < 1
    · have HZ := hide (take_low (t := t) (p := p) C1.out ha)
      obtain ⟨a, hae⟩ : ∃ a, atR lo hi t p = a := ⟨_, rfl⟩
      rw [hae] at ha ⊢
      clear hae hoT
      go_wp2_with fail
      refine bodyPost_ret (by simp [results, Tryz.results169, go_sem, cR0, cR1]; try rfl) rfl ?_
      rw [HZ.out]
      exact ⟨_, _, rfl, (O_5.out.other (((Other.refl (w.heap.size + 1 + 1) (w.heap.size + 1 + 1 + 1) w5).setCell (p := ⟨w.heap.size + 1 + 1, 0, none⟩) (Nat.le_refl _) (Nat.lt_succ_self _) _).setCell (p := ⟨w.heap.size + 1 + 1, 1, none⟩) (Nat.le_refl _) (Nat.lt_succ_self _) _) (by omega)).mono (by omega), ((B_5.out).setCell (by simp; omega) _).setCell (by simp; omega) _⟩
    have HHA := hide ha
    obtain ⟨-, j, rfl, hjl, hje⟩ := at_row (show 0 ≤ atR lo hi t p by omega)
    obtain ⟨a, hae⟩ : ∃ a, atR lo hi t (j : Int) = a := ⟨_, rfl⟩
    have HAE := hide hae
    rw [hae] at ha ⊢
    clear hae hje
    obtain ⟨nn, hnn⟩ : ∃ nn, (onR lo hi t (j : Int)).length = nn := ⟨_, rfl⟩
    have HNN := hide hnn
    have HON := hide (on_impl l h lo hi t (j : Int) w5 ((VL_5.out).mono (Nat.le_refl _) (VL_5.out).lt (Nat.le_refl _)) ((VH_5.out).mono (Nat.le_refl _) (VH_5.out).lt (Nat.le_refl _)))
    unfold pileV at HON
    clear hnn
    go_wp2_with fail
    refine (HON.out).mono ?_
    rintro e w6 ⟨v6, rfl, hov, hb⟩
    have A_6 := A_5.below hb A_5.lt
    have S_6 := S_5.below hb S_5.lt
    have R_6 := R_5.below hb R_5.lt
    have T_6 := T_5.below hb T_5.lt
    have VL_6 := hide (VL_5.out.below hb)
    have VH_6 := hide (VH_5.out.below hb)
    have B_6 := hide (Below.step B_5.out hb (Nat.le_refl _))
    have hz6 := hb.size
    have O_6 := hide (O_5.out.below hb (Nat.le_refl _))
    clear hb
    have cT0 := T_6.c 0 rfl
    have cT1 := T_6.c 1 rfl
    have cA0 := A_6.c 0 rfl
    have cA1 := A_6.c 1 rfl
    have cS0 := S_6.c 0 rfl
    have cS1 := S_6.c 1 rfl
    have cR0 := R_6.c 0 rfl
    have cR1 := R_6.c 1 rfl
    have fR0 := R_6.frozen 0
    have fR1 := R_6.frozen 1
    obtain ⟨aov, cov, rfl, -, -⟩ := own_slice hov
    rw [HNN.out]
    clear hov
    by_cases hnz : 0 < nn
    · have HZ := hide (take_under (t := t) (p := (j : Int)) C1.out (by rw [HNN.out]; exact hnz))
      have hnzI : (0 : Int) < (nn : Int) := by omega
      clear hoT
      go_wp2_with fail
      refine bodyPost_ret (by simp [results, Tryz.results169, go_sem, cR0, cR1]; try rfl) rfl ?_
      rw [HZ.out]
      exact ⟨_, _, rfl, (O_6.out.other (((Other.refl (w.heap.size + 1 + 1) (w.heap.size + 1 + 1 + 1) w6).setCell (p := ⟨w.heap.size + 1 + 1, 0, none⟩) (Nat.le_refl _) (Nat.lt_succ_self _) _).setCell (p := ⟨w.heap.size + 1 + 1, 1, none⟩) (Nat.le_refl _) (Nat.lt_succ_self _) _) (by omega)).mono (by omega), ((B_6.out).setCell (by simp; omega) _).setCell (by simp; omega) _⟩
    have HZ := hide (take_yes (t := t) (p := (j : Int)) C1.out (by have := HHA.out; omega) (by rw [HNN.out]; exact hnz))
    rw [HAE.out] at HZ
    obtain rfl : nn = 0 := by omega
    obtain ⟨gg, cg, er⟩ := O_6.out.form t hjl
    obtain ⟨n, hn⟩ : ∃ n, (rowR t lo hi).length = n := ⟨_, rfl⟩
    rw [hn] at er
    have hjI : (j : Int) < (n : Int) := by omega
    have hj0 : (0 : Int) ≤ (j : Int) := by omega
    have HRW := hide (fun W => calls_val (row_any (.slice alc lo.length clc) (.slice ahc hi.length chc) t (j : Int) W) er)
    unfold pileV at HRW
    have HN := hide hn
    have HER := hide er
    clear hn er
    have hg4 := O_6.out.cellAt HER.out hjl
    have hgT : gg < w2.heap.size := (hoT.cellAt HER.out hjl).2.2.2
    have HO4 := hide O_6.out
    clear hoT cT0 cT1 cA0 cA1 cS0 cS1 cR0 cR1 fR0 fR1
    have cT0 := T_6.c 0 rfl
    have cT1 := T_6.c 1 rfl
    have cS0 := S_6.c 0 rfl
    have cS1 := S_6.c 1 rfl
    go_wp2_with fail
    have hI : (((World.drew w6).cell? ⟨w2.heap.size, 0, none⟩ = some (.slice alc lo.length clc) ∧ (World.drew w6).cell? ⟨w2.heap.size, 1, none⟩ = some (.slice ahc hi.length chc)) ∧ ((World.drew w6).cell? ⟨w.heap.size + 1, 0, none⟩ = some (.bool t) ∧ (World.drew w6).cell? ⟨w.heap.size + 1, 1, none⟩ = some (.int .i64 (j : Int)))) ∧ (((World.drew w6).cell? ⟨gg, j, none⟩).isSome = true ∧ (World.drew w6).frozen? ⟨gg, j, none⟩ = false) := ⟨⟨⟨T_6.cell 0 (by simp), T_6.cell 1 (by simp)⟩, ⟨S_6.cell 0 (by simp), S_6.cell 1 (by simp)⟩⟩, ⟨by rw [show (World.drew w6).cell? ⟨gg, j, none⟩ = _ from hg4.1]; rfl, hg4.2.1⟩⟩
    go_region_held (fun w' => ((w'.cell? ⟨w2.heap.size, 0, none⟩ = some (.slice alc lo.length clc) ∧ w'.cell? ⟨w2.heap.size, 1, none⟩ = some (.slice ahc hi.length chc)) ∧ (w'.cell? ⟨w.heap.size + 1, 0, none⟩ = some (.bool t) ∧ w'.cell? ⟨w.heap.size + 1, 1, none⟩ = some (.int .i64 (j : Int)))) ∧ ((w'.cell? ⟨gg, j, none⟩).isSome = true ∧ w'.frozen? ⟨gg, j, none⟩ = false)) (first | exact hI | exact hSx | exact spot_put hSx (by omega) (by omega) _) (first
      | (go_at_call 201; (with_reducible refine (HRW.out _).mono ?_); rintro e w7 ⟨rfl, hb0⟩; have hb := (Below.refl w6.heap.size w6).drew.trans hb0; have S_7 := S_6.below hb S_6.lt; have T_7 := T_6.below hb T_6.lt; have A_7 := A_6.below hb A_6.lt; have R_7 := R_6.below hb R_6.lt; have O_7 := HO4.out.below hb (Nat.le_refl _); obtain ⟨cg0, fg0, hgb, hgl⟩ := O_7.cellAt HER.out hjl; have hSx : ((w7.cell? ⟨w2.heap.size, 0, none⟩ = some (.slice alc lo.length clc) ∧ w7.cell? ⟨w2.heap.size, 1, none⟩ = some (.slice ahc hi.length chc)) ∧ (w7.cell? ⟨w.heap.size + 1, 0, none⟩ = some (.bool t) ∧ w7.cell? ⟨w.heap.size + 1, 1, none⟩ = some (.int .i64 (j : Int)))) ∧ ((w7.cell? ⟨gg, j, none⟩).isSome = true ∧ w7.frozen? ⟨gg, j, none⟩ = false) := ⟨⟨⟨T_7.cell 0 (by simp), T_7.cell 1 (by simp)⟩, ⟨S_7.cell 0 (by simp), S_7.cell 1 (by simp)⟩⟩, ⟨by rw [cg0]; rfl, fg0⟩⟩))
    have VL_7 := hide (VL_6.out.below hb)
    have VH_7 := hide (VH_6.out.below hb)
    have B_7 := hide (Below.step B_6.out hb (Nat.le_refl _))
    have HO5 := hide O_7
    clear hb hb0 O_7 hg4 hI hSx cT0 cT1 cS0 cS1
    obtain ⟨wz, hwz⟩ : ∃ wz, wz = w7.setCell ⟨gg, j, none⟩ (.int .i64 0) := ⟨_, rfl⟩
    rw [← hwz]
    obtain ⟨q1, ho6⟩ := HO5.out.set HER.out hjl 0
    rw [← hwz] at q1 ho6
    have O_z := hide q1
    clear q1 hwz cg0 fg0
    have R_z := R_7.other ho6 (by omega)
    have T_z := T_7.other ho6 (by omega)
    have B_z := hide (B_7.out.trans (ho6.below (B := w.heap.size) (by omega) (B_7.out).size))
    clear ho6
    have cT0 := T_z.c 0 rfl
    have cT1 := T_z.c 1 rfl
    have cR0 := R_z.c 0 rfl
    have cR1 := R_z.c 1 rfl
    have fR0 := R_z.frozen 0
    have fR1 := R_z.frozen 1
    go_wp2_with fail
    refine bodyPost_ret (by simp [results, Tryz.results169, go_sem, cR0, cR1]; try rfl) rfl ?_
    rw [HZ.out]
    exact ⟨_, _, rfl, (O_z.out.other (((Other.refl (w.heap.size + 1 + 1) (w.heap.size + 1 + 1 + 1) wz).setCell (p := ⟨w.heap.size + 1 + 1, 0, none⟩) (Nat.le_refl _) (Nat.lt_succ_self _) _).setCell (p := ⟨w.heap.size + 1 + 1, 1, none⟩) (Nat.le_refl _) (Nat.lt_succ_self _) _) (by omega)).mono (by omega), ((B_z.out).setCell (by simp; omega) _).setCell (by simp; omega) _⟩
end Go.Proofs.YtmemgbklgcjobaaGreatDoor
