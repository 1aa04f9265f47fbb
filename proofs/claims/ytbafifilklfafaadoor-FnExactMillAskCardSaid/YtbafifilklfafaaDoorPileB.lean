/-
  The walks over validity of piles.
-/
import Derived.Test.YtbafifilklfafaaDoorPileA
import Derived.Deep.QuietTactic
import Derived.BigQuiet
namespace Go.Proofs.YtbafifilklfafaaDoor
open Go.RowKit

theorem pileB_no1 {lo hi : List Int} (h : wi lo.length 1 6 = false) : pileB lo hi = false := by simp [pileB, h]
theorem pileB_no2 {lo hi : List Int} (h : ((hi.length : Int) != (lo.length : Int) - 1) = true) : pileB lo hi = false := by
  have : decide ((hi.length : Int) = (lo.length : Int) - 1) = false := by simpa using h
  simp [pileB, this]
theorem idK_at {ids : List Int} {k : Nat} (hk : k < ids.length) : idK ids k = (wi ids[k] 0 99 && (ids[k] == 0 || !hasI (ids.take k) ids[k])) := by simp [idK, hk]
theorem onK_at {lo hi : List Int} {k : Nat} (hk : k < hi.length) (h1 : k + 1 < lo.length) : onK lo hi k = (hi[k] == 0 || (lo[k] != 0 && lo[k + 1] != 0)) := by
  have : k < lo.length := by omega
  simp [onK, hk, this, h1]
theorem pileB_ids {lo hi : List Int} {k : Nat} (hk : k < (lo ++ hi).length) (h : idK (lo ++ hi) k = false) : pileB lo hi = false := by
  simp only [pileB, upTo_false hk h, Bool.false_and, Bool.and_false]
theorem pileB_on {lo hi : List Int} {k : Nat} (hk : k < hi.length) (h : onK lo hi k = false) : pileB lo hi = false := by
  simp only [pileB, upTo_false hk h, Bool.and_false]
theorem pileB_yes {lo hi : List Int} (h1 : wi lo.length 1 6 = true) (h2 : ((hi.length : Int) != (lo.length : Int) - 1) = false) (h3 : ∀ k, k < (lo ++ hi).length → idK (lo ++ hi) k = true) (h4 : ∀ k, k < hi.length → onK lo hi k = true) : pileB lo hi = true := by
  have : decide ((hi.length : Int) = (lo.length : Int) - 1) = true := by simpa using h2
  unfold pileB
  rw [h1, this, upTo_true h3, upTo_true h4]; rfl

set_option maxRecDepth 10000 in
set_option maxHeartbeats 1600000 in
theorem pile_impl (l h : Value) (lo hi : List Int) (w : World) (Hl : IntsAt 0 w.heap.size w l lo) (Hh : IntsAt 0 w.heap.size w h hi) :
    Calls Tryd.prog 79 #[pileV l h] w fun e w' => e = .returned (.bool (pileB lo hi)) ∧ Below w.heap.size w w' := by
  have HL := hide Hl
  have HH := hide Hh
  have hl1 := Hl.len
  have hl2 := Hh.len
  obtain ⟨ao1, cap1, rfl, -, -, -, -⟩ := Hl
  obtain ⟨ao2, cap2, rfl, -, -, -, -⟩ := Hh
  unfold pileV
  have hI := fun w => within_any lo.length 1 6 w
  cases h1 : wi lo.length 1 6 with
  | false =>
    rw [h1] at hI
    have hf := pileB_no1 (hi := hi) h1
    have HF := hide hf
    clear hf h1
    go_enter Tryd.func79, Tryd.ntmps79
    go_wp2_with fail
    refine (hI _).mono ?_
    rintro e w1 ⟨rfl, rfl⟩
    go_wp2_with fail
    go_ret
    exact ⟨by rw [HF.out]; rfl, by go_grown⟩
  | true =>
    rw [h1] at hI
    obtain ⟨q1, q2⟩ := wi_iff.1 h1
    cases h2 : ((hi.length : Int) != (lo.length : Int) - 1) with
    | true =>
      have hf := pileB_no2 (lo := lo) h2
      have HF := hide hf
      clear hf
      go_enter Tryd.func79, Tryd.ntmps79
      go_wp2_with fail
      refine (hI _).mono ?_
      rintro e w1 ⟨rfl, rfl⟩
      go_wp2_with fail
      go_ret
      exact ⟨by rw [HF.out]; rfl, by go_grown⟩
    | false =>
      have hlen : hi.length + 1 = lo.length := by simp at h2; omega
      have H1 := hide h1
      have H2 := hide h2
      clear h1
      go_enter Tryd.func79, Tryd.ntmps79
      go_wp2_with fail
      refine (hI _).mono ?_
      rintro e w1 ⟨rfl, rfl⟩
      go_wp2_with fail
      refine calls_at fun wx hwx => ?_
      have R1 : RowL wx w.heap.size 50 [.slice ao1 lo.length cap1, .slice ao2 hi.length cap2] := by rw [hwx]; exact (RowL.new _ _ _).alloc _
      have R2 : RowL wx (w.heap.size + 1) 40 [.slice ao1 lo.length cap1, .slice ao2 hi.length cap2] := by rw [hwx]; simpa using RowL.new (w.alloc _) 40 [.slice ao1 lo.length cap1, .slice ao2 hi.length cap2]
      have hb0 : Below w.heap.size w wx := by rw [hwx]; go_grown
      clear hwx
      refine (concat_any _ _ _ _ lo hi _ R2 ((HL.out.below hb0).mono (Nat.le_refl _) hb0.size (Nat.le_refl _)) ((HH.out.below hb0).mono (Nat.le_refl _) hb0.size (Nat.le_refl _)) (by omega) (by omega)).mono ?_
      rintro e w1 ⟨v, rfl, hown, hb1⟩
      have hat := ownI_at hown rfl hb1.size
      obtain ⟨ids, hids⟩ : ∃ ids, lo ++ hi = ids := ⟨_, rfl⟩
      have hil : ids.length = lo.length + hi.length := by rw [← hids]; simp
      rw [hids] at hat hown
      have HIDS := hide hids
      have HAT := hide hat
      have HB1 := hide (Below.step hb0 hb1 (Nat.le_refl _))
      have R1b := R1.below hb1 R1.lt
      have hx0 := R1.lt
      obtain ⟨aov, capv, rfl, -, -⟩ := own_slice hown
      have hl3 : ids.length ≤ 20 := by omega
      have HIL := hide hil
      clear hown hb1 hids hat hil
      obtain ⟨aov', capv', e', hcc, -, -, hcv⟩ := HAT.out
      simp only [Value.slice.injEq] at e'
      obtain ⟨rfl, -, rfl⟩ := e'
      have HCV := hide hcv
      clear hcv
      have hp := R1b.cell 0 (by simp)
      have hp1 := R1b.cell 1 (by simp)
      simp only [List.getD_cons_zero, List.getD_cons_succ] at hp hp1
      go_wp2_with fail
      go_loop [4, 5, 31] (fun _ _ i => ∃ k : Nat, k ≤ ids.length ∧ i = .int .i64 k ∧ (∀ j, j < k → idK ids j = true)) (fun _ _ i => ids.length - (intOf i).toNat)
      case atStart => exact ⟨0, Nat.zero_le _, rfl, fun _ h => absurd h (Nat.not_lt_zero _)⟩
      case round =>
        obtain ⟨k, hk, rfl, hall⟩ := hrel
        have HA := hide hall
        clear hall
        by_cases hlt : k < ids.length
        · obtain ⟨b, o, rfl, hx1, hx2, hcs⟩ := HCV.out (by omega)
          obtain ⟨r1, -⟩ := hcs k hlt
          have hk1 := idK_at hlt
          obtain ⟨x, hx⟩ : ∃ x, ids[k] = x := ⟨_, rfl⟩
          rw [hx] at r1 hk1
          have HK1 := hide hk1
          clear hcs hk1 hx
          have hW := fun w => within_any x 0 99 w
          have hC' := contains_any (some ⟨b, o, none⟩) capv k ids _ _ x w1 HAT.out (by omega)
          have hkI : (k : Int) < (ids.length : Int) := by omega
          have hkc : (k : Int) ≤ (capv : Int) := by omega
          have hk0 : (0 : Int) ≤ (k : Int) := by omega
          cases g1 : wi x 0 99 with
          | false =>
            rw [g1] at hW
            have HF := hide (show pileB lo hi = false from pileB_ids (k := k) (by rw [HIDS.out]; exact hlt) (by rw [HIDS.out, HK1.out, g1]; rfl))
            clear g1
            go_wp2_with fail
            refine (hW _).mono ?_
            rintro e w2 ⟨rfl, rfl⟩
            go_wp2_with fail
            go_ret
            exact ⟨by rw [HF.out]; rfl, HB1.out⟩
          | true =>
            rw [g1] at hW
            cases g2 : (x == 0) with
            | true =>
              have g3 : (x != 0) = false := by rw [bne, g2]; rfl
              have HN := hide (show idK ids k = true by rw [HK1.out, g1, g2]; rfl)
              clear g1 g2
              go_wp2_with fail
              refine (hW _).mono ?_
              rintro e w2 ⟨rfl, rfl⟩
              go_wp2_with fail
              go_round
              case rel => exact ⟨k + 1, by omega, by go_num, upTo_snoc HA.out HN.out⟩
              case measure => simp [intOf]; omega
            | false =>
              have g3 : (x != 0) = true := by rw [bne, g2]; rfl
              cases g4 : hasI (ids.take k) x with
              | true =>
                rw [g4] at hC'
                have HF := hide (show pileB lo hi = false from pileB_ids (k := k) (by rw [HIDS.out]; exact hlt) (by rw [HIDS.out, HK1.out, g1, g2, g4]; rfl))
                clear g1 g2 g4
                go_wp2_with fail
                refine (hW _).mono ?_
                rintro e w2 ⟨rfl, rfl⟩
                go_wp2_with fail
                refine hC'.mono ?_
                rintro e w2 ⟨rfl, rfl⟩
                go_wp2_with fail
                go_ret
                exact ⟨by rw [HF.out]; rfl, HB1.out⟩
              | false =>
                rw [g4] at hC'
                have HN := hide (show idK ids k = true by rw [HK1.out, g1, g2, g4]; rfl)
                clear g1 g2 g4
                go_wp2_with fail
                refine (hW _).mono ?_
                rintro e w2 ⟨rfl, rfl⟩
                go_wp2_with fail
                refine hC'.mono ?_
                rintro e w2 ⟨rfl, rfl⟩
                go_wp2_with fail
                go_round
                case rel => exact ⟨k + 1, by omega, by go_num, upTo_snoc HA.out HN.out⟩
                case measure => simp [intOf]; omega
        · obtain rfl : k = ids.length := by omega
          have HLw := hide (HL.out.below HB1.out)
          have HHw := hide (HH.out.below HB1.out)
          clear HCV HAT
          go_wp2_with fail
          go_loop [6, 7, 54] (fun _ _ i => ∃ k : Nat, k ≤ hi.length ∧ i = .int .i64 k ∧ (∀ j, j < k → onK lo hi j = true)) (fun _ _ i => hi.length - (intOf i).toNat)
          case atStart => exact ⟨0, Nat.zero_le _, rfl, fun _ h => absurd h (Nat.not_lt_zero _)⟩
          case round =>
            obtain ⟨k, hk, rfl, hall⟩ := hrel
            have HA2 := hide hall
            clear hall
            by_cases hlt : k < hi.length
            · obtain ⟨_, _, e1, -, -, -, hcl⟩ := HLw.out
              obtain ⟨_, _, e2, -, -, -, hch⟩ := HHw.out
              simp only [Value.slice.injEq] at e1 e2
              obtain ⟨rfl, -, rfl⟩ := e1
              obtain ⟨rfl, -, rfl⟩ := e2
              obtain ⟨b1, o1, rfl, -, -, hcs1⟩ := hcl (by omega)
              obtain ⟨b2, o2, rfl, -, -, hcs2⟩ := hch (by omega)
              obtain ⟨r1, -⟩ := hcs1 k (by omega)
              obtain ⟨r2, -⟩ := hcs1 (k + 1) (by omega)
              obtain ⟨r3, -⟩ := hcs2 k hlt
              have hk1 := onK_at hlt (show k + 1 < lo.length by omega)
              obtain ⟨x, hx⟩ : ∃ x, hi[k] = x := ⟨_, rfl⟩
              obtain ⟨y, hy⟩ : ∃ y, lo[k]'(by omega) = y := ⟨_, rfl⟩
              obtain ⟨z, hz⟩ : ∃ z, lo[k + 1]'(by omega) = z := ⟨_, rfl⟩
              rw [hx, hy, hz] at hk1
              rw [hx] at r3
              rw [hy] at r1
              rw [hz] at r2
              have HK1 := hide hk1
              clear hcl hch hcs1 hcs2 hk1 hx hy hz
              have hkI : (k : Int) < (hi.length : Int) := by omega
              have hkI2 : (k : Int) < (lo.length : Int) := by omega
              have hkI3 : (k : Int) + 1 < (lo.length : Int) := by omega
              cases g1 : (x == 0) with
              | true =>
                have g3 : (x != 0) = false := by rw [bne, g1]; rfl
                have HN := hide (show onK lo hi k = true by rw [HK1.out, g1]; rfl)
                clear g1
                go_wp2_with fail
                go_round
                case rel => exact ⟨k + 1, by omega, by go_num, upTo_snoc HA2.out HN.out⟩
                case measure => simp [intOf]; omega
              | false =>
                have g3 : (x != 0) = true := by rw [bne, g1]; rfl
                cases g4 : (y == 0) with
                | true =>
                  have HF := hide (show pileB lo hi = false from pileB_on hlt (by rw [HK1.out, g1, bne, g4]; rfl))
                  clear g1
                  go_wp2_with fail
                  go_ret
                  exact ⟨by rw [HF.out]; rfl, HB1.out⟩
                | false =>
                  cases g5 : (z == 0) with
                  | true =>
                    have HF := hide (show pileB lo hi = false from pileB_on hlt (by rw [HK1.out, g1, bne, bne, g4, g5]; rfl))
                    clear g1
                    go_wp2_with fail
                    go_ret
                    exact ⟨by rw [HF.out]; rfl, HB1.out⟩
                  | false =>
                    have HN := hide (show onK lo hi k = true by rw [HK1.out, g1, bne, bne, g4, g5]; rfl)
                    clear g1
                    go_wp2_with fail
                    go_round
                    case rel => exact ⟨k + 1, by omega, by go_num, upTo_snoc HA2.out HN.out⟩
                    case measure => simp [intOf]; omega
            · obtain rfl : k = hi.length := by omega
              have HF := hide (show pileB lo hi = true from pileB_yes H1.out H2.out (by rw [HIDS.out]; exact HA.out) HA2.out)
              go_wp2_with fail
              go_ret
              exact ⟨by rw [HF.out]; rfl, HB1.out⟩
end Go.Proofs.YtbafifilklfafaaDoor
