/-
  Parts of the proof, of 2 texts: what PileC, PileD show. Conditions: each theorem states its own.
-/
import Derived.Deep.RegionLaw
import Derived.Outline
import Derived.Deep.CutRange
import Derived.Test.YtajjnciookhamaaGreatM09
import Derived.Test.YtajjnciookhamaaGreatM05
namespace Go.Proofs.YtajjnciookhamaaGreat
open Go.RowKit
theorem quiet_left {P : Program} {f : FuncId} {args : Array Value} {w : World} {n : Nat} {v : Value}
    (h : Calls P f args (w.drewN n) fun e w' => e = .returned v ∧ w.drewN n = w') : Calls P f args (w.drewN n) fun e w'' => e = .returned v ∧ ∃ m, w'' = w.drewN m :=
  h.mono fun _ _ ⟨he, hm⟩ => ⟨he, n, hm.symm⟩
set_option maxRecDepth 10000 in
set_option maxHeartbeats 1600000 in
theorem pile_spec (l h : Value) (lo hi : List Int) (w : World) (Hl : IntsAt 0 w.heap.size w l lo) (Hh : IntsAt 0 w.heap.size w h hi) :
    Calls Tryz.prog 58 #[pileV l h] w fun e w' => e = .returned (.bool (pileB lo hi)) ∧ Below w.heap.size w w' := by
  have HL := hide Hl
  have HH := hide Hh
  have hl1 := Hl.len
  have hl2 := Hh.len
  obtain ⟨ao1, cap1, rfl, -, -, -, -⟩ := Hl
  obtain ⟨ao2, cap2, rfl, -, -, -, -⟩ := Hh
  unfold pileV
  have hI := fun w => l1In_any lo.length 1 6 w
  cases h1 : wi lo.length 1 6 with
  | false =>
    rw [h1] at hI
    have hf := pileB_no1 (hi := hi) h1
    have HF := hide hf
    clear hf h1
    go_enter Tryz.func58, Tryz.ntmps58
    go_wp2_with fail
    refine (hI _).mono ?_
    rintro e w1 ⟨rfl, rfl⟩
    go_wp2_with fail
    go_ret
    exact ⟨by rw [HF.out]; rfl, by go_grown⟩
  | true =>
    rw [h1] at hI
    obtain ⟨q1, q2⟩ := wi_iff.1 h1
    cases h2 : ((hi.length : Int) != (lo.length : Int) - 1) with
    | true =>
      have hf := pileB_no2 (lo := lo) h2
      have HF := hide hf
      clear hf
      go_enter Tryz.func58, Tryz.ntmps58
      go_wp2_with fail
      refine (hI _).mono ?_
      rintro e w1 ⟨rfl, rfl⟩
      go_wp2_with fail
      go_ret
      exact ⟨by rw [HF.out]; rfl, by go_grown⟩
    | false =>
      have hlen : hi.length + 1 = lo.length := by simp at h2; omega
      have H1 := hide h1
      have H2 := hide h2
      clear h1
      obtain ⟨i0, hi0, hz0, hi1, hi2⟩ := info_parts info_int
      go_enter Tryz.func58, Tryz.ntmps58
      go_wp2_with fail
      refine (hI _).mono ?_
      rintro e w1 ⟨rfl, rfl⟩
      go_wp2_with fail
      obtain ⟨wx, hwx⟩ : ∃ wx, wx = w.alloc (Obj.cells #[.slice ao1 lo.length cap1, .slice ao2 hi.length cap2] 37) := ⟨_, rfl⟩
      rw [← hwx]
      have R1 : RowL wx w.heap.size 37 [.slice ao1 lo.length cap1, .slice ao2 hi.length cap2] := by rw [hwx]; exact RowL.new _ _ _
      have hb0 : Below w.heap.size w wx := by rw [hwx]; go_grown
      have hlt := R1.lt
      clear hwx
      have hp := R1.cell 0 (by simp)
      have hp1 := R1.cell 1 (by simp)
      simp only [List.getD_cons_zero, List.getD_cons_succ] at hp hp1
      have o1 : (wx.alloc (.cells #[] 3)).ownsRow wx.heap.size 3 1 (.slice (some ⟨wx.heap.size, 0, none⟩) 0 0) 0 [] := by simpa using World.ownsRow_lit (e := 3) (size := 1) wx #[] 0 (Nat.le_refl _) (by unfold maxLen; omega) (by simp)
      have O1 := hide (show (wx.alloc (.cells #[] 3)).drew.ownsRow wx.heap.size 3 1 (.slice (some ⟨wx.heap.size, 0, none⟩) 0 0) 0 [] from o1)
      have HB0 := hide (show Below wx.heap.size wx (wx.alloc (.cells #[] 3)).drew from ((Below.refl _ _).alloc (Nat.le_refl _) _).drew)
      have S1 := hide (show Source (wx.alloc (.cells #[] 3)).drew 1 (.slice ao1 lo.length cap1) lo.length (flatI lo) from ((HL.out.below hb0).below HB0.out).source)
      have HSZ := hide (show wx.heap.size ≤ (wx.alloc (.cells #[] 3)).drew.heap.size by simp)
      clear o1
      go_cut [3] from 21 to 27 (fun v wr => wr.ownsRow wx.heap.size 3 1 v (lo ++ hi).length (flatI (lo ++ hi)) ∧ Below wx.heap.size wx wr)
      case first =>
        go_region_law (first
          | (refine step_append_view rfl (.tmp 21) (.tmp 23) 26 rfl wx.heap.size 3 i0 (.int .i64 0) 1 8 Tryz.underlying26 hi0 hz0 hi1 hi2 rfl (by decide) _ _ _ (by simp [Act.eval]) O1.out _ _ _ (by simp [Act.eval]) S1.out (by unfold maxLen; omega) (by omega) HSZ.out ?_; intro v2 w2 hown2 hgrow2 _; have hb2 := HB0.out.trans (Below.grow hgrow2 O1.out (Nat.le_refl _) HSZ.out); have c2 : w2.cell? ⟨w.heap.size, 1, none⟩ = some (.slice ao2 hi.length cap2) := (R1.below hb2 R1.lt).cell 1 (by simp); have S2 := hide (((HH.out.below hb0).below hb2).source))
          | (refine step_append_view rfl (.tmp 24) (.tmp 26) 26 rfl wx.heap.size 3 i0 (.int .i64 0) 1 8 Tryz.underlying26 hi0 hz0 hi1 hi2 rfl (by decide) _ _ _ (by simp [Act.eval]) hown2 _ _ _ (by simp [Act.eval]) S2.out (by unfold maxLen; omega) (by omega) hb2.size ?_; intro v3 w3 hown3 hgrow3 _))
        all_goals
          have hb3 := hb2.trans (Below.grow hgrow3 hown2 (Nat.le_refl _) hb2.size)
          have HO3 := hide (show w3.ownsRow wx.heap.size 3 1 v3 (lo ++ hi).length (flatI (lo ++ hi)) by simpa [flatI] using hown3)
          have HB3 := hide hb3
          clear hown3 hgrow3 hown2 hgrow2 hb3
          go_wp2_with fail
          go_meet
          exact ⟨HO3.out, HB3.out⟩
      case rest =>
        obtain ⟨hown, hb1⟩ := hcut
        have hat := ownI_at hown rfl hb1.size
        obtain ⟨ids, hids⟩ : ∃ ids, lo ++ hi = ids := ⟨_, rfl⟩
        have hil : ids.length = lo.length + hi.length := by rw [← hids]; simp
        rw [hids] at hat hown
        have HIDS := hide hids
        have HAT := hide hat
        have HB1 := hide (Below.step hb0 hb1 (Nat.le_refl _))
        have R1b := R1.below hb1 R1.lt
        obtain ⟨aov, capv, rfl, -, -⟩ := own_slice hown
        have hl3 : ids.length ≤ 20 := by omega
        have HIL := hide hil
        clear hown hb1 hids hat hil O1 S1 hp hp1
        obtain ⟨aov', capv', e', hcc, -, -, hcv⟩ := HAT.out
        simp only [Value.slice.injEq] at e'
        obtain ⟨rfl, -, rfl⟩ := e'
        have HCV := hide hcv
        clear hcv
        go_wp2_with fail
        go_loopw [4] (fun i wr => ∃ k : Nat, k ≤ ids.length ∧ i = .int .i64 k ∧ Below wc.heap.size wc wr ∧ (∀ j, j < k → idK ids j = true)) (fun i _ => ids.length - (intOf i).toNat)
        case atStart => exact ⟨0, Nat.zero_le _, rfl, Below.refl _ _, fun _ h => absurd h (Nat.not_lt_zero _)⟩
        case round =>
          obtain ⟨k, hk, rfl, hb, hall⟩ := hrel
          have HA := hide hall
          clear hall
          by_cases hlt : k < ids.length
          · obtain ⟨b, o, rfl, hx1, hx2, hcs⟩ := HCV.out (by omega)
            obtain ⟨r1, -⟩ := hcs k hlt
            rw [← hb.cell (p := ⟨b, _, none⟩) (by simpa using by omega)] at r1
            have hk1 := idK_at hlt
            have HHr := hide (IntsAt.take (HAT.out.below hb) hk)
            obtain ⟨x, hx⟩ : ∃ x, ids[k] = x := ⟨_, rfl⟩
            rw [hx] at r1 hk1
            have HK1 := hide hk1
            clear hcs hk1 hx
            have hW := fun w => l1In_any x 0 99 w
            have hkI : (k : Int) < (ids.length : Int) := by omega
            have hkc : (k : Int) ≤ (capv : Int) := by omega
            have hk0 : (0 : Int) ≤ (k : Int) := by omega
            have HBr := hide (Below.step HB1.out hb (Nat.le_refl _))
            cases g1 : wi x 0 99 with
            | false =>
              rw [g1] at hW
              have HF := hide (show pileB lo hi = false from pileB_ids (k := k) (by rw [HIDS.out]; exact hlt) (by rw [HIDS.out, HK1.out, g1]; rfl))
              clear g1
              go_wp2_with fail
              go_quiet ((go_at_call 57; exact quiet_left (hW _)))
              go_wp2_with fail
              go_ret
              exact ⟨by rw [HF.out]; rfl, below_drewN HBr.out _⟩
            | true =>
              rw [g1] at hW
              obtain ⟨x0, x9⟩ := wi_iff.1 g1
              by_cases g2 : x = 0
              · have g3 : decide (0 < x) = false := by simp; omega
                have HN := hide (show idK ids k = true by rw [HK1.out, g1, g2]; rfl)
                clear g1 g2
                go_wp2_with fail
                go_quiet ((go_at_call 57; exact quiet_left (hW _)))
                go_wp2_with fail
                go_roundw
                case rel => exact ⟨k + 1, by omega, by go_num, below_drewN hb _, upTo_snoc HA.out HN.out⟩
                case measure => simp [intOf]; omega
              · have g3 : decide (0 < x) = true := by simp; omega
                have g5 : (x == 0) = false := by simp; omega
                cases g4 : hasI (ids.take k) x with
                | true =>
                  have HF := hide (show pileB lo hi = false from pileB_ids (k := k) (by rw [HIDS.out]; exact hlt) (by rw [HIDS.out, HK1.out, g1, g5, g4]; rfl))
                  clear g1 g2 g5
                  go_wp2_with fail
                  go_quiet ((first | (go_at_call 57; exact quiet_left (hW _)) | (go_at_call 99; exact quiet_left (l1Has_any _ (ids.take k) _ _ _ _ HHr.out))))
                  go_wp2_with fail
                  go_ret
                  exact ⟨by rw [HF.out]; rfl, below_drewN HBr.out _⟩
                | false =>
                  have HN := hide (show idK ids k = true by rw [HK1.out, g1, g5, g4]; rfl)
                  clear g1 g2 g5
                  go_wp2_with fail
                  go_quiet ((first | (go_at_call 57; exact quiet_left (hW _)) | (go_at_call 99; exact quiet_left (l1Has_any _ (ids.take k) _ _ _ _ HHr.out))))
                  go_wp2_with fail
                  go_roundw
                  case rel => exact ⟨k + 1, by omega, by go_num, below_drewN hb _, upTo_snoc HA.out HN.out⟩
                  case measure => simp [intOf]; omega
          · obtain rfl : k = ids.length := by omega
            have HBr := hide (Below.step HB1.out hb (Nat.le_refl _))
            have HLw := hide (HL.out.below HBr.out)
            have HHw := hide (HH.out.below HBr.out)
            have RW := R1b.below hb R1b.lt
            have hp := RW.cell 0 (by simp)
            have hp1 := RW.cell 1 (by simp)
            simp only [List.getD_cons_zero, List.getD_cons_succ] at hp hp1
            clear HCV HAT hb R1b R1
            obtain ⟨wo, rfl⟩ : ∃ wo : World, wo = wr := ⟨_, rfl⟩
            go_wp2_with fail
            go_loop [5] (fun i => ∃ k : Nat, k ≤ hi.length ∧ i = .int .i64 k ∧ (∀ j, j < k → onK lo hi j = true)) (fun i => hi.length - (intOf i).toNat)
            case atStart => exact ⟨0, Nat.zero_le _, rfl, fun _ h => absurd h (Nat.not_lt_zero _)⟩
            case round =>
              obtain ⟨k, hk, rfl, hall⟩ := hrel
              have HA2 := hide hall
              clear hall
              by_cases hlt : k < hi.length
              · obtain ⟨_, _, e1, -, -, -, hcl⟩ := HLw.out
                obtain ⟨_, _, e2, -, -, -, hch⟩ := HHw.out
                simp only [Value.slice.injEq] at e1 e2
                obtain ⟨rfl, -, rfl⟩ := e1
                obtain ⟨rfl, -, rfl⟩ := e2
                obtain ⟨b1, o1, rfl, -, -, hcs1⟩ := hcl (by omega)
                obtain ⟨b2, o2, rfl, -, -, hcs2⟩ := hch (by omega)
                obtain ⟨r1, -⟩ := hcs1 k (by omega)
                obtain ⟨r2, -⟩ := hcs1 (k + 1) (by omega)
                obtain ⟨r3, -⟩ := hcs2 k hlt
                have hk1 := onK_at hlt (show k + 1 < lo.length by omega)
                obtain ⟨x, hx⟩ : ∃ x, hi[k] = x := ⟨_, rfl⟩
                obtain ⟨y, hy⟩ : ∃ y, lo[k]'(by omega) = y := ⟨_, rfl⟩
                obtain ⟨z, hz⟩ : ∃ z, lo[k + 1]'(by omega) = z := ⟨_, rfl⟩
                have hxm : x ∈ ids := by rw [← HIDS.out, ← hx]; exact List.mem_append_right _ (List.getElem_mem _)
                have hx0 : 0 ≤ x := by
                  obtain ⟨j, hj, ej⟩ := mem_getD hxm
                  have := HA.out j hj
                  unfold idK at this
                  rw [ej, Bool.and_eq_true, wi_iff] at this
                  exact this.1.1
                rw [hx, hy, hz] at hk1
                rw [hx] at r3
                rw [hy] at r1
                rw [hz] at r2
                have HK1 := hide hk1
                clear hcl hch hcs1 hcs2 hk1 hx hy hz hxm
                have hkI : (k : Int) < (hi.length : Int) := by omega
                have hkI2 : (k : Int) < (lo.length : Int) := by omega
                have hkI3 : (k : Int) + 1 < (lo.length : Int) := by omega
                by_cases g1 : x = 0
                · have g3 : decide (0 < x) = false := by simp; omega
                  have HN := hide (show onK lo hi k = true by rw [HK1.out, g1]; rfl)
                  clear g1
                  go_wp2_with fail
                  go_round
                  case rel => exact ⟨k + 1, by omega, by go_num, upTo_snoc HA2.out HN.out⟩
                  case measure => simp [intOf]; omega
                · have g3 : decide (0 < x) = true := by simp; omega
                  have g6 : (x == 0) = false := by simp; omega
                  cases g4 : (y == 0) with
                  | true =>
                    have HF := hide (show pileB lo hi = false from pileB_on hlt (by rw [HK1.out, g6, bne, g4]; rfl))
                    clear g1 g6
                    go_wp2_with fail
                    go_ret
                    exact ⟨by rw [HF.out]; rfl, HBr.out⟩
                  | false =>
                    cases g5 : (z == 0) with
                    | true =>
                      have HF := hide (show pileB lo hi = false from pileB_on hlt (by rw [HK1.out, g6, bne, bne, g4, g5]; rfl))
                      clear g1 g6
                      go_wp2_with fail
                      go_ret
                      exact ⟨by rw [HF.out]; rfl, HBr.out⟩
                    | false =>
                      have HN := hide (show onK lo hi k = true by rw [HK1.out, g6, bne, bne, g4, g5]; rfl)
                      clear g1 g6
                      go_wp2_with fail
                      go_round
                      case rel => exact ⟨k + 1, by omega, by go_num, upTo_snoc HA2.out HN.out⟩
                      case measure => simp [intOf]; omega
              · obtain rfl : k = hi.length := by omega
                have HF := hide (show pileB lo hi = true from pileB_yes H1.out H2.out (by rw [HIDS.out]; exact HA.out) HA2.out)
                go_wp2_with fail
                go_ret
                exact ⟨by rw [HF.out]; rfl, HBr.out⟩
end Go.Proofs.YtajjnciookhamaaGreat
namespace Go.Proofs.YtajjnciookhamaaGreat
open Go.RowKit
/-- A spot, or none, with the report. -/
def findV : Option (Bool × Int) → Value
  | none => .tuple #[.agg #[.bool false, .int .i64 0], .bool false]
  | some (t, p) => .tuple #[.agg #[.bool t, .int .i64 p], .bool true]
theorem idx_first : ∀ {l : List Int} {x : Int} {k : Nat} (hk : k < l.length), l[k] = x → (∀ j (_ : j < l.length), j < k → l[j] ≠ x) → l.idxOf x = k
  | [], _, k, hk, _, _ => absurd hk (Nat.not_lt_zero _)
  | a :: l, x, 0, _, h, _ => by
    have : a = x := h
    rw [this, List.idxOf_cons_self]
  | a :: l, x, k + 1, hk, h, hn => by
    have ha : (a == x) = false := by
      have := hn 0 (by simp) (by omega)
      simpa using this
    have := idx_first (l := l) (x := x) (k := k) (by simpa using hk) (by simpa using h) (fun j hj hjk => by
      have := hn (j + 1) (by simpa using hj) (by omega)
      simpa using this)
    rw [List.idxOf_cons, ha, cond_false, this]
theorem find_bad {lo hi : List Int} {id : Int} (h : pileB lo hi = false) : findR lo hi id = none := by simp [findR, h]
theorem find_low {lo hi : List Int} {id : Int} (h : id ≤ 0) : findR lo hi id = none := by
  unfold findR
  rw [if_neg (by simp; omega)]
theorem find_lo {lo hi : List Int} {id : Int} (hv : pileB lo hi = true) (h1 : 0 < id) {k : Nat} (hk : k < lo.length) (h : lo[k] = id) (hn : ∀ j (_ : j < lo.length), j < k → lo[j] ≠ id) : findR lo hi id = some (false, (k : Int)) := by
  unfold findR
  rw [if_pos (by rw [hv]; simp; omega), if_pos (hasI_iff.2 (by rw [← h]; exact List.getElem_mem _)), idx_first hk h hn]
theorem find_hi {lo hi : List Int} {id : Int} (hv : pileB lo hi = true) (h1 : 0 < id) {k : Nat} (hk : k < hi.length) (h : hi[k] = id) (hn : ∀ j (_ : j < hi.length), j < k → hi[j] ≠ id) : findR lo hi id = some (true, (k : Int)) := by
  have hm : id ∈ hi := by rw [← h]; exact List.getElem_mem _
  have := (take_hi (pileB_iff.1 hv) (id := id) (mem_nz.2 ⟨hm, by omega⟩)).1
  rw [this, idx_first hk h hn]
theorem find_no {lo hi : List Int} {id : Int} (h1 : ∀ j (_ : j < lo.length), lo[j] ≠ id) (h2 : ∀ j (_ : j < hi.length), hi[j] ≠ id) : findR lo hi id = none := by
  have n1 : id ∉ lo := fun hm => by obtain ⟨j, hj, e⟩ := List.getElem_of_mem hm; exact h1 j hj e
  have n2 : id ∉ hi := fun hm => by obtain ⟨j, hj, e⟩ := List.getElem_of_mem hm; exact h2 j hj e
  unfold findR
  split
  · rw [if_neg (by rw [hasI_iff]; exact n1), if_neg (by rw [hasI_iff]; exact n2)]
  · rfl
set_option linter.unusedSimpArgs false in
set_option maxRecDepth 10000 in
set_option maxHeartbeats 1600000 in
theorem find_spec (l h : Value) (lo hi : List Int) (id : Int) (w : World) (Hl : IntsAt 0 w.heap.size w l lo) (Hh : IntsAt 0 w.heap.size w h hi) :
    Calls Tryz.prog 30 #[pileV l h, .int .i64 id] w fun e w' => e = .returned (findV (findR lo hi id)) ∧ Below w.heap.size w w' := by
  have HL := hide Hl
  have HH := hide Hh
  have hl1 := Hl.len
  have hl2 := Hh.len
  obtain ⟨ao1, cap1, rfl, -, -, -, -⟩ := Hl
  obtain ⟨ao2, cap2, rfl, -, -, -, -⟩ := Hh
  have hP := fun W H1 H2 => pile_spec (.slice ao1 lo.length cap1) (.slice ao2 hi.length cap2) lo hi W H1 H2
  unfold pileV at hP ⊢
  have HP := hide hP
  clear hP
  go_enter Tryz.func30, Tryz.ntmps30
  go_wp2_with fail
  go_loopw [6] (fun i wr => ∃ k : Nat, k ≤ lo.length ∧ i = .int .i64 k ∧ Below w.heap.size w wr ∧ RowL wr w.heap.size 37 [.slice ao1 lo.length cap1, .slice ao2 hi.length cap2] ∧ RowL wr (w.heap.size + 1) 68 [.bool false, .int .i64 0] ∧
    (0 < k → 0 < id ∧ pileB lo hi = true) ∧ (∀ j (_ : j < lo.length), j < k → lo[j] ≠ id) ∧ (∀ j (_ : j < hi.length), j < k → hi[j] ≠ id)) (fun i _ => lo.length - (intOf i).toNat)
  case atStart =>
    refine ⟨0, Nat.zero_le _, rfl, by go_grown, (RowL.new _ _ _).alloc _, ?_, fun h => absurd h (Nat.lt_irrefl _), fun _ _ h => absurd h (Nat.not_lt_zero _), fun _ _ h => absurd h (Nat.not_lt_zero _)⟩
    simpa using RowL.new (w.alloc _) 68 [.bool false, .int .i64 0]
  case round =>
    obtain ⟨k, hk, rfl, hb, hr1, hr2, hpos, hlo, hhi⟩ := hrel
    have HB := hide hb
    have HR1 := hide hr1
    have HR2 := hide hr2
    have HPOS := hide hpos
    have HLO := hide hlo
    have HHI := hide hhi
    have hz2 := hr2.lt
    have hp0 := hr1.cell 0 (by simp)
    have hp1 := hr1.cell 1 (by simp)
    have hs0 := hr2.cell 0 (by simp)
    have hs1 := hr2.cell 1 (by simp)
    have hf0 := hr2.frozen 0
    have hf1 := hr2.frozen 1
    simp only [List.getD_cons_zero, List.getD_cons_succ] at hp0 hp1 hs0 hs1
    clear hb hr1 hr2 hpos hlo hhi
    by_cases hlt : k < lo.length
    · by_cases hid : 0 < id
      · have HLr := hide ((HL.out.below HB.out).mono (Nat.le_refl _) HB.out.size (Nat.le_refl _))
        have HHr := hide ((HH.out.below HB.out).mono (Nat.le_refl _) HB.out.size (Nat.le_refl _))
        cases hv : pileB lo hi with
        | false =>
          have HF := hide (find_bad (id := id) hv)
          go_wp2_with fail
          refine (HP.out wr HLr.out HHr.out).mono ?_
          rw [hv]
          rintro e w1 ⟨rfl, hb1⟩
          have RR := HR2.out.below hb1 HR2.out.lt
          have hs0 : w1.cell? ⟨w.heap.size + 1, 0, none⟩ = some (.bool false) := RR.cell 0 (by simp)
          have hs1 : w1.cell? ⟨w.heap.size + 1, 1, none⟩ = some (.int .i64 0) := RR.cell 1 (by simp)
          have hf0 := RR.frozen 0
          have hf1 := RR.frozen 1
          have HB2 := hide (Below.step HB.out hb1 (Nat.le_refl _))
          clear hb1 hp0 hp1 RR hv
          go_wp2_with fail
          refine bodyPost_ret (by simp [results, Tryz.results30, go_sem, hs0, hs1]; try rfl) rfl ?_
          exact ⟨by rw [HF.out]; rfl, (HB2.out.setCell (by simp) _).setCell (by simp) _⟩
        | true =>
          obtain ⟨_, _, e1, -, -, -, hcl⟩ := HLr.out
          simp only [Value.slice.injEq] at e1
          obtain ⟨rfl, -, rfl⟩ := e1
          obtain ⟨b1, o1, rfl, -, hbl, hcs1⟩ := hcl (by omega)
          obtain ⟨r1, -⟩ := hcs1 k hlt
          have HV := hide hv
          have hkI : (k : Int) < (lo.length : Int) := by omega
          obtain ⟨x, hx⟩ : ∃ x, lo[k] = x := ⟨_, rfl⟩
          rw [hx] at r1
          have HX := hide hx
          clear hcl hcs1 hx
          go_wp2_with fail
          refine (HP.out wr HLr.out HHr.out).mono ?_
          rw [hv]
          rintro e w1 ⟨rfl, hb1⟩
          have RR := HR2.out.below hb1 HR2.out.lt
          have RP := HR1.out.below hb1 HR1.out.lt
          have HRR := hide RR
          have HRP := hide RP
          have hs0 : w1.cell? ⟨w.heap.size + 1, 0, none⟩ = some (.bool false) := RR.cell 0 (by simp)
          have hs1 : w1.cell? ⟨w.heap.size + 1, 1, none⟩ = some (.int .i64 0) := RR.cell 1 (by simp)
          have hf0 := RR.frozen 0
          have hf1 := RR.frozen 1
          have hp0 := RP.cell 0 (by simp)
          have hp1 := RP.cell 1 (by simp)
          simp only [List.getD_cons_zero, List.getD_cons_succ] at hp0 hp1
          rw [← hb1.cell (p := ⟨b1, _, none⟩) (by simpa using hbl)] at r1
          have HB2 := hide (Below.step HB.out hb1 (Nat.le_refl _))
          have HHr2 := hide (HHr.out.below hb1)
          clear hb1 RR RP hv
          by_cases hq : x = id
          · have hqB : (x == id) = true := by simp [hq]
            have HF := hide (find_lo (hi := hi) HV.out hid hlt (by rw [HX.out]; exact hq) HLO.out)
            clear hq
            go_wp2_with fail
            refine bodyPost_ret (by simp [results, Tryz.results30, go_sem, hs0, hs1]; try rfl) rfl ?_
            exact ⟨by rw [HF.out]; rfl, (HB2.out.setCell (by simp) _).setCell (by simp) _⟩
          · have hqB : (x == id) = false := by simp [hq]
            have HQ := hide hq
            clear hq
            by_cases hlt2 : k < hi.length
            · obtain ⟨_, _, e2, -, -, -, hch⟩ := HHr2.out
              simp only [Value.slice.injEq] at e2
              obtain ⟨rfl, -, rfl⟩ := e2
              obtain ⟨b2, o2, rfl, -, -, hcs2⟩ := hch (by omega)
              obtain ⟨r2, -⟩ := hcs2 k hlt2
              obtain ⟨y, hy⟩ : ∃ y, hi[k] = y := ⟨_, rfl⟩
              rw [hy] at r2
              have HY := hide hy
              have hkI2 : (k : Int) < (hi.length : Int) := by omega
              clear hch hcs2 hy
              by_cases hq2 : y = id
              · have hqB2 : (y == id) = true := by simp [hq2]
                have HF := hide (find_hi (lo := lo) HV.out hid hlt2 (by rw [HY.out]; exact hq2) HHI.out)
                clear hq2
                go_wp2_with fail
                refine bodyPost_ret (by simp [results, Tryz.results30, go_sem, hs0, hs1]; try rfl) rfl ?_
                exact ⟨by rw [HF.out]; rfl, (HB2.out.setCell (by simp) _).setCell (by simp) _⟩
              · have hqB2 : (y == id) = false := by simp [hq2]
                have HQ2 := hide hq2
                clear hq2
                go_wp2_with fail
                go_roundw
                case rel =>
                  refine ⟨k + 1, by omega, by go_num, HB2.out, HRP.out, HRR.out, fun _ => ⟨hid, by first | trivial | exact HV.out⟩, fun j hj hjk => ?_, fun j hj hjk => ?_⟩
                  · rcases Nat.lt_or_ge j k with h | h
                    · exact HLO.out j hj h
                    · obtain rfl : j = k := by omega
                      rw [HX.out]; exact HQ.out
                  · rcases Nat.lt_or_ge j k with h | h
                    · exact HHI.out j hj h
                    · obtain rfl : j = k := by omega
                      rw [HY.out]; exact HQ2.out
                case measure => simp [intOf]; omega
            · have hkI2 : decide ((k : Int) < (hi.length : Int)) = false := by simp; omega
              go_wp2_with fail
              go_roundw
              case rel =>
                refine ⟨k + 1, by omega, by go_num, HB2.out, HRP.out, HRR.out, fun _ => ⟨hid, by first | trivial | exact HV.out⟩, fun j hj hjk => ?_, fun j hj hjk => HHI.out j hj (by omega)⟩
                rcases Nat.lt_or_ge j k with h | h
                · exact HLO.out j hj h
                · obtain rfl : j = k := by omega
                  rw [HX.out]; exact HQ.out
              case measure => simp [intOf]; omega
      · have hidB : decide (0 < id) = false := by simp; omega
        have HF := hide (find_low (lo := lo) (hi := hi) (show id ≤ 0 by omega))
        clear hid
        go_wp2_with fail
        refine bodyPost_ret (by simp [results, Tryz.results30, go_sem, hs0, hs1]; try rfl) rfl ?_
        exact ⟨by rw [HF.out]; rfl, (HB.out.setCell (by simp) _).setCell (by simp) _⟩
    · obtain rfl : k = lo.length := by omega
      have hkB : decide ((lo.length : Int) < (lo.length : Int)) = false := by simp
      have hF : findR lo hi id = none := by
        cases hv : pileB lo hi with
        | false => exact find_bad hv
        | true =>
          have := (pileB_iff.1 hv).lh
          exact find_no (fun j hj => HLO.out j hj hj) (fun j hj => HHI.out j hj (by omega))
      have HF := hide hF
      clear hF
      go_wp2_with fail
      refine bodyPost_ret (by simp [results, Tryz.results30, go_sem, hs0, hs1]; try rfl) rfl ?_
      exact ⟨by rw [HF.out]; rfl, (HB.out.setCell (by simp) _).setCell (by simp) _⟩
end Go.Proofs.YtajjnciookhamaaGreat
