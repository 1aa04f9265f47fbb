/-
  Parts of the proofs over mills, of: PlainMix, MassA, SameM. Conditions: each theorem states its own.
-/
import Derived.Test.YtmemgbklgcjobaaGreatDoorB19
import Derived.Test.YtmemgbklgcjobaaGreatDoorB24
set_option linter.unusedSimpArgs false
set_option linter.unusedVariables false
set_option maxRecDepth 10000
namespace Go.Proofs.YtmemgbklgcjobaaGreatDoor
open Go.RowKit
theorem stock_bd {sts : List St} (h : stsB sts = true) : ∀ k, k ≤ sts.length → 0 ≤ stockTo sts k ∧ stockTo sts k ≤ 36 * k
  | 0, _ => by simp [stockTo]
  | k + 1, hk => by
    have := stock_bd h k (by omega)
    have := stB_k (stsB_getD h (show k < sts.length by omega))
    simp only [stockTo]; omega
theorem long_bd {l : List Pc} (h : ∀ k, k < l.length → pcB (l.getD k pc0) = true) : ∀ k, k ≤ l.length → 0 ≤ longTo l k ∧ longTo l k ≤ 60 * k
  | 0, _ => by simp [longTo]
  | k + 1, hk => by
    have := long_bd h k (by omega)
    have := pcB_iff.1 (h k (by omega))
    simp only [longTo]; omega
set_option maxHeartbeats 1600000 in
theorem mass_impl (s p l h : Value) (m : Mi) (w : World) (H : MillIn 0 w.heap.size w s p l h m) :
    Calls Tryz.prog 23 #[millV s p l h m] w fun e w' => e = .returned (.int .i64 (massR m)) ∧ Below w.heap.size w w' := by
  obtain ⟨ao1, cap1, rfl, -, -, -, -⟩ := id H.store
  obtain ⟨ao2, cap2, rfl, -, -, -, -⟩ := id H.pieces
  have hsl := H.store.len
  have hpl := H.pieces.len
  unfold millV
  go_enter Tryz.func23, Tryz.ntmps23
  go_wp2_with fail
  refine calls_at fun wx hwx => ?_
  have A_0 : RowL wx (w.heap.size) 31 [.slice ao1 m.store.length cap1, .int .i64 m.rule.lc, .int .i64 m.rule.hc, .int .i64 m.rule.lm, .int .i64 m.rule.hm, .int .i64 m.rule.ls, .int .i64 m.rule.hs, .int .i64 m.strand, .slice ao2 m.pieces.length cap2, l, h, .int .i64 m.scrap] := by rw [hwx]; exact (RowL.new _ 31 [.slice ao1 m.store.length cap1, .int .i64 m.rule.lc, .int .i64 m.rule.hc, .int .i64 m.rule.lm, .int .i64 m.rule.hm, .int .i64 m.rule.ls, .int .i64 m.rule.hs, .int .i64 m.strand, .slice ao2 m.pieces.length cap2, l, h, .int .i64 m.scrap])
  have B_0 : Below w.heap.size w wx := by rw [hwx]; go_grown
  clear hwx
  have hL0 := A_0.lt
  have VV_0 := hide (H.below B_0)
  have KV := mill_impl _ _ _ _ m wx VV_0.out.all
  cases hv : millB m with
  | false =>
    rw [hv] at KV
    refine KV.mono ?_
    rintro e w1 ⟨rfl, hb⟩
    have HB := hide (Below.step B_0 hb (Nat.le_refl _))
    have HF := hide (show massR m = -1 by simp [massR, hv])
    clear hb KV hv
    go_wp2_with fail
    go_ret
    exact ⟨by rw [HF.out]; rfl, HB.out⟩
  | true =>
    rw [hv] at KV
    have MV := millB_iff.1 hv
    have HM := hide (show massR m = massI m by simp [massR, hv])
    have HS := hide (stock_bd MV.store)
    have HL := hide (long_bd MV.pcs)
    have h1 := MV.st0
    have h2 := MV.st1
    have h3 := MV.sc0
    have h4 := MV.sc1
    have h5 := MV.len
    have h6 := stsB_len MV.store
    have HQ := hide (fun k hk => (stB_iff.1 (stsB_at MV.store (k := k) hk)))
    clear MV hv
    refine (KV).mono ?_
    rintro e w1 ⟨rfl, hb⟩
    have A_1 := A_0.below hb A_0.lt
    have VV_1 := hide (VV_0.out.below hb)
    have B_1 := hide (Below.step B_0 hb (Nat.le_refl _))
    have hz1 := hb.size
    clear hb
    have cA0 := A_1.c 0 rfl
    have cA7 := A_1.c 7 rfl
    have cA8 := A_1.c 8 rfl
    have cA11 := A_1.c 11 rfl
    clear KV
    obtain ⟨a, ha⟩ : ∃ a, m.strand = a := ⟨_, rfl⟩
    obtain ⟨b0, hb0⟩ : ∃ b, m.scrap = b := ⟨_, rfl⟩
    rw [ha] at cA7 h1 h2
    rw [hb0] at cA11 h3 h4
    have hw0 : IntKind.i64.wrap (a + b0) = a + b0 := IntWalk.i64_in _ (by omega)
    have AR := hide A_1
    have hzw := B_1.out.size
    clear cA8
    go_wp2_with fail
    clear hw0 cA0
    go_loopw [3, 5, 19] (fun t _ i wr => ∃ k : Nat, k ≤ m.store.length ∧ i = .int .i64 k ∧ t = .int .i64 (a + b0 + stockTo m.store k) ∧ Below w1.heap.size w1 wr) (fun _ _ i _ => m.store.length - (intOf i).toNat)
    case atStart => exact ⟨0, Nat.zero_le _, rfl, by simp [stockTo], Below.refl _ _⟩
    case round =>
      obtain ⟨k, hk, rfl, rfl, hb⟩ := hrel
      have HB := hide hb
      have hz := hb.size
      have RA := AR.out.below (w' := wr) (B := w1.heap.size) hb AR.out.lt
      have cA0 := RA.c 0 rfl
      have cA8 := RA.c 8 rfl
      clear RA
      by_cases hlt : k < m.store.length
      · obtain ⟨_, _, e1, -, -, -, hcl⟩ := VV_1.out.store
        simp only [Value.slice.injEq] at e1
        obtain ⟨rfl, -, rfl⟩ := e1
        obtain ⟨b, o, rfl, -, hbl, hcs⟩ := hcl (by omega)
        obtain ⟨⟨r0, r1, r2, r3, r4⟩, -⟩ := hcs k hlt
        rw [← hb.cell (p := ⟨b, _, none⟩) (Nat.lt_of_lt_of_le hbl (by omega))] at r0 r1 r2 r3 r4
        obtain ⟨x0, hx0⟩ : ∃ x, m.store[k].c = x := ⟨_, rfl⟩
        rw [hx0] at r0
        obtain ⟨x1, hx1⟩ : ∃ x, m.store[k].m = x := ⟨_, rfl⟩
        rw [hx1] at r1
        obtain ⟨x2, hx2⟩ : ∃ x, m.store[k].s = x := ⟨_, rfl⟩
        rw [hx2] at r2
        obtain ⟨x3, hx3⟩ : ∃ x, m.store[k].p = x := ⟨_, rfl⟩
        rw [hx3] at r3
        obtain ⟨x4, hx4⟩ : ∃ x, m.store[k].k = x := ⟨_, rfl⟩
        rw [hx4] at r4
        have hkI : (k : Int) < (m.store.length : Int) := by omega
        have hg := (HQ.out k hlt).2
        have hN : stockTo m.store (k + 1) = stockTo m.store k + 4 * x4 := by rw [stockTo, ← hx4]; simp [hlt]
        have hB1 := HS.out k hk
        have hB2 := HS.out (k + 1) hlt
        rw [hN] at hB2
        obtain ⟨S, hS⟩ : ∃ S, a + b0 + stockTo m.store k = S := ⟨_, rfl⟩
        have hS2 : a + b0 + stockTo m.store (k + 1) = S + 4 * x4 := by rw [hN]; omega
        have hw1 : IntKind.i64.wrap (4 * x4) = 4 * x4 := IntWalk.i64_in _ (by omega)
        have hw2 : IntKind.i64.wrap (S + 4 * x4) = S + 4 * x4 := IntWalk.i64_in _ (by omega)
        have HS2 := hide hS2
        rw [hS]
        clear hN hB1 hB2 hS hS2 hg hcl hcs hx0 hx1 hx2 hx3 hx4 hb
        go_wp2_with fail
        go_roundw
        case rel => exact ⟨k + 1, by omega, by go_num, by rw [HS2.out], HB.out.alloc hz _⟩
        case measure => simp [intOf]; omega
      · obtain rfl : k = m.store.length := by omega
        have HBO := hide hb
        clear hb
        obtain ⟨wo, hwo⟩ : ∃ wo : World, wr = wo := ⟨_, rfl⟩
        subst hwo
        obtain ⟨wo, rfl⟩ : ∃ wo : World, wo = wr := ⟨_, rfl⟩
        have VO := hide (VV_1.out.below HBO.out)
        have hzo := HBO.out.size
        go_wp2_with fail
        go_loopw [3, 7, 32] (fun t _ i wr => ∃ k : Nat, k ≤ m.pieces.length ∧ i = .int .i64 k ∧ t = .int .i64 (a + b0 + stockTo m.store m.store.length + longTo m.pieces k) ∧ Below wo.heap.size wo wr) (fun _ _ i _ => m.pieces.length - (intOf i).toNat)
        case atStart => exact ⟨0, Nat.zero_le _, rfl, by simp [longTo], Below.refl _ _⟩
        case round =>
          obtain ⟨k, hk, rfl, rfl, hb⟩ := hrel
          have HB := hide hb
          have hz := hb.size
          have RA := AR.out.below (w' := wr) (B := w1.heap.size) (Below.step HBO.out HB.out (Nat.le_refl _)) AR.out.lt
          have cA0 := RA.c 0 rfl
          have cA8 := RA.c 8 rfl
          clear RA
          by_cases hlt : k < m.pieces.length
          · obtain ⟨_, _, e1, -, -, -, hcl⟩ := VO.out.pieces
            simp only [Value.slice.injEq] at e1
            obtain ⟨rfl, -, rfl⟩ := e1
            obtain ⟨b, o, rfl, -, hbl, hcs⟩ := hcl (by omega)
            obtain ⟨⟨r0, r1⟩, -⟩ := hcs k hlt
            rw [← hb.cell (p := ⟨b, _, none⟩) (Nat.lt_of_lt_of_le hbl (by omega))] at r0 r1
            obtain ⟨x0, hx0⟩ : ∃ x, m.pieces[k].l = x := ⟨_, rfl⟩
            rw [hx0] at r0
            obtain ⟨x1, hx1⟩ : ∃ x, m.pieces[k].s = x := ⟨_, rfl⟩
            rw [hx1] at r1
            have hkI : (k : Int) < (m.pieces.length : Int) := by omega
            have hN : longTo m.pieces (k + 1) = longTo m.pieces k + x0 := by rw [longTo, ← hx0]; simp [hlt]
            have hB1 := HL.out k hk
            have hB2 := HL.out (k + 1) hlt
            rw [hN] at hB2
            have hB3 := HS.out m.store.length (Nat.le_refl _)
            obtain ⟨S, hS⟩ : ∃ S, a + b0 + stockTo m.store m.store.length + longTo m.pieces k = S := ⟨_, rfl⟩
            have hS2 : a + b0 + stockTo m.store m.store.length + longTo m.pieces (k + 1) = S + x0 := by rw [hN]; omega
            have hw2 : IntKind.i64.wrap (S + x0) = S + x0 := IntWalk.i64_in _ (by omega)
            have HS2 := hide hS2
            rw [hS]
            clear hN hB1 hB2 hB3 hS hS2 hcl hcs hx0 hx1 hb
            go_wp2_with fail
            go_roundw
            case rel => exact ⟨k + 1, by omega, by go_num, by rw [HS2.out], HB.out.alloc hz _⟩
            case measure => simp [intOf]; omega
          · obtain rfl : k = m.pieces.length := by omega
            have HBZ := hide (Below.step B_1.out (Below.step HBO.out HB.out (Nat.le_refl _)) (Nat.le_refl _))
            go_wp2_with fail
            go_ret
            exact ⟨by rw [HM.out, massI, ha, hb0]; rfl, HBZ.out⟩
set_option maxHeartbeats 400000 in
theorem sameInts_any (v v' : Value) (xs ys : List Int) (lo hi lo' hi' : Nat) (w : World) (h : IntsAt lo hi w v xs) (h' : IntsAt lo' hi' w v' ys) :
    Calls Tryz.prog 36 #[v, v'] w fun e w' => e = .returned (.bool (decide (xs = ys))) ∧ Below w.heap.size w w' := by
  obtain ⟨ao, cap, rfl, hlc, hcap, hhi, hc⟩ := h
  obtain ⟨ao', cap', rfl, hlc', hcap', hhi', hc'⟩ := h'
  have Hc := hide hc
  have Hc' := hide hc'
  clear hc hc'
  by_cases hl : xs.length = ys.length
  · have HL := hide hl
    have hlB : ((xs.length : Int) != (ys.length : Int)) = false := by simp [hl]
    clear hl
    go_enter Tryz.func36, Tryz.ntmps36
    go_wp2_with fail
    go_loopw [5] (fun i wr => ∃ k : Nat, k ≤ xs.length ∧ i = .int .i64 k ∧ Below w.heap.size w wr ∧ xs.take k = ys.take k) (fun i _ => xs.length - (intOf i).toNat)
    case atStart => exact ⟨0, Nat.zero_le _, rfl, Below.refl _ _, rfl⟩
    case round =>
      obtain ⟨k, hk, rfl, hb, hall⟩ := hrel
      have Ha := hide hall
      clear hall
      by_cases hlt : k < xs.length
      · have hlt' : k < ys.length := by have := HL.out; omega
        obtain ⟨b, o, rfl, hb1, hb2, hcs⟩ := Hc.out (by omega)
        obtain ⟨b', o', rfl, hb1', hb2', hcs'⟩ := Hc'.out (by omega)
        obtain ⟨h1, -⟩ := hcs k hlt
        obtain ⟨h1', -⟩ := hcs' k hlt'
        rw [← hb.cell (p := ⟨_, _, none⟩) (by simpa using by omega)] at h1 h1'
        clear hcs hcs'
        have hi1 : (k : Int) < (xs.length : Int) := by omega
        have hi2 : (k : Int) < (ys.length : Int) := by omega
        by_cases hq : xs[k] = ys[k]
        · have hqB : (xs[k] != ys[k]) = false := by simp [hq]
          have hall' : xs.take (k + 1) = ys.take (k + 1) := by
            rw [List.take_succ_eq_append_getElem hlt, List.take_succ_eq_append_getElem hlt', Ha.out, hq]
          have Ha' := hide hall'
          clear hq hall'
          go_wp2_with fail
          go_quiet (fail)
          go_wp2_with fail
          go_roundw
          case rel => exact ⟨k + 1, by omega, by go_num, below_drewN hb _, Ha'.out⟩
          case measure => simp [intOf]; omega
        · have hqB : (xs[k] != ys[k]) = true := by simp [hq]
          have HQ := hide hq
          clear hq
          go_wp2_with fail
          go_quiet (fail)
          go_wp2_with fail
          go_ret
          refine ⟨?_, below_drewN hb _⟩
          have hne : xs ≠ ys := by
            intro e
            subst e
            exact HQ.out rfl
          simp [hne]
      · go_wp2_with fail
        go_ret
        refine ⟨?_, hb⟩
        have e : xs = ys := by
          have := Ha.out
          rw [List.take_of_length_le (by omega), List.take_of_length_le (by have := HL.out; omega)] at this
          exact this
        simp [e]
  · have hlB : ((xs.length : Int) != (ys.length : Int)) = true := by simp; omega
    go_enter Tryz.func36, Tryz.ntmps36
    go_wp2_with fail
    go_ret
    exact ⟨by simp; intro h; exact hl (by rw [h]), Below.refl _ _⟩
end Go.Proofs.YtmemgbklgcjobaaGreatDoor
