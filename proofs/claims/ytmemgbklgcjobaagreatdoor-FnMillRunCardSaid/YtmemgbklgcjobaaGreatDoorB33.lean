/-
  Parts of the proofs over mills, of: Base, PlainCut, MillV, PlainAll, MixA, MixC, Has, Meth, Spot, CutA, PlainCut2, MethC. Conditions: each theorem states its own.
-/
import Derived.Test.YtmemgbklgcjobaaGreatDoorB19
set_option linter.unusedSimpArgs false
set_option linter.unusedVariables false
set_option maxRecDepth 10000
namespace Go.Proofs.YtmemgbklgcjobaaGreatDoor
open Go.RowKit
theorem rowIs_madeN (w : World) (z : Array Value) (n : Nat) (t : TypeId) : ∃ f, (w.alloc (.cells (madeCells z n) t)).rowIs w.heap.size t n f := by
  refine ⟨fun i => (madeCells z n)[i]?.getD default, ?_⟩
  have h := World.rowIs_alloc w (madeCells z n) t (fun i => (madeCells z n)[i]?.getD default) (fun i hi => by simp [hi])
  rwa [size_madeCells] at h
theorem tab_le (a b : Int) {n m k : Nat} (h : k < n) (hm : n ≤ m) : (tab a b m).getD k 0 = (tab a b n).getD k 0 := by
  induction hm with
  | refl => rfl
  | step hm ih => rw [tab_old a b (Nat.lt_of_lt_of_le h hm), ih]
theorem rowIs_put5 {w : World} {g T n : Nat} {f : Nat → Value} (h : w.rowIs g T n f) (a : Nat) (x0 x1 x2 x3 x4 : Value) :
    ∃ f', (((((w.setCell ⟨g, a, none⟩ x0).setCell ⟨g, a + 1, none⟩ x1).setCell ⟨g, a + 2, none⟩ x2).setCell ⟨g, a + 3, none⟩ x3).setCell ⟨g, a + 4, none⟩ x4).rowIs g T n f' ∧ f' (a) = x0 ∧ f' (a + 1) = x1 ∧ f' (a + 2) = x2 ∧ f' (a + 3) = x3 ∧ f' (a + 4) = x4 ∧ ∀ i, i ≠ a → i ≠ a + 1 → i ≠ a + 2 → i ≠ a + 3 → i ≠ a + 4 → f' i = f i := by
  refine ⟨_, (((((h.set (a) x0).set (a + 1) x1).set (a + 2) x2).set (a + 3) x3).set (a + 4) x4), ?_, ?_, ?_, ?_, ?_, fun i h0 h1 h2 h3 h4 => ?_⟩
  · simp
  · simp
  · simp
  · simp
  · simp
  · simp [h0, h1, h2, h3, h4]
theorem foldM_nil (sts : List St) (g : Gr) (b : Option (List Int × Int)) : foldM sts g b [] = b := rfl
theorem foldM_one (sts : List St) (g : Gr) (b : Option (List Int × Int)) (x : List Int) : foldM sts g b [x] = stepM sts g b x := rfl
set_option maxHeartbeats 800000 in
theorem mixv_impl (sv mv : Value) (sts : List St) (mix : List Int) (w : World) (Hs : StAt 0 w.heap.size w sv sts) (Hm : IntsAt 0 w.heap.size w mv mix) :
    Calls Tryz.prog 198 #[sv, mv] w fun e w' => e = .returned (.bool (mixB sts mix)) ∧ Below w.heap.size w w' := by
  have HS := hide Hs
  have HM := hide Hm
  have hl1 := Hs.len
  have hl2 := Hm.len
  obtain ⟨ao1, cap1, rfl, -, -, -, -⟩ := Hs
  obtain ⟨ao2, cap2, rfl, -, -, -, -⟩ := Hm
  have k1 := stsv_impl (.slice ao1 sts.length cap1) sts _ _ w HS.out
  cases c1 : stsB sts with
  | false =>
    rw [c1] at k1
    have HF := hide (show mixB sts mix = false by simp [mixB, c1])
    clear c1
    go_enter Tryz.func198, Tryz.ntmps198
    go_wp2_with fail
    refine k1.mono ?_
    rintro e w1 ⟨rfl, hb⟩
    have HB := hide hb
    clear hb k1
    go_wp2_with fail
    go_ret
    exact ⟨by rw [HF.out]; rfl, HB.out⟩
  | true =>
    rw [c1] at k1
    have KC := hide c1
    clear c1
    by_cases hl : mix.length = sts.length
    · have hlB : ((mix.length : Int) != (sts.length : Int)) = false := by simp [hl]
      have hlo : mix.length ≤ sts.length := by omega
      have HL := hide hl
      clear hl
      go_enter Tryz.func198, Tryz.ntmps198
      go_wp2_with fail
      refine k1.mono ?_
      rintro e w1 ⟨rfl, hb⟩
      have HB := hide hb
      have VS := hide (HS.out.below hb)
      have VM := hide (HM.out.below hb)
      clear hb k1
      go_wp2_with fail
      go_loopw [5, 6, 19] (fun _ _ i wr => ∃ k : Nat, k ≤ mix.length ∧ i = .int .i64 k ∧ Below w1.heap.size w1 wr ∧ (∀ j, j < k → mixK sts mix j = true)) (fun _ _ i _ => mix.length - (intOf i).toNat)
      case atStart => exact ⟨0, Nat.zero_le _, rfl, Below.refl _ _, fun _ h => absurd h (Nat.not_lt_zero _)⟩
      case round =>
        obtain ⟨k, hk, rfl, hbr, hall⟩ := hrel
        have HBr := hide hbr
        have HA := hide hall
        have VSr := hide (VS.out.below hbr)
        have VMr := hide (VM.out.below hbr)
        clear hbr hall
        by_cases hlt : k < mix.length
        · obtain ⟨b1, o1, _, e1, -, -, r1⟩ := st_at VSr.out (show k < sts.length by omega)
          obtain ⟨b2, o2, _, e2, -, -, r2, -⟩ := ints_at VMr.out hlt
          simp only [Value.slice.injEq] at e1 e2
          obtain ⟨rfl, -, rfl⟩ := e1
          obtain ⟨rfl, -, rfl⟩ := e2
          obtain ⟨r10, r11, r12, r13, r14⟩ := r1
          have hkI : (k : Int) < (mix.length : Int) := by omega
          have hkI2 : (k : Int) < (sts.length : Int) := by omega
          have HK := hide (show mixK sts mix k = wi (mix.getD k 0) 0 (sts.getD k st0).k from rfl)
          obtain ⟨x, hx⟩ : ∃ x, mix.getD k 0 = x := ⟨_, rfl⟩
          obtain ⟨y, hy⟩ : ∃ y, (sts.getD k st0).k = y := ⟨_, rfl⟩
          have HX := hide hx
          have HY := hide hy
          rw [hx] at r2 HK
          rw [hy] at r14 HK
          clear hx hy
          have kk := within_any x 0 y
          cases c2 : wi x 0 y with
          | false =>
            rw [c2] at kk
            have HF := hide (show mixB sts mix = false from mixK_at (k := k) (by rw [HX.out, HY.out]; exact c2) hlt)
            clear c2
            go_wp2_with fail
            refine (kk _).mono ?_
            rintro e wq ⟨rfl, rfl⟩
            clear kk
            go_wp2_with fail
            go_ret
            exact ⟨by rw [HF.out]; rfl, Below.step HB.out HBr.out (Nat.le_refl _)⟩
          | true =>
            rw [c2] at kk
            rw [c2] at HK
            clear c2
            go_wp2_with fail
            refine (kk _).mono ?_
            rintro e wq ⟨rfl, rfl⟩
            clear kk
            go_wp2_with fail
            go_roundw
            case rel => exact ⟨k + 1, by omega, by go_num, HBr.out, upTo_snoc HA.out HK.out⟩
            case measure => simp [intOf]; omega
        · obtain rfl : k = mix.length := by omega
          have HF := hide (show mixB sts mix = true from mixB_yes KC.out HL.out HA.out)
          go_wp2_with fail
          go_ret
          exact ⟨by rw [HF.out]; rfl, Below.step HB.out HBr.out (Nat.le_refl _)⟩
    · have hlB : ((mix.length : Int) != (sts.length : Int)) = true := by simp; omega
      have HF := hide (mixB_len hl)
      clear hl
      go_enter Tryz.func198, Tryz.ntmps198
      go_wp2_with fail
      refine k1.mono ?_
      rintro e w1 ⟨rfl, hb⟩
      have HB := hide hb
      clear hb k1
      go_wp2_with fail
      go_ret
      exact ⟨by rw [HF.out]; rfl, HB.out⟩
set_option maxHeartbeats 400000 in
theorem tons_impl (mv : Value) (mix : List Int) (lo hi : Nat) (w : World) (H : IntsAt lo hi w mv mix) (hl : mix.length ≤ 4) (hb : ∀ k, k < mix.length → 0 ≤ mix.getD k 0 ∧ mix.getD k 0 ≤ 60) :
    Calls Tryz.prog 71 #[mv] w fun e w' => e = .returned (.int .i64 (tonsR mix)) ∧ w = w' := by
  have HM := hide H
  have HB := hide hb
  obtain ⟨ao2, cap2, rfl, -, -, -, -⟩ := H
  clear hb
  go_enter Tryz.func71, Tryz.ntmps71
  go_wp2_with fail
  go_loop [3, 5, 8] (fun s _ i => ∃ k : Nat, k ≤ mix.length ∧ i = .int .i64 k ∧ s = .int .i64 (sumTo mix k)) (fun _ _ i => mix.length - (intOf i).toNat)
  case atStart => exact ⟨0, Nat.zero_le _, rfl, rfl⟩
  case round =>
    obtain ⟨k, hk, rfl, rfl⟩ := hrel
    have h1 := sumTo_60 HB.out k hk
    by_cases hlt : k < mix.length
    · have h2 := HB.out k hlt
      obtain ⟨b2, o2, _, e2, -, -, r2, -⟩ := ints_at HM.out hlt
      simp only [Value.slice.injEq] at e2
      obtain ⟨rfl, -, rfl⟩ := e2
      have hkI : (k : Int) < (mix.length : Int) := by omega
      have HN := hide (show sumTo mix (k + 1) = sumTo mix k + mix.getD k 0 from rfl)
      obtain ⟨x, hx⟩ : ∃ x, mix.getD k 0 = x := ⟨_, rfl⟩
      obtain ⟨S, hS⟩ : ∃ S, sumTo mix k = S := ⟨_, rfl⟩
      rw [hx] at r2 HN h2
      rw [hS] at HN h1 ⊢
      clear hx hS
      go_wp2_with fail
      go_round
      case rel => exact ⟨k + 1, by omega, by go_num, by rw [HN.out]⟩
      case measure => simp [intOf]; omega
    · obtain rfl : k = mix.length := by omega
      go_wp2_with fail
      go_ret
      exact ⟨rfl, rfl⟩
set_option maxHeartbeats 1600000 in
theorem cost_impl (sv mv : Value) (sts : List St) (mix : List Int) (w : World) (Hs : StAt 0 w.heap.size w sv sts) (Hm : IntsAt 0 w.heap.size w mv mix) :
    Calls Tryz.prog 247 #[sv, mv] w fun e w' => e = .returned (.int .i64 (costR sts mix)) ∧ Below w.heap.size w w' := by
  have HS := hide Hs
  have HM := hide Hm
  have hl1 := Hs.len
  have hl2 := Hm.len
  obtain ⟨ao1, cap1, rfl, -, -, -, -⟩ := Hs
  obtain ⟨ao2, cap2, rfl, -, -, -, -⟩ := Hm
  have k1 := mixv_impl (.slice ao1 sts.length cap1) (.slice ao2 mix.length cap2) sts mix w HS.out HM.out
  cases c1 : mixB sts mix with
  | false =>
    rw [c1] at k1
    have HF := hide (show costR sts mix = -1 by simp [costR, c1])
    clear c1
    go_enter Tryz.func247, Tryz.ntmps247
    go_wp2_with fail
    refine k1.mono ?_
    rintro e w1 ⟨rfl, hb⟩
    have HB := hide hb
    clear hb k1
    go_wp2_with fail
    go_ret
    exact ⟨by rw [HF.out]; rfl, HB.out⟩
  | true =>
    rw [c1] at k1
    have KC := hide c1
    have hl4 := mix_len4 c1
    obtain ⟨hvs, hlen, -⟩ := mixB_parts c1
    have HVS := hide hvs
    have hlo : mix.length ≤ sts.length := by omega
    clear c1 hvs hlen
    go_enter Tryz.func247, Tryz.ntmps247
    go_wp2_with fail
    refine k1.mono ?_
    rintro e w1 ⟨rfl, hb⟩
    have HB := hide hb
    have VS := hide (HS.out.below hb)
    have VM := hide (HM.out.below hb)
    clear hb k1
    go_wp2_with fail
    go_loopw [5, 6, 7, 14] (fun s _ _ i wr => ∃ k : Nat, k ≤ mix.length ∧ i = .int .i64 k ∧ s = .int .i64 (dotTo St.p sts mix k) ∧ Below w1.heap.size w1 wr) (fun _ _ _ i _ => mix.length - (intOf i).toNat)
    case atStart => exact ⟨0, Nat.zero_le _, rfl, rfl, Below.refl _ _⟩
    case round =>
      obtain ⟨k, hk, rfl, rfl, hbr⟩ := hrel
      have HBr := hide hbr
      have VSr := hide (VS.out.below hbr)
      have VMr := hide (VM.out.below hbr)
      clear hbr
      by_cases hlt : k < mix.length
      · obtain ⟨b1, o1, _, e1, -, -, r1⟩ := st_at VSr.out (show k < sts.length by omega)
        obtain ⟨b2, o2, _, e2, -, -, r2, -⟩ := ints_at VMr.out hlt
        simp only [Value.slice.injEq] at e1 e2
        obtain ⟨rfl, -, rfl⟩ := e1
        obtain ⟨rfl, -, rfl⟩ := e2
        obtain ⟨r10, r11, r12, r13, r14⟩ := r1
        have hkI : (k : Int) < (mix.length : Int) := by omega
        have hkI2 : (k : Int) < (sts.length : Int) := by omega
        have hx9 := mix_bd KC.out hlt
        have hvs := HVS.out
        have hd0 := dotTo_bd (f := St.p) (fun s h => stB_p9 h) KC.out k hk
        have HN0 := hide (show dotTo St.p sts mix (k + 1) = dotTo St.p sts mix k + mix.getD k 0 * (sts.getD k st0).p from rfl)
        have hq0 := stB_p9 (stsB_getD hvs (show k < sts.length by omega))
        have hm0 := mul_bd hx9.1 hx9.2 hq0.1 hq0.2
        obtain ⟨y0, hy0⟩ : ∃ y, (sts.getD k st0).p = y := ⟨_, rfl⟩
        obtain ⟨S0, hS0⟩ : ∃ S, dotTo St.p sts mix k = S := ⟨_, rfl⟩
        rw [hy0] at r13 HN0 hq0 hm0
        rw [hS0] at HN0 hd0 ⊢
        obtain ⟨x, hx⟩ : ∃ x, mix.getD k 0 = x := ⟨_, rfl⟩
        rw [hx] at r2 hx9 HN0 hm0
        have hu0 : IntKind.i64.wrap (x * y0) = x * y0 := IntWalk.i64_in _ (by omega)
        have hv0 : IntKind.i64.wrap (S0 + x * y0) = S0 + x * y0 := IntWalk.i64_in _ (by omega)
        clear hx hx9 hvs hy0 hS0 hq0 hm0 hd0
        go_wp2_with fail
        
        go_roundw
        case rel => exact ⟨k + 1, by omega, by go_num, by rw [HN0.out], HBr.out⟩
        case measure => simp [intOf]; omega
      · obtain rfl : k = mix.length := by omega
        have HF := hide (show costR sts mix = dotTo St.p sts mix mix.length by simp [costR, KC.out])
        go_wp2_with fail
        go_ret
        exact ⟨by rw [HF.out]; rfl, Below.step HB.out HBr.out (Nat.le_refl _)⟩
set_option maxHeartbeats 1600000 in
theorem sums_impl (sv mv : Value) (sts : List St) (mix : List Int) (w : World) (Hs : StAt 0 w.heap.size w sv sts) (Hm : IntsAt 0 w.heap.size w mv mix) :
    Calls Tryz.prog 253 #[sv, mv] w fun e w' => e = .returned (.tuple #[.int .i64 (sumsR St.c sts mix), .int .i64 (sumsR St.m sts mix), .int .i64 (sumsR St.s sts mix)]) ∧ Below w.heap.size w w' := by
  have HS := hide Hs
  have HM := hide Hm
  have hl1 := Hs.len
  have hl2 := Hm.len
  obtain ⟨ao1, cap1, rfl, -, -, -, -⟩ := Hs
  obtain ⟨ao2, cap2, rfl, -, -, -, -⟩ := Hm
  have k1 := mixv_impl (.slice ao1 sts.length cap1) (.slice ao2 mix.length cap2) sts mix w HS.out HM.out
  cases c1 : mixB sts mix with
  | false =>
    rw [c1] at k1
    have HF := hide (show sumsR St.c sts mix = -1 ∧ sumsR St.m sts mix = -1 ∧ sumsR St.s sts mix = -1 by simp [sumsR, c1])
    clear c1
    go_enter Tryz.func253, Tryz.ntmps253
    go_wp2_with fail
    refine k1.mono ?_
    rintro e w1 ⟨rfl, hb⟩
    have HB := hide hb
    clear hb k1
    go_wp2_with fail
    go_ret3
    exact ⟨by rw [HF.out.1, HF.out.2.1, HF.out.2.2]; rfl, HB.out⟩
  | true =>
    rw [c1] at k1
    have KC := hide c1
    have hl4 := mix_len4 c1
    obtain ⟨hvs, hlen, -⟩ := mixB_parts c1
    have HVS := hide hvs
    have hlo : mix.length ≤ sts.length := by omega
    clear c1 hvs hlen
    go_enter Tryz.func253, Tryz.ntmps253
    go_wp2_with fail
    refine k1.mono ?_
    rintro e w1 ⟨rfl, hb⟩
    have HB := hide hb
    have VS := hide (HS.out.below hb)
    have VM := hide (HM.out.below hb)
    clear hb k1
    go_wp2_with fail
    go_loopw [7, 8, 9, 10, 11, 18] (fun s t u _ _ i wr => ∃ k : Nat, k ≤ mix.length ∧ i = .int .i64 k ∧ s = .int .i64 (dotTo St.c sts mix k) ∧ t = .int .i64 (dotTo St.m sts mix k) ∧ u = .int .i64 (dotTo St.s sts mix k) ∧ Below w1.heap.size w1 wr) (fun _ _ _ _ _ i _ => mix.length - (intOf i).toNat)
    case atStart => exact ⟨0, Nat.zero_le _, rfl, rfl, rfl, rfl, Below.refl _ _⟩
    case round =>
      obtain ⟨k, hk, rfl, rfl, rfl, rfl, hbr⟩ := hrel
      have HBr := hide hbr
      have VSr := hide (VS.out.below hbr)
      have VMr := hide (VM.out.below hbr)
      clear hbr
      by_cases hlt : k < mix.length
      · obtain ⟨b1, o1, _, e1, -, -, r1⟩ := st_at VSr.out (show k < sts.length by omega)
        obtain ⟨b2, o2, _, e2, -, -, r2, -⟩ := ints_at VMr.out hlt
        simp only [Value.slice.injEq] at e1 e2
        obtain ⟨rfl, -, rfl⟩ := e1
        obtain ⟨rfl, -, rfl⟩ := e2
        obtain ⟨r10, r11, r12, r13, r14⟩ := r1
        have hkI : (k : Int) < (mix.length : Int) := by omega
        have hkI2 : (k : Int) < (sts.length : Int) := by omega
        have hx9 := mix_bd KC.out hlt
        have hvs := HVS.out
        have hd0 := dotTo_bd (f := St.c) (fun s h => stB_c h) KC.out k hk
        have hd1 := dotTo_bd (f := St.m) (fun s h => stB_m h) KC.out k hk
        have hd2 := dotTo_bd (f := St.s) (fun s h => stB_s h) KC.out k hk
        have HN0 := hide (show dotTo St.c sts mix (k + 1) = dotTo St.c sts mix k + mix.getD k 0 * (sts.getD k st0).c from rfl)
        have hq0 := stB_c (stsB_getD hvs (show k < sts.length by omega))
        have hm0 := mul_bd hx9.1 hx9.2 hq0.1 hq0.2
        obtain ⟨y0, hy0⟩ : ∃ y, (sts.getD k st0).c = y := ⟨_, rfl⟩
        obtain ⟨S0, hS0⟩ : ∃ S, dotTo St.c sts mix k = S := ⟨_, rfl⟩
        rw [hy0] at r10 HN0 hq0 hm0
        rw [hS0] at HN0 hd0 ⊢
        have HN1 := hide (show dotTo St.m sts mix (k + 1) = dotTo St.m sts mix k + mix.getD k 0 * (sts.getD k st0).m from rfl)
        have hq1 := stB_m (stsB_getD hvs (show k < sts.length by omega))
        have hm1 := mul_bd hx9.1 hx9.2 hq1.1 hq1.2
        obtain ⟨y1, hy1⟩ : ∃ y, (sts.getD k st0).m = y := ⟨_, rfl⟩
        obtain ⟨S1, hS1⟩ : ∃ S, dotTo St.m sts mix k = S := ⟨_, rfl⟩
        rw [hy1] at r11 HN1 hq1 hm1
        rw [hS1] at HN1 hd1 ⊢
        have HN2 := hide (show dotTo St.s sts mix (k + 1) = dotTo St.s sts mix k + mix.getD k 0 * (sts.getD k st0).s from rfl)
        have hq2 := stB_s (stsB_getD hvs (show k < sts.length by omega))
        have hm2 := mul_bd hx9.1 hx9.2 hq2.1 hq2.2
        obtain ⟨y2, hy2⟩ : ∃ y, (sts.getD k st0).s = y := ⟨_, rfl⟩
        obtain ⟨S2, hS2⟩ : ∃ S, dotTo St.s sts mix k = S := ⟨_, rfl⟩
        rw [hy2] at r12 HN2 hq2 hm2
        rw [hS2] at HN2 hd2 ⊢
        obtain ⟨x, hx⟩ : ∃ x, mix.getD k 0 = x := ⟨_, rfl⟩
        rw [hx] at r2 hx9 HN0 hm0 HN1 hm1 HN2 hm2
        have hu0 : IntKind.i64.wrap (x * y0) = x * y0 := IntWalk.i64_in _ (by omega)
        have hv0 : IntKind.i64.wrap (S0 + x * y0) = S0 + x * y0 := IntWalk.i64_in _ (by omega)
        have hu1 : IntKind.i64.wrap (x * y1) = x * y1 := IntWalk.i64_in _ (by omega)
        have hv1 : IntKind.i64.wrap (S1 + x * y1) = S1 + x * y1 := IntWalk.i64_in _ (by omega)
        have hu2 : IntKind.i64.wrap (x * y2) = x * y2 := IntWalk.i64_in _ (by omega)
        have hv2 : IntKind.i64.wrap (S2 + x * y2) = S2 + x * y2 := IntWalk.i64_in _ (by omega)
        clear hx hx9 hvs hy0 hS0 hq0 hm0 hd0 hy1 hS1 hq1 hm1 hd1 hy2 hS2 hq2 hm2 hd2
        go_wp2_with fail
        
        go_roundw
        case rel => exact ⟨k + 1, by omega, by go_num, by rw [HN0.out], by rw [HN1.out], by rw [HN2.out], HBr.out⟩
        case measure => simp [intOf]; omega
      · obtain rfl : k = mix.length := by omega
        have HF := hide (show sumsR St.c sts mix = dotTo St.c sts mix mix.length ∧ sumsR St.m sts mix = dotTo St.m sts mix mix.length ∧ sumsR St.s sts mix = dotTo St.s sts mix mix.length by simp [sumsR, KC.out])
        go_wp2_with fail
        go_ret3
        exact ⟨by rw [HF.out.1, HF.out.2.1, HF.out.2.2]; rfl, Below.step HB.out HBr.out (Nat.le_refl _)⟩
set_option maxHeartbeats 1600000 in
theorem take_impl (sv mv : Value) (sts : List St) (mix : List Int) (w : World) (Hs : StAt 0 w.heap.size w sv sts) (Hm : IntsAt 0 w.heap.size w mv mix) (hv : mixB sts mix = true) :
    Calls Tryz.prog 160 #[sv, mv] w (TakeGot w.heap.size (takeM sts mix) w) := by
  have HS := hide Hs
  have HM := hide Hm
  obtain ⟨hvs, hlen, -⟩ := mixB_parts hv
  have hl4 := stsB_len hvs
  have hlo : mix.length ≤ sts.length := by omega
  have hlo2 : sts.length ≤ mix.length := by omega
  have HV := hide hv
  obtain ⟨ao1, cap1, rfl, -, -, -, -⟩ := Hs
  obtain ⟨ao2, cap2, rfl, -, -, -, -⟩ := Hm
  have k1 := mixv_impl (.slice ao1 sts.length cap1) (.slice ao2 mix.length cap2) sts mix w HS.out HM.out
  rw [hv] at k1
  have HVS := hide hvs
  clear hv hvs hlen
  have hmk := fun W => make_rowN (P := Tryz.prog) 23 65 _ _ _ Tryz.underlying23 info_St .i64 .i64 sts.length (by omega) (by omega) W
  go_enter Tryz.func160, Tryz.ntmps160
  go_wp2_with fail
  refine k1.mono ?_
  rintro e w1 ⟨rfl, hb⟩
  have HB := hide hb
  have VS := hide (HS.out.below hb)
  have VM := hide (HM.out.below hb)
  have hz1 := hb.size
  clear hb k1
  go_wp2_with fail
  clear hmk
  go_loopw [7, 8, 18] (fun _ _ i wr => ∃ k : Nat, k ≤ sts.length ∧ i = .int .i64 k ∧ Below w1.heap.size w1 wr ∧ ∃ f, wr.rowIs w1.heap.size 65 (sts.length * 5) f ∧ (∀ j, j < k → f (j * 5) = .int .i64 (sts.getD j st0).c ∧ f (j * 5 + 1) = .int .i64 (sts.getD j st0).m ∧ f (j * 5 + 2) = .int .i64 (sts.getD j st0).s ∧ f (j * 5 + 3) = .int .i64 (sts.getD j st0).p ∧ f (j * 5 + 4) = .int .i64 ((sts.getD j st0).k - mix.getD j 0))) (fun _ _ i _ => sts.length - (intOf i).toNat)
  case atStart =>
    obtain ⟨f, hf⟩ := rowIs_madeN w1 (Value.agg #[Value.int .i64 0, Value.int .i64 0, Value.int .i64 0, Value.int .i64 0, Value.int .i64 0]).cells (sts.length * 5) 65
    exact ⟨0, Nat.zero_le _, rfl, by go_grown, f, hf, fun _ h => absurd h (Nat.not_lt_zero _)⟩
  case round =>
    obtain ⟨k, hk, rfl, hbr, f, hrow, hall⟩ := hrel
    have HBr := hide hbr
    have Ha := hide hall
    have Hr := hide hrow
    have VSr := hide (VS.out.below hbr)
    have VMr := hide (VM.out.below hbr)
    have hgz := hrow.lt
    have hzr := hbr.size
    clear hbr hall hrow
    by_cases hlt : k < sts.length
    · have hk9 := mix_bd HV.out (show k < mix.length by omega)
      have hs9 := stB_k (stsB_getD HVS.out hlt)
      obtain ⟨b1, o1, _, e1, -, hbz1, r1⟩ := st_at VSr.out hlt
      obtain ⟨b2, o2, _, e2, -, hbz2, r2, -⟩ := ints_at VMr.out (show k < mix.length by omega)
      simp only [Value.slice.injEq] at e1 e2
      obtain ⟨rfl, -, rfl⟩ := e1
      obtain ⟨rfl, -, rfl⟩ := e2
      obtain ⟨r10, r11, r12, r13, r14⟩ := r1
      have hkI : (k : Int) < (sts.length : Int) := by omega
      have hkI2 : (k : Int) < (mix.length : Int) := by omega
      have HG := hide (show sts.getD k st0 = ⟨(sts.getD k st0).c, (sts.getD k st0).m, (sts.getD k st0).s, (sts.getD k st0).p, (sts.getD k st0).k⟩ from rfl)
      obtain ⟨y0, h0⟩ : ∃ y, (sts.getD k st0).c = y := ⟨_, rfl⟩
      obtain ⟨y1, h1⟩ : ∃ y, (sts.getD k st0).m = y := ⟨_, rfl⟩
      obtain ⟨y2, h2⟩ : ∃ y, (sts.getD k st0).s = y := ⟨_, rfl⟩
      obtain ⟨y3, h3⟩ : ∃ y, (sts.getD k st0).p = y := ⟨_, rfl⟩
      obtain ⟨y4, h4⟩ : ∃ y, (sts.getD k st0).k = y := ⟨_, rfl⟩
      obtain ⟨x, hx⟩ : ∃ x, mix.getD k 0 = x := ⟨_, rfl⟩
      rw [h0] at r10
      rw [h1] at r11
      rw [h2] at r12
      rw [h3] at r13
      rw [h4] at r14 hs9
      rw [hx] at r2 hk9
      have H0 := hide h0
      have H1 := hide h1
      have H2 := hide h2
      have H3 := hide h3
      have H4 := hide h4
      have HX := hide hx
      have hw : IntKind.i64.wrap (y4 - x) = y4 - x := IntWalk.i64_in _ (by omega)
      clear h0 h1 h2 h3 h4 hx hs9 hk9 HG
      go_wp2_with fail
      obtain ⟨wx, hwx⟩ : ∃ wx, wx = wr.alloc (.cells #[.int .i64 y0, .int .i64 y1, .int .i64 y2, .int .i64 y3, .int .i64 y4] 65) := ⟨_, rfl⟩
      rw [← hwx]
      have RX : RowL wx wr.heap.size 65 [.int .i64 y0, .int .i64 y1, .int .i64 y2, .int .i64 y3, .int .i64 y4] := by rw [hwx]; exact RowL.new _ _ _
      have hbx : Below wr.heap.size wr wx := by rw [hwx]; exact (Below.refl _ _).alloc (Nat.le_refl _) _
      have hX := rowIs_below Hr.out hbx hgz
      have q2 : wx.cell? ⟨b2, o2 + k, none⟩ = some (.int .i64 x) := (hbx.cell (p := ⟨b2, o2 + k, none⟩) (show b2 < wr.heap.size by omega)).trans r2
      have x4 := RX.c 4 rfl
      have xf := RX.frozen 4
      have HRX := hide RX
      have HXR := hide hX
      have HBX := hide hbx
      have hne : wr.heap.size ≠ w1.heap.size := by omega
      have hne' : w1.heap.size ≠ wr.heap.size := by omega
      clear hwx RX hbx hX r10 r11 r12 r13 r14 r2
      go_still_tail 8, (by kernel_rfl)
      change wpList _ _ _ _ _ (World.drew _)
      clear hw q2
      go_upto_region 8 with fail
      obtain ⟨wy, hwy⟩ : ∃ wy, wy = (wx.setCell ⟨wr.heap.size, 4, none⟩ (.int .i64 (y4 - x))).drew := ⟨_, rfl⟩
      rw [← hwy]
      have RY : RowL wy wr.heap.size 65 [.int .i64 y0, .int .i64 y1, .int .i64 y2, .int .i64 y3, .int .i64 (y4 - x)] := by rw [hwy]; exact (HRX.out.set 4 _ (by simp)).drew
      have hY : wy.rowIs w1.heap.size 65 (sts.length * 5) f := by rw [hwy]; exact (World.rowIs.setOther HXR.out (a := ⟨wr.heap.size, 4, none⟩) hne' _).drew
      have hby : Below w1.heap.size w1 wy := by rw [hwy]; exact ((HBr.out.trans (HBX.out.mono (Nat.le_of_lt hgz))).setCell (Nat.le_of_lt hgz) _).drew
      have hzy : wy.heap.size = wx.heap.size := by rw [hwy]; simp
      have HY := hide hY
      have HBY := hide hby
      have x0 := RY.c 0 rfl
      have x1 := RY.c 1 rfl
      have x2 := RY.c 2 rfl
      have x3 := RY.c 3 rfl
      have x4 := RY.c 4 rfl
      have g0 := hY.cell (i := k * 5) (by omega)
      have g1 := hY.cell (i := k * 5 + 1) (by omega)
      have g2 := hY.cell (i := k * 5 + 2) (by omega)
      have g3 := hY.cell (i := k * 5 + 3) (by omega)
      have g4 := hY.cell (i := k * 5 + 4) (by omega)
      have f0 := hY.frozen (k * 5)
      have f1 := hY.frozen (k * 5 + 1)
      have f2 := hY.frozen (k * 5 + 2)
      have f3 := hY.frozen (k * 5 + 3)
      have f4 := hY.frozen (k * 5 + 4)
      clear hwy RY hY hby hzy
      go_wp2_with fail
      obtain ⟨f', hr', e0, e1, e2, e3, e4, eo⟩ := rowIs_put5 HY.out (k * 5) (.int .i64 y0) (.int .i64 y1) (.int .i64 y2) (.int .i64 y3) (.int .i64 (y4 - x))
      go_roundw
      case rel =>
        refine ⟨k + 1, by omega, by go_num, (((((HBY.out.setCell (Nat.le_refl _) _).setCell (Nat.le_refl _) _).setCell (Nat.le_refl _) _).setCell (Nat.le_refl _) _).setCell (Nat.le_refl _) _), f', hr', fun j hj => ?_⟩
        by_cases e : j = k
        · subst e
          rw [H0.out, H1.out, H2.out, H3.out, H4.out, HX.out]
          exact ⟨e0, e1, e2, e3, e4⟩
        · rw [eo _ (by omega) (by omega) (by omega) (by omega) (by omega), eo _ (by omega) (by omega) (by omega) (by omega) (by omega), eo _ (by omega) (by omega) (by omega) (by omega) (by omega), eo _ (by omega) (by omega) (by omega) (by omega) (by omega), eo _ (by omega) (by omega) (by omega) (by omega) (by omega)]
          exact Ha.out j (by omega)
      case measure => simp [intOf]; omega
    · obtain rfl : k = sts.length := by omega
      have hown : wr.ownsRow w.heap.size 65 5 (.slice (some ⟨w1.heap.size, 0, none⟩) sts.length sts.length) sts.length (flatS (takeM sts mix)) := by
        refine own_of_row Hr.out hz1 (by omega) (by rw [flatS_len, takeM_len]) fun i hi => ?_
        have hj : i / 5 < sts.length := by omega
        obtain ⟨a0, a1, a2, a3, a4⟩ := Ha.out (i / 5) hj
        obtain ⟨c0, c1, c2, c3, c4⟩ := flatS_at (takeM sts mix) (i / 5) (by rw [takeM_len]; exact hj)
        have hg : (takeM sts mix)[i / 5]'(by rw [takeM_len]; exact hj) = { sts.getD (i / 5) st0 with k := (sts.getD (i / 5) st0).k - mix.getD (i / 5) 0 } := by
          rw [← takeM_getD hj]; simp [takeM_len, hj]
        rw [hg] at c0 c1 c2 c3 c4
        have hr : i = i / 5 * 5 ∨ i = i / 5 * 5 + 1 ∨ i = i / 5 * 5 + 2 ∨ i = i / 5 * 5 + 3 ∨ i = i / 5 * 5 + 4 := by omega
        generalize i / 5 = d at *
        rcases hr with rfl | rfl | rfl | rfl | rfl
        · rw [c0, a0]
        · rw [c1, a1]
        · rw [c2, a2]
        · rw [c3, a3]
        · rw [c4, a4]
      have HO := hide hown
      clear hown
      go_wp2_with fail
      go_ret2
      exact ⟨_, rfl, by rw [takeM_len]; exact HO.out, Below.step HB.out HBr.out (Nat.le_refl _)⟩
set_option maxHeartbeats 1600000 in
theorem has_any (b : Nat) (p : Value) (m : Mi) (id st : Int) (w : World) (hp : PcAt 0 w.heap.size w p m.pieces) (hc : w.cell? ⟨b, 8, none⟩ = some p) (hl : m.pieces.length ≤ 1000000) :
    Calls Tryz.prog 164 #[.pointer (some ⟨b, 0, none⟩), .int .i64 id, .int .i64 st] w fun e w' => e = .returned (.bool (hasB m id st)) ∧ w = w' := by
  have HP := hide hp
  have hp2 := hp
  obtain ⟨ap, cp, rfl, -, -, -, -⟩ := hp2
  clear hp
  have hW := fun W => within_any id 1 (m.pieces.length : Int) W
  by_cases hi : wi id 1 (m.pieces.length : Int) = true
  · have HI := hide hi
    rw [hi] at hW
    obtain ⟨h1, h2⟩ := wi_iff.1 hi
    obtain ⟨k, rfl⟩ : ∃ k : Nat, id = k + 1 := ⟨(id - 1).toNat, by omega⟩
    have hk : k < m.pieces.length := by omega
    obtain ⟨b2, o, cp2, e, -, -, c0, c1⟩ := pc_at HP.out hk
    cases e
    have hsub : IntKind.i64.wrap ((k : Int) + 1 - 1) = (k : Int) := by rw [show (k : Int) + 1 - 1 = (k : Int) by omega]; exact IntWalk.i64_in _ (by omega)
    have hkI : (k : Int) < (m.pieces.length : Int) := by omega
    have HW := hide hW
    clear hW hi
    go_enter Tryz.func164, Tryz.ntmps164
    have hj0 : (0 : Int) ≤ (k : Int) := by omega
    go_wp2_with fail
    refine (HW.out w).mono ?_
    rintro e w1 ⟨rfl, rfl⟩
    go_wp2_with fail
    go_ret
    have hg : hasB m ((k : Int) + 1) st = (m.pieces[k].s == st) := by
      have : ((k : Int) + 1 - 1).toNat = k := by omega
      simp [hasB, HI.out, hk]
    simp [hg]
  · have hi' : wi id 1 (m.pieces.length : Int) = false := by simpa using hi
    rw [hi'] at hW
    have HI := hide hi'
    have HW := hide hW
    clear hW hi hi'
    go_enter Tryz.func164, Tryz.ntmps164
    go_wp2_with fail
    refine (HW.out w).mono ?_
    rintro e w1 ⟨rfl, rfl⟩
    go_wp2_with fail
    go_ret
    simp [hasB, HI.out]
def Meth (base B : Nat) (o : Option Mi) (w : World) (e : Ending) (w' : World) : Prop :=
  e = .returned (.bool o.isSome) ∧ Below base w w' ∧ ∀ x, o = some x → ∃ s p l h, RowL w' B 31 (millC s p l h x) ∧ MillGot base w' s p l h x
theorem Meth.no {base B : Nat} {w w' : World} (h : Below base w w') : Meth base B none w (.returned (.bool false)) w' := ⟨rfl, h, fun _ e => by cases e⟩
theorem notIn_store {B B' n : Nat} {w' : World} {s s' p l h : Value} {T sz : Nat} {cs : List Value} (o : NotIn B s p l h) (hB : B < B') (q : OwnE B' T sz w' s' n cs) : NotIn B s' p l h :=
  ⟨fun e => by have := (q.lt B e).1; omega, o.2⟩
theorem spotN_impl (n : Int) (w : World) (h1 : 0 ≤ n) (h2 : n ≤ 9223372036854775807) :
    Calls Tryz.prog 166 #[.int .i64 n] w fun e w' => e = .returned (.agg #[.bool (spotTop n), .int .i64 (spotPlace n)]) ∧ Below w.heap.size w w' := by
  have hneg : ¬ n < 0 := by omega
  go_enter Tryz.func166, Tryz.ntmps166
  go_wp2
  go_returns
  exact ⟨by simp [spotTop, spotPlace, hneg] <;> omega, by go_grown⟩
set_option maxHeartbeats 1600000 in
theorem lens_impl (v : Value) (a b : Int) (lo hi : Nat) (w : World) (H : IntsAt lo hi w v [a, b]) :
    Calls Tryz.prog 161 #[v] w fun e w' => e = .returned (.bool (lensB a b)) ∧ w = w' := by
  obtain ⟨b0, o0, cap, rfl, -, -, c0, c1⟩ := two_at H
  clear H
  have HW := hide (fun n l h W => within_any n l h W)
  go_enter Tryz.func161, Tryz.ntmps161
  go_wp2_with fail
  refine (HW.out 2 1 4 w).mono ?_
  rintro e w1 ⟨rfl, rfl⟩
  have hw : wi 2 1 4 = true := by decide
  rw [hw]
  go_wp2_with fail
  go_loop [3, 5, 12] (fun p _ i => (i = .int .i64 0 ∧ p = .int .i64 0) ∨ (i = .int .i64 1 ∧ p = .int .i64 a ∧ wi a 1 60 = true) ∨ (i = .int .i64 2 ∧ p = .int .i64 b ∧ lensB a b = true)) (fun _ _ i => 2 - (intOf i).toNat)
  case atStart => exact .inl ⟨rfl, rfl⟩
  case round =>
    rcases hrel with ⟨rfl, rfl⟩ | ⟨rfl, rfl, h⟩ | ⟨rfl, rfl, h⟩
    · go_wp2_with fail
      refine (HW.out a 1 60 w).mono ?_
      rintro e w1 ⟨rfl, rfl⟩
      cases h : wi a 1 60 with
      | false =>
        go_wp2_with fail
        go_ret
        simp [lensB, h]
      | true =>
        go_wp2_with fail
        go_round
        case rel => exact .inr (.inl ⟨rfl, rfl, h⟩)
        case measure => simp [intOf]
    · have ha := (wi_iff.1 h)
      have hp : IntKind.i64.wrap (a + 1) = a + 1 := IntWalk.i64_in _ (by omega)
      go_wp2_with fail
      refine (HW.out b (a + 1) 60 w).mono ?_
      rintro e w1 ⟨rfl, rfl⟩
      cases h2 : wi b (a + 1) 60 with
      | false =>
        go_wp2_with fail
        go_ret
        simp [lensB, h2]
      | true =>
        go_wp2_with fail
        go_round
        case rel => exact .inr (.inr ⟨rfl, rfl, by simp [lensB, h, h2]⟩)
        case measure => simp [intOf]
    · go_wp2_with fail
      go_ret
      simp [h]
theorem wasteAt_eq (T : List Int) (a b : Int) (k : Nat) : wasteAt T a b k = wst2 T a b k := rfl
theorem tab_eq {a b : Int} (h : lensB a b = true) {L k : Nat} (hk : k ≤ L) : (tab a b (L + 1)).getD k 0 = wst2 (tab a b (L + 1)) a b k := by
  obtain ⟨⟨h1, h2⟩, h3, h4⟩ := lensB_iff.1 h
  rw [tab_le a b (Nat.lt_succ_self k) (Nat.succ_le_succ hk), tab_new]
  have e1 : a ≤ k → (tab a b (L + 1)).getD ((k : Int) - a).toNat 0 = (tab a b k).getD ((k : Int) - a).toNat 0 := fun hle => tab_le a b (by omega) (by omega)
  have e2 : b ≤ k → (tab a b (L + 1)).getD ((k : Int) - b).toNat 0 = (tab a b k).getD ((k : Int) - b).toNat 0 := fun hle => tab_le a b (by omega) (by omega)
  rw [wasteAt_eq]
  unfold wst2 wst1
  by_cases ha : a ≤ k
  · by_cases hb : b ≤ k
    · simp only [if_pos ha, if_pos hb, e1 ha, e2 hb]
    · simp only [if_pos ha, if_neg hb, e1 ha]
  · by_cases hb : b ≤ k
    · simp only [if_neg ha, if_pos hb, e2 hb]
    · simp only [if_neg ha, if_neg hb]
theorem quiet_left2 {P : Program} {f : FuncId} {args : Array Value} {w : World} {n k : Nat} {v : Value}
    (h : Calls P f args (w.drewN (k + n)) fun e w' => e = .returned v ∧ w.drewN (k + n) = w') : Calls P f args (w.drewN (k + n)) fun e w'' => e = .returned v ∧ ∃ m, w'' = w.drewN (k + m) :=
  h.mono fun _ _ ⟨he, hm⟩ => ⟨he, n, hm.symm⟩
theorem tons_many (L : Nat) (a b : Int) : tonsR (manyL L a b) = (many0 L a b : Int) + many1 L a b := by simp [tonsR, manyL, sumTo]
end Go.Proofs.YtmemgbklgcjobaaGreatDoor
