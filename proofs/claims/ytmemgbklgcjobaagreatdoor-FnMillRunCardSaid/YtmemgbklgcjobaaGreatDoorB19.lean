/-
  Parts of the proofs over mills, of: CoilOn, CoilTI, MethB, CutA, PlainCut2, CutB, CutL, Facts. Conditions: each theorem states its own.
-/
import Derived.Test.YtmemgbklgcjobaaGreatDoorRows
import Derived.Test.YtmemgbklgcjobaaGreatDoorB15
import Derived.Test.YtmemgbklgcjobaaGreatDoorB18
set_option linter.unusedSimpArgs false
set_option linter.unusedVariables false
set_option maxRecDepth 10000
namespace Go.Proofs.YtmemgbklgcjobaaGreatDoor
open Go.RowKit
def onTo (lo hi : List Int) (p : Int) (k : Nat) : List Int := ([atR lo hi true (p - 1), atR lo hi true p].take k).filter (fun x => decide (0 < x))
theorem onTo_len (lo hi : List Int) (p : Int) (k : Nat) : (onTo lo hi p k).length ≤ 2 := by
  unfold onTo
  refine Nat.le_trans (List.length_filter_le _ _) ?_
  simp; omega
theorem onTo_yes {lo hi : List Int} {p x : Int} {k : Nat} (hk : k < 2) (hx : atR lo hi true (p - 1 + k) = x) (h : 0 < x) : onTo lo hi p (k + 1) = onTo lo hi p k ++ [x] := by
  have : k = 0 ∨ k = 1 := by omega
  rcases this with rfl | rfl
  · have hx : atR lo hi true (p - 1) = x := by simpa using hx
    simp [onTo, hx, h]
  · have hx : atR lo hi true p = x := by rw [← hx]; congr 1; omega
    simp [onTo, List.filter_cons, hx, h]
    split <;> simp
theorem onTo_no {lo hi : List Int} {p x : Int} {k : Nat} (hk : k < 2) (hx : atR lo hi true (p - 1 + k) = x) (h : ¬ 0 < x) : onTo lo hi p (k + 1) = onTo lo hi p k := by
  have : k = 0 ∨ k = 1 := by omega
  rcases this with rfl | rfl
  · have hx : atR lo hi true (p - 1) = x := by simpa using hx
    simp [onTo, hx, h]
  · have hx : atR lo hi true p = x := by rw [← hx]; congr 1; omega
    simp [onTo, List.filter_cons, hx, h]
theorem on_all {lo hi : List Int} {p : Int} (h : ¬ atR lo hi false p < 1) : onR lo hi false p = onTo lo hi p 2 := by
  simp [onR, onTo, h]
theorem on_low {lo hi : List Int} {t : Bool} {p : Int} (h : atR lo hi t p < 1) : onR lo hi t p = [] := by simp [onR, h]
theorem on_top {lo hi : List Int} {p : Int} : onR lo hi true p = [] := by simp [onR]
theorem at_top {lo hi : List Int} (hv : pileB lo hi = true) {m : Nat} (hm : m < hi.length) : atR lo hi true (m : Int) = hi.getD m 0 := by
  have := at_in (t := true) (p := (m : Int)) hv (by rw [wi_iff]; simp [rowR]; omega)
  rw [this, Int.toNat_natCast]; rfl
theorem at_past {lo hi : List Int} {m : Int} (hm : m < 0 ∨ (hi.length : Int) ≤ m) : atR lo hi true m = -1 := by
  apply at_out
  cases h : wi m 0 ((rowR true lo hi).length - 1) with
  | false => rfl
  | true =>
    have := wi_iff.1 h
    simp [rowR] at this
    omega
set_option maxHeartbeats 1600000 in
theorem on_spec (l h : Value) (lo hi : List Int) (t : Bool) (p : Int) (w : World) (Hl : IntsAt 0 w.heap.size w l lo) (Hh : IntsAt 0 w.heap.size w h hi) :
    Calls Tryz.prog 175 #[pileV l h, .agg #[.bool t, .int .i64 p]] w (IntsNew w.heap.size (onR lo hi t p) w) := by
  have HL := hide Hl
  have HH := hide Hh
  have hhl := Hh.len
  obtain ⟨aoh, caph, rfl, -, -, -, -⟩ := id Hh
  clear Hl Hh
  obtain ⟨i0, hi0, hz0, hi1, hi2⟩ := info_parts info_int
  have hq := fun t p W => at_spec l (.slice aoh hi.length caph) lo hi t p W
  unfold pileV at hq ⊢
  have HQ := hide hq
  clear hq
  go_enter Tryz.func175, Tryz.ntmps175
  go_wp2_with fail
  refine calls_at fun wx hwx => ?_
  have A_0 : RowL wx w.heap.size 29 [l, .slice aoh hi.length caph] := by rw [hwx]; exact ((RowL.new _ _ _).alloc _).alloc _
  have S_0 : RowL wx (w.heap.size + 1) 128 [.bool t, .int .i64 p] := by rw [hwx]; simpa using (RowL.new (World.alloc _ _) 128 [.bool t, .int .i64 p]).alloc _
  have B_0 : Below w.heap.size w wx := by rw [hwx]; go_grown
  have O_0 : wx.ownsRow (w.heap.size + 2) 3 1 (.slice (some ⟨w.heap.size + 1 + 1, 0, none⟩) 0 0) 0 [] := by
    rw [hwx]
    simpa using World.ownsRow_lit (e := 3) (size := 1) (base := w.heap.size + 2) ((w.alloc (.cells #[l, .slice aoh hi.length caph] 29)).alloc (.cells #[.bool t, .int .i64 p] 128)) #[] 0 (by simp) (by unfold maxLen; omega) (by simp)
  clear hwx
  refine (HQ.out t p wx ((HL.out.below B_0).mono (Nat.le_refl _) B_0.size (Nat.le_refl _)) ((HH.out.below B_0).mono (Nat.le_refl _) B_0.size (Nat.le_refl _))).mono ?_
  rintro e w1 ⟨rfl, hb⟩
  have A_1 := A_0.below hb A_0.lt
  have S_1 := S_0.below hb S_0.lt
  have O_1 := hide (ownsRow_below O_0 hb (Nat.le_refl _))
  have B_1 := hide (Below.step B_0 hb (Nat.le_refl _))
  clear hb A_0 S_0 B_0 O_0
  have cS0 := S_1.c 0 rfl
  have cS1 := S_1.c 1 rfl
  by_cases ha : atR lo hi t p < 1
  · have HF := hide (on_low ha)
    obtain ⟨a, hae⟩ : ∃ a, atR lo hi t p = a := ⟨_, rfl⟩
    rw [hae] at ha ⊢
    clear hae
    go_wp2_with fail
    go_ret
    rw [HF.out]
    exact ⟨_, rfl, ownsRow_mono O_1.out (by omega), B_1.out⟩
  cases t with
  | true =>
    obtain ⟨a, hae⟩ : ∃ a, atR lo hi true p = a := ⟨_, rfl⟩
    rw [hae] at ha ⊢
    clear hae
    go_wp2_with fail
    go_ret
    rw [on_top]
    exact ⟨_, rfl, ownsRow_mono O_1.out (by omega), B_1.out⟩
  | false =>
    have HF := hide (on_all ha)
    obtain ⟨hv, j, rfl, hjl, -⟩ := at_row (show 0 ≤ atR lo hi false p by omega)
    have hj6 : j < 6 := Nat.lt_of_lt_of_le hjl hv.l6
    have HV := hide (pileB_iff.2 hv)
    obtain ⟨a, hae⟩ : ∃ a, atR lo hi false (j : Int) = a := ⟨_, rfl⟩
    rw [hae] at ha ⊢
    clear hae hv hjl
    obtain ⟨k0, hk0, hmax, hst⟩ : ∃ k0 : Nat, k0 ≤ 2 ∧ max ((j : Int) - 1) 0 = (j : Int) - 1 + k0 ∧ (k0 = 0 ∧ 1 ≤ j ∨ k0 = 1 ∧ j = 0) := by
      by_cases h0 : j = 0
      · exact ⟨1, by omega, by omega, .inr ⟨rfl, h0⟩⟩
      · exact ⟨0, by omega, by omega, .inl ⟨rfl, by omega⟩⟩
    have hon : onTo lo hi j k0 = [] := by
      rcases hst with ⟨rfl, -⟩ | ⟨rfl, rfl⟩
      · simp [onTo]
      · have h1 := onTo_no (lo := lo) (hi := hi) (p := ((0 : Nat) : Int)) (k := 0) (by omega) rfl (by rw [at_past (.inl (by omega))]; omega)
        rw [h1]; simp [onTo]
    have HON := hide hon
    have hge : ∀ k : Nat, k0 ≤ k → 0 ≤ (j : Int) - 1 + k := fun k hk => by omega
    have HGE := hide hge
    clear hon hge hst
    go_wp2_with fail
    go_loopw [5, 6] (fun o i wr => ∃ k : Nat, k0 ≤ k ∧ k ≤ 2 ∧ i = .int .i64 ((j : Int) - 1 + k) ∧ Below w.heap.size w wr ∧ RowL wr w.heap.size 29 [l, .slice aoh hi.length caph] ∧ RowL wr (w.heap.size + 1) 128 [.bool false, .int .i64 (j : Int)] ∧ wr.ownsRow (w.heap.size + 2) 3 1 o (onTo lo hi j k).length (flatI (onTo lo hi j k))) (fun _ i _ => ((j : Int) + 1 - intOf i).toNat)
    case atStart => exact ⟨k0, Nat.le_refl _, hk0, by first | rw [hmax] | simp, B_1.out, A_1, S_1, by rw [HON.out]; simpa [flatI] using O_1.out⟩
    case round =>
      obtain ⟨k, hkk, hk, rfl, hb, hA, hS, hown⟩ := hrel
      have HB := hide hb
      have HA := hide hA
      have HS := hide hS
      have HO := hide hown
      have hol := onTo_len lo hi j k
      have hzr := hS.lt
      have hp1 := hA.c 1 rfl
      have hs1 := hS.c 1 rfl
      obtain ⟨aov, capv, rfl, -, -⟩ := own_slice hown
      have HHr := hide ((HH.out.below hb).mono (Nat.le_refl _) hb.size (Nat.le_refl _))
      have hm0 := HGE.out k hkk
      clear hb hA hS hown hmax
      by_cases hlt : k < 2
      · have hkI : (j : Int) - 1 + k ≤ (j : Int) := by omega
        obtain ⟨m, hm⟩ : ∃ m : Nat, (j : Int) - 1 + k = m := ⟨((j : Int) - 1 + k).toNat, by omega⟩
        by_cases hmh : m < hi.length
        · obtain ⟨b, o, cap', e', -, -, r1, -⟩ := ints_at HHr.out hmh
          simp only [Value.slice.injEq] at e'
          obtain ⟨rfl, -, rfl⟩ := e'
          have hat := at_top HV.out hmh
          obtain ⟨x, hx⟩ : ∃ x, hi.getD m 0 = x := ⟨_, rfl⟩
          rw [hx] at r1 hat
          rw [← hm] at hat
          have hN1 := fun h0 => onTo_yes (lo := lo) (hi := hi) (p := (j : Int)) hlt hat h0
          have hN2 := fun h0 => onTo_no (lo := lo) (hi := hi) (p := (j : Int)) hlt hat h0
          have HN1 := hide hN1
          have HN2 := hide hN2
          have HM := hide (show (m : Int) + 1 = (j : Int) - 1 + ((k + 1 : Nat) : Int) by omega)
          have hmj : (m : Int) ≤ (j : Int) := by omega
          have hmI : (m : Int) < (hi.length : Int) := by omega
          rw [hm]
          clear hx hat hN1 hN2 hm hkI hm0
          by_cases hx0 : 0 < x
          · have HN := hide (HN1.out hx0)
            go_wp2_with (at_builtin; refine wpList_append_view rfl _ _ 27 rfl (w.heap.size + 2) 3 i0 (.int .i64 0) 1 8 Tryz.underlying27 hi0 hz0 hi1 hi2 rfl (by decide) _ _ _ rfl (HO.out.alloc _) (.slice (some ⟨wr.heap.size, 0, none⟩) 1 1) 1 [.int .i64 x] rfl ?c0 ?c1 ?c2 ?c3 ?_)
            case c0 => exact Source.lit wr [.int .i64 x] 1 3 1 rfl (fun u hu => by simp at hu; subst hu; rfl) 1
            case c1 => unfold maxLen; omega
            case c2 => omega
            case c3 => first | omega | (simp; omega)
            intro v2 w3 hown2 hgrow2 _
            have hgB : Below (w.heap.size + 2) wr w3 := ((Below.refl _ wr).alloc (by omega) _).trans (Below.grow hgrow2 (HO.out.alloc _) (Nat.le_refl _) (by simp; omega))
            have HB3 := hide (HB.out.trans (hgB.mono (by omega)))
            have HA3 := hide (HA.out.below hgB (by omega))
            have HS3 := hide (HS.out.below hgB (by omega))
            have HO3 := hide (show w3.ownsRow (w.heap.size + 2) 3 1 v2 (onTo lo hi j (k + 1)).length (flatI (onTo lo hi j (k + 1))) by rw [HN.out]; simpa [flatI] using hown2)
            clear hown2 hgrow2 hgB
            go_wp2_with fail
            go_roundw
            case rel => exact ⟨k + 1, by omega, by omega, by rw [← HM.out], HB3.out, HA3.out, HS3.out, HO3.out⟩
            case measure => have := HM.out; simp [intOf]; omega
          · have HN := hide (HN2.out hx0)
            go_wp2_with fail
            go_roundw
            case rel => exact ⟨k + 1, by omega, by omega, by rw [← HM.out], HB.out, HA.out, HS.out, by rw [HN.out]; exact HO.out⟩
            case measure => have := HM.out; simp [intOf]; omega
        · have hfin : onTo lo hi j 2 = onTo lo hi j k := by
            have e1 := onTo_no (lo := lo) (hi := hi) (p := (j : Int)) hlt rfl (by rw [at_past (.inr (by omega))]; omega)
            have : k = 0 ∨ k = 1 := by omega
            rcases this with rfl | rfl
            · rw [← e1]
              exact onTo_no (lo := lo) (hi := hi) (p := (j : Int)) (k := 1) (by omega) rfl (by rw [at_past (.inr (by omega))]; omega)
            · exact e1
          have HFN := hide hfin
          have hmj : (m : Int) ≤ (j : Int) := by omega
          have hmI : ¬ (m : Int) < (hi.length : Int) := by omega
          rw [hm]
          clear hfin hm hkI hm0
          go_wp2_with fail
          go_ret
          rw [HF.out, HFN.out]
          exact ⟨_, rfl, ownsRow_mono HO.out (by omega), HB.out⟩
      · obtain rfl : k = 2 := by omega
        have hkI : ¬ (j : Int) - 1 + ((2 : Nat) : Int) ≤ (j : Int) := by omega
        go_wp2_with fail
        go_ret
        rw [HF.out]
        exact ⟨_, rfl, ownsRow_mono HO.out (by omega), HB.out⟩
theorem take_bad {lo hi : List Int} {t : Bool} {p : Int} (h : pileB lo hi = false) : takeR lo hi t p = (([], []), 0) := by simp [takeR, h]
theorem take_low {lo hi : List Int} {t : Bool} {p : Int} (h : pileB lo hi = true) (h2 : atR lo hi t p < 1) : takeR lo hi t p = ((lo, hi), 0) := by simp [takeR, h, h2]
theorem take_under {lo hi : List Int} {t : Bool} {p : Int} (h : pileB lo hi = true) (h2 : 0 < (onR lo hi t p).length) : takeR lo hi t p = ((lo, hi), 0) := by
  unfold takeR
  rw [if_pos h, if_pos (by simp only [h2, decide_true, Bool.or_true])]
theorem take_yes {lo hi : List Int} {t : Bool} {p : Int} (h : pileB lo hi = true) (h2 : ¬ atR lo hi t p < 1) (h3 : ¬ 0 < (onR lo hi t p).length) : takeR lo hi t p = (setR t lo hi p 0, atR lo hi t p) := by
  unfold takeR
  rw [if_pos h, if_neg (by simp only [h2, h3, decide_false, Bool.or_false]; decide)]
def BoxGot (base : Nat) (w : World) (q : List Int × List Int) (bx : Value) : Prop := ∃ G l h, bx = .pointer (some ⟨G, 0, none⟩) ∧ base ≤ G ∧ RowL w G 29 [l, h] ∧ PileOwn base w l h q.1 q.2
theorem box_new {base b : Nat} {w : World} {l h : Value} {q : List Int × List Int} (own : PileOwn b w l h q.1 q.2) (hb : base ≤ b) (hz : base ≤ w.heap.size) :
    BoxGot base (w.alloc (.cells #[l, h] 29)) q (.pointer (some ⟨w.heap.size, 0, none⟩)) :=
  ⟨_, _, _, rfl, hz, RowL.new _ _ _, (own.below ((Below.refl _ _).alloc (Nat.le_refl _) _) (Nat.le_refl _)).mono hb⟩
theorem box_old {base b G : Nat} {w : World} {x y l h : Value} {q : List Int × List Int} (r : RowL w G 29 [x, y]) (own : PileOwn b w l h q.1 q.2) (hG : base ≤ G) (hb : G < b) :
    BoxGot base ((w.setCell ⟨G, 0, none⟩ l).setCell ⟨G, 1, none⟩ h) q (.pointer (some ⟨G, 0, none⟩)) := by
  have k : Other G (G + 1) w ((w.setCell ⟨G, 0, none⟩ l).setCell ⟨G, 1, none⟩ h) :=
    ((Other.refl _ _ _).setCell (p := ⟨G, 0, none⟩) (Nat.le_refl _) (Nat.lt_succ_self _) _).setCell (p := ⟨G, 1, none⟩) (Nat.le_refl _) (Nat.lt_succ_self _) _
  exact ⟨_, _, _, rfl, hG, (r.set 0 l (by simp)).set 1 h (by simp), (own.other k (by omega)).mono (by omega)⟩
theorem liftD_no1 {m : Mi} {a b : Int} (h : (decide (0 ≤ a) && decide (0 ≤ b)) = false) : liftD m a b = none := by simp [liftD, h]
theorem liftD_no2 {m : Mi} {a b : Int} (h : (liftR m.low m.high (spotTop a) (spotPlace a) (spotTop b) (spotPlace b)).2 = false) : liftD m a b = none := by simp [liftD, h]
theorem liftD_yes {m : Mi} {a b : Int} {q : List Int × List Int} (h1 : 0 ≤ a) (h2 : 0 ≤ b) (h : liftR m.low m.high (spotTop a) (spotPlace a) (spotTop b) (spotPlace b) = (q, true)) : liftD m a b = some { m with low := q.1, high := q.2 } := by simp [liftD, h, h1, h2]
theorem two_at {lo hi : Nat} {w : World} {v : Value} {a b : Int} (h : IntsAt lo hi w v [a, b]) : ∃ b0 o0 cap, v = .slice (some ⟨b0, o0, none⟩) 2 cap ∧ lo ≤ b0 ∧ b0 < hi ∧ w.cell? ⟨b0, o0, none⟩ = some (.int .i64 a) ∧ w.cell? ⟨b0, o0 + 1, none⟩ = some (.int .i64 b) := by
  obtain ⟨ao, cap, e, h1, h2, h3, h4⟩ := h
  obtain ⟨b0, o0, rfl, b1, b2, hc⟩ := h4 (by simp)
  exact ⟨b0, o0, cap, e, b1, b2, (hc 0 (by simp)).1, (hc 1 (by simp)).1⟩
def wst1 (T : List Int) (a : Int) (k : Nat) : Int := if a ≤ k then min (k : Int) (T.getD ((k : Int) - a).toNat 0) else k
def wst2 (T : List Int) (a b : Int) (k : Nat) : Int := if b ≤ k then min (wst1 T a k) (T.getD ((k : Int) - b).toNat 0) else wst1 T a k
theorem cnt_yes {t : List Int} {x : Int} (hx : 1 ≤ x) {f : Nat} {left : Int} (h0 : 0 ≤ left) (hf : left < f) (h : moreB t x left = true) : cnt t x f left = cnt t x f (left - x) + 1 := by
  obtain _ | f := f
  · omega
  · have hm := h
    unfold moreB at hm
    rw [Bool.and_eq_true, decide_eq_true_iff] at hm
    rw [cnt, if_pos h, cnt_fuel t hx f (f + 1) (left - x) (by omega) (by omega) (by omega)]
theorem cnt_no {t : List Int} {x : Int} {f : Nat} {left : Int} (h : moreB t x left = false) : cnt t x f left = 0 := by
  obtain _ | f := f
  · rfl
  · rw [cnt, if_neg (by rw [h]; simp)]
structure CutSt (T : List Int) (L : Nat) (x : Int) (n c : Nat) (left : Int) : Prop where
  pos : 0 ≤ left
  le : left ≤ L
  cnt : n = c + Go.Proofs.YtmemgbklgcjobaaGreatDoor.cnt T x (L + 1) left
  same : T.getD left.toNat 0 = T.getD L 0
theorem CutSt.start {a b : Int} {L : Nat} : CutSt (tab a b (L + 1)) L b (many1 L a b) 0 L := by
  refine ⟨by omega, by omega, ?_, by simp⟩
  unfold many1; simp
theorem CutSt.next {a b : Int} {L : Nat} {left : Int} (H : CutSt (tab a b (L + 1)) L b (many1 L a b) (many1 L a b) left) (hl : left = L - many1 L a b * b) : CutSt (tab a b (L + 1)) L a (many0 L a b) 0 left := by
  refine ⟨H.pos, H.le, ?_, H.same⟩
  unfold many0; rw [hl]; simp
theorem CutSt.more {T : List Int} {L : Nat} {x : Int} {n c : Nat} {left : Int} (hx : 1 ≤ x) (H : CutSt T L x n c left) (h : moreB T x left = true) : CutSt T L x n (c + 1) (left - x) ∧ x ≤ left ∧ c + 1 ≤ n := by
  have hm := h
  unfold moreB at hm
  rw [Bool.and_eq_true, decide_eq_true_iff, beq_iff_eq] at hm
  have h1 := H.pos
  have h2 := H.le
  have h3 := H.cnt
  rw [cnt_yes hx h1 (by omega) h] at h3
  exact ⟨⟨by omega, by omega, by omega, hm.2.trans H.same⟩, hm.1, by omega⟩
theorem CutSt.done {T : List Int} {L : Nat} {x : Int} {n c : Nat} {left : Int} (H : CutSt T L x n c left) (h : moreB T x left = false) : c = n := by
  have h3 := H.cnt
  rw [cnt_no h] at h3
  omega
def manyL (L : Nat) (a b : Int) : List Int := [(many0 L a b : Int), (many1 L a b : Int)]
theorem many_60 {L : Nat} {a b : Int} (h : lensB a b = true) (hL : L ≤ 60) : many0 L a b ≤ 60 ∧ many1 L a b ≤ 60 := by
  obtain ⟨h1, h2⟩ := many_bd h (show (0 : Int) ≤ L by omega)
  omega
def Row2 (w : World) (G : Nat) (c0 c1 : Nat) : Prop := ∃ f, w.rowIs G 3 2 f ∧ f 0 = .int .i64 (c0 : Int) ∧ f 1 = .int .i64 (c1 : Int)
theorem Row2.cell {w : World} {G c0 c1 : Nat} (h : Row2 w G c0 c1) : w.cell? ⟨G, 0, none⟩ = some (.int .i64 (c0 : Int)) ∧ w.cell? ⟨G, 1, none⟩ = some (.int .i64 (c1 : Int)) ∧ w.frozen? ⟨G, 0, none⟩ = false ∧ w.frozen? ⟨G, 1, none⟩ = false ∧ G < w.heap.size := by
  obtain ⟨f, h, e0, e1⟩ := h
  refine ⟨?_, ?_, h.frozen 0, h.frozen 1, h.lt⟩
  · rw [h.cell (i := 0) (by omega), e0]
  · rw [h.cell (i := 1) (by omega), e1]
theorem Row2.set0 {w : World} {G c0 c1 : Nat} (h : Row2 w G c0 c1) (y : Nat) : Row2 (w.setCell ⟨G, 0, none⟩ (.int .i64 (y : Int))) G y c1 := by
  obtain ⟨f, h, e0, e1⟩ := h
  exact ⟨_, h.set 0 _, by simp, by simpa using e1⟩
theorem Row2.set1 {w : World} {G c0 c1 : Nat} (h : Row2 w G c0 c1) (y : Nat) : Row2 (w.setCell ⟨G, 1, none⟩ (.int .i64 (y : Int))) G c0 y := by
  obtain ⟨f, h, e0, e1⟩ := h
  exact ⟨_, h.set 1 _, by simpa using e0, by simp⟩
theorem Row2.own {w : World} {base G c0 c1 : Nat} (h : Row2 w G c0 c1) (hb : base ≤ G) : w.ownsRow base 3 1 (.slice (some ⟨G, 0, none⟩) 2 2) 2 (flatI [(c0 : Int), (c1 : Int)]) := by
  obtain ⟨f, h, e0, e1⟩ := h
  refine own_of_row (n := 2) (sz := 1) h hb (by omega) rfl fun i hi => ?_
  have : i = 0 ∨ i = 1 := by omega
  rcases this with rfl | rfl
  · rw [e0]; rfl
  · rw [e1]; rfl
theorem Row2.drewN {w : World} {G c0 c1 : Nat} (h : Row2 w G c0 c1) (n : Nat) : Row2 (w.drewN n) G c0 c1 := h
set_option maxHeartbeats 1600000 in
theorem lens_spec (v : Value) (a b : Int) (lo hi : Nat) (w : World) (H : IntsAt lo hi w v [a, b]) :
    Calls Tryz.prog 209 #[v] w fun e w' => e = .returned (.bool (lensB a b)) ∧ Below w.heap.size w w' := by
  have HH := hide H
  obtain ⟨b0, o0, cap, rfl, -, -, -, -⟩ := two_at H
  clear H
  go_enter Tryz.func209, Tryz.ntmps209
  go_wp2_with fail
  go_loopw [3] (fun i wr => Below w.heap.size w wr ∧ ((i = .int .i64 0) ∨ (i = .int .i64 1 ∧ wi a 1 60 = true) ∨ (i = .int .i64 2 ∧ lensB a b = true))) (fun i _ => 2 - (intOf i).toNat)
  case atStart => exact ⟨Below.refl _ _, .inl rfl⟩
  case round =>
    obtain ⟨hb, hcase⟩ := hrel
    have HB := hide hb
    obtain ⟨b1, o1, cap1, e1, -, -, c0, c1⟩ := two_at (HH.out.below hb)
    cases e1
    clear hb
    rcases hcase with rfl | ⟨rfl, h⟩ | ⟨rfl, h⟩
    · cases h : wi a 1 60 with
      | false =>
        have HF := hide (show lensB a b = false by simp [lensB, h])
        have hq := fun W => l1In_any a 1 60 W
        rw [h] at hq
        have HQ := hide hq
        have HA := hide h
        clear h hq
        go_wp2_with fail
        go_quiet ((go_at_call 68; exact quiet_left (HQ.out _)))
        go_wp2_with fail
        go_ret
        exact ⟨by rw [HF.out]; rfl, below_drewN HB.out _⟩
      | true =>
        have hq := fun W => l1In_any a 1 60 W
        rw [h] at hq
        have HQ := hide hq
        have HA := hide h
        clear h hq
        go_wp2_with fail
        go_quiet ((go_at_call 68; exact quiet_left (HQ.out _)))
        go_wp2_with fail
        go_roundw
        case rel => exact ⟨below_drewN HB.out _, .inr (.inl ⟨rfl, by first | trivial | exact HA.out⟩)⟩
        case measure => simp [intOf]
    · have ha := wi_iff.1 h
      cases h1 : wi b 1 60 with
      | false =>
        have HF := hide (show lensB a b = false by
          rw [← Bool.not_eq_true, lensB_iff]
          intro hh
          have : wi b 1 60 = true := wi_iff.2 (by omega)
          rw [this] at h1; cases h1)
        have hq := fun W => l1In_any b 1 60 W
        rw [h1] at hq
        have HQ := hide hq
        clear h h1 hq
        go_wp2_with fail
        go_quiet ((go_at_call 68; exact quiet_left (HQ.out _)))
        go_wp2_with fail
        go_ret
        exact ⟨by rw [HF.out]; rfl, below_drewN HB.out _⟩
      | true =>
        have hb1 := wi_iff.1 h1
        by_cases hab : b ≤ a
        · have HF := hide (show lensB a b = false by
            rw [← Bool.not_eq_true, lensB_iff]
            omega)
          have hq := fun W => l1In_any b 1 60 W
          rw [h1] at hq
          have HQ := hide hq
          have habd : decide (b ≤ a) = true := by simpa using hab
          clear h h1 hq
          go_wp2_with fail
          go_quiet ((go_at_call 68; exact quiet_left (HQ.out _)))
          go_wp2_with fail
          go_ret
          exact ⟨by rw [HF.out]; rfl, below_drewN HB.out _⟩
        · have HF := hide (show lensB a b = true from lensB_iff.2 (by omega))
          have hq := fun W => l1In_any b 1 60 W
          rw [h1] at hq
          have HQ := hide hq
          have habd : decide (b ≤ a) = false := by simpa using hab
          clear h h1 hq
          go_wp2_with fail
          go_quiet ((go_at_call 68; exact quiet_left (HQ.out _)))
          go_wp2_with fail
          go_roundw
          case rel => exact ⟨below_drewN HB.out _, .inr (.inr ⟨rfl, HF.out⟩)⟩
          case measure => simp [intOf]
    · go_wp2_with fail
      refine (l1In_any 2 1 4 wr).mono ?_
      rintro e w1 ⟨rfl, rfl⟩
      have hw : wi 2 1 4 = true := by decide
      rw [hw]
      go_wp2_with fail
      go_ret
      exact ⟨by rw [h]; rfl, HB.out⟩
set_option maxHeartbeats 1600000 in
theorem table_spec (v : Value) (a b : Int) (lo hi L : Nat) (hL : L ≤ 60) (hv : lensB a b = true) (w : World) (H : IntsAt lo hi w v [a, b]) :
    Calls Tryz.prog 208 #[.int .i64 (L : Int), v] w (IntsNew w.heap.size (tab a b (L + 1)) w) := by
  have HH := hide H
  have hlt := H.lt
  obtain ⟨⟨ha1, ha2⟩, hb1, hb2⟩ := lensB_iff.1 hv
  have HV := hide hv
  obtain ⟨b0, o0, cap, rfl, h1, h2, -, -⟩ := two_at H
  obtain ⟨j0, hj0, hy0, hj1, hj2⟩ := info_parts info_int
  clear H hv
  go_enter Tryz.func208, Tryz.ntmps208
  go_wp2_with fail
  go_loopw [5, 6, 7, 8] (fun o i _ _ wr => ∃ k : Nat, k ≤ L + 1 ∧ i = .int .i64 (k : Int) ∧ Below w.heap.size w wr ∧ wr.ownsRow w.heap.size 3 1 o k (flatI (tab a b k))) (fun _ i _ _ _ => L + 1 - (intOf i).toNat)
  case atStart =>
    exact ⟨0, Nat.zero_le _, rfl, by go_grown, by simpa [tab, flatI] using World.ownsRow_lit (e := 3) (size := 1) (base := w.heap.size) w #[] 0 (Nat.le_refl _) (by unfold maxLen; omega) (by simp)⟩
  case round =>
    obtain ⟨k, hk, rfl, hb, hown⟩ := hrel
    have hzr := hb.size
    obtain ⟨aov, capv, rfl, -, -⟩ := own_slice hown
    have hat := ownI_at hown (tab_len a b k).symm hzr
    have HB := hide hb
    have HO := hide hown
    clear hown
    by_cases hltk : k < L + 1
    · have hkI : (k : Int) ≤ (L : Int) := by omega
      have hk0 : (0 : Int) ≤ (k : Int) := by omega
      have HAT := hide hat
      have HC := hide (two_at (HH.out.below hb))
      clear hb hat
      obtain ⟨wo, hwo⟩ : ∃ wo : World, wo = wr := ⟨_, rfl⟩
      subst hwo
      go_wp2_with fail
      go_loop [7, 8] (fun x i => ∃ y : Int, x = .int .i64 y ∧ ((i = .int .i64 0 ∧ y = k) ∨ (i = .int .i64 1 ∧ y = wst1 (tab a b k) a k) ∨ (i = .int .i64 2 ∧ y = wst2 (tab a b k) a b k))) (fun _ i => 2 - (intOf i).toNat)
      case atStart => exact ⟨k, rfl, .inl ⟨rfl, rfl⟩⟩
      case round =>
        obtain ⟨y, rfl, hcase⟩ := hrel
        obtain ⟨b1, o1, cap1, e1, -, -, c0, c1⟩ := HC.out
        cases e1
        rcases hcase with ⟨rfl, rfl⟩ | ⟨rfl, rfl⟩ | ⟨rfl, rfl⟩
        · by_cases hle : a ≤ (k : Int)
          · obtain ⟨d, hd⟩ : ∃ d : Nat, (k : Int) - a = d := ⟨((k : Int) - a).toNat, by omega⟩
            have hdk : d < k := by omega
            have hdI : (d : Int) < (k : Int) := by omega
            have hd0 : (0 : Int) ≤ (d : Int) := by omega
            have hwd : IntKind.i64.wrap ((k : Int) - a) = (d : Int) := by rw [hd]; exact IntWalk.i64_in _ (by omega)
            obtain ⟨b2, o2, cap2, e2, -, -, gd, -⟩ := ints_at HAT.out (k := d) (by rw [tab_len]; exact hdk)
            rw [tab_len] at e2
            cases e2
            obtain ⟨z, hz⟩ : ∃ z, (tab a b k).getD d 0 = z := ⟨_, rfl⟩
            rw [hz] at gd
            have HX := hide (show wst1 (tab a b k) a k = min (k : Int) z by
              unfold wst1
              rw [if_pos hle, hd]
              simp [← hz])
            clear hz hd
            go_wp2_with fail
            go_round
            case rel => exact ⟨_, by rw [HX.out], .inr (.inl ⟨rfl, rfl⟩)⟩
            case measure => simp [intOf]
          · have HX := hide (show wst1 (tab a b k) a k = k by unfold wst1; rw [if_neg hle])
            go_wp2_with fail
            go_round
            case rel => exact ⟨_, rfl, .inr (.inl ⟨rfl, HX.out.symm⟩)⟩
            case measure => simp [intOf]
        · by_cases hle : b ≤ (k : Int)
          · obtain ⟨d, hd⟩ : ∃ d : Nat, (k : Int) - b = d := ⟨((k : Int) - b).toNat, by omega⟩
            have hdk : d < k := by omega
            have hdI : (d : Int) < (k : Int) := by omega
            have hd0 : (0 : Int) ≤ (d : Int) := by omega
            have hwd : IntKind.i64.wrap ((k : Int) - b) = (d : Int) := by rw [hd]; exact IntWalk.i64_in _ (by omega)
            obtain ⟨b2, o2, cap2, e2, -, -, gd, -⟩ := ints_at HAT.out (k := d) (by rw [tab_len]; exact hdk)
            rw [tab_len] at e2
            cases e2
            obtain ⟨z, hz⟩ : ∃ z, (tab a b k).getD d 0 = z := ⟨_, rfl⟩
            obtain ⟨x1, hx1⟩ : ∃ x1, wst1 (tab a b k) a k = x1 := ⟨_, rfl⟩
            rw [hz] at gd
            have HX := hide (show wst2 (tab a b k) a b k = min x1 z by
              unfold wst2
              rw [if_pos hle, hd, hx1]
              simp [← hz])
            have HX1 := hide hx1
            rw [hx1]
            clear hz hd hx1
            go_wp2_with fail
            go_round
            case rel => exact ⟨_, by rw [HX.out], .inr (.inr ⟨rfl, rfl⟩)⟩
            case measure => simp [intOf]
          · have HX := hide (show wst2 (tab a b k) a b k = wst1 (tab a b k) a k by unfold wst2; rw [if_neg hle])
            go_wp2_with fail
            go_round
            case rel => exact ⟨_, rfl, .inr (.inr ⟨rfl, HX.out.symm⟩)⟩
            case measure => simp [intOf]
        · obtain ⟨z, hz⟩ : ∃ z, wst2 (tab a b k) a b k = z := ⟨_, rfl⟩
          have HT := hide (show tab a b (k + 1) = tab a b k ++ [z] by rw [← hz]; rfl)
          rw [hz]
          clear hz
          go_wp2_with (at_builtin; refine wpList_append_view rfl _ _ 27 rfl w.heap.size 3 j0 (.int .i64 0) 1 8 Tryz.underlying27 hj0 hy0 hj1 hj2 rfl (by decide) _ _ _ rfl (HO.out.alloc _) (.slice (some ⟨wo.heap.size, 0, none⟩) 1 1) 1 [.int .i64 z] rfl ?c0 ?c1 ?c2 ?c3 ?_)
          case c0 => simpa using Source.lit wo [.int .i64 z] 1 3 1 rfl (fun u hu => by simp at hu; subst hu; rfl) 1
          case c1 => unfold maxLen; omega
          case c2 => omega
          case c3 => first | omega | (simp; omega)
          intro v2 w2 hown2 hgrow2 _
          have hb2 : Below w.heap.size w w2 := (HB.out.alloc hzr _).trans (Below.grow hgrow2 (HO.out.alloc _) (Nat.le_refl _) (by simp; omega))
          have HB2 := hide hb2
          have HO2 := hide (show w2.ownsRow w.heap.size 3 1 v2 (k + 1) (flatI (tab a b (k + 1))) by rw [HT.out]; simpa [flatI] using hown2)
          clear hown2 hgrow2 hb2
          go_wp2_with fail
          go_roundw
          case rel => exact ⟨k + 1, by omega, by go_num, HB2.out, HO2.out⟩
          case measure => simp [intOf]; omega
    · obtain rfl : k = L + 1 := by omega
      clear hb
      have hkk : ¬ ((L + 1 : Nat) : Int) ≤ (L : Int) := by omega
      go_wp2_with fail
      go_ret
      exact ⟨_, rfl, by rw [tab_len]; exact HO.out, HB.out⟩
set_option maxHeartbeats 1600000 in
theorem cutLeast_spec (v : Value) (a b : Int) (lo hi L : Nat) (hL : L ≤ 60) (w : World) (H : IntsAt lo hi w v [a, b]) :
    Calls Tryz.prog 207 #[.int .i64 (L : Int), v] w fun e w' => ∃ x : Int, e = .returned (.int .i64 x) ∧ (lensB a b = false → x = -1) ∧ (lensB a b = true → 0 ≤ x) ∧ Below w.heap.size w w' := by
  have HH := hide H
  have hl := fun (W : World) (k : Below w.heap.size w W) => lens_spec v a b lo hi W (H.below k)
  obtain ⟨b0, o0, cap, rfl, -, -, -, -⟩ := two_at H
  have hq := fun W => l1In_any (L : Int) 0 60 W
  rw [show wi (L : Int) 0 60 = true from wi_iff.2 (by omega)] at hq
  cases hv : lensB a b with
  | false =>
    rw [hv] at hl
    have HL := hide hl
    clear hl hv H hq
    go_enter Tryz.func207, Tryz.ntmps207
    go_wp2_with fail
    refine (HL.out w (Below.refl _ _)).mono ?_
    rintro e w1 ⟨rfl, hb⟩
    have HB := hide hb
    clear hb
    go_wp2_with fail
    go_ret
    exact ⟨-1, rfl, fun _ => rfl, (fun h => by cases h), HB.out⟩
  | true =>
    have HTS := hide (fun (W : World) (k : Below w.heap.size w W) => table_spec (.slice (some ⟨b0, o0, none⟩) 2 cap) a b lo hi L hL hv W (H.below k))
    have HTB := hide (tab_bd (a := a) (b := b) (L + 1) L (Nat.lt_succ_self L))
    rw [hv] at hl
    have HL := hide hl
    have HQ := hide hq
    clear hl hv H hq
    go_enter Tryz.func207, Tryz.ntmps207
    go_wp2_with fail
    refine (HL.out w (Below.refl _ _)).mono ?_
    rintro e w1 ⟨rfl, hb⟩
    have HB := hide hb
    clear hb
    go_wp2_with fail
    refine (HQ.out w1).mono ?_
    rintro e w2 ⟨rfl, rfl⟩
    go_wp2_with fail
    refine (HTS.out w1 HB.out).mono ?_
    rintro e w3 ⟨v3, rfl, hown, hb⟩
    have HB3 := hide (Below.step HB.out hb (Nat.le_refl _))
    have hat := ownI_at hown rfl hb.size
    obtain ⟨b3, o3, cap3, rfl, -, -, g3, -⟩ := ints_at hat (k := L) (by rw [tab_len]; omega)
    obtain ⟨x, hx⟩ : ∃ x, (tab a b (L + 1)).getD L 0 = x := ⟨_, rfl⟩
    rw [hx] at g3
    have HX := hide hx
    obtain ⟨n, hn⟩ : ∃ n, (tab a b (L + 1)).length = n := ⟨_, rfl⟩
    rw [hn]
    have hn2 := hn
    rw [tab_len] at hn2
    have hLn : (L : Int) < (n : Int) := by omega
    have hL0 : (0 : Int) ≤ (L : Int) := by omega
    clear hb hown hat hx hn hn2
    go_wp2_with fail
    go_ret
    exact ⟨x, rfl, (fun h => by cases h), fun _ => by have := HTB.out.1; rw [HX.out] at this; exact this, HB3.out⟩
end Go.Proofs.YtmemgbklgcjobaaGreatDoor
namespace Go.Proofs.YtmemgbklgcjobaaGreatDoor
theorem own : ownKnob Tryz.prog.godebug = none := by kernel_rfl
theorem laidOut : laidOutB Tryz.prog = true := by kernel_rfl
theorem may_ok : Tryz.pinned.checked.prog.mayEnter = true := by kernel_rfl
theorem lifts_ok : (Rows.fnMillValidRow.lifted == Tryz.pinned.checked.prog.liftsFinal) = true := by kernel_rfl
theorem make_ok : (Tryz.pinned.checked.prog.make == some Rows.fnMillValidRow.make) = true := by kernel_rfl
end Go.Proofs.YtmemgbklgcjobaaGreatDoor
