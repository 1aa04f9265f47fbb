/-
  Parts of the proof, of 5 texts: what Has, Spot, MillC, CutC, CutN show. Conditions: each theorem states its own.
-/
import Derived.Deep.RegionWith
import Derived.Test.YtajjnciookhamaaGreatM16
import Derived.Test.YtajjnciookhamaaGreatM13
import Derived.Test.YtajjnciookhamaaGreatM04
import Derived.Test.YtajjnciookhamaaGreatM05
import Derived.Test.YtajjnciookhamaaGreatM19
import Derived.Test.YtajjnciookhamaaGreatM11
import Derived.Test.YtajjnciookhamaaGreatM18
namespace Go.Proofs.YtajjnciookhamaaGreat
open Go.RowKit
set_option maxRecDepth 10000 in
set_option maxHeartbeats 1600000 in
theorem has_any (b : Nat) (p : Value) (m : Mi) (id st : Int) (w : World) (hp : PcAt 0 w.heap.size w p m.pieces) (hc : w.cell? ⟨b, 8, none⟩ = some p) (hl : m.pieces.length ≤ 1000000) :
    Calls Tryz.prog 86 #[.pointer (some ⟨b, 0, none⟩), .int .i64 id, .int .i64 st] w fun e w' => e = .returned (.bool (hasB m id st)) ∧ w = w' := by
  have HP := hide hp
  have hp2 := hp
  obtain ⟨ap, cp, rfl, -, -, -, -⟩ := hp2
  clear hp
  have hW := fun W => within_any id 1 (m.pieces.length : Int) W
  by_cases hi : wi id 1 (m.pieces.length : Int) = true
  · have HI := hide hi
    rw [hi] at hW
    obtain ⟨h1, h2⟩ := wi_iff.1 hi
    obtain ⟨k, rfl⟩ : ∃ k : Nat, id = k + 1 := ⟨(id - 1).toNat, by omega⟩
    have hk : k < m.pieces.length := by omega
    obtain ⟨b2, o, cp2, e, -, -, c0, c1⟩ := pc_at HP.out hk
    cases e
    have hsub : IntKind.i64.wrap ((k : Int) + 1 - 1) = (k : Int) := by rw [show (k : Int) + 1 - 1 = (k : Int) by omega]; exact IntWalk.i64_in _ (by omega)
    have hkI : (k : Int) < (m.pieces.length : Int) := by omega
    have HW := hide hW
    clear hW hi
    go_enter Tryz.func86, Tryz.ntmps86
    have hj0 : (0 : Int) ≤ (k : Int) := by omega
    go_wp2_with fail
    refine (HW.out w).mono ?_
    rintro e w1 ⟨rfl, rfl⟩
    go_wp2_with fail
    go_ret
    have hg : hasB m ((k : Int) + 1) st = (m.pieces[k].s == st) := by
      have : ((k : Int) + 1 - 1).toNat = k := by omega
      simp [hasB, HI.out, hk]
    simp [hg]
  · have hi' : wi id 1 (m.pieces.length : Int) = false := by simpa using hi
    rw [hi'] at hW
    have HI := hide hi'
    have HW := hide hW
    clear hW hi hi'
    go_enter Tryz.func86, Tryz.ntmps86
    go_wp2_with fail
    refine (HW.out w).mono ?_
    rintro e w1 ⟨rfl, rfl⟩
    go_wp2_with fail
    go_ret
    simp [hasB, HI.out]
set_option maxRecDepth 10000 in
set_option maxHeartbeats 1600000 in
theorem state_any (s p l h : Value) (m : Mi) (id st : Int) (w : World) (HM : MillIn 0 w.heap.size w s p l h m) (hl : m.pieces.length ≤ 1000000) :
    Calls Tryz.prog 26 #[millV s p l h m, .int .i64 id, .int .i64 st] w fun e w' => e = .returned (.bool (hasB m id st)) ∧ Below w.heap.size w w' := by
  have hp := HM.pieces
  have HP := hide hp
  have hp2 := hp
  have HMM := hide HM
  clear HM
  unfold millV
  obtain ⟨ap, cp, rfl, -, -, -, -⟩ := hp2
  clear hp
  have hW := fun W => l1In_any id 1 (m.pieces.length : Int) W
  by_cases hi : wi id 1 (m.pieces.length : Int) = true
  · have HI := hide hi
    rw [hi] at hW
    obtain ⟨h1, h2⟩ := wi_iff.1 hi
    obtain ⟨k, rfl⟩ : ∃ k : Nat, id = k + 1 := ⟨(id - 1).toNat, by omega⟩
    have hk : k < m.pieces.length := by omega
    obtain ⟨b2, o, cp2, e, -, hb2, c0, c1⟩ := pc_at HP.out hk
    cases e
    have hsub : IntKind.i64.wrap ((k : Int) + 1 - 1) = (k : Int) := by rw [show (k : Int) + 1 - 1 = (k : Int) by omega]; exact IntWalk.i64_in _ (by omega)
    have hkI : (k : Int) < (m.pieces.length : Int) := by omega
    have HW := hide hW
    clear hW hi
    go_enter Tryz.func26, Tryz.ntmps26
    have hj0 : (0 : Int) ≤ (k : Int) := by omega
    go_wp2_with fail
    refine (HW.out _).mono ?_
    rintro e w1 ⟨rfl, rfl⟩
    go_wp2_with fail
    go_ret
    have hg : hasB m ((k : Int) + 1) st = (m.pieces[k].s == st) := by
      have : ((k : Int) + 1 - 1).toNat = k := by omega
      simp [hasB, HI.out, hk]
    exact ⟨by simp [hg], by go_grown⟩
  · have hi' : wi id 1 (m.pieces.length : Int) = false := by simpa using hi
    rw [hi'] at hW
    have HI := hide hi'
    have HW := hide hW
    clear hW hi hi'
    go_enter Tryz.func26, Tryz.ntmps26
    go_wp2_with fail
    refine (HW.out _).mono ?_
    rintro e w1 ⟨rfl, rfl⟩
    go_wp2_with fail
    go_ret
    exact ⟨by simp [hasB, HI.out], by go_grown⟩
end Go.Proofs.YtajjnciookhamaaGreat
namespace Go.Proofs.YtajjnciookhamaaGreat
open Go.RowKit
theorem spotN_spec (n : Int) (w : World) (h1 : 0 ≤ n) (h2 : n ≤ 9223372036854775807) :
    Calls Tryz.prog 28 #[.int .i64 n] w fun e w' => e = .returned (.agg #[.bool (spotTop n), .int .i64 (spotPlace n)]) ∧ Below w.heap.size w w' := by
  have hneg : ¬ n < 0 := by omega
  go_enter Tryz.func28, Tryz.ntmps28
  go_wp2
  go_returns
  exact ⟨by simp [spotTop, spotPlace, hneg] <;> omega, by go_grown⟩
theorem spotN_impl (n : Int) (w : World) (h1 : 0 ≤ n) (h2 : n ≤ 9223372036854775807) :
    Calls Tryz.prog 88 #[.int .i64 n] w fun e w' => e = .returned (.agg #[.bool (spotTop n), .int .i64 (spotPlace n)]) ∧ Below w.heap.size w w' := by
  have hneg : ¬ n < 0 := by omega
  go_enter Tryz.func88, Tryz.ntmps88
  go_wp2
  go_returns
  exact ⟨by simp [spotTop, spotPlace, hneg] <;> omega, by go_grown⟩
end Go.Proofs.YtajjnciookhamaaGreat
namespace Go.Proofs.YtajjnciookhamaaGreat
open Go.RowKit
theorem equal_any (v v' : Value) (xs ys : List Int) (lo hi lo' hi' : Nat) (w : World) (h : IntsAt lo hi w v xs) (h' : IntsAt lo' hi' w v' ys) :
    Calls Tryz.prog 74 #[v, v'] w fun e w' => e = .returned (.bool (decide (xs = ys))) ∧ Below w.heap.size w w' := by
  have h1 := h.len
  have h2 := h'.len
  obtain ⟨ao, cap, rfl, -, -, -, hc⟩ := h
  obtain ⟨ao', cap', rfl, -, -, -, hc'⟩ := h'
  by_cases hl : xs.length = ys.length
  · rcases Nat.eq_zero_or_pos xs.length with h0 | h0
    · have e1 : xs = [] := List.eq_nil_of_length_eq_zero h0
      have e2 : ys = [] := List.eq_nil_of_length_eq_zero (by omega)
      subst e1 e2
      exact (Tryz.slices_Equal_int_empty ao ao' cap 0 cap' w (by omega)).mono fun e w' ⟨he, hw⟩ => ⟨by rw [List.length_nil] at *; rw [he]; rfl, by rw [hw]; exact Below.refl _ _⟩
    · obtain ⟨b, o, rfl, -, -, hcs⟩ := hc h0
      obtain ⟨b', o', rfl, -, -, hcs'⟩ := hc' (by omega)
      refine (Tryz.slices_Equal_int b o xs.length cap b' o' ys.length cap' xs ys w (Nat.le_refl _) (Nat.le_refl _) h1 h2 (fun j hj => by rw [(hcs j hj).1, getD_eq hj]) (fun j hj => by rw [(hcs' j hj).1, getD_eq hj])).mono ?_
      rintro e w' ⟨he, q, hw⟩
      refine ⟨?_, by rw [hw]; exact below_drewN (Below.refl _ _) _⟩
      rw [he, List.take_of_length_le (Nat.le_refl _), List.take_of_length_le (Nat.le_refl _)]
      congr 2
      rw [Bool.eq_iff_iff]; simp
  · exact (Tryz.slices_Equal_int_lens ao ao' xs.length cap ys.length cap' w hl).mono fun e w' ⟨he, hw⟩ => ⟨by rw [he]; have : xs ≠ ys := fun e => hl (by rw [e]); simp [this], by rw [hw]; exact Below.refl _ _⟩
set_option maxRecDepth 10000 in
set_option maxHeartbeats 800000 in
theorem idsIn_any (p : Value) (ps : List Pc) (st : Int) (lo hi : Nat) (w : World) (H : PcAt lo hi w p ps) (hl : ps.length ≤ 1000000) :
    Calls Tryz.prog 75 #[p, .int .i64 st] w (IntsNew w.heap.size (idsIn ps st) w) := by
  obtain ⟨ao, cap, rfl, hlc, hcap, hhi, hc⟩ := H
  have HC := hide hc
  obtain ⟨i0, hi0, hz0, hi1, hi2⟩ := info_parts info_int
  clear hc
  go_enter Tryz.func75, Tryz.ntmps75
  go_wp2_with fail
  go_loopw [5, 6, 7, 10] (fun o _ _ i wr => ∃ k : Nat, k ≤ ps.length ∧ i = .int .i64 k ∧ Below w.heap.size w wr ∧ wr.ownsRow w.heap.size 3 1 o (idsTo ps st k).length (flatI (idsTo ps st k))) (fun _ _ _ i _ => ps.length - (intOf i).toNat)
  case atStart => exact ⟨0, Nat.zero_le _, rfl, Below.refl _ _, World.ownsRow_nil _ _ _ _⟩
  case round =>
    obtain ⟨k, hk, rfl, hb, hown⟩ := hrel
    have HB := hide hb
    have HO := hide hown
    have hnl := idsTo_len ps st k
    have hszr := hb.size
    obtain ⟨aow, capw, rfl, -, -⟩ := own_slice hown
    clear hown
    by_cases hlt : k < ps.length
    · obtain ⟨b, o, rfl, hx1, hx2, hcs⟩ := HC.out (by omega)
      obtain ⟨⟨r1, r2⟩, -⟩ := hcs k hlt
      rw [← hb.cell (p := ⟨b, _, none⟩) (by simpa using by omega)] at r1 r2
      have hg : ps.getD k pc0 = ps[k] := by simp [hlt]
      have hN : idsTo ps st (k + 1) = if ps[k].s == st then idsTo ps st k ++ [(k : Int) + 1] else idsTo ps st k := by rw [idsTo, hg]
      have HN := hide hN
      obtain ⟨x, hx⟩ : ∃ x, ps[k].s = x := ⟨_, rfl⟩
      obtain ⟨y, hy⟩ : ∃ y, ps[k].l = y := ⟨_, rfl⟩
      rw [hx] at r2 HN
      rw [hy] at r1
      have hkI : (k : Int) < (ps.length : Int) := by omega
      clear hcs hx hy hb hg hN
      cases hq : (x == st) with
      | false =>
        have HN2 := hide (show idsTo ps st (k + 1) = idsTo ps st k by rw [HN.out, hq]; rfl)
        go_wp2_with fail
        go_roundw
        case rel => exact ⟨k + 1, by omega, by go_num, HB.out.alloc hszr _, by rw [HN2.out]; exact HO.out.alloc _⟩
        case measure => simp [intOf]; omega
      | true =>
        have HN2 := hide (show idsTo ps st (k + 1) = idsTo ps st k ++ [(k : Int) + 1] by rw [HN.out, hq]; rfl)
        go_wp2_with (at_builtin; refine wpList_append_view rfl _ _ 26 rfl w.heap.size 3 i0 (.int .i64 0) 1 8 Tryz.underlying26 hi0 hz0 hi1 hi2 rfl (by decide) _ _ _ rfl ((HO.out.alloc _).alloc _) (.slice (some ⟨wr.heap.size + 1, 0, none⟩) 1 1) 1 [.int .i64 ((k : Int) + 1)] rfl ?c0 ?c1 ?c2 ?c3 ?_)
        case c0 => simpa using Source.lit (World.alloc wr _) [.int .i64 ((k : Int) + 1)] 1 3 1 rfl (fun u hu => by simp at hu; subst hu; rfl) 1
        case c1 => unfold maxLen; omega
        case c2 => omega
        case c3 => simp; omega
        intro v2 w3 hown2 hgrow2 _
        have hB3 := ((HB.out.alloc hszr (.cells #[.int .i64 y, .int .i64 x] 71)).alloc (by simp; omega) (.cells #[.int .i64 ((k : Int) + 1)] 3)).trans (Below.grow hgrow2 ((HO.out.alloc _).alloc _) (Nat.le_refl _) (by simp; omega))
        have HB3 := hide hB3
        have HO3 := hide (show w3.ownsRow w.heap.size 3 1 v2 (idsTo ps st (k + 1)).length (flatI (idsTo ps st (k + 1))) by rw [HN2.out]; simpa [flatI] using hown2)
        clear hown2 hgrow2 hB3
        go_wp2_with fail
        go_roundw
        case rel => exact ⟨k + 1, by omega, by go_num, HB3.out, HO3.out⟩
        case measure => simp [intOf]; omega
    · obtain rfl : k = ps.length := by omega
      go_wp2_with fail
      go_ret
      exact ⟨_, rfl, HO.out, HB.out⟩
end Go.Proofs.YtajjnciookhamaaGreat
namespace Go.Proofs.YtajjnciookhamaaGreat
open Go.RowKit
set_option linter.unusedSimpArgs false in
set_option maxRecDepth 10000 in
set_option maxHeartbeats 1600000 in
theorem cutBest_spec (v : Value) (a b : Int) (lo hi L : Nat) (hL : L ≤ 60) (hv : lensB a b = true) (w : World) (H : IntsAt lo hi w v [a, b]) :
    Calls Tryz.prog 63 #[.int .i64 (L : Int), v] w (IntsNew w.heap.size (manyL L a b) w) := by
  have HH := hide H
  have HV := hide hv
  have hlt := H.lt
  obtain ⟨⟨ha1, ha2⟩, hb1, hb2⟩ := lensB_iff.1 hv
  obtain ⟨hn0, hn1⟩ := many_60 hv hL
  obtain ⟨b0, o0, cap, rfl, h1, h2, -, -⟩ := two_at H
  have hmk : ∀ W : World, (Instr.makeSlice 26 (.int .i64 2) (.int .i64 2)).run Tryz.prog W = .ok (.slice (some ⟨W.heap.size, 0, none⟩) 2 2) (W.alloc (.cells (madeCells #[.int .i64 0] 2) 3)) := fun W =>
    make_rowN (P := Tryz.prog) 26 3 _ _ _ Tryz.underlying26 info_int .i64 .i64 2 (by omega) (by omega) W
  have hs1 : CutSt (tab a b (L + 1)) L b (many1 L a b) 0 L := CutSt.start
  have hnx : ∀ l : Int, CutSt (tab a b (L + 1)) L b (many1 L a b) (many1 L a b) l → l = L - many1 L a b * b → CutSt (tab a b (L + 1)) L a (many0 L a b) 0 l := fun l => CutSt.next
  have HC := hide (fun (W : World) (k : Below w.heap.size w W) => cutLeast_spec (.slice (some ⟨b0, o0, none⟩) 2 cap) a b lo hi L hL W (H.below k))
  have HT := hide (fun (W : World) (k : Below w.heap.size w W) => table_spec (.slice (some ⟨b0, o0, none⟩) 2 cap) a b lo hi L hL hv W (H.below k))
  clear H hv
  go_enter Tryz.func63, Tryz.ntmps63
  go_wp2_with fail
  refine (HC.out w (Below.refl _ _)).mono ?_
  rintro e w0 ⟨x, rfl, -, hx, hb0⟩
  have hx0 : ¬ x < 0 := by have := hx HV.out; omega
  have HB0 := hide hb0
  clear hx hb0
  go_wp2_with fail
  refine (HT.out w0 HB0.out).mono ?_

  rintro e w2 ⟨v1, rfl, hown, hb2⟩
  have hb2 := Below.step HB0.out hb2 (Nat.le_refl _)
  have hown := ownsRow_mono hown HB0.out.size
  have hz2 := hb2.size
  have HB2 := hide hb2
  have h12 := ownI_at hown rfl (by omega)
  obtain ⟨T, hT⟩ : ∃ T, tab a b (L + 1) = T := ⟨_, rfl⟩
  have HTL := hide (show T.length = L + 1 by rw [← hT, tab_len])
  rw [hT] at h12 hs1 hnx
  have HS1 := hide hs1
  have HNX := hide hnx
  have HI := hide h12
  obtain ⟨ao1, cap1, rfl, -⟩ := h12
  clear hown hb2 hT hs1 hnx
  go_wp2_with fail
  clear hmk
  obtain ⟨G, hG⟩ : ∃ G, w2.heap.size = G := ⟨_, rfl⟩
  obtain ⟨wa, hwa⟩ : ∃ wa, wa = w2.alloc (.cells (madeCells #[.int .i64 0] 2) 3) := ⟨_, rfl⟩
  have HR := hide (show Row2 wa G 0 0 by
    rw [← hG, hwa]
    exact ⟨_, World.rowIs_made w2 (.int .i64 0) 2 3, rfl, rfl⟩)
  have HB := hide (show Below w2.heap.size w2 wa by rw [hwa]; exact (Below.refl _ _).alloc (Nat.le_refl _) _)
  rw [← hwa, hG]
  have HGZ := hide hG
  have hbG : b0 ≠ G := by omega
  have hGb : G ≠ b0 := by omega
  clear hwa hG
  go_loopw [7, 8] (fun left i wr => Below w2.heap.size w2 wr ∧ ((i = .int .i64 1 ∧ left = .int .i64 (L : Int) ∧ Row2 wr G 0 0) ∨ (∃ l : Int, i = .int .i64 0 ∧ left = .int .i64 l ∧ CutSt T L a (many0 L a b) 0 l ∧ Row2 wr G 0 (many1 L a b)) ∨ (i = .int .i64 (-1) ∧ Row2 wr G (many0 L a b) (many1 L a b)))) (fun _ i _ => (intOf i + 1).toNat)
  case atStart => exact ⟨HB.out, .inl ⟨rfl, rfl, HR.out⟩⟩
  case round =>
    obtain ⟨hb, hcase⟩ := hrel
    clear HB HR
    have HB := hide hb
    obtain ⟨wo, rfl⟩ : ∃ wo : World, wo = wr := ⟨_, rfl⟩
    rcases hcase with ⟨rfl, rfl, hr⟩ | ⟨l, rfl, rfl, hst, hr⟩ | ⟨rfl, hr⟩
    · have HR := hide hr
      clear hr hb
      go_wp2_with fail
      go_loopw [7] (fun left wr => ∃ (c : Nat) (l : Int), left = .int .i64 l ∧ Below w2.heap.size w2 wr ∧ CutSt T L b (many1 L a b) c l ∧ Row2 wr G 0 c ∧ l = L - c * b) (fun left _ => (intOf left).toNat)
      case atStart => exact ⟨0, _, rfl, HB.out, HS1.out, HR.out, by simp⟩
      case round =>
        obtain ⟨c, l, rfl, hb, hst, hrow, hlx⟩ := hrel
        have HB := hide hb
        have HC := hide hst
        have HR := hide hrow
        have HLX := hide hlx
        obtain ⟨b1, o1, cap1, e1, -, -, c0, c1⟩ := two_at (HH.out.below (HB2.out.trans (hb.mono hz2)))
        cases e1
        obtain ⟨g0, g1, f0, f1, hGz⟩ := hrow.cell
        have hl0 := hst.pos
        have hl1 := hst.le
        have HAT := hide (HI.out.below hb)
        clear hb hst hrow hlx
        by_cases hle : b ≤ l
        · obtain ⟨d, hd⟩ : ∃ d : Nat, l - b = d := ⟨(l - b).toNat, by omega⟩
          have hwd : IntKind.i64.wrap (l - b) = (d : Int) := by rw [hd]; exact IntWalk.i64_in _ (by omega)
          have hTl := HTL.out
          have hdT : (d : Int) < (T.length : Int) := by omega
          have hd0 : (0 : Int) ≤ (d : Int) := by omega
          obtain ⟨q, rfl⟩ : ∃ q : Nat, l = q := ⟨l.toNat, by omega⟩
          have hLT : (q : Int) < (T.length : Int) := by omega
          have hL0 : (0 : Int) ≤ (q : Int) := by omega
          obtain ⟨b3, o3, cap3, e3, -, -, gL, -⟩ := ints_at HAT.out (k := q) (by omega)
          cases e3
          obtain ⟨b4, o4, cap4, e4, -, -, gd, -⟩ := ints_at HAT.out (k := d) (by omega)
          cases e4
          obtain ⟨y, hy⟩ : ∃ y, T.getD d 0 = y := ⟨_, rfl⟩
          obtain ⟨z, hz⟩ : ∃ z, T.getD q 0 = z := ⟨_, rfl⟩
          rw [hy] at gd
          rw [hz] at gL
          have HM := hide (show moreB T b (q : Int) = (y == z) by
            unfold moreB
            rw [hd, show ((d : Int)).toNat = d by omega, hy, show ((q : Int)).toNat = q by omega, hz]
            simp [hle])
          have HD := hide hd
          clear hy hz hd hTl
          by_cases hyz : y = z
          · subst hyz
            have HM2 := HC.out.more (by omega) (HM.out.trans (by simp))
            rw [HD.out] at HM2
            obtain ⟨hst2, -, hcn⟩ := HM2
            have hw1 : IntKind.i64.wrap ((c : Int) + 1) = ((c + 1 : Nat) : Int) := by rw [show (c : Int) + 1 = ((c + 1 : Nat) : Int) by omega]; exact IntWalk.i64_in _ (by omega)
            have HST := hide hst2
            clear hst2 HM HC
            go_wp2_with fail
            go_quiet (fail)
            go_wp2_with fail
            go_roundw
            case rel => exact ⟨c + 1, d, rfl, (below_drewN HB.out _).setCell (by have := HGZ.out; show w2.heap.size ≤ G; omega) _, HST.out, by simpa using Row2.drewN HR.out _ |>.set1 (c + 1), by have h1 := HLX.out; have h2 := HD.out; rw [Int.natCast_add, Int.add_mul]; omega⟩
            case measure => have hD := HD.out; simp [intOf]; omega
          · obtain rfl := HC.out.done (HM.out.trans (by simpa using hyz))
            have hyzb : (y == z) = false := by simpa using hyz
            clear HM
            go_wp2_with fail
            go_quiet (fail)
            go_wp2_with fail
            go_roundw
            case rel => exact ⟨below_drewN HB.out _, .inr (.inl ⟨_, rfl, rfl, HNX.out _ HC.out HLX.out, Row2.drewN HR.out _⟩)⟩
            case measure => simp [intOf]
        · obtain rfl := HC.out.done (show moreB T b l = false by unfold moreB; simp [hle])
          have hleb : decide (b ≤ l) = false := by simpa using hle
          go_wp2_with fail
          go_quiet (fail)
          go_wp2_with fail
          go_roundw
          case rel => exact ⟨below_drewN HB.out _, .inr (.inl ⟨l, rfl, rfl, HNX.out l HC.out HLX.out, Row2.drewN HR.out _⟩)⟩
          case measure => simp [intOf]
    · have HR := hide hr
      have HS0 := hide hst
      clear hr hst hb
      go_wp2_with fail
      go_loopw [7] (fun left wr => ∃ (c : Nat) (l : Int), left = .int .i64 l ∧ Below w2.heap.size w2 wr ∧ CutSt T L a (many0 L a b) c l ∧ Row2 wr G c (many1 L a b) ∧ True) (fun left _ => (intOf left).toNat)
      case atStart => exact ⟨0, _, rfl, HB.out, HS0.out, HR.out, trivial⟩
      case round =>
        obtain ⟨c, l, rfl, hb, hst, hrow, hlx⟩ := hrel
        have HB := hide hb
        have HC := hide hst
        have HR := hide hrow
        have HLX := hide hlx
        obtain ⟨b1, o1, cap1, e1, -, -, c0, c1⟩ := two_at (HH.out.below (HB2.out.trans (hb.mono hz2)))
        cases e1
        obtain ⟨g0, g1, f0, f1, hGz⟩ := hrow.cell
        have hl0 := hst.pos
        have hl1 := hst.le
        have HAT := hide (HI.out.below hb)
        clear hb hst hrow hlx
        by_cases hle : a ≤ l
        · obtain ⟨d, hd⟩ : ∃ d : Nat, l - a = d := ⟨(l - a).toNat, by omega⟩
          have hwd : IntKind.i64.wrap (l - a) = (d : Int) := by rw [hd]; exact IntWalk.i64_in _ (by omega)
          have hTl := HTL.out
          have hdT : (d : Int) < (T.length : Int) := by omega
          have hd0 : (0 : Int) ≤ (d : Int) := by omega
          obtain ⟨q, rfl⟩ : ∃ q : Nat, l = q := ⟨l.toNat, by omega⟩
          have hLT : (q : Int) < (T.length : Int) := by omega
          have hL0 : (0 : Int) ≤ (q : Int) := by omega
          obtain ⟨b3, o3, cap3, e3, -, -, gL, -⟩ := ints_at HAT.out (k := q) (by omega)
          cases e3
          obtain ⟨b4, o4, cap4, e4, -, -, gd, -⟩ := ints_at HAT.out (k := d) (by omega)
          cases e4
          obtain ⟨y, hy⟩ : ∃ y, T.getD d 0 = y := ⟨_, rfl⟩
          obtain ⟨z, hz⟩ : ∃ z, T.getD q 0 = z := ⟨_, rfl⟩
          rw [hy] at gd
          rw [hz] at gL
          have HM := hide (show moreB T a (q : Int) = (y == z) by
            unfold moreB
            rw [hd, show ((d : Int)).toNat = d by omega, hy, show ((q : Int)).toNat = q by omega, hz]
            simp [hle])
          have HD := hide hd
          clear hy hz hd hTl
          by_cases hyz : y = z
          · subst hyz
            have HM2 := HC.out.more (by omega) (HM.out.trans (by simp))
            rw [HD.out] at HM2
            obtain ⟨hst2, -, hcn⟩ := HM2
            have hw1 : IntKind.i64.wrap ((c : Int) + 1) = ((c + 1 : Nat) : Int) := by rw [show (c : Int) + 1 = ((c + 1 : Nat) : Int) by omega]; exact IntWalk.i64_in _ (by omega)
            have HST := hide hst2
            clear hst2 HM HC
            go_wp2_with fail
            go_quiet (fail)
            go_wp2_with fail
            go_roundw
            case rel => exact ⟨c + 1, d, rfl, (below_drewN HB.out _).setCell (by have := HGZ.out; show w2.heap.size ≤ G; omega) _, HST.out, by simpa using Row2.drewN HR.out _ |>.set0 (c + 1), trivial⟩
            case measure => have hD := HD.out; simp [intOf]; omega
          · obtain rfl := HC.out.done (HM.out.trans (by simpa using hyz))
            have hyzb : (y == z) = false := by simpa using hyz
            clear HM
            go_wp2_with fail
            go_quiet (fail)
            go_wp2_with fail
            go_roundw
            case rel => exact ⟨below_drewN HB.out _, .inr (.inr ⟨rfl, Row2.drewN HR.out _⟩)⟩
            case measure => simp [intOf]
        · obtain rfl := HC.out.done (show moreB T a l = false by unfold moreB; simp [hle])
          have hleb : decide (a ≤ l) = false := by simpa using hle
          go_wp2_with fail
          go_quiet (fail)
          go_wp2_with fail
          go_roundw
          case rel => exact ⟨below_drewN HB.out _, .inr (.inr ⟨rfl, Row2.drewN HR.out _⟩)⟩
          case measure => simp [intOf]
    · have HR := hide hr
      clear hr hb
      go_wp2_with fail
      go_ret
      exact ⟨_, rfl, (HR.out.own (base := w.heap.size) (by have := HGZ.out; omega)), HB2.out.trans (HB.out.mono hz2)⟩
end Go.Proofs.YtajjnciookhamaaGreat
namespace Go.Proofs.YtajjnciookhamaaGreat
open Go.RowKit
theorem cutBest_no (v : Value) (a b : Int) (lo hi L : Nat) (hL : L ≤ 60) (hv : lensB a b = false) (w : World) (H : IntsAt lo hi w v [a, b]) :
    Calls Tryz.prog 63 #[.int .i64 (L : Int), v] w fun e w' => ∃ g, e = .returned (.slice (some ⟨g, 0, none⟩) 0 0) ∧ Below w.heap.size w w' := by
  have HC := hide (cutLeast_spec v a b lo hi L hL w H)
  obtain ⟨b0, o0, cap, rfl, h1, h2, -, -⟩ := two_at H
  clear H
  go_enter Tryz.func63, Tryz.ntmps63
  go_wp2_with fail
  refine HC.out.mono ?_
  rintro e w0 ⟨x, rfl, hx, -, hb0⟩
  obtain rfl := hx hv
  have HB := hide hb0
  clear hb0
  go_wp2_with fail
  go_ret
  exact ⟨_, rfl, by have := HB.out; first | exact this.alloc this.size _ | go_grown⟩
end Go.Proofs.YtajjnciookhamaaGreat
