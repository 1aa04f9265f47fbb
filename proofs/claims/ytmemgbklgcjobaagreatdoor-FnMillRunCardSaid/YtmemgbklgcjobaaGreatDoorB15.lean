/-
  Parts of the proofs over mills, of: DrawMB, MixC, MillC. Conditions: each theorem states its own.
-/
import Derived.Sort.OwnSortedInts
import Derived.Test.YtmemgbklgcjobaaGreatDoorB14
set_option linter.unusedSimpArgs false
set_option linter.unusedVariables false
set_option maxRecDepth 10000
namespace Go.Proofs.YtmemgbklgcjobaaGreatDoor
open Go.RowKit
def StuffsGot (R k : Nat) (w : World) (e : Ending) (w' : World) : Prop :=
  ∃ v xs, e = .returned v ∧ xs.length ≤ 4 ∧ stsB xs = true ∧ w'.ownsRow w.heap.size 65 5 v xs.length (flatS xs) ∧ Other R (R + 1) w w' ∧ Rd R (k + 22) w'
theorem stsB_app {xs : List St} {s : St} (h : stsB xs = true) (hl : xs.length ≤ 3) (hs : stB s = true) : stsB (xs ++ [s]) = true := by
  unfold stsB at h ⊢
  simp only [Bool.and_eq_true, decide_eq_true_eq, List.all_append, List.length_append, List.length_cons, List.length_nil, List.all_cons, List.all_nil, Bool.and_true] at h ⊢
  exact ⟨by omega, h.2, hs⟩
set_option maxHeartbeats 800000 in
theorem l20Stuffs_any (R k : Nat) (w : World) (h : Rd R k w) (hk : k ≤ 50000) :
    Calls Tryz.prog 126 #[.pointer (some ⟨R, 0, none⟩), .int .i64 0] w (StuffsGot R k w) := by
  obtain ⟨i0, hi0, hz0, hi1, hi2⟩ := info_parts info_St
  have HR := hide h
  have hlt := h.lt
  clear h
  go_enter Tryz.func126, Tryz.ntmps126
  go_wp2_with fail
  refine calls_at fun wx hwx => ?_
  have O_0 : wx.ownsRow w.heap.size 65 5 (.slice (some ⟨w.heap.size, 0, none⟩) 0 0) 0 [] := by rw [hwx]; simpa using World.ownsRow_lit (e := 65) (size := 5) (base := w.heap.size) w #[] 0 (Nat.le_refl _) (by unfold maxLen; omega) (by simp)
  have hbx : Below w.heap.size w wx := by rw [hwx]; exact (Below.refl _ _).alloc (Nat.le_refl _) _
  have HO0 := hide (Other.of_below (lo := R) (hi := R + 1) hbx)
  have HR0 := hide (HR.out.keep hbx hlt)
  clear hwx hbx
  have HKO := hide (show ∀ (W W' : World) (u : Value) (m : Nat) (cs : List Value), W.ownsRow w.heap.size 65 5 u m cs → Other R (R + 1) W W' → W'.ownsRow w.heap.size 65 5 u m cs from fun _ _ _ _ _ h k => ownsRow_other h k fun g hg => .inr (Nat.lt_of_lt_of_le hlt (h.lt g hg).1))
  refine (pick_in R _ 4 wx HR0.out (by omega) (by omega) (by omega)).mono ?_
  rintro e w1 ⟨x, rfl, x0, x1, ho, hr⟩
  have O_1 := HKO.out _ _ _ _ _ O_0 ho
  have HO1 := hide (HO0.out.trans ho)
  have HR1 := hide hr
  clear ho hr O_0
  go_wp2_with fail
  refine (pick_in R _ 2 w1 HR1.out (by omega) (by omega) (by omega)).mono ?_
  rintro e w2 ⟨y, rfl, y0, y1, ho, hr⟩
  have O_2 := hide (HKO.out _ _ _ _ _ O_1 ho)
  have HO2 := hide (HO1.out.trans ho)
  have HR2 := hide hr
  clear ho hr O_1
  obtain ⟨c, hc, hc4⟩ : ∃ c : Nat, x + y = c ∧ c ≤ 4 := ⟨(x + y).toNat, by omega, by omega⟩
  have hwr : IntKind.i64.wrap (x + y) = (c : Int) := by rw [hc]; exact IntWalk.i64_in _ (by omega)
  go_wp2_with fail
  go_loopw [5, 6] (fun o i wr => ∃ (c : Nat) (xs : List St), i = .int .i64 c ∧ c + xs.length ≤ 4 ∧ stsB xs = true ∧ Rd R (k + 2 + 5 * xs.length) wr ∧ Other R (R + 1) w wr ∧ wr.ownsRow w.heap.size 65 5 o xs.length (flatS xs)) (fun _ i _ => (intOf i).toNat)
  case atStart => exact ⟨c, [], by first | rfl | (rw [hc]) | (simp [hc]), by simp; omega, rfl, HR2.out, HO2.out, O_2.out⟩
  case round =>
    obtain ⟨c, xs, rfl, hcl, hst, hr, hb, hown⟩ := hrel
    have HB := hide hb
    have HO := hide hown
    have HR := hide hr
    have HS := hide hst
    obtain ⟨aow, capw, rfl, -, -⟩ := own_slice hown
    clear hr hb hown hst
    by_cases hc : 0 < c
    · obtain ⟨d, rfl⟩ : ∃ d, c = d + 1 := ⟨c - 1, by omega⟩
      have hcI : (0 : Int) < ((d + 1 : Nat) : Int) := by omega
      go_wp2_with fail
      refine (l20Stuff_any R _ wr HR.out (by omega)).mono ?_
      rintro e w3 ⟨s, rfl, hs, ho, hr3⟩
      have HO3 := hide (HKO.out _ _ _ _ _ HO.out ho)
      have HB3 := hide (HB.out.trans ho)
      have HS3 := hide (stsB_app HS.out (by omega) hs)
      have HR3 := hide hr3
      have hz3 := HB3.out.size
      clear ho hr3 hs
      go_wp2_with (at_builtin; refine wpList_append_view rfl _ _ 23 rfl w.heap.size 65 i0 _ 5 40 Tryz.underlying23 hi0 hz0 hi1 hi2 rfl (by decide) _ _ _ rfl (HO3.out.alloc _) (.slice (some ⟨w3.heap.size, 0, none⟩) 1 1) 1 (flatS [s]) rfl ?c0 ?c1 ?c2 ?c3 ?_)
      case c0 => exact Source.lit w3 (flatS [s]) 5 65 1 rfl (flatS_one _) 1
      case c1 => unfold maxLen; omega
      case c2 => omega
      case c3 => simp; omega
      intro v2 w4 hown2 hgrow2 _
      have hB4 : Below w.heap.size w3 w4 := ((Below.refl _ w3).alloc (by omega) (.cells (flatS [s]).toArray 65)).trans (Below.grow hgrow2 (HO3.out.alloc _) (Nat.le_refl _) (by simp; omega))
      have HB4 := hide (HB3.out.step hB4 (Nat.le_refl _))
      have HR4 := hide ((HR3.out.keep hB4 hlt).mono (m := k + 2 + 5 * (xs ++ [s]).length) (by simp; omega))
      have HO4 := hide (show w4.ownsRow w.heap.size 65 5 v2 (xs ++ [s]).length (flatS (xs ++ [s])) by rw [flatS_append, List.length_append]; exact hown2)
      clear hown2 hgrow2 hB4
      go_wp2_with fail
      go_roundw
      case rel => exact ⟨d, xs ++ [s], by go_num, by simp; omega, HS3.out, HR4.out, HB4.out, HO4.out⟩
      case measure => simp [intOf] <;> omega
    · obtain rfl : c = 0 := by omega
      go_wp2_with fail
      refine (odd_none R wr).mono ?_
      rintro e w3 ⟨rfl, hb⟩
      have HO3 := hide (ownsRow_below HO.out hb (Nat.le_refl _))
      have HB3 := hide (HB.out.step hb HB.out.size)
      have HR3 := hide (HR.out.keep hb HR.out.lt)
      clear hb
      go_wp2_with fail
      go_ret
      exact ⟨_, xs, rfl, by omega, HS.out, HO3.out, HB3.out, HR3.out.mono (by omega)⟩
theorem own_of_row {w : World} {base g T sz n : Nat} {f : Nat → Value} {cs : List Value} (h : w.rowIs g T (n * sz) f) (hb : base ≤ g) (hm : n ≤ 9223372036854775807) (hl : cs.length = n * sz) (hx : ∀ i, i < n * sz → cs[i]? = some (f i)) :
    w.ownsRow base T sz (.slice (some ⟨g, 0, none⟩) n n) n cs := by
  obtain ⟨c, h1, h2, h3⟩ := h
  refine ⟨hl, .inr ⟨g, n, c, rfl, hb, h1, Nat.le_refl _, by unfold maxLen; exact hm, h2, ?_⟩⟩
  refine List.ext_getElem? fun i => ?_
  rw [List.getElem?_take]
  split
  · rename_i hi
    rw [hx i hi, ← h3 i hi]; simp
  · rename_i hi
    rw [List.getElem?_eq_none (by omega)]
def takeTo (sts : List St) (mix : List Int) (k : Nat) : List St := (List.range sts.length).map fun j => if j < k then { sts.getD j st0 with k := (sts.getD j st0).k - mix.getD j 0 } else sts.getD j st0
theorem takeTo_len (sts : List St) (mix : List Int) (k : Nat) : (takeTo sts mix k).length = sts.length := by simp [takeTo]
theorem takeTo_zero (sts : List St) (mix : List Int) : takeTo sts mix 0 = sts := by
  refine List.ext_getElem (by simp [takeTo]) fun i h1 h2 => ?_
  simp [takeTo, h2]
theorem takeTo_all (sts : List St) (mix : List Int) : takeTo sts mix sts.length = takeM sts mix := by
  refine List.ext_getElem (by simp [takeTo, takeM]) fun i h1 h2 => ?_
  have : i < sts.length := by simpa [takeTo] using h1
  simp [takeTo, takeM, this]
theorem takeTo_at {sts : List St} {mix : List Int} {k : Nat} (hk : k < sts.length) : (takeTo sts mix k).getD k st0 = sts.getD k st0 := by
  simp [takeTo, hk]
theorem takeTo_succ (sts : List St) (mix : List Int) (k : Nat) : takeTo sts mix (k + 1) = (takeTo sts mix k).set k { sts.getD k st0 with k := (sts.getD k st0).k - mix.getD k 0 } := by
  refine List.ext_getElem (by simp [takeTo]) fun i h1 h2 => ?_
  have hi : i < sts.length := by simpa [takeTo] using h1
  rw [List.getElem_set]
  by_cases e : k = i
  · subst e
    simp [takeTo]
  · rw [if_neg e]
    have : (i < k + 1) = (i < k) := by rw [eq_iff_iff]; omega
    simp [takeTo, this]
theorem flatS_setk : ∀ (xs : List St) (i : Nat) (_ : i < xs.length) (y : Int), (flatS xs).set (i * 5 + 4) (.int .i64 y) = flatS (xs.set i { xs.getD i st0 with k := y })
  | x :: xs, 0, _, y => rfl
  | x :: xs, i + 1, h, y => by
    have ih := flatS_setk xs i (by simpa using h) y
    have e : flatS (x :: xs) = stL x ++ flatS xs := rfl
    have e2 : flatS ((x :: xs).set (i + 1) { (x :: xs).getD (i + 1) st0 with k := y }) = stL x ++ flatS (xs.set i { xs.getD i st0 with k := y }) := rfl
    rw [e, e2, ← ih, List.set_append_right _ _ (by simp [stL]; omega)]
    have : (i + 1) * 5 + 4 - (stL x).length = i * 5 + 4 := by simp [stL]; omega
    rw [this]
def TakeGot (base : Nat) (xs : List St) (w : World) (e : Ending) (w' : World) : Prop := ∃ v, e = .returned (.tuple #[v, .bool true]) ∧ w'.ownsRow base 65 5 v xs.length (flatS xs) ∧ Below base w w'
set_option maxHeartbeats 1600000 in
theorem take_spec (sv mv : Value) (sts : List St) (mix : List Int) (w : World) (Hs : StAt 0 w.heap.size w sv sts) (Hm : IntsAt 0 w.heap.size w mv mix) (hv : mixB sts mix = true) :
    Calls Tryz.prog 171 #[sv, mv] w (TakeGot w.heap.size (takeM sts mix) w) := by
  have HS := hide Hs
  have HM := hide Hm
  obtain ⟨hvs, hlen, -⟩ := mixB_parts hv
  have hl4 := stsB_len hvs
  have hlo : mix.length ≤ sts.length := by omega
  have hlo2 : sts.length ≤ mix.length := by omega
  have HV := hide hv
  obtain ⟨ao1, cap1, rfl, -, -, -, -⟩ := Hs
  obtain ⟨ao2, cap2, rfl, -, -, -, -⟩ := Hm
  have k1 := mixv_spec (.slice ao1 sts.length cap1) (.slice ao2 mix.length cap2) sts mix w HS.out HM.out
  rw [hv] at k1
  have HVS := hide hvs
  obtain ⟨i0, hi0, hz0, hi1, hi2⟩ := info_parts info_St
  clear hv hvs hlen
  go_enter Tryz.func171, Tryz.ntmps171
  go_wp2_with fail
  refine k1.mono ?_
  rintro e w1 ⟨rfl, hb⟩
  have HB := hide hb
  have VS := hide (HS.out.below hb)
  have VM := hide (HM.out.below hb)
  have hz1 := hb.size
  clear hb k1
  go_wp2_with (at_builtin; refine wpList_append_view rfl _ _ 23 rfl w1.heap.size 65 i0 _ 5 40 Tryz.underlying23 hi0 hz0 hi1 hi2 rfl (by decide) _ _ _ rfl (World.ownsRow_made w1 #[] 0 (Nat.le_refl _) (Nat.zero_le _) rfl) (.slice ao1 sts.length cap1) sts.length (flatS sts) rfl ?c0 ?c1 ?c2 ?c3 ?_)
  case c0 => exact VS.out.source.below ((Below.refl _ _).alloc (Nat.le_refl _) _) (Nat.le_refl _)
  case c1 => unfold maxLen; omega
  case c2 => omega
  case c3 => simp
  intro v2 w2 hown2 hgrow2 _
  have HB2 := hide (((Below.refl w1.heap.size w1).alloc (Nat.le_refl _) (.cells #[] 65)).trans (Below.grow hgrow2 (World.ownsRow_made (size := 5) w1 #[] 0 (Nat.le_refl _) (Nat.zero_le _) rfl) (Nat.le_refl _) (by simp)))
  have HO := hide (show w2.ownsRow w1.heap.size 65 5 v2 sts.length (flatS (takeTo sts mix 0)) by rw [takeTo_zero]; simpa using hown2)
  obtain ⟨ao3, cap3, rfl, hc3, hc3'⟩ := own_slice HO.out
  clear hown2 hgrow2
  go_wp2_with fail
  go_loopw [7] (fun i wr => ∃ k : Nat, k ≤ sts.length ∧ i = .int .i64 k ∧ Below w1.heap.size w1 wr ∧ wr.ownsRow w1.heap.size 65 5 (.slice ao3 sts.length cap3) sts.length (flatS (takeTo sts mix k))) (fun i _ => sts.length - (intOf i).toNat)
  case atStart => exact ⟨0, Nat.zero_le _, rfl, HB2.out, HO.out⟩
  case round =>
    obtain ⟨k, hk, rfl, hbr, hown⟩ := hrel
    have HBr := hide hbr
    have HOr := hide hown
    have VMr := hide (VM.out.below hbr)
    have VOr := hide (ownSt_at hown (takeTo_len _ _ _).symm hbr.size)
    clear hbr hown
    by_cases hlt : k < sts.length
    · have hk9 := mix_bd HV.out (show k < mix.length by omega)
      have hs9 := stB_k (stsB_getD HVS.out hlt)
      obtain ⟨b1, o1, _, e1, hblo, hbz1, r1⟩ := st_at VOr.out (show k < (takeTo sts mix k).length by rw [takeTo_len]; exact hlt)
      obtain ⟨b2, o2, _, e2, -, hbz2, r2, -⟩ := ints_at VMr.out (show k < mix.length by omega)
      rw [takeTo_len] at e1
      simp only [Value.slice.injEq] at e1 e2
      obtain ⟨rfl, -, rfl⟩ := e1
      obtain ⟨rfl, -, rfl⟩ := e2
      rw [takeTo_at hlt] at r1
      obtain ⟨-, -, -, -, r14⟩ := r1
      obtain ⟨g, cap', ef, hf⟩ : ∃ g cap', (Value.slice (some ⟨b1, o1, none⟩) sts.length cap3) = .slice (some ⟨g, 0, none⟩) sts.length cap' ∧ ∀ j, wr.frozen? ⟨g, j, none⟩ = false := by
        have h := HOr.out
        rcases id h.2 with ⟨e, h0⟩ | ⟨g, cap', cur, e, -⟩
        · omega
        · refine ⟨g, cap', e, fun j => ?_⟩
          rw [e] at h
          exact h.frozenAt j
      simp only [Value.slice.injEq, Option.some.injEq, Addr.mk.injEq] at ef
      obtain ⟨⟨rfl, rfl, -⟩, -, rfl⟩ := ef
      have hfk := hf (k * 5 + 4)
      rw [Nat.zero_add] at r14
      have hkI : (k : Int) < (sts.length : Int) := by omega
      have hkI2 : (k : Int) < (mix.length : Int) := by omega
      obtain ⟨y4, h4⟩ : ∃ y, (sts.getD k st0).k = y := ⟨_, rfl⟩
      obtain ⟨x, hx⟩ : ∃ x, mix.getD k 0 = x := ⟨_, rfl⟩
      rw [h4] at r14 hs9
      rw [hx] at r2 hk9
      have hw : IntKind.i64.wrap (y4 - x) = y4 - x := IntWalk.i64_in _ (by omega)
      have hput := own_put HOr.out (g := b1) (j := k * 5 + 4) rfl (.int .i64 (y4 - x))
      have hset : (flatS (takeTo sts mix k)).set (k * 5 + 4) (.int .i64 (y4 - x)) = flatS (takeTo sts mix (k + 1)) := by
        rw [flatS_setk _ _ (by rw [takeTo_len]; exact hlt), takeTo_succ, takeTo_at hlt, h4, hx]
      rw [hset] at hput
      have HP := hide hput
      clear h4 hx hs9 hk9 hput hset hf
      go_wp2_with fail
      go_still_tail 14, (by kernel_rfl)
      change wpList _ _ _ _ _ (World.drew _)
      clear hw
      go_wp2_with fail
      go_roundw
      case rel => exact ⟨k + 1, by omega, by go_num, (HBr.out.drew).setCell hblo _, HP.out.1⟩
      case measure => simp [intOf]; omega
    · obtain rfl : k = sts.length := by omega
      have HOZ := hide (ownsRow_mono HOr.out hz1)
      go_wp2_with fail
      go_ret2
      exact ⟨_, rfl, by rw [takeM_len, ← takeTo_all]; exact HOZ.out, Below.step HB.out HBr.out (Nat.le_refl _)⟩
theorem equal_any (v v' : Value) (xs ys : List Int) (lo hi lo' hi' : Nat) (w : World) (h : IntsAt lo hi w v xs) (h' : IntsAt lo' hi' w v' ys) :
    Calls Tryz.prog 85 #[v, v'] w fun e w' => e = .returned (.bool (decide (xs = ys))) ∧ Below w.heap.size w w' := by
  have h1 := h.len
  have h2 := h'.len
  obtain ⟨ao, cap, rfl, -, -, -, hc⟩ := h
  obtain ⟨ao', cap', rfl, -, -, -, hc'⟩ := h'
  by_cases hl : xs.length = ys.length
  · rcases Nat.eq_zero_or_pos xs.length with h0 | h0
    · have e1 : xs = [] := List.eq_nil_of_length_eq_zero h0
      have e2 : ys = [] := List.eq_nil_of_length_eq_zero (by omega)
      subst e1 e2
      exact (Tryz.slices_Equal_int_empty ao ao' cap 0 cap' w (by omega)).mono fun e w' ⟨he, hw⟩ => ⟨by rw [List.length_nil] at *; rw [he]; rfl, by rw [hw]; exact Below.refl _ _⟩
    · obtain ⟨b, o, rfl, -, -, hcs⟩ := hc h0
      obtain ⟨b', o', rfl, -, -, hcs'⟩ := hc' (by omega)
      refine (Tryz.slices_Equal_int b o xs.length cap b' o' ys.length cap' xs ys w (Nat.le_refl _) (Nat.le_refl _) h1 h2 (fun j hj => by rw [(hcs j hj).1, getD_eq hj]) (fun j hj => by rw [(hcs' j hj).1, getD_eq hj])).mono ?_
      rintro e w' ⟨he, q, hw⟩
      refine ⟨?_, by rw [hw]; exact below_drewN (Below.refl _ _) _⟩
      rw [he, List.take_of_length_le (Nat.le_refl _), List.take_of_length_le (Nat.le_refl _)]
      congr 2
      rw [Bool.eq_iff_iff]; simp
  · exact (Tryz.slices_Equal_int_lens ao ao' xs.length cap ys.length cap' w hl).mono fun e w' ⟨he, hw⟩ => ⟨by rw [he]; have : xs ≠ ys := fun e => hl (by rw [e]); simp [this], by rw [hw]; exact Below.refl _ _⟩
set_option maxHeartbeats 800000 in
theorem idsIn_any (p : Value) (ps : List Pc) (st : Int) (lo hi : Nat) (w : World) (H : PcAt lo hi w p ps) (hl : ps.length ≤ 1000000) :
    Calls Tryz.prog 86 #[p, .int .i64 st] w (IntsNew w.heap.size (idsIn ps st) w) := by
  obtain ⟨ao, cap, rfl, hlc, hcap, hhi, hc⟩ := H
  have HC := hide hc
  obtain ⟨i0, hi0, hz0, hi1, hi2⟩ := info_parts info_int
  clear hc
  go_enter Tryz.func86, Tryz.ntmps86
  go_wp2_with fail
  go_loopw [5, 6, 7, 10] (fun o _ _ i wr => ∃ k : Nat, k ≤ ps.length ∧ i = .int .i64 k ∧ Below w.heap.size w wr ∧ wr.ownsRow w.heap.size 3 1 o (idsTo ps st k).length (flatI (idsTo ps st k))) (fun _ _ _ i _ => ps.length - (intOf i).toNat)
  case atStart => exact ⟨0, Nat.zero_le _, rfl, Below.refl _ _, World.ownsRow_nil _ _ _ _⟩
  case round =>
    obtain ⟨k, hk, rfl, hb, hown⟩ := hrel
    have HB := hide hb
    have HO := hide hown
    have hnl := idsTo_len ps st k
    have hszr := hb.size
    obtain ⟨aow, capw, rfl, -, -⟩ := own_slice hown
    clear hown
    by_cases hlt : k < ps.length
    · obtain ⟨b, o, rfl, hx1, hx2, hcs⟩ := HC.out (by omega)
      obtain ⟨⟨r1, r2⟩, -⟩ := hcs k hlt
      rw [← hb.cell (p := ⟨b, _, none⟩) (by simpa using by omega)] at r1 r2
      have hg : ps.getD k pc0 = ps[k] := by simp [hlt]
      have hN : idsTo ps st (k + 1) = if ps[k].s == st then idsTo ps st k ++ [(k : Int) + 1] else idsTo ps st k := by rw [idsTo, hg]
      have HN := hide hN
      obtain ⟨x, hx⟩ : ∃ x, ps[k].s = x := ⟨_, rfl⟩
      obtain ⟨y, hy⟩ : ∃ y, ps[k].l = y := ⟨_, rfl⟩
      rw [hx] at r2 HN
      rw [hy] at r1
      have hkI : (k : Int) < (ps.length : Int) := by omega
      clear hcs hx hy hb hg hN
      cases hq : (x == st) with
      | false =>
        have HN2 := hide (show idsTo ps st (k + 1) = idsTo ps st k by rw [HN.out, hq]; rfl)
        go_wp2_with fail
        go_roundw
        case rel => exact ⟨k + 1, by omega, by go_num, HB.out.alloc hszr _, by rw [HN2.out]; exact HO.out.alloc _⟩
        case measure => simp [intOf]; omega
      | true =>
        have HN2 := hide (show idsTo ps st (k + 1) = idsTo ps st k ++ [(k : Int) + 1] by rw [HN.out, hq]; rfl)
        go_wp2_with (at_builtin; refine wpList_append_view rfl _ _ 27 rfl w.heap.size 3 i0 (.int .i64 0) 1 8 Tryz.underlying27 hi0 hz0 hi1 hi2 rfl (by decide) _ _ _ rfl ((HO.out.alloc _).alloc _) (.slice (some ⟨wr.heap.size + 1, 0, none⟩) 1 1) 1 [.int .i64 ((k : Int) + 1)] rfl ?c0 ?c1 ?c2 ?c3 ?_)
        case c0 => simpa using Source.lit (World.alloc wr _) [.int .i64 ((k : Int) + 1)] 1 3 1 rfl (fun u hu => by simp at hu; subst hu; rfl) 1
        case c1 => unfold maxLen; omega
        case c2 => omega
        case c3 => simp; omega
        intro v2 w3 hown2 hgrow2 _
        have hB3 := ((HB.out.alloc hszr (.cells #[.int .i64 y, .int .i64 x] 73)).alloc (by simp; omega) (.cells #[.int .i64 ((k : Int) + 1)] 3)).trans (Below.grow hgrow2 ((HO.out.alloc _).alloc _) (Nat.le_refl _) (by simp; omega))
        have HB3 := hide hB3
        have HO3 := hide (show w3.ownsRow w.heap.size 3 1 v2 (idsTo ps st (k + 1)).length (flatI (idsTo ps st (k + 1))) by rw [HN2.out]; simpa [flatI] using hown2)
        clear hown2 hgrow2 hB3
        go_wp2_with fail
        go_roundw
        case rel => exact ⟨k + 1, by omega, by go_num, HB3.out, HO3.out⟩
        case measure => simp [intOf]; omega
    · obtain rfl : k = ps.length := by omega
      go_wp2_with fail
      go_ret
      exact ⟨_, rfl, HO.out, HB.out⟩
end Go.Proofs.YtmemgbklgcjobaaGreatDoor
