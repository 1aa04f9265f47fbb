/-
  Parts of the proofs over mills, of: MixC, CoilTI, CutA, PlainCut2, CutB, Facts. Conditions: each theorem states its own.
-/
import Derived.Test.YtmemgbklgcjobaaGreatDoorRows
import Derived.Test.YtmemgbklgcjobaaGreatDoorY10
import Derived.Test.YtmemgbklgcjobaaGreatDoorY11
set_option linter.unusedSimpArgs false
set_option linter.unusedVariables false
set_option maxRecDepth 10000
set_option maxHeartbeats 64000000
namespace Go.Proofs.YtmemgbklgcjobaaGreatDoor
open Go.RowKit
theorem own_of_row {w : World} {base g T sz n : Nat} {f : Nat → Value} {cs : List Value} (h : w.rowIs g T (n * sz) f) (hb : base ≤ g) (hm : n ≤ 9223372036854775807) (hl : cs.length = n * sz) (hx : ∀ i, i < n * sz → cs[i]? = some (f i)) :
 w.ownsRow base T sz (.slice (some ⟨g, 0, none⟩) n n) n cs := by
 obtain ⟨c, h1, h2, h3⟩ := h;refine ⟨hl, .inr ⟨g, n, c, rfl, hb, h1, Nat.le_refl _, by unfold maxLen; exact hm, h2, ?_⟩⟩;refine List.ext_getElem? fun i => ?_;rw [List.getElem?_take];split
 ·rename_i hi
  rw [hx i hi, ← h3 i hi]; simp
 ·rename_i hi
  rw [List.getElem?_eq_none (by omega)]
def takeTo (sts : List St) (mix : List Int) (k : Nat) : List St := (List.range sts.length).map fun j => if j < k then { sts.getD j st0 with k := (sts.getD j st0).k - mix.getD j 0 } else sts.getD j st0
theorem takeTo_len (sts : List St) (mix : List Int) (k : Nat) : (takeTo sts mix k).length = sts.length := by simp [takeTo]
theorem takeTo_zero (sts : List St) (mix : List Int) : takeTo sts mix 0 = sts := by
 refine List.ext_getElem (by simp [takeTo]) fun i h1 h2 => ?_;simp [takeTo, h2]
theorem takeTo_all (sts : List St) (mix : List Int) : takeTo sts mix sts.length = takeM sts mix := by
 refine List.ext_getElem (by simp [takeTo, takeM]) fun i h1 h2 => ?_;have : i < sts.length := by simpa [takeTo] using h1
 simp [takeTo, takeM, this]
theorem takeTo_at {sts : List St} {mix : List Int} {k : Nat} (hk : k < sts.length) : (takeTo sts mix k).getD k st0 = sts.getD k st0 := by
 simp [takeTo, hk]
theorem takeTo_succ (sts : List St) (mix : List Int) (k : Nat) : takeTo sts mix (k + 1) = (takeTo sts mix k).set k { sts.getD k st0 with k := (sts.getD k st0).k - mix.getD k 0 } := by
 refine List.ext_getElem (by simp [takeTo]) fun i h1 h2 => ?_;have hi : i < sts.length := by simpa [takeTo] using h1
 rw [List.getElem_set];by_cases e : k = i
 ·subst e
  simp [takeTo]
 ·rw [if_neg e]
  have : (i < k + 1) = (i < k) := by rw [eq_iff_iff]; omega
  simp [takeTo, this]
theorem flatS_setk : ∀ (xs : List St) (i : Nat) (_ : i < xs.length) (y : Int), (flatS xs).set (i * 5 + 4) (.int .i64 y) = flatS (xs.set i { xs.getD i st0 with k := y })
 | x :: xs, 0, _, y => rfl
 | x :: xs, i + 1, h, y => by
  have ih := flatS_setk xs i (by simpa using h) y;have e : flatS (x :: xs) = stL x ++ flatS xs := rfl;have e2 : flatS ((x :: xs).set (i + 1) { (x :: xs).getD (i + 1) st0 with k := y }) = stL x ++ flatS (xs.set i { xs.getD i st0 with k := y }) := rfl;rw [e, e2, ← ih, List.set_append_right _ _ (by simp [stL]; omega)];have : (i + 1) * 5 + 4 - (stL x).length = i * 5 + 4 := by simp [stL]; omega
  rw [this]
def TakeGot (base : Nat) (xs : List St) (w : World) (e : Ending) (w' : World) : Prop := ∃ v, e = .returned (.tuple #[v, .bool true]) ∧ w'.ownsRow base 65 5 v xs.length (flatS xs) ∧ Below base w w'
theorem take_spec (sv mv : Value) (sts : List St) (mix : List Int) (w : World) (Hs : StAt 0 w.heap.size w sv sts) (Hm : IntsAt 0 w.heap.size w mv mix) (hv : mixB sts mix = true) :
 Calls Tryz.prog 171 #[sv, mv] w (TakeGot w.heap.size (takeM sts mix) w) := by
 have HS := hide Hs;have HM := hide Hm;obtain ⟨hvs, hlen, -⟩ := mixB_parts hv;have hl4 := stsB_len hvs;have hlo : mix.length ≤ sts.length := by omega
 have hlo2 : sts.length ≤ mix.length := by omega
 have HV := hide hv;obtain ⟨ao1, cap1, rfl, -, -, -, -⟩ := Hs;obtain ⟨ao2, cap2, rfl, -, -, -, -⟩ := Hm;have k1 := mixv_spec (.slice ao1 sts.length cap1) (.slice ao2 mix.length cap2) sts mix w HS.out HM.out;rw [hv] at k1;have HVS := hide hvs;obtain ⟨i0, hi0, hz0, hi1, hi2⟩ := info_parts info_St;clear hv hvs hlen;go_enter Tryz.func171, Tryz.ntmps171;go_wp2_with fail
 refine k1.mono ?_;rintro e w1 ⟨rfl, hb⟩;have HB := hide hb;have VS := hide (HS.out.below hb);have VM := hide (HM.out.below hb);have hz1 := hb.size;clear hb k1;go_wp2_with (at_builtin; refine wpList_append_view rfl _ _ 23 rfl w1.heap.size 65 i0 _ 5 40 Tryz.underlying23 hi0 hz0 hi1 hi2 rfl (by decide) _ _ _ rfl (World.ownsRow_made w1 #[] 0 nl (Nat.zero_le _) rfl) (.slice ao1 sts.length cap1) sts.length (flatS sts) rfl ?c0 ?c1 ?c2 ?c3 ?_)
 case c0 => exact VS.out.source.below ((Below.refl _ _).alloc nl _) nl
 case c1 => unfold maxLen; omega
 case c2 => omega
 case c3 => simp
 intro v2 w2 hown2 hgrow2 _;have HB2 := hide (((Below.refl w1.heap.size w1).alloc nl (.cells #[] 65)).trans (Below.grow hgrow2 (World.ownsRow_made (size := 5) w1 #[] 0 nl (Nat.zero_le _) rfl) nl (by simp)));have HO := hide (show w2.ownsRow w1.heap.size 65 5 v2 sts.length (flatS (takeTo sts mix 0)) by rw [takeTo_zero]; simpa using hown2);obtain ⟨ao3, cap3, rfl, hc3, hc3'⟩ := own_slice HO.out;clear hown2 hgrow2;go_wp2_with fail
 go_loopw [7] (fun i wr => ∃ k : Nat, k ≤ sts.length ∧ i = .int .i64 k ∧ Below w1.heap.size w1 wr ∧ wr.ownsRow w1.heap.size 65 5 (.slice ao3 sts.length cap3) sts.length (flatS (takeTo sts mix k))) (fun i _ => sts.length - (intOf i).toNat)
 case atStart => exact ⟨0, Nat.zero_le _, rfl, HB2.out, HO.out⟩
 case round =>
  obtain ⟨k, hk, rfl, hbr, hown⟩ := hrel;have HBr := hide hbr;have HOr := hide hown;have VMr := hide (VM.out.below hbr);have VOr := hide (ownSt_at hown (takeTo_len _ _ _).symm hbr.size);clear hbr hown;by_cases hlt : k < sts.length
  ·have hk9 := mix_bd HV.out (show k < mix.length by omega)
   have hs9 := stB_k (stsB_getD HVS.out hlt);obtain ⟨b1, o1, _, e1, hblo, hbz1, r1⟩ := st_at VOr.out (show k < (takeTo sts mix k).length by rw [takeTo_len]; exact hlt);obtain ⟨b2, o2, _, e2, -, hbz2, r2, -⟩ := ints_at VMr.out (show k < mix.length by omega);rw [takeTo_len] at e1;simp only [Value.slice.injEq] at e1 e2;obtain ⟨rfl, -, rfl⟩ := e1;obtain ⟨rfl, -, rfl⟩ := e2;rw [takeTo_at hlt] at r1;obtain ⟨-, -, -, -, r14⟩ := r1;obtain ⟨g, cap', ef, hf⟩ : ∃ g cap', (Value.slice (some ⟨b1, o1, none⟩) sts.length cap3) = .slice (some ⟨g, 0, none⟩) sts.length cap' ∧ ∀ j, wr.frozen? ⟨g, j, none⟩ = false := by
    have h := HOr.out;rcases id h.2 with ⟨e, h0⟩ | ⟨g, cap', cur, e, -⟩
    ·omega
    ·refine ⟨g, cap', e, fun j => ?_⟩
     rw [e] at h;exact h.frozenAt j
   simp only [Value.slice.injEq, Option.some.injEq, Addr.mk.injEq] at ef;obtain ⟨⟨rfl, rfl, -⟩, -, rfl⟩ := ef;have hfk := hf (k * 5 + 4);rw [Nat.zero_add] at r14;have hkI : (k : Int) < (sts.length : Int) := by omega
   have hkI2 : (k : Int) < (mix.length : Int) := by omega
   obtain ⟨y4, h4⟩ : ∃ y, (sts.getD k st0).k = y := ⟨_, rfl⟩;obtain ⟨x, hx⟩ : ∃ x, mix.getD k 0 = x := ⟨_, rfl⟩;rw [h4] at r14 hs9;rw [hx] at r2 hk9;have hw : IntKind.i64.wrap (y4 - x) = y4 - x := IntWalk.i64_in _ (by omega);have hput := own_put HOr.out (g := b1) (j := k * 5 + 4) rfl (.int .i64 (y4 - x));have hset : (flatS (takeTo sts mix k)).set (k * 5 + 4) (.int .i64 (y4 - x)) = flatS (takeTo sts mix (k + 1)) := by
    rw [flatS_setk _ _ (by rw [takeTo_len]; exact hlt), takeTo_succ, takeTo_at hlt, h4, hx]
   rw [hset] at hput;have HP := hide hput;clear h4 hx hs9 hk9 hput hset hf;go_wp2_with fail
   go_still_tail 14, (by kernel_rfl)
   change wpList _ _ _ _ _ (World.drew _);clear hw;go_wp2_with fail
   go_roundw
   case rel => exact ⟨k + 1, by omega, by go_num, (HBr.out.drew).setCell hblo _, HP.out.1⟩
   case measure => simp [intOf]; omega
  ·obtain rfl : k = sts.length := by omega
   have HOZ := hide (ownsRow_mono HOr.out hz1);go_wp2_with fail
   go_ret2
   exact ⟨_, rfl, by rw [takeM_len, ← takeTo_all]; exact HOZ.out, Below.step HB.out HBr.out nl⟩
theorem take_bad {lo hi : List Int} {t : Bool} {p : Int} (h : pileB lo hi = false) : takeR lo hi t p = (([], []), 0) := by simp [takeR, h]
theorem take_low {lo hi : List Int} {t : Bool} {p : Int} (h : pileB lo hi = true) (h2 : atR lo hi t p < 1) : takeR lo hi t p = ((lo, hi), 0) := by simp [takeR, h, h2]
theorem take_under {lo hi : List Int} {t : Bool} {p : Int} (h : pileB lo hi = true) (h2 : 0 < (onR lo hi t p).length) : takeR lo hi t p = ((lo, hi), 0) := by
 unfold takeR;rw [if_pos h, if_pos (by simp only [h2, decide_true, Bool.or_true])]
theorem take_yes {lo hi : List Int} {t : Bool} {p : Int} (h : pileB lo hi = true) (h2 : ¬ atR lo hi t p < 1) (h3 : ¬ 0 < (onR lo hi t p).length) : takeR lo hi t p = (setR t lo hi p 0, atR lo hi t p) := by
 unfold takeR;rw [if_pos h, if_neg (by simp only [h2, h3, decide_false, Bool.or_false]; decide)]
theorem two_at {lo hi : Nat} {w : World} {v : Value} {a b : Int} (h : IntsAt lo hi w v [a, b]) : ∃ b0 o0 cap, v = .slice (some ⟨b0, o0, none⟩) 2 cap ∧ lo ≤ b0 ∧ b0 < hi ∧ w.cell? ⟨b0, o0, none⟩ = some (.int .i64 a) ∧ w.cell? ⟨b0, o0 + 1, none⟩ = some (.int .i64 b) := by
 obtain ⟨ao, cap, e, h1, h2, h3, h4⟩ := h;obtain ⟨b0, o0, rfl, b1, b2, hc⟩ := h4 (by simp);exact ⟨b0, o0, cap, e, b1, b2, (hc 0 (by simp)).1, (hc 1 (by simp)).1⟩
def wst1 (T : List Int) (a : Int) (k : Nat) : Int := if a ≤ k then min (k : Int) (T.getD ((k : Int) - a).toNat 0) else k
def wst2 (T : List Int) (a b : Int) (k : Nat) : Int := if b ≤ k then min (wst1 T a k) (T.getD ((k : Int) - b).toNat 0) else wst1 T a k
theorem cnt_yes {t : List Int} {x : Int} (hx : 1 ≤ x) {f : Nat} {left : Int} (h0 : 0 ≤ left) (hf : left < f) (h : moreB t x left = true) : cnt t x f left = cnt t x f (left - x) + 1 := by
 obtain _ | f := f
 ·omega
 ·have hm := h
  unfold moreB at hm;rw [Bool.and_eq_true, decide_eq_true_iff] at hm;rw [cnt, if_pos h, cnt_fuel t hx f (f + 1) (left - x) (by omega) (by omega) (by omega)]
theorem cnt_no {t : List Int} {x : Int} {f : Nat} {left : Int} (h : moreB t x left = false) : cnt t x f left = 0 := by
 obtain _ | f := f
 ·rfl
 ·rw [cnt, if_neg (by rw [h]; simp)]
structure CutSt (T : List Int) (L : Nat) (x : Int) (n c : Nat) (left : Int) : Prop where
 pos : 0 ≤ left
 le : left ≤ L
 cnt : n = c + Go.Proofs.YtmemgbklgcjobaaGreatDoor.cnt T x (L + 1) left
 same : T.getD left.toNat 0 = T.getD L 0
theorem CutSt.start {a b : Int} {L : Nat} : CutSt (tab a b (L + 1)) L b (many1 L a b) 0 L := by
 refine ⟨by omega, by omega, ?_, by simp⟩;unfold many1; simp
theorem CutSt.next {a b : Int} {L : Nat} {left : Int} (H : CutSt (tab a b (L + 1)) L b (many1 L a b) (many1 L a b) left) (hl : left = L - many1 L a b * b) : CutSt (tab a b (L + 1)) L a (many0 L a b) 0 left := by
 refine ⟨H.pos, H.le, ?_, H.same⟩;unfold many0; rw [hl]; simp
theorem CutSt.more {T : List Int} {L : Nat} {x : Int} {n c : Nat} {left : Int} (hx : 1 ≤ x) (H : CutSt T L x n c left) (h : moreB T x left = true) : CutSt T L x n (c + 1) (left - x) ∧ x ≤ left ∧ c + 1 ≤ n := by
 have hm := h;unfold moreB at hm;rw [Bool.and_eq_true, decide_eq_true_iff, beq_iff_eq] at hm;have h1 := H.pos;have h2 := H.le;have h3 := H.cnt;rw [cnt_yes hx h1 (by omega) h] at h3;exact ⟨⟨by omega, by omega, by omega, hm.2.trans H.same⟩, hm.1, by omega⟩
theorem CutSt.done {T : List Int} {L : Nat} {x : Int} {n c : Nat} {left : Int} (H : CutSt T L x n c left) (h : moreB T x left = false) : c = n := by
 have h3 := H.cnt;rw [cnt_no h] at h3;omega
def manyL (L : Nat) (a b : Int) : List Int := [(many0 L a b : Int), (many1 L a b : Int)]
theorem many_60 {L : Nat} {a b : Int} (h : lensB a b = true) (hL : L ≤ 60) : many0 L a b ≤ 60 ∧ many1 L a b ≤ 60 := by
 obtain ⟨h1, h2⟩ := many_bd h (show (0 : Int) ≤ L by omega);omega
def Row2 (w : World) (G : Nat) (c0 c1 : Nat) : Prop := ∃ f, w.rowIs G 3 2 f ∧ f 0 = .int .i64 (c0 : Int) ∧ f 1 = .int .i64 (c1 : Int)
theorem Row2.cell {w : World} {G c0 c1 : Nat} (h : Row2 w G c0 c1) : w.cell? ⟨G, 0, none⟩ = some (.int .i64 (c0 : Int)) ∧ w.cell? ⟨G, 1, none⟩ = some (.int .i64 (c1 : Int)) ∧ w.frozen? ⟨G, 0, none⟩ = false ∧ w.frozen? ⟨G, 1, none⟩ = false ∧ G < w.heap.size := by
 obtain ⟨f, h, e0, e1⟩ := h;refine ⟨?_, ?_, h.frozen 0, h.frozen 1, h.lt⟩
 ·rw [h.cell (i := 0) (by omega), e0]
 ·rw [h.cell (i := 1) (by omega), e1]
theorem Row2.set0 {w : World} {G c0 c1 : Nat} (h : Row2 w G c0 c1) (y : Nat) : Row2 (w.setCell ⟨G, 0, none⟩ (.int .i64 (y : Int))) G y c1 := by
 obtain ⟨f, h, e0, e1⟩ := h;exact ⟨_, h.set 0 _, by simp, by simpa using e1⟩
theorem Row2.set1 {w : World} {G c0 c1 : Nat} (h : Row2 w G c0 c1) (y : Nat) : Row2 (w.setCell ⟨G, 1, none⟩ (.int .i64 (y : Int))) G c0 y := by
 obtain ⟨f, h, e0, e1⟩ := h;exact ⟨_, h.set 1 _, by simpa using e0, by simp⟩
theorem Row2.own {w : World} {base G c0 c1 : Nat} (h : Row2 w G c0 c1) (hb : base ≤ G) : w.ownsRow base 3 1 (.slice (some ⟨G, 0, none⟩) 2 2) 2 (flatI [(c0 : Int), (c1 : Int)]) := by
 obtain ⟨f, h, e0, e1⟩ := h;refine own_of_row (n := 2) (sz := 1) h hb (by omega) rfl fun i hi => ?_;have : i = 0 ∨ i = 1 := by omega
 rcases this with rfl | rfl
 ·rw [e0]; rfl
 ·rw [e1]; rfl
theorem Row2.drewN {w : World} {G c0 c1 : Nat} (h : Row2 w G c0 c1) (n : Nat) : Row2 (w.drewN n) G c0 c1 := h
end Go.Proofs.YtmemgbklgcjobaaGreatDoor
namespace Go.Proofs.YtmemgbklgcjobaaGreatDoor
theorem own : ownKnob Tryz.prog.godebug = none := by kernel_rfl
theorem laidOut : laidOutB Tryz.prog = true := by kernel_rfl
theorem may_ok : Tryz.pinned.checked.prog.mayEnter = true := by kernel_rfl
theorem lifts_ok : (Rows.fnMillValidRow.lifted == Tryz.pinned.checked.prog.liftsFinal) = true := by kernel_rfl
theorem make_ok : (Tryz.pinned.checked.prog.make == some Rows.fnMillValidRow.make) = true := by kernel_rfl
end Go.Proofs.YtmemgbklgcjobaaGreatDoor
