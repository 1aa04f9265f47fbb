/-
  Parts of the proofs over mills, of: PileD, DrawMC, Copy. Conditions: each theorem states its own.
-/
import Derived.Test.YtkhecelpafojdaaGreatDoorF10
import Derived.Test.YtkhecelpafojdaaGreatDoorF11
set_option linter.unusedSimpArgs false
set_option linter.unusedVariables false
set_option maxRecDepth 10000
set_option maxHeartbeats 64000000
namespace Go.Proofs.YtkhecelpafojdaaGreatDoor
open Go.RowKit
def findV : Option (Bool × Int) → Value
 | none => .tuple #[.agg #[.bool false, .int .i64 0], .bool false]
 | some (t, p) => .tuple #[.agg #[.bool t, .int .i64 p], .bool true]
theorem idx_first : ∀ {l : List Int} {x : Int} {k : Nat} (hk : k < l.length), l[k] = x → (∀ j (_ : j < l.length), j < k → l[j] ≠ x) → l.idxOf x = k
 | [], _, k, hk, _, _ => absurd hk (Nat.not_lt_zero _)
 | a :: l, x, 0, _, h, _ => by
  have : a = x := h;rw [this, List.idxOf_cons_self]
 | a :: l, x, k + 1, hk, h, hn => by
  have ha : (a == x) = false := by
   have := hn 0 (by simp) (by omega);simpa using this
  have := idx_first (l := l) (x := x) (k := k) (by simpa using hk) (by simpa using h) (fun j hj hjk => by
   have := hn (j + 1) (by simpa using hj) (by omega);simpa using this)
  rw [List.idxOf_cons, ha, cond_false, this]
theorem find_bad {lo hi : List Int} {id : Int} (h : aO lo hi = false) : cK lo hi id = none := by simp [cK, h]
theorem find_low {lo hi : List Int} {id : Int} (h : id ≤ 0) : cK lo hi id = none := by
 unfold cK;rw [if_neg (by simp; omega)]
theorem find_lo {lo hi : List Int} {id : Int} (hv : aO lo hi = true) (h1 : 0 < id) {k : Nat} (hk : k < lo.length) (h : lo[k] = id) (hn : ∀ j (_ : j < lo.length), j < k → lo[j] ≠ id) : cK lo hi id = some (false, (k : Int)) := by
 unfold cK;rw [if_pos (by rw [hv]; simp; omega), if_pos (dE.2 (by rw [← h]; exact List.getElem_mem _)), idx_first hk h hn]
theorem find_hi {lo hi : List Int} {id : Int} (hv : aO lo hi = true) (h1 : 0 < id) {k : Nat} (hk : k < hi.length) (h : hi[k] = id) (hn : ∀ j (_ : j < hi.length), j < k → hi[j] ≠ id) : cK lo hi id = some (true, (k : Int)) := by
 have hm : id ∈ hi := by rw [← h]; exact List.getElem_mem _
 have := (take_hi (aZ.1 hv) (id := id) (eD.2 ⟨hm, by omega⟩)).1;rw [this, idx_first hk h hn]
theorem find_no {lo hi : List Int} {id : Int} (h1 : ∀ j (_ : j < lo.length), lo[j] ≠ id) (h2 : ∀ j (_ : j < hi.length), hi[j] ≠ id) : cK lo hi id = none := by
 have n1 : id ∉ lo := fun hm => by obtain ⟨j, hj, e⟩ := List.getElem_of_mem hm; exact h1 j hj e
 have n2 : id ∉ hi := fun hm => by obtain ⟨j, hj, e⟩ := List.getElem_of_mem hm; exact h2 j hj e
 unfold cK;split
 ·rw [if_neg (by rw [dE]; exact n1), if_neg (by rw [dE]; exact n2)]
 ·rfl
theorem find_spec (l h : Value) (lo hi : List Int) (id : Int) (w : World) (Hl : au 0 w.heap.size w l lo) (Hh : au 0 w.heap.size w h hi) :
 Calls Tryz.prog 85 #[aD l h, .int .i64 id] w fun e w' => e = .returned (findV (cK lo hi id)) ∧ Below w.heap.size w w' := by
 have HL := hide Hl;have HH := hide Hh;have hl1 := Hl.len;have hl2 := Hh.len;obtain ⟨ao1, cap1, rfl, -, -, -, -⟩ := Hl;obtain ⟨ao2, cap2, rfl, -, -, -, -⟩ := Hh;have hP := fun W H1 H2 => gJ (.slice ao1 lo.length cap1) (.slice ao2 hi.length cap2) lo hi W H1 H2;unfold aD at hP ⊢;have HP := hide hP;clear hP;go_enter Tryz.func85, Tryz.ntmps85;go_wp2_with fail
 go_loopw [6] (fun i wr => ∃ k : Nat, k ≤ lo.length ∧ i = .int .i64 k ∧ Below w.heap.size w wr ∧ ae wr w.heap.size 29 [.slice ao1 lo.length cap1, .slice ao2 hi.length cap2] ∧ ae wr (w.heap.size + 1) 111 [.bool false, .int .i64 0] ∧
  (0 < k → 0 < id ∧ aO lo hi = true) ∧ (∀ j (_ : j < lo.length), j < k → lo[j] ≠ id) ∧ (∀ j (_ : j < hi.length), j < k → hi[j] ≠ id)) (fun i _ => lo.length - (intOf i).toNat)
 case atStart =>
  refine ⟨0, Nat.zero_le _, rfl, by go_grown, (ae.new _ _ _).alloc _, ?_, fun h => absurd h (Nat.lt_irrefl _), fun _ _ h => absurd h (Nat.not_lt_zero _), fun _ _ h => absurd h (Nat.not_lt_zero _)⟩;simpa using ae.new (w.alloc _) 111 [.bool false, .int .i64 0]
 case round =>
  obtain ⟨k, hk, rfl, hb, hr1, hr2, hpos, hlo, hhi⟩ := hrel;have HB := hide hb;have HR1 := hide hr1;have HR2 := hide hr2;have HLO := hide hlo;have HHI := hide hhi;have hz2 := hr2.lt;have hp0 := hr1.cell 0 (by simp);have hp1 := hr1.cell 1 (by simp);have hs0 := hr2.cell 0 (by simp);have hs1 := hr2.cell 1 (by simp);have hf0 := hr2.frozen 0;have hf1 := hr2.frozen 1;simp only [List.getD_cons_zero, List.getD_cons_succ] at hp0 hp1 hs0 hs1;clear hb hr1 hr2 hpos hlo hhi;by_cases hlt : k < lo.length
  ·by_cases hid : 0 < id
   ·have HLr := hide ((HL.out.below HB.out).mono nl HB.out.size nl)
    have HHr := hide ((HH.out.below HB.out).mono nl HB.out.size nl);cases hv : aO lo hi with
    | false =>
     have HF := hide (find_bad (id := id) hv);go_wp2_with fail
     refine (HP.out wr HLr.out HHr.out).mono ?_;rw [hv];rintro e w1 ⟨rfl, hb1⟩;have RR := HR2.out.below hb1 HR2.out.lt;have hs0 := RR.c 0 rfl;have hs1 := RR.c 1 rfl;have hf0 := RR.frozen 0;have hf1 := RR.frozen 1;have HB2 := bs HB.out hb1;clear hb1 hp0 hp1 RR hv;go_wp2_with fail
     refine bodyPost_ret (by simp [results, Tryz.results85, go_sem, hs0, hs1]; try rfl) rfl ?_;exact ⟨by rw [HF.out]; rfl, (HB2.out.setCell (by simp) _).setCell (by simp) _⟩
    | true =>
     obtain ⟨_, _, e1, -, -, -, hcl⟩ := HLr.out;simp only [Value.slice.injEq] at e1;obtain ⟨rfl, -, rfl⟩ := e1;obtain ⟨b1, o1, rfl, -, hbl, hcs1⟩ := hcl (by omega);obtain ⟨r1, -⟩ := hcs1 k hlt;have HV := hide hv;have hkI : (k : Int) < (lo.length : Int) := by omega
     obtain ⟨x, hx⟩ : ∃ x, lo[k] = x := ⟨_, rfl⟩;rw [hx] at r1;have HX := hide hx;clear hcl hcs1 hx;go_wp2_with fail
     refine (HP.out wr HLr.out HHr.out).mono ?_;rw [hv];rintro e w1 ⟨rfl, hb1⟩;have RR := HR2.out.below hb1 HR2.out.lt;have RP := HR1.out.below hb1 HR1.out.lt;have HRR := hide RR;have HRP := hide RP;have hs0 := RR.c 0 rfl;have hs1 := RR.c 1 rfl;have hf0 := RR.frozen 0;have hf1 := RR.frozen 1;have hp0 := RP.cell 0 (by simp);have hp1 := RP.cell 1 (by simp);simp only [List.getD_cons_zero, List.getD_cons_succ] at hp0 hp1;rw [← hb1.cell (p := ⟨b1, _, none⟩) (by simpa using hbl)] at r1;have HB2 := bs HB.out hb1;have HHr2 := hide (HHr.out.below hb1);clear hb1 RR RP hv;by_cases hq : x = id
     ·have hqB : (x == id) = true := by simp [hq]
      have HF := hide (find_lo (hi := hi) HV.out hid hlt (by rw [HX.out]; exact hq) HLO.out);clear hq;go_wp2_with fail
      refine bodyPost_ret (by simp [results, Tryz.results85, go_sem, hs0, hs1]; try rfl) rfl ?_;exact ⟨by rw [HF.out]; rfl, (HB2.out.setCell (by simp) _).setCell (by simp) _⟩
     ·have hqB : (x == id) = false := by simp [hq]
      have HQ := hide hq;clear hq;by_cases hlt2 : k < hi.length
      ·obtain ⟨_, _, e2, -, -, -, hch⟩ := HHr2.out
       simp only [Value.slice.injEq] at e2;obtain ⟨rfl, -, rfl⟩ := e2;obtain ⟨b2, o2, rfl, -, -, hcs2⟩ := hch (by omega);obtain ⟨r2, -⟩ := hcs2 k hlt2;obtain ⟨y, hy⟩ : ∃ y, hi[k] = y := ⟨_, rfl⟩;rw [hy] at r2;have HY := hide hy;have hkI2 : (k : Int) < (hi.length : Int) := by omega
       clear hch hcs2 hy;by_cases hq2 : y = id
       ·have hqB2 : (y == id) = true := by simp [hq2]
        have HF := hide (find_hi (lo := lo) HV.out hid hlt2 (by rw [HY.out]; exact hq2) HHI.out);clear hq2;go_wp2_with fail
        refine bodyPost_ret (by simp [results, Tryz.results85, go_sem, hs0, hs1]; try rfl) rfl ?_;exact ⟨by rw [HF.out]; rfl, (HB2.out.setCell (by simp) _).setCell (by simp) _⟩
       ·have hqB2 : (y == id) = false := by simp [hq2]
        have HQ2 := hide hq2;clear hq2;go_wp2_with fail
        go_roundw
        case rel =>
         refine ⟨k + 1, by omega, by go_num, HB2.out, HRP.out, HRR.out, fun _ => ⟨hid, by first | trivial | exact HV.out⟩, fun j hj hjk => ?_, fun j hj hjk => ?_⟩
         ·rcases Nat.lt_or_ge j k with h | h
          ·exact HLO.out j hj h
          ·obtain rfl : j = k := by omega
           rw [HX.out]; exact HQ.out
         ·rcases Nat.lt_or_ge j k with h | h
          ·exact HHI.out j hj h
          ·obtain rfl : j = k := by omega
           rw [HY.out]; exact HQ2.out
        case measure => simp [intOf]; omega
      ·have hkI2 : decide ((k : Int) < (hi.length : Int)) = false := by simp; omega
       go_wp2_with fail
       go_roundw
       case rel =>
        refine ⟨k + 1, by omega, by go_num, HB2.out, HRP.out, HRR.out, fun _ => ⟨hid, by first | trivial | exact HV.out⟩, fun j hj hjk => ?_, fun j hj hjk => HHI.out j hj (by omega)⟩;rcases Nat.lt_or_ge j k with h | h
        ·exact HLO.out j hj h
        ·obtain rfl : j = k := by omega
         rw [HX.out]; exact HQ.out
       case measure => simp [intOf]; omega
   ·have hidB : decide (0 < id) = false := by simp; omega
    have HF := hide (find_low (lo := lo) (hi := hi) (show id ≤ 0 by omega));clear hid;go_wp2_with fail
    refine bodyPost_ret (by simp [results, Tryz.results85, go_sem, hs0, hs1]; try rfl) rfl ?_;exact ⟨by rw [HF.out]; rfl, (HB.out.setCell (by simp) _).setCell (by simp) _⟩
  ·obtain rfl : k = lo.length := by omega
   have hkB : decide ((lo.length : Int) < (lo.length : Int)) = false := by simp
   have hF : cK lo hi id = none := by
    cases hv : aO lo hi with
    | false => exact find_bad hv
    | true =>
     have := (aZ.1 hv).lh;exact find_no (fun j hj => HLO.out j hj hj) (fun j hj => HHI.out j hj (by omega))
   have HF := hide hF;clear hF;go_wp2_with fail
   refine bodyPost_ret (by simp [results, Tryz.results85, go_sem, hs0, hs1]; try rfl) rfl ?_;exact ⟨by rw [HF.out]; rfl, (HB.out.setCell (by simp) _).setCell (by simp) _⟩
def MixGot (R k n : Nat) (w : World) (e : Ending) (w' : World) : Prop :=
 ∃ v mix, e = .returned v ∧ mix.length = n ∧ (∀ j, j < mix.length → 0 ≤ mix.getD j 0 ∧ mix.getD j 0 ≤ 9) ∧ w'.ownsRow w.heap.size 3 1 v mix.length (aC mix) ∧ ai R (R + 1) w w' ∧ Rd R (k + 8) w'
theorem getD_snoc9 {mix : List Int} {x : Int} (h : ∀ j, j < mix.length → 0 ≤ mix.getD j 0 ∧ mix.getD j 0 ≤ 9) (h0 : 0 ≤ x) (h9 : x ≤ 9) : ∀ j, j < (mix ++ [x]).length → 0 ≤ (mix ++ [x]).getD j 0 ∧ (mix ++ [x]).getD j 0 ≤ 9 := by
 intro j hj;rw [List.getD_eq_getElem?_getD, List.getElem?_append];split
 ·rename_i hl
  have := h j hl
  rwa [List.getD_eq_getElem?_getD] at this
 ·have e : j - mix.length = 0 := by simp at hj; omega
  rw [e]; simp [h0, h9]
theorem l20Mix_any (R k lo hi : Nat) (sv : Value) (xs : List St) (w : World) (h : Rd R k w) (hk : k ≤ 50000) (Hs : bW lo hi w sv xs) (hlo : R + 1 ≤ lo) (hst : dY xs = true) :
 Calls Tryz.prog 59 #[.pointer (some ⟨R, 0, none⟩), sv, .int .i64 0] w (MixGot R k xs.length w) := by
 obtain ⟨i0, hi0, hz0, hi1, hi2⟩ := info_parts bF;have HR := hide h;have hlt := h.lt;have HS := hide Hs;have HST := hide hst;have hl4 := dG hst;obtain ⟨aos, caps, rfl, -, -, hhi, -⟩ := Hs;clear h hst;go_enter Tryz.func59, Tryz.ntmps59;go_wp2_with fail
 have O_0 := hide (show (w.alloc (.cells #[] 3)).ownsRow w.heap.size 3 1 (.slice (some ⟨w.heap.size, 0, none⟩) 0 0) 0 [] by simpa using World.ownsRow_lit (e := 3) (size := 1) (base := w.heap.size) w #[] 0 nl (by unfold maxLen; omega) (by simp));have HKO := hide (show ∀ (W W' : World) (u : Value) (m : Nat) (cs : List Value), W.ownsRow w.heap.size 3 1 u m cs → ai R (R + 1) W W' → W'.ownsRow w.heap.size 3 1 u m cs from fun _ _ _ _ _ h k => bJ h k fun g hg => .inr (Nat.lt_of_lt_of_le hlt (h.lt g hg).1));have hb0 : Below w.heap.size w (w.alloc (.cells #[] 3)) := (Below.refl _ _).alloc nl _;have HO0 := hide (ai.of_below (lo := R) (hi := R + 1) hb0);have HR0 := hide (HR.out.keep hb0 hlt);clear hb0
 go_loopw [7, 8] (fun o i wr => ∃ (mix : List Int), i = .int .i64 mix.length ∧ mix.length ≤ xs.length ∧ (∀ j, j < mix.length → 0 ≤ mix.getD j 0 ∧ mix.getD j 0 ≤ 9) ∧ Rd R (k + 2 * mix.length) wr ∧ ai R (R + 1) w wr ∧ wr.ownsRow w.heap.size 3 1 o mix.length (aC mix)) (fun _ i _ => xs.length - (intOf i).toNat)
 case atStart => exact ⟨[], rfl, by simp, fun j hj => absurd hj (Nat.not_lt_zero _), HR0.out, HO0.out, O_0.out⟩
 case round =>
  obtain ⟨mix, rfl, hcl, hmx, hr, hb, hown⟩ := hrel;have HB := hide hb;have HO := hide hown;have HR := hide hr;have HM := hide hmx;obtain ⟨aow, capw, rfl, -, -⟩ := aB hown;clear hr hb hown hmx;by_cases hc : mix.length < xs.length
  ·have hcI : (mix.length : Int) < (xs.length : Int) := by omega
   have hsc := eP.1 (bR HST.out hc);obtain ⟨b, o, cps, e1, -, -, -, -, -, -, r1⟩ := jD (HS.out.other HB.out (.inr hlo)) hc;simp only [Value.slice.injEq, true_and] at e1;obtain ⟨rfl, rfl⟩ := e1;obtain ⟨q, hq, hq0, hq9⟩ : ∃ q : Int, (xs.getD mix.length st0).k = q ∧ 0 ≤ q ∧ q ≤ 9 := ⟨_, rfl, hsc.2.2.2.2.1, hsc.2.2.2.2.2⟩;rw [hq] at r1;have hmax : max q 0 = q := by omega
   clear hq hsc;go_wp2_with fail
   refine (aH R _ _ wr HR.out (by omega) (by omega) (by omega)).mono ?_;rintro e w2 ⟨x, rfl, x0, x1, ho, hr⟩;have HO2 := hide (HKO.out _ _ _ _ _ HO.out ho);have HB2 := hide (HB.out.trans ho);have HR2 := hide hr;clear ho hr r1;go_wp2_with fail
   refine (aH R _ 3 w2 HR2.out (by omega) (by omega) (by omega)).mono ?_;rintro e w3 ⟨y, rfl, y0, y1, ho, hr⟩;have HO3 := hide (HKO.out _ _ _ _ _ HO2.out ho);have HB3 := hide (HB2.out.trans ho);have HR3 := hide hr;have hz3 := HB3.out.size;clear ho hr;obtain ⟨t, ht, ht0, ht9⟩ : ∃ t : Int, x.tdiv (1 + y) = t ∧ 0 ≤ t ∧ t ≤ 9 := by
    have hx9 : x ≤ 9 := by omega
    refine ⟨_, rfl, Int.tdiv_nonneg x0 (by omega), ?_⟩;rw [Int.tdiv_eq_ediv_of_nonneg x0];exact Int.le_trans (Int.ediv_le_self _ x0) hx9
   have hy1 : ((1 + y) == 0) = false := by simp; omega
   go_wp2_with (at_builtin; refine aA rfl _ _ 27 rfl w.heap.size 3 i0 _ 1 8 Tryz.underlying27 hi0 hz0 hi1 hi2 rfl (by decide) _ _ _ rfl (HO3.out.alloc _) (.slice (some ⟨w3.heap.size, 0, none⟩) 1 1) 1 (aC [t]) rfl ?c0 ?c1 ?c2 ?c3 ?_)
   case c0 => exact Source.lit w3 (aC [t]) 1 3 1 rfl (flatI_one _) 1
   case c1 => unfold maxLen; omega
   case c2 => omega
   case c3 => simp; omega
   intro v2 w4 hown2 hgrow2 _;have hB4 : Below w.heap.size w3 w4 := ((Below.refl _ w3).alloc (by omega) (.cells (aC [t]).toArray 3)).trans (Below.grow hgrow2 (HO3.out.alloc _) nl (by simp; omega));have HB4 := hide (HB3.out.step hB4 nl);have HR4 := hide ((HR3.out.keep hB4 hlt).mono (m := k + 2 * (mix ++ [t]).length) (by simp; omega));have HO4 := hide (show w4.ownsRow w.heap.size 3 1 v2 (mix ++ [t]).length (aC (mix ++ [t])) by rw [flatI_append, List.length_append]; exact hown2);have HM4 := hide (getD_snoc9 HM.out ht0 ht9);clear hown2 hgrow2 hB4 ht;go_wp2_with fail
   go_roundw
   case rel => exact ⟨mix ++ [t], by rw [List.length_append]; go_num, by simp; omega, HM4.out, HR4.out, HB4.out, HO4.out⟩
   case measure => simp [intOf] <;> omega
  ·go_wp2_with fail
   refine (odd_none R wr).mono ?_;rintro e w3 ⟨rfl, hb⟩;have HO3 := hide (ownsRow_below HO.out hb nl);have HB3 := hide (HB.out.step hb HB.out.size);have HR3 := hide (HR.out.keep hb HR.out.lt);clear hb;go_wp2_with fail
   go_ret;exact ⟨_, mix, rfl, by omega, HM.out, HO3.out, HB3.out, HR3.out.mono (by omega)⟩
def StNew (base : Nat) (xs : List St) (w : World) (e : Ending) (w' : World) : Prop := ∃ v, e = .returned v ∧ w'.ownsRow base 99 5 v xs.length (bB xs) ∧ Below base w w'
def PcNew (base : Nat) (xs : List Pc) (w : World) (e : Ending) (w' : World) : Prop := ∃ v, e = .returned v ∧ w'.ownsRow base 63 2 v xs.length (bO xs) ∧ Below base w w'
theorem jU (v : Value) (xs : List Int) (lo hi : Nat) (w : World) (h : au lo hi w v xs) (hl : xs.length ≤ 1000000) :
 Calls Tryz.prog 120 #[v] w (fA w.heap.size xs w) := by
 have hs := h.source;obtain ⟨i0, hi0, hz0, hi1, hi2⟩ := info_parts bF;have hq : ∀ (w : World) (a : Option Addr) (n c n' c' : Nat), (binOp .eql 27 (.slice a n c) (.slice none n' c')).run Tryz.prog w = .ok (.bool a.isNone) w := fun w a n c n' c' => Lib.run_eql_slice_nil w _ _ a n c n' c' Tryz.underlying27;obtain ⟨ao, cap, rfl, hlc, hcap, hhi, hc⟩ := h;cases ao with
 | none =>
  have hx : xs = [] := by
   cases xs with
   | nil => rfl
   | cons a l => obtain ⟨_, _, e, _⟩ := hc (by simp); cases e
  subst hx;clear hs hc hi0 hz0 hi1 hi2;go_enter Tryz.func120, Tryz.ntmps120;go_wp2_with fail
  go_ret;exact ⟨_, rfl, World.ownsRow_nil _ _ _ _, by go_grown⟩
 | some ad =>
  have HS := hide hs;clear hs hc;go_enter Tryz.func120, Tryz.ntmps120;go_wp2_with (at_builtin; refine aA rfl _ _ 27 rfl w.heap.size 3 i0 (.int .i64 0) 1 8 Tryz.underlying27 hi0 hz0 hi1 hi2 rfl (by decide) _ _ _ rfl (World.ownsRow_made w #[] 0 nl (Nat.zero_le _) rfl) (.slice (some ad) xs.length cap) xs.length (aC xs) rfl ?c0 ?c1 ?c2 ?c3 ?_)
  case c0 => exact HS.out.below ((Below.refl _ _).alloc nl _) nl
  case c1 => unfold maxLen; omega
  case c2 => omega
  case c3 => simp
  intro v2 w2 hown2 hgrow2 _;have HB := hide (((Below.refl w.heap.size w).alloc nl (.cells #[] 3)).trans (Below.grow hgrow2 (World.ownsRow_made (size := 1) w #[] 0 nl (Nat.zero_le _) rfl) nl (by simp)));have HO := hide (show w2.ownsRow w.heap.size 3 1 v2 xs.length (aC xs) by simpa using hown2);clear hown2 hgrow2;go_wp2_with fail
  go_ret;exact ⟨v2, rfl, HO.out, HB.out⟩
theorem cloneS_any (v : Value) (xs : List St) (lo hi : Nat) (w : World) (h : bW lo hi w v xs) (hl : xs.length ≤ 1000000) :
 Calls Tryz.prog 71 #[v] w (StNew w.heap.size xs w) := by
 have hs := h.source;obtain ⟨i0, hi0, hz0, hi1, hi2⟩ := info_parts info_St;have hq : ∀ (w : World) (a : Option Addr) (n c n' c' : Nat), (binOp .eql 23 (.slice a n c) (.slice none n' c')).run Tryz.prog w = .ok (.bool a.isNone) w := fun w a n c n' c' => Lib.run_eql_slice_nil w _ _ a n c n' c' Tryz.underlying23;obtain ⟨ao, cap, rfl, hlc, hcap, hhi, hc⟩ := h;cases ao with
 | none =>
  have hx : xs = [] := by
   cases xs with
   | nil => rfl
   | cons a l => obtain ⟨_, _, e, _⟩ := hc (by simp); cases e
  subst hx;clear hs hc hi0 hz0 hi1 hi2;go_enter Tryz.func71, Tryz.ntmps71;go_wp2_with fail
  go_ret;exact ⟨_, rfl, World.ownsRow_nil _ _ _ _, by go_grown⟩
 | some ad =>
  have HS := hide hs;clear hs hc;go_enter Tryz.func71, Tryz.ntmps71;go_wp2_with (at_builtin; refine aA rfl _ _ 23 rfl w.heap.size 99 i0 _ 5 40 Tryz.underlying23 hi0 hz0 hi1 hi2 rfl (by decide) _ _ _ rfl (World.ownsRow_made w #[] 0 nl (Nat.zero_le _) rfl) (.slice (some ad) xs.length cap) xs.length (bB xs) rfl ?c0 ?c1 ?c2 ?c3 ?_)
  case c0 => exact HS.out.below ((Below.refl _ _).alloc nl _) nl
  case c1 => unfold maxLen; omega
  case c2 => omega
  case c3 => simp
  intro v2 w2 hown2 hgrow2 _;have HB := hide (((Below.refl w.heap.size w).alloc nl (.cells #[] 99)).trans (Below.grow hgrow2 (World.ownsRow_made (size := 5) w #[] 0 nl (Nat.zero_le _) rfl) nl (by simp)));have HO := hide (show w2.ownsRow w.heap.size 99 5 v2 xs.length (bB xs) by simpa using hown2);clear hown2 hgrow2;go_wp2_with fail
  go_ret;exact ⟨v2, rfl, HO.out, HB.out⟩
theorem cloneP_any (v : Value) (xs : List Pc) (lo hi : Nat) (w : World) (h : fo lo hi w v xs) (hl : xs.length ≤ 1000000) :
 Calls Tryz.prog 72 #[v] w (PcNew w.heap.size xs w) := by
 have hs := h.source;obtain ⟨i0, hi0, hz0, hi1, hi2⟩ := info_parts info_Pc;have hq : ∀ (w : World) (a : Option Addr) (n c n' c' : Nat), (binOp .eql 26 (.slice a n c) (.slice none n' c')).run Tryz.prog w = .ok (.bool a.isNone) w := fun w a n c n' c' => Lib.run_eql_slice_nil w _ _ a n c n' c' Tryz.underlying26;obtain ⟨ao, cap, rfl, hlc, hcap, hhi, hc⟩ := h;cases ao with
 | none =>
  have hx : xs = [] := by
   cases xs with
   | nil => rfl
   | cons a l => obtain ⟨_, _, e, _⟩ := hc (by simp); cases e
  subst hx;clear hs hc hi0 hz0 hi1 hi2;go_enter Tryz.func72, Tryz.ntmps72;go_wp2_with fail
  go_ret;exact ⟨_, rfl, World.ownsRow_nil _ _ _ _, by go_grown⟩
 | some ad =>
  have HS := hide hs;clear hs hc;go_enter Tryz.func72, Tryz.ntmps72;go_wp2_with (at_builtin; refine aA rfl _ _ 26 rfl w.heap.size 63 i0 _ 2 16 Tryz.underlying26 hi0 hz0 hi1 hi2 rfl (by decide) _ _ _ rfl (World.ownsRow_made w #[] 0 nl (Nat.zero_le _) rfl) (.slice (some ad) xs.length cap) xs.length (bO xs) rfl ?c0 ?c1 ?c2 ?c3 ?_)
  case c0 => exact HS.out.below ((Below.refl _ _).alloc nl _) nl
  case c1 => unfold maxLen; omega
  case c2 => omega
  case c3 => simp
  intro v2 w2 hown2 hgrow2 _;have HB := hide (((Below.refl w.heap.size w).alloc nl (.cells #[] 63)).trans (Below.grow hgrow2 (World.ownsRow_made (size := 2) w #[] 0 nl (Nat.zero_le _) rfl) nl (by simp)));have HO := hide (show w2.ownsRow w.heap.size 63 2 v2 xs.length (bO xs) by simpa using hown2);clear hown2 hgrow2;go_wp2_with fail
  go_ret;exact ⟨v2, rfl, HO.out, HB.out⟩
end Go.Proofs.YtkhecelpafojdaaGreatDoor
