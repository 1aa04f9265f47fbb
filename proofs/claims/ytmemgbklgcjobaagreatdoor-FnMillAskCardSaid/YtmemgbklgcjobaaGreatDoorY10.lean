/-
  Parts of the proofs over mills, of: PileD, AllS, BestI, CoilD. Conditions: each theorem states its own.
-/
import Derived.Lib.SmallJoins
import Derived.Test.YtmemgbklgcjobaaGreatDoorY08
import Derived.Test.YtmemgbklgcjobaaGreatDoorY09
set_option linter.unusedSimpArgs false
set_option linter.unusedVariables false
set_option maxRecDepth 10000
set_option maxHeartbeats 64000000
namespace Go.Proofs.YtmemgbklgcjobaaGreatDoor
open Go.RowKit
def findV : Option (Bool × Int) → Value
 | none => .tuple #[.agg #[.bool false, .int .i64 0], .bool false]
 | some (t, p) => .tuple #[.agg #[.bool t, .int .i64 p], .bool true]
theorem idx_first : ∀ {l : List Int} {x : Int} {k : Nat} (hk : k < l.length), l[k] = x → (∀ j (_ : j < l.length), j < k → l[j] ≠ x) → l.idxOf x = k
 | [], _, k, hk, _, _ => absurd hk (Nat.not_lt_zero _)
 | a :: l, x, 0, _, h, _ => by
  have : a = x := h;rw [this, List.idxOf_cons_self]
 | a :: l, x, k + 1, hk, h, hn => by
  have ha : (a == x) = false := by
   have := hn 0 (by simp) (by omega);simpa using this
  have := idx_first (l := l) (x := x) (k := k) (by simpa using hk) (by simpa using h) (fun j hj hjk => by
   have := hn (j + 1) (by simpa using hj) (by omega);simpa using this)
  rw [List.idxOf_cons, ha, cond_false, this]
theorem find_bad {lo hi : List Int} {id : Int} (h : pileB lo hi = false) : findR lo hi id = none := by simp [findR, h]
theorem find_low {lo hi : List Int} {id : Int} (h : id ≤ 0) : findR lo hi id = none := by
 unfold findR;rw [if_neg (by simp; omega)]
theorem find_lo {lo hi : List Int} {id : Int} (hv : pileB lo hi = true) (h1 : 0 < id) {k : Nat} (hk : k < lo.length) (h : lo[k] = id) (hn : ∀ j (_ : j < lo.length), j < k → lo[j] ≠ id) : findR lo hi id = some (false, (k : Int)) := by
 unfold findR;rw [if_pos (by rw [hv]; simp; omega), if_pos (hasI_iff.2 (by rw [← h]; exact List.getElem_mem _)), idx_first hk h hn]
theorem find_hi {lo hi : List Int} {id : Int} (hv : pileB lo hi = true) (h1 : 0 < id) {k : Nat} (hk : k < hi.length) (h : hi[k] = id) (hn : ∀ j (_ : j < hi.length), j < k → hi[j] ≠ id) : findR lo hi id = some (true, (k : Int)) := by
 have hm : id ∈ hi := by rw [← h]; exact List.getElem_mem _
 have := (take_hi (pileB_iff.1 hv) (id := id) (mem_nz.2 ⟨hm, by omega⟩)).1;rw [this, idx_first hk h hn]
theorem find_no {lo hi : List Int} {id : Int} (h1 : ∀ j (_ : j < lo.length), lo[j] ≠ id) (h2 : ∀ j (_ : j < hi.length), hi[j] ≠ id) : findR lo hi id = none := by
 have n1 : id ∉ lo := fun hm => by obtain ⟨j, hj, e⟩ := List.getElem_of_mem hm; exact h1 j hj e
 have n2 : id ∉ hi := fun hm => by obtain ⟨j, hj, e⟩ := List.getElem_of_mem hm; exact h2 j hj e
 unfold findR;split
 ·rw [if_neg (by rw [hasI_iff]; exact n1), if_neg (by rw [hasI_iff]; exact n2)]
 ·rfl
theorem find_spec (l h : Value) (lo hi : List Int) (id : Int) (w : World) (Hl : IntsAt 0 w.heap.size w l lo) (Hh : IntsAt 0 w.heap.size w h hi) :
 Calls Tryz.prog 118 #[pileV l h, .int .i64 id] w fun e w' => e = .returned (findV (findR lo hi id)) ∧ Below w.heap.size w w' := by
 have HL := hide Hl;have HH := hide Hh;have hl1 := Hl.len;have hl2 := Hh.len;obtain ⟨ao1, cap1, rfl, -, -, -, -⟩ := Hl;obtain ⟨ao2, cap2, rfl, -, -, -, -⟩ := Hh;have hP := fun W H1 H2 => pile_spec (.slice ao1 lo.length cap1) (.slice ao2 hi.length cap2) lo hi W H1 H2;unfold pileV at hP ⊢;have HP := hide hP;clear hP;go_enter Tryz.func118, Tryz.ntmps118;go_wp2_with fail
 go_loopw [6] (fun i wr => ∃ k : Nat, k ≤ lo.length ∧ i = .int .i64 k ∧ Below w.heap.size w wr ∧ RowL wr w.heap.size 29 [.slice ao1 lo.length cap1, .slice ao2 hi.length cap2] ∧ RowL wr (w.heap.size + 1) 128 [.bool false, .int .i64 0] ∧
  (0 < k → 0 < id ∧ pileB lo hi = true) ∧ (∀ j (_ : j < lo.length), j < k → lo[j] ≠ id) ∧ (∀ j (_ : j < hi.length), j < k → hi[j] ≠ id)) (fun i _ => lo.length - (intOf i).toNat)
 case atStart =>
  refine ⟨0, Nat.zero_le _, rfl, by go_grown, (RowL.new _ _ _).alloc _, ?_, fun h => absurd h (Nat.lt_irrefl _), fun _ _ h => absurd h (Nat.not_lt_zero _), fun _ _ h => absurd h (Nat.not_lt_zero _)⟩;simpa using RowL.new (w.alloc _) 128 [.bool false, .int .i64 0]
 case round =>
  obtain ⟨k, hk, rfl, hb, hr1, hr2, hpos, hlo, hhi⟩ := hrel;have HB := hide hb;have HR1 := hide hr1;have HR2 := hide hr2;have HPOS := hide hpos;have HLO := hide hlo;have HHI := hide hhi;have hz2 := hr2.lt;have hp0 := hr1.cell 0 (by simp);have hp1 := hr1.cell 1 (by simp);have hs0 := hr2.cell 0 (by simp);have hs1 := hr2.cell 1 (by simp);have hf0 := hr2.frozen 0;have hf1 := hr2.frozen 1;simp only [List.getD_cons_zero, List.getD_cons_succ] at hp0 hp1 hs0 hs1;clear hb hr1 hr2 hpos hlo hhi;by_cases hlt : k < lo.length
  ·by_cases hid : 0 < id
   ·have HLr := hide ((HL.out.below HB.out).mono nl HB.out.size nl)
    have HHr := hide ((HH.out.below HB.out).mono nl HB.out.size nl);cases hv : pileB lo hi with
    | false =>
     have HF := hide (find_bad (id := id) hv);go_wp2_with fail
     refine (HP.out wr HLr.out HHr.out).mono ?_;rw [hv];rintro e w1 ⟨rfl, hb1⟩;have RR := HR2.out.below hb1 HR2.out.lt;have hs0 := RR.c 0 rfl;have hs1 := RR.c 1 rfl;have hf0 := RR.frozen 0;have hf1 := RR.frozen 1;have HB2 := hide (Below.step HB.out hb1 nl);clear hb1 hp0 hp1 RR hv;go_wp2_with fail
     refine bodyPost_ret (by simp [results, Tryz.results118, go_sem, hs0, hs1]; try rfl) rfl ?_;exact ⟨by rw [HF.out]; rfl, (HB2.out.setCell (by simp) _).setCell (by simp) _⟩
    | true =>
     obtain ⟨_, _, e1, -, -, -, hcl⟩ := HLr.out;simp only [Value.slice.injEq] at e1;obtain ⟨rfl, -, rfl⟩ := e1;obtain ⟨b1, o1, rfl, -, hbl, hcs1⟩ := hcl (by omega);obtain ⟨r1, -⟩ := hcs1 k hlt;have HV := hide hv;have hkI : (k : Int) < (lo.length : Int) := by omega
     obtain ⟨x, hx⟩ : ∃ x, lo[k] = x := ⟨_, rfl⟩;rw [hx] at r1;have HX := hide hx;clear hcl hcs1 hx;go_wp2_with fail
     refine (HP.out wr HLr.out HHr.out).mono ?_;rw [hv];rintro e w1 ⟨rfl, hb1⟩;have RR := HR2.out.below hb1 HR2.out.lt;have RP := HR1.out.below hb1 HR1.out.lt;have HRR := hide RR;have HRP := hide RP;have hs0 := RR.c 0 rfl;have hs1 := RR.c 1 rfl;have hf0 := RR.frozen 0;have hf1 := RR.frozen 1;have hp0 := RP.cell 0 (by simp);have hp1 := RP.cell 1 (by simp);simp only [List.getD_cons_zero, List.getD_cons_succ] at hp0 hp1;rw [← hb1.cell (p := ⟨b1, _, none⟩) (by simpa using hbl)] at r1;have HB2 := hide (Below.step HB.out hb1 nl);have HHr2 := hide (HHr.out.below hb1);clear hb1 RR RP hv;by_cases hq : x = id
     ·have hqB : (x == id) = true := by simp [hq]
      have HF := hide (find_lo (hi := hi) HV.out hid hlt (by rw [HX.out]; exact hq) HLO.out);clear hq;go_wp2_with fail
      refine bodyPost_ret (by simp [results, Tryz.results118, go_sem, hs0, hs1]; try rfl) rfl ?_;exact ⟨by rw [HF.out]; rfl, (HB2.out.setCell (by simp) _).setCell (by simp) _⟩
     ·have hqB : (x == id) = false := by simp [hq]
      have HQ := hide hq;clear hq;by_cases hlt2 : k < hi.length
      ·obtain ⟨_, _, e2, -, -, -, hch⟩ := HHr2.out
       simp only [Value.slice.injEq] at e2;obtain ⟨rfl, -, rfl⟩ := e2;obtain ⟨b2, o2, rfl, -, -, hcs2⟩ := hch (by omega);obtain ⟨r2, -⟩ := hcs2 k hlt2;obtain ⟨y, hy⟩ : ∃ y, hi[k] = y := ⟨_, rfl⟩;rw [hy] at r2;have HY := hide hy;have hkI2 : (k : Int) < (hi.length : Int) := by omega
       clear hch hcs2 hy;by_cases hq2 : y = id
       ·have hqB2 : (y == id) = true := by simp [hq2]
        have HF := hide (find_hi (lo := lo) HV.out hid hlt2 (by rw [HY.out]; exact hq2) HHI.out);clear hq2;go_wp2_with fail
        refine bodyPost_ret (by simp [results, Tryz.results118, go_sem, hs0, hs1]; try rfl) rfl ?_;exact ⟨by rw [HF.out]; rfl, (HB2.out.setCell (by simp) _).setCell (by simp) _⟩
       ·have hqB2 : (y == id) = false := by simp [hq2]
        have HQ2 := hide hq2;clear hq2;go_wp2_with fail
        go_roundw
        case rel =>
         refine ⟨k + 1, by omega, by go_num, HB2.out, HRP.out, HRR.out, fun _ => ⟨hid, by first | trivial | exact HV.out⟩, fun j hj hjk => ?_, fun j hj hjk => ?_⟩
         ·rcases Nat.lt_or_ge j k with h | h
          ·exact HLO.out j hj h
          ·obtain rfl : j = k := by omega
           rw [HX.out]; exact HQ.out
         ·rcases Nat.lt_or_ge j k with h | h
          ·exact HHI.out j hj h
          ·obtain rfl : j = k := by omega
           rw [HY.out]; exact HQ2.out
        case measure => simp [intOf]; omega
      ·have hkI2 : decide ((k : Int) < (hi.length : Int)) = false := by simp; omega
       go_wp2_with fail
       go_roundw
       case rel =>
        refine ⟨k + 1, by omega, by go_num, HB2.out, HRP.out, HRR.out, fun _ => ⟨hid, by first | trivial | exact HV.out⟩, fun j hj hjk => ?_, fun j hj hjk => HHI.out j hj (by omega)⟩;rcases Nat.lt_or_ge j k with h | h
        ·exact HLO.out j hj h
        ·obtain rfl : j = k := by omega
         rw [HX.out]; exact HQ.out
       case measure => simp [intOf]; omega
   ·have hidB : decide (0 < id) = false := by simp; omega
    have HF := hide (find_low (lo := lo) (hi := hi) (show id ≤ 0 by omega));clear hid;go_wp2_with fail
    refine bodyPost_ret (by simp [results, Tryz.results118, go_sem, hs0, hs1]; try rfl) rfl ?_;exact ⟨by rw [HF.out]; rfl, (HB.out.setCell (by simp) _).setCell (by simp) _⟩
  ·obtain rfl : k = lo.length := by omega
   have hkB : decide ((lo.length : Int) < (lo.length : Int)) = false := by simp
   have hF : findR lo hi id = none := by
    cases hv : pileB lo hi with
    | false => exact find_bad hv
    | true =>
     have := (pileB_iff.1 hv).lh;exact find_no (fun j hj => HLO.out j hj hj) (fun j hj => HHI.out j hj (by omega))
   have HF := hide hF;clear hF;go_wp2_with fail
   refine bodyPost_ret (by simp [results, Tryz.results118, go_sem, hs0, hs1]; try rfl) rfl ?_;exact ⟨by rw [HF.out]; rfl, (HB.out.setCell (by simp) _).setCell (by simp) _⟩
theorem own_source {w : World} {base T n : Nat} {v : Value} {cs : List Value} (h : w.ownsRow base T 1 v n cs) (h1 : ∀ u ∈ cs, u.oneCell' = true) : Source w 1 v n cs := by
 obtain ⟨hl, ⟨rfl, rfl⟩ | ⟨g, cap, cur, rfl, -, hb, -, -, -, h4⟩⟩ := h
 ·exact ⟨⟨none, 0, rfl, fun _ => rfl, fun ad ha => by cases ha⟩, hl, h1⟩
 ·refine ⟨⟨_, cap, rfl, (fun e => by cases e), fun ad ha j u hu => ?_⟩, hl, h1⟩
  obtain rfl := Option.some.inj ha;rw [adds, Go.Joins.cell_of_block hb];have hj : j < n * 1 := by rw [← hl]; exact (List.getElem?_eq_some_iff.1 hu).1
  rw [← h4, List.getElem?_take_of_lt hj] at hu;simpa using hu
theorem lists_one {lo : Nat} {w : World} {v : Value} {us : List Value} {xss : List (List Int)} (h : Lists lo w v us xss) : ∀ u ∈ us, u.oneCell' = true := by
 intro u hu;obtain ⟨i, hi, rfl⟩ := List.getElem_of_mem hu;obtain ⟨u', a, z, h1, -, h3, -⟩ := h.2 i (by rw [← h.1]; exact hi);rw [List.getElem?_eq_getElem hi] at h1;rw [Option.some.inj h1];obtain ⟨ao, cap, e⟩ := ints_form h3;rw [e]; rfl
theorem info_slI : (Tryz.prog.info? 27).map (fun i => (i.zero, i.size, i.bytes)) = some (some (.slice none 0 0), 1, 24) := by kernel_rfl
def AllGot (lo base : Nat) (xss : List (List Int)) (w : World) (e : Ending) (w' : World) : Prop :=
 ∃ v us, e = .returned v ∧ w'.ownsRow base 27 1 v us.length us ∧ Lists lo w' v us xss ∧ Below base w w'
theorem all_len {sts : List St} (hv : stsB sts = true) (pre : List Int) (k : Nat) (t : Int) : (withP pre (allM (stocks sts k) t)).length ≤ 10000 := by
 rw [withP_len];have h := allM_len (stocks sts k) (fun s hs => by
  have hs2 := List.mem_of_mem_drop hs;obtain ⟨x, hx, rfl⟩ := List.mem_map.1 hs2;obtain ⟨i, hi, rfl⟩ := List.getElem_of_mem hx;have := stB_k (stsB_at hv hi);omega) t
 have hl : (stocks sts k).length ≤ 4 := by
  have := stsB_len hv;simp [stocks]; omega
 have : 10 ^ (stocks sts k).length ≤ 10 ^ 4 := Nat.pow_le_pow_right (by omega) hl;omega
theorem part_len2 {sts : List St} (hv : stsB sts = true) (pre : List Int) (k : Nat) (t : Int) (n : Nat) : (withP pre (part (stocks sts k) t n)).length ≤ n * 10000 := by
 rw [withP_len];exact part_len _ _ _ (fun t => by have := all_len hv [] k t; rwa [withP_len] at this) n
theorem all_any (sv : Value) {sts : List St} (hv : stsB sts = true) : ∀ (n k : Nat), k + n = sts.length → ∀ (w : World) (lo : Nat) (mv : Value) (mix : List Int) (tons : Int), lo ≤ w.heap.size → StAt 0 w.heap.size w sv sts → IntsAt lo w.heap.size w mv mix → mix.length = k → 0 ≤ tons → tons ≤ 12 →
 Calls Tryz.prog 203 #[sv, mv, .int .i64 tons] w (AllGot lo w.heap.size (withP mix (allM (stocks sts k) tons)) w) := by
 obtain ⟨i0, hi0, hz0, hi1, hi2⟩ := info_parts info_slI;obtain ⟨j0, hj0, hy0, hj1, hj2⟩ := info_parts info_int;intro n
 induction n with
 | zero =>
  intro k hn w lo mv mix tons hlo Hs Hm hl ht0 ht1;obtain rfl : k = sts.length := by omega
  have HE := hide (show withP mix (allM (stocks sts sts.length) tons) = if tons = 0 then [mix] else [] by
   rw [stocks_end, allM_end])
  have HM := hide Hm;obtain ⟨aos, cps, rfl, -, -, -, -⟩ := Hs;obtain ⟨aom, cpm, rfl, -, -, -, -⟩ := Hm;have hlI : (mix.length : Int) = (sts.length : Int) := by omega
  have HO := hide (show (w.alloc (.cells #[] 27)).ownsRow w.heap.size 27 1 (.slice (some ⟨w.heap.size, 0, none⟩) 0 0) 0 [] by
   simpa using World.ownsRow_lit (e := 27) (size := 1) (base := w.heap.size) w #[] 0 nl (by unfold maxLen; omega) (by simp))
  clear hn hl;go_enter Tryz.func203, Tryz.ntmps203;by_cases hz : tons = 0
  ·subst hz
   have HE0 := hide (HE.out.trans (if_pos rfl));go_wp2_with (at_builtin; refine wpList_append_view rfl _ _ 165 rfl w.heap.size 27 i0 (.slice none 0 0) 1 24 Tryz.underlying165 hi0 hz0 hi1 hi2 rfl (by decide) _ _ _ rfl (HO.out.alloc _) (.slice (some ⟨w.heap.size + 1, 0, none⟩) 1 1) 1 [.slice aom mix.length cpm] rfl ?cc0 ?cc1 ?cc2 ?cc3 ?_)
   case cc0 => simpa using Source.lit (w.alloc (.cells #[] 27)) [.slice aom mix.length cpm] 1 27 1 rfl (fun u hu => by simp at hu; subst hu; rfl) 1
   case cc1 => unfold maxLen; omega
   case cc3 => first | omega | (simp; omega) | simp
   intro v2 w2 hown2 hgrow2 _;go_wp2_with fail
   go_ret;have hb : Below w.heap.size w w2 := (((Below.refl _ _).alloc nl _).alloc (by simp) _).trans (Below.grow hgrow2 (HO.out.alloc _) nl (by simp; omega));refine ⟨v2, [.slice aom mix.length cpm], rfl, by simpa using hown2, ?_, hb⟩;rw [HE0.out];exact Lists.one (HM.out.below hb) nl fun g hg => .inr (hown2.lt g hg).1
  ·go_wp2_with fail
   go_ret;refine ⟨_, [], rfl, by simpa using HO.out, ?_, by go_grown⟩;rw [HE.out, if_neg hz];exact Lists.none _ _ _
 | succ n ih =>
  intro k hn w lo mv mix tons hlo Hs Hm hl ht0 ht1;have IH := hide ih;clear ih;have hk : k < sts.length := by omega
  have hL4 := stsB_len hv;have HV := hide hv;clear hv;have HN := hide hn;have HL := hide hl;have HS := hide Hs;have HM := hide Hm;obtain ⟨s, hs⟩ : ∃ s, (sts.getD k st0).k = s := ⟨_, rfl⟩;have hs9 : 0 ≤ s ∧ s ≤ 9 := by rw [← hs]; exact stB_k (stsB_getD HV.out hk)
  have HSS := hide hs;obtain ⟨m, hm⟩ : ∃ m : Nat, min tons s + 1 = (m : Int) := ⟨(min tons s + 1).toNat, by omega⟩;have HE := hide (show allM (stocks sts k) tons = part (stocks sts (k + 1)) tons m by
   rw [allM_at hk, hs, hm]; rfl)
  have hm10 : m ≤ 10 := by omega
  obtain ⟨b0, o0, cps, rfl, -, -, -⟩ := st_at Hs hk;obtain ⟨aom, cpm, rfl, -, -, -, -⟩ := Hm;have hkI : ((mix.length : Int) == (sts.length : Int)) = false := by rw [beq_eq_false_iff_ne]; omega
  have hiI : (mix.length : Int) < (sts.length : Int) := by omega
  have hi0' : (0 : Int) ≤ (mix.length : Int) := by omega
  have HO := hide (show (w.alloc (.cells #[] 27)).ownsRow w.heap.size 27 1 (.slice (some ⟨w.heap.size, 0, none⟩) 0 0) 0 [] by
   simpa using World.ownsRow_lit (e := 27) (size := 1) (base := w.heap.size) w #[] 0 nl (by unfold maxLen; omega) (by simp))
  clear hn hl hs;go_enter Tryz.func203, Tryz.ntmps203;go_wp2_with fail
  go_loopw [7, 9] (fun o i wr => ∃ (t : Nat) (us : List Value), t ≤ m ∧ i = .int .i64 (t : Int) ∧ wr.ownsRow w.heap.size 27 1 o us.length us ∧ Lists lo wr o us (withP mix (part (stocks sts (k + 1)) tons t)) ∧ Below w.heap.size w wr) (fun _ i _ => m - (intOf i).toNat)
  case atStart =>
   exact ⟨0, [], by omega, rfl, by simpa using HO.out, by rw [part_zero]; exact Lists.none _ _ _, by go_grown⟩
  case round =>
   obtain ⟨t, us, ht, rfl, hown, hls, hb⟩ := hrel;have HSr := HS.out.below hb;have HMr := hide (HM.out.below hb);obtain ⟨b1, o1, cap1, e1, -, -, -, -, -, -, d4⟩ := st_at HSr hk;cases e1;rw [HSS.out] at d4;rw [← HL.out] at d4;have HSr2 := hide HSr;have HB := hide hb;have HLs := hide hls;have HOr := hide hown;obtain ⟨aoo, cpo, rfl, -, -⟩ := own_slice hown;have hz := hb.size;have hul : us.length ≤ 100000 := by
    rw [hls.1];have := part_len2 HV.out mix (k + 1) tons t;have : t * 10000 ≤ 10 * 10000 := Nat.mul_le_mul_right _ (by omega);omega
   clear hb hls hown HSr;have hmin : (if s < tons then s else tons) = (m : Int) - 1 := by split <;> omega
   by_cases hlt : t < m
   ·have hle : (t : Int) ≤ min tons s := by omega
    have hlt1 : IntKind.i64.wrap (tons - (t : Int)) = tons - (t : Int) := IntWalk.i64_in _ (by omega);have hL0 := hide (show (wr.alloc (.cells #[] 3)).ownsRow wr.heap.size 3 1 (.slice (some ⟨wr.heap.size, 0, none⟩) 0 0) 0 [] by
     simpa using World.ownsRow_lit (e := 3) (size := 1) (base := wr.heap.size) wr #[] 0 nl (by unfold maxLen; omega) (by simp))
    have HM0 := hide (HMr.out.below ((Below.refl wr.heap.size wr).alloc nl (.cells #[] 3)));have hmlen : mix.length ≤ 4 := by have := HL.out; omega
    go_wp2_with (at_builtin; refine wpList_append_view rfl _ _ 27 rfl wr.heap.size 3 j0 (.int .i64 0) 1 8 Tryz.underlying27 hj0 hy0 hj1 hj2 rfl (by decide) _ _ _ rfl hL0.out (.slice aom mix.length cpm) mix.length (flatI mix) rfl ?dd0 ?dd1 ?dd2 ?dd3 ?_)
    case dd0 => exact HM0.out.source
    case dd1 => unfold maxLen; omega
    case dd2 => omega
    case dd3 => simp
    intro v2 w2 hown2 hgrow2 _;have hb2 : Below wr.heap.size wr w2 := ((Below.refl _ _).alloc nl _).trans (Below.grow hgrow2 hL0.out nl (by simp));have HO2 := hide (show w2.ownsRow wr.heap.size 3 1 v2 mix.length (flatI mix) by simpa using hown2);have HB2 := hide hb2;have hz2 := hb2.size;clear hown2 hgrow2 hb2;go_wp2_with (at_builtin; refine wpList_append_view rfl _ _ 27 rfl wr.heap.size 3 j0 (.int .i64 0) 1 8 Tryz.underlying27 hj0 hy0 hj1 hj2 rfl (by decide) _ _ _ rfl (HO2.out.alloc _) (.slice (some ⟨w2.heap.size, 0, none⟩) 1 1) 1 [.int .i64 (t : Int)] rfl ?ee0 ?ee1 ?ee2 ?ee3 ?_)
    case ee0 => simpa using Source.lit w2 [.int .i64 (t : Int)] 1 3 1 rfl (fun u hu => by simp at hu; subst hu; rfl) 1
    case ee1 => unfold maxLen; omega
    case ee2 => omega
    case ee3 => simp; omega
    intro v3 w3 hown3 hgrow3 _;have hb3 : Below wr.heap.size w2 w3 := ((Below.refl _ _).alloc hz2 _).trans (Below.grow hgrow3 (HO2.out.alloc _) nl (by simp; omega));have HO3 := hide (show w3.ownsRow wr.heap.size 3 1 v3 (mix ++ [(t : Int)]).length (flatI (mix ++ [(t : Int)])) by simpa [flatI] using hown3);have HB3 := hide (HB2.out.trans hb3);have hz3 := HB3.out.size;clear hown3 hgrow3 hb3;go_wp2_with fail
    refine (IH.out (k + 1) (by have := HN.out; omega) w3 wr.heap.size v3 (mix ++ [(t : Int)]) (tons - (t : Int)) hz3 ?i1 ?i2 (by rw [List.length_append, HL.out]; rfl) (by omega) (by omega)).mono ?_
    case i1 => exact (HSr2.out.below HB3.out).mono nl (by omega) nl
    case i2 => exact ownI_at HO3.out rfl hz3
    rintro e w4 ⟨v4, us4, rfl, hown4, hls4, hb4⟩;have HB4 := hide (Below.step HB3.out hb4 nl);have hz4 := HB4.out.size;have HO4 := hide (ownsRow_below HOr.out HB4.out nl);have HL4 := hide (HLs.out.below HB4.out);have HS4 := hide (own_source hown4 (lists_one hls4));have HLn4 := hide hls4;have hu4 : us4.length ≤ 10000 := by
     rw [hls4.1]; exact all_len HV.out _ _ _
    obtain ⟨ao4, cp4, rfl, -, -⟩ := own_slice hown4;clear hown4 hls4 hb4;go_wp2_with (at_builtin; refine wpList_append_view rfl _ _ 165 rfl w.heap.size 27 i0 (.slice none 0 0) 1 24 Tryz.underlying165 hi0 hz0 hi1 hi2 rfl (by decide) _ _ _ rfl HO4.out (.slice ao4 us4.length cp4) us4.length us4 rfl ?ff0 ?ff1 ?ff2 ?ff3 ?_)
    case ff0 => exact HS4.out
    case ff1 => unfold maxLen; omega
    case ff2 => omega
    case ff3 => omega
    intro v5 w5 hown5 hgrow5 hv5;have HO5 := hide (show w5.ownsRow w.heap.size 27 1 v5 (us ++ us4).length (us ++ us4) by simpa using hown5);have hb5 : Below w.heap.size w4 w5 := Below.grow hgrow5 HO4.out nl (by omega);have HB5 := hide ((HB.out.trans (HB4.out.mono (by omega))).trans hb5);have HL5 := hide (show Lists lo w5 v5 (us ++ us4) (withP mix (part (stocks sts (k + 1)) tons (t + 1))) by
     rw [withP_succ];refine (HL4.out.grow hgrow5 hv5).append ?_;exact (HLn4.out.off (by omega) fun g hg => (HOr.out.lt g hg).2).grow hgrow5 hv5)
    clear hown5 hgrow5 hv5 hb5;go_wp2_with fail
    go_roundw
    case rel => exact ⟨t + 1, us ++ us4, by omega, by go_num, HO5.out, HL5.out, HB5.out⟩
    case measure => simp [intOf]; omega
   ·obtain rfl : t = m := by omega
    have hle : ¬ (t : Int) ≤ (t : Int) - 1 := by omega
    go_wp2_with fail
    go_ret;refine ⟨_, us, rfl, HOr.out, ?_, HB.out⟩;rw [HE.out];exact HLs.out
def srchC (stv bv : Value) (g : Gr) (M n : Nat) (c : Int) (f : Bool) : List Value :=
 [stv, .int .i64 g.lc, .int .i64 g.hc, .int .i64 g.lm, .int .i64 g.hm, .int .i64 g.ls, .int .i64 g.hs, .slice (some ⟨M, 0, none⟩) n n, bv, .int .i64 c, .bool f]
def bestIs (L : Nat) (w : World) (b : Option (List Int × Int)) (bv : Value) (c : Int) (f : Bool) : Prop :=
 match b with
 | none => f = false ∧ bv = .slice none 0 0
 | some (x, y) => f = true ∧ c = y ∧ OwnE L 3 1 w bv x.length (flatI x)
structure Srch (base L B M : Nat) (w : World) (stv : Value) (sts : List St) (g : Gr) (mix : List Int) (b : Option (List Int × Int)) : Prop where
 box : ∃ bv c f, RowL w B 199 (srchC stv bv g M mix.length c f) ∧ bestIs L w b bv c f
 mix : RowL w M 3 (flatI mix)
 sts : StAt 0 base w stv sts
 hB : base ≤ B ∧ B < L
 hM : base ≤ M ∧ M < L
 hBM : B ≠ M
 hL : L ≤ w.heap.size
theorem bestIs.below {L : Nat} {w w' : World} {b : Option (List Int × Int)} {bv : Value} {c : Int} {f : Bool} (h : bestIs L w b bv c f) (k : Below w.heap.size w w') : bestIs L w' b bv c f := by
 rcases b with _ | ⟨x, y⟩
 ·exact h
 ·exact ⟨h.1, h.2.1, h.2.2.below k nl⟩
theorem bestIs.other {L a z : Nat} {w w' : World} {b : Option (List Int × Int)} {bv : Value} {c : Int} {f : Bool} (h : bestIs L w b bv c f) (k : Other a z w w') (hz : z ≤ L) : bestIs L w' b bv c f := by
 rcases b with _ | ⟨x, y⟩
 ·exact h
 ·exact ⟨h.1, h.2.1, h.2.2.other k fun g hg => by have := (h.2.2.lt g hg).1; omega⟩
theorem Srch.below {base L B M : Nat} {w w' : World} {stv : Value} {sts : List St} {g : Gr} {mix : List Int} {b : Option (List Int × Int)} (H : Srch base L B M w stv sts g mix b) (k : Below w.heap.size w w') : Srch base L B M w' stv sts g mix b := by
 obtain ⟨bv, c, f, h1, h2⟩ := H.box;exact ⟨⟨bv, c, f, h1.below k h1.lt, h2.below k⟩, H.mix.below k H.mix.lt, H.sts.below k, H.hB, H.hM, H.hBM, Nat.le_trans H.hL k.size⟩
theorem Srch.put {base L B M : Nat} {w : World} {stv : Value} {sts : List St} {g : Gr} {mix : List Int} {b : Option (List Int × Int)} (H : Srch base L B M w stv sts g mix b) {j : Nat} (hj : j < mix.length) (x : Int) :
 Srch base L B M (w.setCell ⟨M, j, none⟩ (.int .i64 x)) stv sts g (mix.set j x) b := by
 obtain ⟨bv, c, f, h1, h2⟩ := H.box;have hO : Other M (M + 1) w (w.setCell ⟨M, j, none⟩ (.int .i64 x)) := (Other.refl _ _ _).setCell (p := ⟨M, j, none⟩) nl (Nat.lt_succ_self _) _;have hM := H.hM;have hBM := H.hBM;refine ⟨⟨bv, c, f, ?_, h2.other hO (by omega)⟩, ?_, H.sts.other hO (.inl hM.1), H.hB, H.hM, H.hBM, by simpa [World.setCell] using H.hL⟩
 ·rw [List.length_set]
  exact h1.other hO (by omega)
 ·rw [flatI_set]
  exact H.mix.set j _ (by rw [flatI_len]; exact hj)
theorem Srch.keep {base L B M : Nat} {w : World} {stv bv v : Value} {sts : List St} {g : Gr} {mix : List Int} {b : Option (List Int × Int)} {x : Int} {f : Bool} (H : Srch base L B M w stv sts g mix b) (r : RowL w B 199 (srchC stv bv g M mix.length x f)) (o : OwnE L 3 1 w v mix.length (flatI mix)) (y : Int) :
 Srch base L B M (((w.setCell ⟨B, 8, none⟩ v).setCell ⟨B, 9, none⟩ (.int .i64 y)).setCell ⟨B, 10, none⟩ (.bool true)) stv sts g mix (some (mix, y)) ∧ Below base w (((w.setCell ⟨B, 8, none⟩ v).setCell ⟨B, 9, none⟩ (.int .i64 y)).setCell ⟨B, 10, none⟩ (.bool true)) := by
 have hO : Other B (B + 1) w (((w.setCell ⟨B, 8, none⟩ v).setCell ⟨B, 9, none⟩ (.int .i64 y)).setCell ⟨B, 10, none⟩ (.bool true)) :=
  (((Other.refl _ _ _).setCell (p := ⟨B, 8, none⟩) nl (Nat.lt_succ_self _) _).setCell (p := ⟨B, 9, none⟩) nl (Nat.lt_succ_self _) _).setCell (p := ⟨B, 10, none⟩) nl (Nat.lt_succ_self _) _
 have hB := H.hB;have hBM := H.hBM;have hL := H.hL;refine ⟨⟨⟨v, y, true, ?_, rfl, rfl, o.other hO fun k hk => by have := (o.lt k hk).1; omega⟩, H.mix.other hO (by omega), H.sts.other hO (.inl hB.1), H.hB, H.hM, H.hBM, Nat.le_trans hL hO.size⟩, hO.below (B := base) hB.1 (by omega)⟩;exact ((r.set 8 v (by simp [srchC])).set 9 (.int .i64 y) (by simp [srchC])).set 10 (.bool true) (by simp [srchC])
theorem pileOwn_nil {base : Nat} {w : World} (h : base ≤ w.heap.size) : PileOwn base w (.slice none 0 0) (.slice none 0 0) [] [] :=
 ⟨h, OwnE.own (World.ownsRow_nil _ _ _ _), OwnE.own (World.ownsRow_nil _ _ _ _), fun k e _ => by cases e⟩
theorem ownE_row {base g n cap : Nat} {w : World} {xs : List Int} (H : OwnE base 3 1 w (.slice (some ⟨g, 0, none⟩) n cap) xs.length (flatI xs)) {j : Nat} (hj : j < xs.length) :
 w.cell? ⟨g, j, none⟩ = some (.int .i64 (xs.getD j 0)) ∧ w.frozen? ⟨g, j, none⟩ = false ∧ base ≤ g ∧ g < w.heap.size := by
 rcases H with H | ⟨g', -, -, -, h0, -⟩
 ·have hl := H.lt g rfl
  obtain ⟨ao, cap', e, -, -⟩ := own_slice H;simp only [Value.slice.injEq] at e;obtain ⟨rfl, rfl, rfl⟩ := e;refine ⟨?_, H.frozenAt j, hl.1, hl.2⟩;rw [H.cellAt j (by omega)];simp [flatI, hj]
 ·omega
theorem PileOwn.form {base : Nat} {w : World} {l h : Value} {lo hi : List Int} (H : PileOwn base w l h lo hi) (t : Bool) {j : Nat} (hj : j < (rowR t lo hi).length) :
 ∃ g cap, rowV t l h = .slice (some ⟨g, 0, none⟩) (rowR t lo hi).length cap := by
 have key : ∀ (v : Value) (xs : List Int), OwnE base 3 1 w v xs.length (flatI xs) → j < xs.length → ∃ g cap, v = .slice (some ⟨g, 0, none⟩) xs.length cap := by
  intro v xs h hx;rcases h with h | ⟨g, -, -, -, h0, -⟩
  ·rcases h.2 with ⟨-, h0⟩ | ⟨g, cap, cur, e, -⟩
   ·omega
   ·exact ⟨g, cap, e⟩
  ·omega
 cases t
 ·exact key l lo H.lo hj
 ·exact key h hi H.ho hj
theorem PileOwn.cellAt {base g n cap : Nat} {w : World} {l h : Value} {lo hi : List Int} (H : PileOwn base w l h lo hi) {t : Bool} (er : rowV t l h = .slice (some ⟨g, 0, none⟩) n cap) {j : Nat} (hj : j < (rowR t lo hi).length) :
 w.cell? ⟨g, j, none⟩ = some (.int .i64 ((rowR t lo hi).getD j 0)) ∧ w.frozen? ⟨g, j, none⟩ = false ∧ base ≤ g ∧ g < w.heap.size := by
 cases t
 ·have e : l = _ := er
  subst e;exact ownE_row H.lo hj
 ·have e : h = _ := er
  subst e;exact ownE_row H.ho hj
theorem PileOwn.set {base g n cap : Nat} {w : World} {l h : Value} {lo hi : List Int} (H : PileOwn base w l h lo hi) {t : Bool} (er : rowV t l h = .slice (some ⟨g, 0, none⟩) n cap) {j : Nat} (hj : j < (rowR t lo hi).length) (x : Int) :
 PileOwn base (w.setCell ⟨g, j, none⟩ (.int .i64 x)) l h (setR t lo hi (j : Int) x).1 (setR t lo hi (j : Int) x).2 ∧ Other g (g + 1) w (w.setCell ⟨g, j, none⟩ (.int .i64 x)) := by
 cases t
 ·have e : l = _ := er
  subst e;have hj' : j < lo.length := hj;obtain ⟨h1, h2⟩ := OwnE.put (j := j) H.lo (by omega) (g := g) rfl (.int .i64 x);refine ⟨⟨by simpa [World.setCell] using H.hb, ?_, ?_, H.ap⟩, h2⟩
  ·have : (setR false lo hi (j : Int) x).1 = lo.set j x := by simp [setR]
   rw [this, flatI_set, List.length_set]; exact h1
  ·exact H.ho.other h2 fun k hk => by
    have := H.ap g rfl;rcases Nat.lt_trichotomy k g with h | h | h
    ·exact .inl h
    ·subst h; exact absurd hk this
    ·exact .inr h
 ·have e : h = _ := er
  subst e;have hj' : j < hi.length := hj;obtain ⟨h1, h2⟩ := OwnE.put (j := j) H.ho (by omega) (g := g) rfl (.int .i64 x);refine ⟨⟨by simpa [World.setCell] using H.hb, ?_, ?_, H.ap⟩, h2⟩
  ·exact H.lo.other h2 fun k hk => by
    have := H.ap.symm g rfl;rcases Nat.lt_trichotomy k g with h | h | h
    ·exact .inl h
    ·subst h; exact absurd hk this
    ·exact .inr h
  ·have : (setR true lo hi (j : Int) x).2 = hi.set j x := by simp [setR]
   rw [this, flatI_set, List.length_set]; exact h1
theorem pile_lens {lo hi : List Int} (h : pileB lo hi = true) : lo.length ≤ 1000000 ∧ hi.length ≤ 1000000 := by
 have hv := pileB_iff.1 h;have := hv.l6;have := hv.lh;omega
theorem put_bad {lo hi : List Int} {t : Bool} {p id : Int} (h : pileB lo hi = false) : putR lo hi t p id = (([], []), false) := by simp [putR, h]
theorem put_low {lo hi : List Int} {t : Bool} {p id : Int} (h : pileB lo hi = true) (h2 : id < 1) : putR lo hi t p id = ((lo, hi), false) := by simp [putR, h, h2]
theorem put_full {lo hi : List Int} {t : Bool} {p id : Int} (h : pileB lo hi = true) (h2 : atR lo hi t p ≠ 0) : putR lo hi t p id = ((lo, hi), false) := by simp [putR, h, h2]
theorem put_not {lo hi : List Int} {t : Bool} {p id : Int} (h : pileB lo hi = true) (h2 : atR lo hi t p = 0) (h3 : pileB (setR t lo hi p id).1 (setR t lo hi p id).2 = false) : putR lo hi t p id = ((lo, hi), false) := by
 simp [putR, h, h2, h3]
theorem put_yes {lo hi : List Int} {t : Bool} {p id : Int} (h : pileB lo hi = true) (h1 : ¬ id < 1) (h2 : atR lo hi t p = 0) (h3 : pileB (setR t lo hi p id).1 (setR t lo hi p id).2 = true) : putR lo hi t p id = (setR t lo hi p id, true) := by
 simp [putR, h, h1, h2, h3]
end Go.Proofs.YtmemgbklgcjobaaGreatDoor
