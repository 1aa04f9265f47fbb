/-
  Parts of the proofs over mills, of: PileE, PileF, MillD, MillE. Conditions: each theorem states its own.
-/
import Derived.Test.YtmemgbklgcjobaaGreatDoorY16
set_option linter.unusedSimpArgs false
set_option linter.unusedVariables false
set_option maxRecDepth 10000
set_option maxHeartbeats 64000000
namespace Go.Proofs.YtmemgbklgcjobaaGreatDoor
open Go.RowKit
def coilTo (lo hi : List Int) : Nat → List Int
 | 0 => []
 | k + 1 => if (findR lo hi ((k : Int) + 1)).isSome then coilTo lo hi k ++ [(k : Int) + 1] else coilTo lo hi k
theorem coilTo_len (lo hi : List Int) : ∀ k, (coilTo lo hi k).length ≤ k
 | 0 => Nat.le_refl _
 | k + 1 => by
  have := coilTo_len lo hi k;unfold coilTo;split
  ·simp; omega
  ·omega
theorem coilTo_mem {lo hi : List Int} : ∀ {k : Nat} {x : Int}, x ∈ coilTo lo hi k ↔ 1 ≤ x ∧ x ≤ k ∧ (findR lo hi x).isSome = true
 | 0, x => by simp [coilTo]; omega
 | k + 1, x => by
  unfold coilTo;split
  ·rename_i h
   rw [List.mem_append, coilTo_mem, List.mem_singleton];constructor
   ·rintro (⟨h1, h2, h3⟩ | rfl)
    ·exact ⟨h1, by omega, h3⟩
    ·exact ⟨by omega, by omega, h⟩
   ·rintro ⟨h1, h2, h3⟩
    by_cases e : x = (k : Int) + 1
    ·exact .inr e
    ·exact .inl ⟨h1, by omega, h3⟩
  ·rename_i h
   rw [coilTo_mem];constructor
   ·rintro ⟨h1, h2, h3⟩; exact ⟨h1, by omega, h3⟩
   ·rintro ⟨h1, h2, h3⟩
    refine ⟨h1, ?_, h3⟩;by_cases e : x = (k : Int) + 1
    ·rw [e] at h3; exact absurd h3 h
    ·omega
theorem coilTo_lt (lo hi : List Int) : ∀ k, (coilTo lo hi k).Pairwise (· < ·)
 | 0 => List.Pairwise.nil
 | k + 1 => by
  unfold coilTo;split
  ·rw [List.pairwise_append]
   refine ⟨coilTo_lt lo hi k, by simp, fun a ha b hb => ?_⟩;have := coilTo_mem.1 ha;simp only [List.mem_singleton] at hb;omega
  ·exact coilTo_lt lo hi k
theorem coilTo_all (lo hi : List Int) : coilTo lo hi 99 = coilR lo hi := by
 refine lt_unique (coilTo_lt _ _ _) (coil_lt _ _) fun x => ?_;rw [coilTo_mem];cases hv : pileB lo hi with
 | false => simp [coilR, hv, find_bad hv]
 | true =>
  have hV := pileB_iff.1 hv;rw [mem_coil hV];constructor
  ·rintro ⟨h1, h2, h3⟩
   apply Classical.byContradiction;intro hn;have : findR lo hi x = none := by
    cases hf : findR lo hi x with
    | none => rfl
    | some r =>
     obtain ⟨t, p⟩ := r;obtain ⟨_, _, k, _, hk, e⟩ := find_at hf;exact absurd (mem_nz.2 ⟨by rw [← e]; exact row_mem (getD_mem hk), by omega⟩) hn
   rw [this] at h3; cases h3
  ·intro h
   obtain ⟨t, p, e⟩ := find_some hV h;have := hV.rng x (mem_nz.1 h).1;have := (mem_nz.1 h).2;exact ⟨by omega, by omega, by rw [e]; rfl⟩
theorem coils_spec (l h : Value) (lo hi : List Int) (w : World) (Hl : IntsAt 0 w.heap.size w l lo) (Hh : IntsAt 0 w.heap.size w h hi) :
 Calls Tryz.prog 70 #[pileV l h] w (IntsNew w.heap.size (coilR lo hi) w) := by
 have HL := hide Hl;have HH := hide Hh;have hP := fun id W H1 H2 => find_spec l h lo hi id W H1 H2;unfold pileV at hP ⊢;have HP := hide hP;obtain ⟨i0, hi0, hz0, hi1, hi2⟩ := info_parts info_int;clear hP Hl Hh;go_enter Tryz.func70, Tryz.ntmps70;go_wp2_with fail
 go_loopw [3, 4, 5, 6] (fun o i _ _ wr => ∃ k : Nat, k ≤ 99 ∧ i = .int .i64 ((k : Int) + 1) ∧ Below w.heap.size w wr ∧ RowL wr w.heap.size 29 [l, h] ∧ wr.ownsRow (w.heap.size + 1) 3 1 o (coilTo lo hi k).length (flatI (coilTo lo hi k))) (fun _ i _ _ _ => 100 - (intOf i).toNat)
 case atStart =>
  refine ⟨0, by omega, rfl, by go_grown, (RowL.new _ _ _).alloc _, ?_⟩;simpa [coilTo, flatI] using World.ownsRow_lit (e := 3) (size := 1) (base := w.heap.size + 1) (w.alloc (.cells #[l, h] 29)) #[] 0 (by simp) (by unfold maxLen; omega) (by simp)
 case round =>
  obtain ⟨k, hk, rfl, hb, hr, hown⟩ := hrel;have HB := hide hb;have HR := hide hr;have HO := hide hown;have hz := hr.lt;have hp0 := hr.cell 0 (by simp);have hp1 := hr.cell 1 (by simp);simp only [List.getD_cons_zero, List.getD_cons_succ] at hp0 hp1;obtain ⟨aov, capv, rfl, hc1, hc2⟩ := own_slice hown;clear hb hr hown;by_cases hlt : k < 99
  ·have HLr := hide ((HL.out.below HB.out).mono nl HB.out.size nl)
   have HHr := hide ((HH.out.below HB.out).mono nl HB.out.size nl);have hlen := coilTo_len lo hi k;have hsz := HB.out.size;cases hf : findR lo hi ((k : Int) + 1) with
   | none =>
    have HN := hide (show coilTo lo hi (k + 1) = coilTo lo hi k by simp [coilTo, hf]);go_wp2_with fail
    refine (HP.out ((k : Int) + 1) wr HLr.out HHr.out).mono ?_;rw [hf];unfold findV;rintro e w1 ⟨rfl, hb1⟩;have HB2 := hide (Below.step HB.out hb1 nl);have HR2 := hide (HR.out.below hb1 HR.out.lt);have HO2 := hide (ownsRow_below HO.out hb1 nl);have hz1 := HB2.out.size;clear hb1 hp0 hp1 hf;go_wp2_with fail
    go_roundw
    case rel => exact ⟨k + 1, by omega, by go_num, HB2.out.alloc hz1 _, HR2.out.alloc _, by rw [HN.out]; exact HO2.out.alloc _⟩
    case measure => simp [intOf]; omega
   | some r =>
    obtain ⟨t, p⟩ := r;have HN := hide (show coilTo lo hi (k + 1) = coilTo lo hi k ++ [(k : Int) + 1] by simp [coilTo, hf]);go_wp2_with fail
    refine (HP.out ((k : Int) + 1) wr HLr.out HHr.out).mono ?_;rw [hf];unfold findV;rintro e w1 ⟨rfl, hb1⟩;have HB2 := hide (Below.step HB.out hb1 nl);have HR2 := hide (HR.out.below hb1 HR.out.lt);have HO2 := hide (ownsRow_below HO.out hb1 nl);have hz1 := HB2.out.size;clear hb1 hp0 hp1 hf;go_wp2_with (at_builtin; refine wpList_append_view rfl _ _ 27 rfl (w.heap.size + 1) 3 i0 (.int .i64 0) 1 8 Tryz.underlying27 hi0 hz0 hi1 hi2 rfl (by decide) _ _ _ rfl ((HO2.out.alloc _).alloc _) (.slice (some ⟨w1.heap.size + 1, 0, none⟩) 1 1) 1 [.int .i64 ((k : Int) + 1)] rfl ?c0 ?c1 ?c2 ?c3 ?_)
    case c0 => simpa using Source.lit (World.alloc w1 _) [.int .i64 ((k : Int) + 1)] 1 3 1 rfl (fun u hu => by simp at hu; subst hu; rfl) 1
    case c1 => unfold maxLen; omega
    case c2 => omega
    case c3 => simp; omega
    intro v2 w2 hown2 hgrow2 _;have hlt2 := HR2.out.lt;have hgB : Below (w.heap.size + 1) w1 w2 := (((Below.refl _ _).alloc (by omega) _).alloc (by simp; omega) _).trans (Below.grow hgrow2 ((HO2.out.alloc _).alloc _) nl (by simp; omega));have HB3 := hide (HB2.out.trans (hgB.mono (by omega)));have HR3 := hide (HR2.out.below hgB (Nat.lt_succ_self _));have HO3 := hide (show w2.ownsRow (w.heap.size + 1) 3 1 v2 (coilTo lo hi (k + 1)).length (flatI (coilTo lo hi (k + 1))) by rw [HN.out]; simpa [flatI] using hown2);clear hown2 hgrow2 hgB;go_wp2_with fail
    go_roundw
    case rel => exact ⟨k + 1, by omega, by go_num, HB3.out, HR3.out, HO3.out⟩
    case measure => simp [intOf]; omega
  ·obtain rfl : k = 99 := by omega
   go_wp2_with fail
   go_ret;exact ⟨_, rfl, by rw [← coilTo_all]; exact ownsRow_mono HO.out (by omega), HB.out⟩
theorem sort_any (base : Nat) (v : Value) (xs : List Int) (w : World) (h : w.ownsRow base 3 1 v xs.length (flatI xs)) (hl : xs.length ≤ 1000) (hb : base ≤ w.heap.size) :
 Calls Tryz.prog 105 #[v] w fun e w' => e = .returned (.tuple #[]) ∧ ∃ ys : List Int, ys.Perm xs ∧ ys.Pairwise (· ≤ ·) ∧ ys.length = xs.length ∧ w'.ownsRow base 3 1 v ys.length (flatI ys) ∧ Below base w w' := by
 rcases id h.2 with ⟨rfl, h0⟩ | ⟨g, cap, cur, rfl, hbg, hg, h1, h2, h3, h4⟩
 ·obtain rfl : xs = [] := List.eq_nil_of_length_eq_zero h0
  exact (Tryz.slices_Sort_int_none none 0 w).mono fun e w' ⟨he, hw⟩ => ⟨he, [], List.Perm.refl _, List.Pairwise.nil, rfl, by rw [hw]; exact h, by rw [hw]; exact Below.refl _ _⟩
 ·have hlt := (Array.getElem?_eq_some_iff.1 hg).1
  refine (Tryz.slices_Sort_int g 0 cap xs w (holds_of_blockI hg (by rw [Nat.mul_one] at h4; exact h4)) hlt (by omega)).mono ?_;rintro e w' ⟨he, n, os, rfl⟩;have hp := List.mergeSort_perm xs fun x y => decide (x ≤ y);have hlen := hp.length_eq;refine ⟨he, _, hp, ?_, hlen, ?_, ?_⟩
  ·have := List.pairwise_mergeSort (le := fun x y : Int => decide (x ≤ y)) (fun a b c h1 h2 => by simp at *; omega) (fun a b => by simp; omega) xs
   exact this.imp fun h => by simpa using h
  ·rw [hlen]
   have := ownsRow_sortedI (os := os) (n := n) (w := w) hlen hbg hg h1 h2 h3;exact this
  ·exact (Below.refl _ _).grown (grownBy_sortedI _) hb fun k hk => by simp at hk; omega
theorem nz_take {xs : List Int} {k : Nat} (hk : k < xs.length) : nz (xs.take (k + 1)) = if xs[k] = 0 then nz (xs.take k) else nz (xs.take k) ++ [xs[k]] := by
 rw [List.take_succ_eq_append_getElem hk, nz_app];split
 ·rename_i h; simp [nz, h]
 ·rename_i h; simp [nz, h]
theorem nz_len (l : List Int) : (nz l).length ≤ l.length := List.length_filter_le _ _
theorem coils_impl (l h : Value) (lo hi : List Int) (w : World) (Hl : IntsAt 0 w.heap.size w l lo) (Hh : IntsAt 0 w.heap.size w h hi) :
 Calls Tryz.prog 37 #[pileV l h] w (IntsNew w.heap.size (coilR lo hi) w) := by
 have HL := hide Hl;have HH := hide Hh;obtain ⟨ao1, cap1, rfl, -, -, -, -⟩ := Hl;obtain ⟨ao2, cap2, rfl, -, -, -, -⟩ := Hh;have hP := fun W H1 H2 => pile_impl (.slice ao1 lo.length cap1) (.slice ao2 hi.length cap2) lo hi W H1 H2;unfold pileV at hP ⊢;have HP := hide hP;obtain ⟨i0, hi0, hz0, hi1, hi2⟩ := info_parts info_int;clear hP;go_enter Tryz.func37, Tryz.ntmps37;go_wp2_with fail
 refine calls_at fun wx hwx => ?_;have R0 : RowL wx w.heap.size 29 [.slice ao1 lo.length cap1, .slice ao2 hi.length cap2] := by rw [hwx]; exact RowL.new _ _ _
 have hb0 : Below w.heap.size w wx := by rw [hwx]; go_grown
 clear hwx;refine (HP.out wx ((HL.out.below hb0).mono nl hb0.size nl) ((HH.out.below hb0).mono nl hb0.size nl)).mono ?_;cases hv : pileB lo hi with
 | false =>
  rintro e w1 ⟨rfl, hb1⟩;have HB1 := hide (Below.step hb0 hb1 nl);have HF := hide (show coilR lo hi = [] by simp [coilR, hv]);clear hb1 hv;go_wp2_with fail
  go_ret;exact ⟨_, rfl, by rw [HF.out]; exact World.ownsRow_nil _ _ _ _, HB1.out⟩
 | true =>
  rintro e w1 ⟨rfl, hb1⟩;have HV := hide (pileB_iff.1 hv);have HB1 := hide (Below.step hb0 hb1 nl);have R1 := R0.below hb1 R0.lt;have hp0 := R1.cell 0 (by simp);have hp1 := R1.cell 1 (by simp);simp only [List.getD_cons_zero, List.getD_cons_succ] at hp0 hp1;have q1 := HV.out.l1;have q2 := HV.out.l6;have q3 := HV.out.lh;have hz0' := R1.lt;clear hb1 hv;go_wp2_with fail
  refine calls_at fun wy hwy => ?_;have R2 : RowL wy w1.heap.size 27 [.slice ao1 lo.length cap1, .slice ao2 hi.length cap2] := by rw [hwy]; exact RowL.new _ _ _
  have hby : Below w1.heap.size w1 wy := by rw [hwy]; go_grown
  clear hwy hp0 hp1;have hBy := Below.step HB1.out hby nl;refine (concat_any _ _ _ _ lo hi _ R2 ((HL.out.below hBy).mono nl hBy.size nl) ((HH.out.below hBy).mono nl hBy.size nl) (by omega) (by omega)).mono ?_;rintro e w2 ⟨v, rfl, hown, hb2⟩;have hat := ownI_at hown rfl hb2.size;obtain ⟨ids, hids⟩ : ∃ ids, lo ++ hi = ids := ⟨_, rfl⟩;have hil : ids.length = lo.length + hi.length := by rw [← hids]; simp
  rw [hids] at hat hown;have HIDS := hide hids;have HAT := hide hat;have HB2 := hide (Below.step hBy hb2 nl);obtain ⟨aov, capv, rfl, -, -⟩ := own_slice hown;have hl3 : ids.length ≤ 20 := by omega
  clear hown hb2 hids hat hil;obtain ⟨aov', capv', e', -, -, -, hcv⟩ := HAT.out;simp only [Value.slice.injEq] at e';obtain ⟨rfl, -, rfl⟩ := e';have HCV := hide hcv;have hsz2 := HB2.out.size;clear hcv;go_wp2_with fail
  go_loopw [3, 5, 16] (fun o _ i wr => ∃ k : Nat, k ≤ ids.length ∧ i = .int .i64 k ∧ Below w2.heap.size w2 wr ∧ wr.ownsRow w2.heap.size 3 1 o (nz (ids.take k)).length (flatI (nz (ids.take k)))) (fun _ _ i _ => ids.length - (intOf i).toNat)
  case atStart => exact ⟨0, Nat.zero_le _, rfl, Below.refl _ _, World.ownsRow_nil _ _ _ _⟩
  case round =>
   obtain ⟨k, hk, rfl, hb, hown⟩ := hrel;have HB := hide hb;have HO := hide hown;have hnl := nz_len (ids.take k);have htk : (ids.take k).length ≤ k := List.length_take_le _ _;have hszr := hb.size;obtain ⟨aow, capw, rfl, -, -⟩ := own_slice hown;clear hown;by_cases hlt : k < ids.length
   ·obtain ⟨b, o, rfl, hx1, hx2, hcs⟩ := HCV.out (by omega)
    obtain ⟨r1, -⟩ := hcs k hlt;rw [← hb.cell (p := ⟨b, _, none⟩) (by simpa using by omega)] at r1;have HN := hide (nz_take hlt);obtain ⟨x, hx⟩ : ∃ x, ids[k] = x := ⟨_, rfl⟩;rw [hx] at r1 HN;have hkI : (k : Int) < (ids.length : Int) := by omega
    clear hcs hx hb;by_cases hq : x = 0
    ·have hqB : (x != 0) = false := by simp [hq]
     have HN2 := hide (show nz (ids.take (k + 1)) = nz (ids.take k) by rw [HN.out, if_pos hq]);clear hq;go_wp2_with fail
     go_roundw
     case rel => exact ⟨k + 1, by omega, by go_num, HB.out, by rw [HN2.out]; exact HO.out⟩
     case measure => simp [intOf]; omega
    ·have hqB : (x != 0) = true := by simp [hq]
     have HN2 := hide (show nz (ids.take (k + 1)) = nz (ids.take k) ++ [x] by rw [HN.out, if_neg hq]);clear hq;go_wp2_with (at_builtin; refine wpList_append_view rfl _ _ 27 rfl w2.heap.size 3 i0 (.int .i64 0) 1 8 Tryz.underlying27 hi0 hz0 hi1 hi2 rfl (by decide) _ _ _ rfl (HO.out.alloc _) (.slice (some ⟨wr.heap.size, 0, none⟩) 1 1) 1 [.int .i64 x] rfl ?c0 ?c1 ?c2 ?c3 ?_)
     case c0 => exact Source.lit wr [.int .i64 x] 1 3 1 rfl (fun u hu => by simp at hu; subst hu; rfl) 1
     case c1 => unfold maxLen; omega
     case c2 => omega
     case c3 => simp; omega
     intro v2 w3 hown2 hgrow2 _;have hB3 := (HB.out.alloc hszr (.cells #[.int .i64 x] 3)).trans (Below.grow hgrow2 (HO.out.alloc _) nl (by simp; omega));have HB3 := hide hB3;have HO3 := hide (show w3.ownsRow w2.heap.size 3 1 v2 (nz (ids.take (k + 1))).length (flatI (nz (ids.take (k + 1)))) by rw [HN2.out]; simpa [flatI] using hown2);clear hown2 hgrow2 hB3;go_wp2_with fail
     go_roundw
     case rel => exact ⟨k + 1, by omega, by go_num, HB3.out, HO3.out⟩
     case measure => simp [intOf]; omega
   ·obtain rfl : k = ids.length := by omega
    rw [List.take_of_length_le nl] at HO ⊢;have HBr := hide (HB2.out.trans (HB.out.mono hsz2));clear hb;go_wp2_with fail
    refine (sort_any w2.heap.size _ (nz ids) _ HO.out (by have := nz_len ids; omega) hszr).mono ?_;rintro e w4 ⟨rfl, ys, hp, hs, hly, hown, hb4⟩;have hc := coil_sorted HV.out (l := ys) (by rw [HIDS.out]; exact hp) hs;rw [hly] at hown;have HO4 := hide (show w4.ownsRow w.heap.size 3 1 (.slice aow (nz ids).length capw) (coilR lo hi).length (flatI (coilR lo hi)) by rw [← hc, hly]; exact ownsRow_mono hown hsz2);have HB4 := hide (HBr.out.trans (hb4.mono hsz2));clear hp hs hly hown hb4 hc;go_wp2_with fail
    go_ret;exact ⟨_, rfl, HO4.out, HB4.out⟩
theorem mill_end {m : Mi} (h1 : stsB m.store = true) (h2 : grB m.rule = true) (h3 : wi m.strand 0 48 = true) (h4 : m.pieces.length ≤ 30) (h5 : pileB m.low m.high = true) (h6 : wi m.scrap 0 999 = true) (h7 : pcsB m.pieces = true) : millB m = decide (idsIn m.pieces 1 = coilR m.low m.high) := by
 have h4' : decide (m.pieces.length ≤ 30) = true := by simpa using h4
 simp only [millB, h1, h2, h3, h4', h5, h6, h7, Bool.true_and]
theorem millB_pc {m : Mi} {k : Nat} (hk : k < m.pieces.length) (h : pcB (m.pieces.getD k pc0) = false) : millB m = false := by
 have : pcsB m.pieces = false := by
  cases hp : pcsB m.pieces with
  | false => rfl
  | true => rw [pcsB_iff.1 hp k hk] at h; cases h
 simp [millB, this]
theorem millB_long {m : Mi} (h : 30 < m.pieces.length) : millB m = false := by
 have : decide (m.pieces.length ≤ 30) = false := by simp; omega
 simp [millB, this]
theorem mill_impl (s p l h : Value) (m : Mi) (w : World) (H : MillIn 0 w.heap.size w s p l h m) :
 Calls Tryz.prog 28 #[millV s p l h m] w fun e w' => e = .returned (.bool (millB m)) ∧ Below w.heap.size w w' := by
 have VS := hide H.store;have VP := hide H.pieces;have VL := hide H.low;have VH := hide H.high;have hpl := H.pieces.len;clear H;obtain ⟨aop, capp, hpe, -, -, -, -⟩ := id VP.out;subst hpe;unfold millV;go_enter Tryz.func28, Tryz.ntmps28;go_wp2_with fail
 refine calls_at fun wx hwx => ?_;have A_0 : RowL wx (w.heap.size) 31 [s, .int .i64 m.rule.lc, .int .i64 m.rule.hc, .int .i64 m.rule.lm, .int .i64 m.rule.hm, .int .i64 m.rule.ls, .int .i64 m.rule.hs, .int .i64 m.strand, .slice aop m.pieces.length capp, l, h, .int .i64 m.scrap] := by rw [hwx]; exact (RowL.new _ _ _)
 have B_0 : Below w.heap.size w wx := by rw [hwx]; go_grown
 clear hwx;have hL0 := A_0.lt;have VS_0 := hide (VS.out.below B_0);have VP_0 := hide (VP.out.below B_0);have VL_0 := hide (VL.out.below B_0);have VH_0 := hide (VH.out.below B_0);have HFAIL : ∀ {b : Bool}, b = false → millB m = b → millB m = false := fun h k => k.trans h;have k_c1 := stsv_impl s m.store _ _ wx VS_0.out;cases c1 : stsB m.store with
 | false =>
  rw [c1] at k_c1;refine k_c1.mono ?_;rintro e wq ⟨rfl, hb⟩;have HB := hide (Below.step B_0 hb nl);clear hb k_c1;have HF := hide (show millB m = false by simp [millB, c1]);clear c1;go_wp2_with fail
  go_ret;exact ⟨by rw [HF.out]; rfl, HB.out⟩
 | true =>
  rw [c1] at k_c1;have KC1 := hide c1;refine k_c1.mono ?_;rintro e w1 ⟨rfl, hb⟩;have A_1 := A_0.below hb A_0.lt;have VS_1 := hide (VS_0.out.below hb);have VP_1 := hide (VP_0.out.below hb);have VL_1 := hide (VL_0.out.below hb);have VH_1 := hide (VH_0.out.below hb);have B_1 := hide (Below.step B_0 hb nl);clear hb;have cA1 := A_1.c 1 rfl;have cA2 := A_1.c 2 rfl;have cA3 := A_1.c 3 rfl;have cA4 := A_1.c 4 rfl;have cA5 := A_1.c 5 rfl;have cA6 := A_1.c 6 rfl;have cA7 := A_1.c 7 rfl;have cA8 := A_1.c 8 rfl;have cA9 := A_1.c 9 rfl;have cA10 := A_1.c 10 rfl;have cA11 := A_1.c 11 rfl;clear k_c1 c1;go_wp2_with fail
  have k_c2 := grv_impl m.rule w1;unfold grV at k_c2;cases c2 : grB m.rule with
  | false =>
   rw [c2] at k_c2;refine k_c2.mono ?_;rintro e wq ⟨rfl, hb⟩;have HB := hide (Below.step B_1.out hb nl);clear hb k_c2;have HF := hide (show millB m = false by simp [millB, c2]);clear c2;go_wp2_with fail
   go_ret;exact ⟨by rw [HF.out]; rfl, HB.out⟩
  | true =>
   rw [c2] at k_c2;have KC2 := hide c2;refine k_c2.mono ?_;rintro e w2 ⟨rfl, hb⟩;have A_2 := A_1.below hb A_1.lt;have VS_2 := hide (VS_1.out.below hb);have VP_2 := hide (VP_1.out.below hb);have VL_2 := hide (VL_1.out.below hb);have VH_2 := hide (VH_1.out.below hb);have B_2 := hide (Below.step B_1.out hb nl);clear hb;clear cA1 cA2 cA3 cA4 cA5 cA6 cA7 cA8 cA9 cA10 cA11;have cA1 := A_2.c 1 rfl;have cA2 := A_2.c 2 rfl;have cA3 := A_2.c 3 rfl;have cA4 := A_2.c 4 rfl;have cA5 := A_2.c 5 rfl;have cA6 := A_2.c 6 rfl;have cA7 := A_2.c 7 rfl;have cA8 := A_2.c 8 rfl;have cA9 := A_2.c 9 rfl;have cA10 := A_2.c 10 rfl;have cA11 := A_2.c 11 rfl;clear k_c2 c2;go_wp2_with fail
   have k_c3 := within_any m.strand 0 48 w2;cases c3 : wi m.strand 0 48 with
   | false =>
    rw [c3] at k_c3;refine k_c3.mono ?_;rintro e wq ⟨rfl, rfl⟩;clear k_c3;have HF := hide (show millB m = false by simp [millB, c3]);clear c3;go_wp2_with fail
    go_ret;exact ⟨by rw [HF.out]; rfl, B_2.out⟩
   | true =>
    rw [c3] at k_c3;have KC3 := hide c3;refine k_c3.mono ?_;rintro e wq ⟨rfl, rfl⟩;clear k_c3 c3;by_cases c4 : 30 < m.pieces.length
    ·have HF := hide (millB_long c4)
     have c4B : decide ((30 : Int) < (m.pieces.length : Int)) = true := by simp; omega
     go_wp2_with fail
     go_ret;exact ⟨by rw [HF.out]; rfl, B_2.out⟩
    have c4B : decide ((30 : Int) < (m.pieces.length : Int)) = false := by simp; omega
    go_wp2_with fail
    have k_c5 := pile_impl l h m.low m.high w2 ((VL_2.out).mono nl (VL_2.out).lt nl) ((VH_2.out).mono nl (VH_2.out).lt nl);unfold pileV at k_c5;cases c5 : pileB m.low m.high with
    | false =>
     rw [c5] at k_c5;refine k_c5.mono ?_;rintro e wq ⟨rfl, hb⟩;have HB := hide (Below.step B_2.out hb nl);clear hb k_c5;have HF := hide (show millB m = false by simp [millB, c5]);clear c5;go_wp2_with fail
     go_ret;exact ⟨by rw [HF.out]; rfl, HB.out⟩
    | true =>
     rw [c5] at k_c5;have KC5 := hide c5;refine k_c5.mono ?_;rintro e w3 ⟨rfl, hb⟩;have A_3 := A_2.below hb A_2.lt;have VS_3 := hide (VS_2.out.below hb);have VP_3 := hide (VP_2.out.below hb);have VL_3 := hide (VL_2.out.below hb);have VH_3 := hide (VH_2.out.below hb);have B_3 := hide (Below.step B_2.out hb nl);clear hb;clear cA1 cA2 cA3 cA4 cA5 cA6 cA7 cA8 cA9 cA10 cA11;have cA1 := A_3.c 1 rfl;have cA2 := A_3.c 2 rfl;have cA3 := A_3.c 3 rfl;have cA4 := A_3.c 4 rfl;have cA5 := A_3.c 5 rfl;have cA6 := A_3.c 6 rfl;have cA7 := A_3.c 7 rfl;have cA8 := A_3.c 8 rfl;have cA9 := A_3.c 9 rfl;have cA10 := A_3.c 10 rfl;have cA11 := A_3.c 11 rfl;clear k_c5 c5;go_wp2_with fail
     have k_c6 := within_any m.scrap 0 999 w3;cases c6 : wi m.scrap 0 999 with
     | false =>
      rw [c6] at k_c6;refine k_c6.mono ?_;rintro e wq ⟨rfl, rfl⟩;clear k_c6;have HF := hide (show millB m = false by simp [millB, c6]);clear c6;go_wp2_with fail
      go_ret;exact ⟨by rw [HF.out]; rfl, B_3.out⟩
     | true =>
      rw [c6] at k_c6;have KC6 := hide c6;refine k_c6.mono ?_;rintro e wq ⟨rfl, rfl⟩;clear k_c6 c6;go_wp2_with fail
      have PV := hide (VP_3.out);have HB0 := hide (B_3.out);have hlen : m.pieces.length ≤ 30 := by omega
      have hzz := HB0.out.size;have AR := hide (A_3);clear c4B c4
      go_loopw [4, 42] (fun _ i wr => ∃ k : Nat, k ≤ m.pieces.length ∧ i = .int .i64 k ∧ Below w3.heap.size w3 wr ∧ (∀ j, j < k → pcB (m.pieces.getD j pc0) = true)) (fun _ i _ => m.pieces.length - (intOf i).toNat)
      case atStart => exact ⟨0, Nat.zero_le _, rfl, Below.refl _ _, fun _ h => absurd h (Nat.not_lt_zero _)⟩
      case round =>
       obtain ⟨k, hk, rfl, hb, hall⟩ := hrel;have HB := hide hb;have HA := hide hall;have hz := hb.size;clear hall;by_cases hlt : k < m.pieces.length
       ·obtain ⟨_, _, e1, -, -, -, hcl⟩ := PV.out
        simp only [Value.slice.injEq] at e1;obtain ⟨rfl, -, rfl⟩ := e1;obtain ⟨b, o, rfl, -, hbl, hcs⟩ := hcl (by omega);obtain ⟨⟨r1, r2⟩, -⟩ := hcs k hlt;rw [← hb.cell (p := ⟨b, _, none⟩) (Nat.lt_of_lt_of_le hbl hzz)] at r1 r2;have hg : m.pieces.getD k pc0 = m.pieces[k] := by simp [hlt]
        have hpk : pcB (m.pieces.getD k pc0) = (wi m.pieces[k].l 1 60 && wi m.pieces[k].s 0 2) := by rw [hg]; rfl
        obtain ⟨x, hx⟩ : ∃ x, m.pieces[k].l = x := ⟨_, rfl⟩;obtain ⟨y, hy⟩ : ∃ y, m.pieces[k].s = y := ⟨_, rfl⟩;rw [hx] at r1 hpk;rw [hy] at r2 hpk;have HP := hide hpk;have hkI : (k : Int) < (m.pieces.length : Int) := by omega
        have hW1 := fun w => within_any x 1 60 w;have hW2 := fun w => within_any y 0 2 w;clear hcl hcs hx hy hg hpk hb;cases g1 : wi x 1 60 with
        | false =>
         rw [g1] at hW1;have HF := hide (show millB m = false from millB_pc hlt (by rw [HP.out, g1]; rfl));clear g1;go_wp2_with fail
         refine (hW1 _).mono ?_;rintro e wq ⟨rfl, rfl⟩;go_wp2_with fail
         go_ret;exact ⟨by rw [HF.out]; rfl, (Below.step HB0.out HB.out nl).alloc (Below.step HB0.out HB.out nl).size _⟩
        | true =>
         rw [g1] at hW1;cases g2 : wi y 0 2 with
         | false =>
          rw [g2] at hW2;have HF := hide (show millB m = false from millB_pc hlt (by rw [HP.out, g1, g2]; rfl));clear g1 g2;go_wp2_with fail
          refine (hW1 _).mono ?_;rintro e wq ⟨rfl, rfl⟩;go_wp2_with fail
          refine (hW2 _).mono ?_;rintro e wq ⟨rfl, rfl⟩;go_wp2_with fail
          go_ret;exact ⟨by rw [HF.out]; rfl, (Below.step HB0.out HB.out nl).alloc (Below.step HB0.out HB.out nl).size _⟩
         | true =>
          rw [g2] at hW2;have HN := hide (show pcB (m.pieces.getD k pc0) = true by rw [HP.out, g1, g2]; rfl);clear g1 g2;go_wp2_with fail
          refine (hW1 _).mono ?_;rintro e wq ⟨rfl, rfl⟩;go_wp2_with fail
          refine (hW2 _).mono ?_;rintro e wq ⟨rfl, rfl⟩;go_wp2_with fail
          go_roundw
          case rel => exact ⟨k + 1, by omega, by go_num, HB.out.alloc hz _, upTo_snoc HA.out HN.out⟩
          case measure => simp [intOf]; omega
       ·obtain rfl : k = m.pieces.length := by omega
        have RA := AR.out.below HB.out AR.out.lt;have hp8 := RA.cell 8 (by simp);have hp9 := RA.cell 9 (by simp);have hp10 := RA.cell 10 (by simp);simp only [List.getD_cons_zero, List.getD_cons_succ] at hp8 hp9 hp10;have HBr := hide (Below.step HB0.out HB.out nl);have hbd : Below wr.heap.size wr wr.drew := (Below.refl _ _).drew;have VPr := hide ((PV.out.below HB.out).below hbd);have VLr := hide ((((VL_3.out).below HB.out).below hbd).mono nl (((VL_3.out).below HB.out).below hbd).lt nl);have VHr := hide ((((VH_3.out).below HB.out).below hbd).mono nl (((VH_3.out).below HB.out).below hbd).lt nl);clear hb;have HC := hide (fun W H1 H2 => coils_impl l h m.low m.high W H1 H2);unfold pileV at HC;have hm := mill_end KC1.out KC2.out KC3.out hlen KC5.out KC6.out (pcsB_iff.2 HA.out);have HM := hide hm;have HRA := hide (RA.below hbd RA.lt);have HBD := hide (HBr.out.drew);clear hm RA hbd;go_wp2_with fail
        go_region_with (first
         | (go_at_call 86; refine (idsIn_any _ m.pieces 1 _ _ _ (by first | exact VPr.out | exact VPr.out.below hbb) (by omega)).mono ?_; rintro e wa ⟨va, rfl, hoa, hba⟩; have ca9 : wa.cell? ⟨w.heap.size, 9, none⟩ = some l := (by first | exact (HRA.out.below hba HRA.out.lt).cell 9 (by simp) | exact ((HRA.out.below hbb HRA.out.lt).below hba (HRA.out.below hbb HRA.out.lt).lt).cell 9 (by simp)); have ca10 : wa.cell? ⟨w.heap.size, 10, none⟩ = some h := (by first | exact (HRA.out.below hba HRA.out.lt).cell 10 (by simp) | exact ((HRA.out.below hbb HRA.out.lt).below hba (HRA.out.below hbb HRA.out.lt).lt).cell 10 (by simp)))
         | (go_at_call 37; refine (HC.out _ (by first | exact VLr.out | exact (VLr.out.below hba).mono nl hba.size nl) (by first | exact VHr.out | exact (VHr.out.below hba).mono nl hba.size nl)).mono ?_; rintro e wb ⟨vb, rfl, hob, hbb⟩; have cb8 : wb.cell? ⟨w.heap.size, 8, none⟩ = some (.slice aop m.pieces.length capp) := (by first | exact (HRA.out.below hbb HRA.out.lt).cell 8 (by simp) | exact ((HRA.out.below hba HRA.out.lt).below hbb (HRA.out.below hba HRA.out.lt).lt).cell 8 (by simp)))
         | (go_at_call 85; refine (equal_any va vb (idsIn m.pieces 1) (coilR m.low m.high) _ _ _ _ _ (by first | exact (ownI_at hoa rfl hba.size).below hbb | exact ownI_at hoa rfl hba.size) (by first | exact (ownI_at hob rfl hbb.size).below hba | exact ownI_at hob rfl hbb.size)).mono ?_; rintro e wc ⟨rfl, hbc⟩))
        all_goals
         have HF := hide (show Below w.heap.size w wc by first | exact Below.step (Below.step (Below.step HBD.out hba nl) hbb nl) hbc nl | exact Below.step (Below.step (Below.step HBD.out hbb nl) hba nl) hbc nl);clear hoa hba hob hbb hbc;go_wp2_with fail
         go_ret;exact ⟨by rw [HM.out]; rfl, HF.out⟩
theorem mill_spec (s p l h : Value) (m : Mi) (w : World) (H : MillIn 0 w.heap.size w s p l h m) :
 Calls Tryz.prog 18 #[millV s p l h m] w fun e w' => e = .returned (.bool (millB m)) ∧ Below w.heap.size w w' := by
 have VS := hide H.store;have VP := hide H.pieces;have VL := hide H.low;have VH := hide H.high;have hpl := H.pieces.len;clear H;obtain ⟨aop, capp, hpe, -, -, -, -⟩ := id VP.out;subst hpe;unfold millV;go_enter Tryz.func18, Tryz.ntmps18;go_wp2_with fail
 refine calls_at fun wx hwx => ?_;have A_0 : RowL wx (w.heap.size) 31 [s, .int .i64 m.rule.lc, .int .i64 m.rule.hc, .int .i64 m.rule.lm, .int .i64 m.rule.hm, .int .i64 m.rule.ls, .int .i64 m.rule.hs, .int .i64 m.strand, .slice aop m.pieces.length capp, l, h, .int .i64 m.scrap] := by rw [hwx]; exact (RowL.new _ _ _)
 have B_0 : Below w.heap.size w wx := by rw [hwx]; go_grown
 clear hwx;have hL0 := A_0.lt;have VS_0 := hide (VS.out.below B_0);have VP_0 := hide (VP.out.below B_0);have VL_0 := hide (VL.out.below B_0);have VH_0 := hide (VH.out.below B_0);have HFAIL : ∀ {b : Bool}, b = false → millB m = b → millB m = false := fun h k => k.trans h;have k_c1 := stsv_spec s m.store _ _ wx VS_0.out;cases c1 : stsB m.store with
 | false =>
  rw [c1] at k_c1;refine k_c1.mono ?_;rintro e wq ⟨rfl, hb⟩;have HB := hide (Below.step B_0 hb nl);clear hb k_c1;have HF := hide (show millB m = false by simp [millB, c1]);clear c1;go_wp2_with fail
  go_ret;exact ⟨by rw [HF.out]; rfl, HB.out⟩
 | true =>
  rw [c1] at k_c1;have KC1 := hide c1;refine k_c1.mono ?_;rintro e w1 ⟨rfl, hb⟩;have A_1 := A_0.below hb A_0.lt;have VS_1 := hide (VS_0.out.below hb);have VP_1 := hide (VP_0.out.below hb);have VL_1 := hide (VL_0.out.below hb);have VH_1 := hide (VH_0.out.below hb);have B_1 := hide (Below.step B_0 hb nl);clear hb;have cA1 := A_1.c 1 rfl;have cA2 := A_1.c 2 rfl;have cA3 := A_1.c 3 rfl;have cA4 := A_1.c 4 rfl;have cA5 := A_1.c 5 rfl;have cA6 := A_1.c 6 rfl;have cA7 := A_1.c 7 rfl;have cA8 := A_1.c 8 rfl;have cA9 := A_1.c 9 rfl;have cA10 := A_1.c 10 rfl;have cA11 := A_1.c 11 rfl;clear k_c1 c1;go_wp2_with fail
  have k_c2 := grv_spec m.rule w1;unfold grV at k_c2;cases c2 : grB m.rule with
  | false =>
   rw [c2] at k_c2;refine k_c2.mono ?_;rintro e wq ⟨rfl, hb⟩;have HB := hide (Below.step B_1.out hb nl);clear hb k_c2;have HF := hide (show millB m = false by simp [millB, c2]);clear c2;go_wp2_with fail
   go_ret;exact ⟨by rw [HF.out]; rfl, HB.out⟩
  | true =>
   rw [c2] at k_c2;have KC2 := hide c2;refine k_c2.mono ?_;rintro e w2 ⟨rfl, hb⟩;have A_2 := A_1.below hb A_1.lt;have VS_2 := hide (VS_1.out.below hb);have VP_2 := hide (VP_1.out.below hb);have VL_2 := hide (VL_1.out.below hb);have VH_2 := hide (VH_1.out.below hb);have B_2 := hide (Below.step B_1.out hb nl);clear hb;clear cA1 cA2 cA3 cA4 cA5 cA6 cA7 cA8 cA9 cA10 cA11;have cA1 := A_2.c 1 rfl;have cA2 := A_2.c 2 rfl;have cA3 := A_2.c 3 rfl;have cA4 := A_2.c 4 rfl;have cA5 := A_2.c 5 rfl;have cA6 := A_2.c 6 rfl;have cA7 := A_2.c 7 rfl;have cA8 := A_2.c 8 rfl;have cA9 := A_2.c 9 rfl;have cA10 := A_2.c 10 rfl;have cA11 := A_2.c 11 rfl;clear k_c2 c2;go_wp2_with fail
   have k_c3 := l1In_any m.strand 0 48 w2;cases c3 : wi m.strand 0 48 with
   | false =>
    rw [c3] at k_c3;refine k_c3.mono ?_;rintro e wq ⟨rfl, rfl⟩;clear k_c3;have HF := hide (show millB m = false by simp [millB, c3]);clear c3;go_wp2_with fail
    go_ret;exact ⟨by rw [HF.out]; rfl, B_2.out⟩
   | true =>
    rw [c3] at k_c3;have KC3 := hide c3;refine k_c3.mono ?_;rintro e wq ⟨rfl, rfl⟩;clear k_c3 c3;by_cases c4 : 30 < m.pieces.length
    ·have HF := hide (millB_long c4)
     have c4B : decide ((30 : Int) < (m.pieces.length : Int)) = true := by simp; omega
     go_wp2_with fail
     go_ret;exact ⟨by rw [HF.out]; rfl, B_2.out⟩
    have c4B : decide ((30 : Int) < (m.pieces.length : Int)) = false := by simp; omega
    go_wp2_with fail
    have k_c5 := pile_spec l h m.low m.high w2 ((VL_2.out).mono nl (VL_2.out).lt nl) ((VH_2.out).mono nl (VH_2.out).lt nl);unfold pileV at k_c5;cases c5 : pileB m.low m.high with
    | false =>
     rw [c5] at k_c5;refine k_c5.mono ?_;rintro e wq ⟨rfl, hb⟩;have HB := hide (Below.step B_2.out hb nl);clear hb k_c5;have HF := hide (show millB m = false by simp [millB, c5]);clear c5;go_wp2_with fail
     go_ret;exact ⟨by rw [HF.out]; rfl, HB.out⟩
    | true =>
     rw [c5] at k_c5;have KC5 := hide c5;refine k_c5.mono ?_;rintro e w3 ⟨rfl, hb⟩;have A_3 := A_2.below hb A_2.lt;have VS_3 := hide (VS_2.out.below hb);have VP_3 := hide (VP_2.out.below hb);have VL_3 := hide (VL_2.out.below hb);have VH_3 := hide (VH_2.out.below hb);have B_3 := hide (Below.step B_2.out hb nl);clear hb;clear cA1 cA2 cA3 cA4 cA5 cA6 cA7 cA8 cA9 cA10 cA11;have cA1 := A_3.c 1 rfl;have cA2 := A_3.c 2 rfl;have cA3 := A_3.c 3 rfl;have cA4 := A_3.c 4 rfl;have cA5 := A_3.c 5 rfl;have cA6 := A_3.c 6 rfl;have cA7 := A_3.c 7 rfl;have cA8 := A_3.c 8 rfl;have cA9 := A_3.c 9 rfl;have cA10 := A_3.c 10 rfl;have cA11 := A_3.c 11 rfl;clear k_c5 c5;go_wp2_with fail
     have k_c6 := l1In_any m.scrap 0 999 w3;cases c6 : wi m.scrap 0 999 with
     | false =>
      rw [c6] at k_c6;refine k_c6.mono ?_;rintro e wq ⟨rfl, rfl⟩;clear k_c6;have HF := hide (show millB m = false by simp [millB, c6]);clear c6;go_wp2_with fail
      go_ret;exact ⟨by rw [HF.out]; rfl, B_3.out⟩
     | true =>
      rw [c6] at k_c6;have KC6 := hide c6;refine k_c6.mono ?_;rintro e wq ⟨rfl, rfl⟩;clear k_c6 c6;go_wp2_with fail
      have PV := hide (VP_3.out);have HB0 := hide (B_3.out);have hlen : m.pieces.length ≤ 30 := by omega
      have hzz := HB0.out.size;have AR := hide (A_3);obtain ⟨i0, hi0, hz0, hi1, hi2⟩ := info_parts info_int;clear c4B c4 cA1 cA2 cA3 cA4 cA5 cA6 cA7 cA8 cA9 cA10 cA11
      go_loopw [3, 4] (fun o i wr => ∃ k : Nat, k ≤ m.pieces.length ∧ i = .int .i64 k ∧ Below w3.heap.size w3 wr ∧ (∀ j, j < k → pcB (m.pieces.getD j pc0) = true) ∧ wr.ownsRow w3.heap.size 3 1 o (idsTo m.pieces 1 k).length (flatI (idsTo m.pieces 1 k))) (fun _ i _ => m.pieces.length - (intOf i).toNat)
      case atStart => exact ⟨0, Nat.zero_le _, rfl, by go_grown, fun _ h => absurd h (Nat.not_lt_zero _), by simpa [idsTo, flatI] using World.ownsRow_lit (e := 3) (size := 1) (base := w3.heap.size) w3 #[] 0 nl (by unfold maxLen; omega) (by simp)⟩
      case round =>
       obtain ⟨k, hk, rfl, hb, hall, hown⟩ := hrel;have HB := hide hb;have HA := hide hall;have HO := hide hown;have hz := hb.size;have hnl := idsTo_len m.pieces 1 k;obtain ⟨aow, capw, rfl, -, -⟩ := own_slice hown;have RA := AR.out.below HB.out AR.out.lt;have hp8 := RA.cell 8 (by simp);have hp9 := RA.cell 9 (by simp);have hp10 := RA.cell 10 (by simp);simp only [List.getD_cons_zero, List.getD_cons_succ] at hp8 hp9 hp10;have HRA := hide RA;clear hall hown RA;by_cases hlt : k < m.pieces.length
       ·obtain ⟨_, _, e1, -, -, -, hcl⟩ := PV.out
        simp only [Value.slice.injEq] at e1;obtain ⟨rfl, -, rfl⟩ := e1;obtain ⟨b, o, rfl, -, hbl, hcs⟩ := hcl (by omega);obtain ⟨⟨r1, r2⟩, -⟩ := hcs k hlt;rw [← hb.cell (p := ⟨b, _, none⟩) (Nat.lt_of_lt_of_le hbl hzz)] at r1 r2;have hg : m.pieces.getD k pc0 = m.pieces[k] := by simp [hlt]
        have hpk : pcB (m.pieces.getD k pc0) = (wi m.pieces[k].l 1 60 && wi m.pieces[k].s 0 2) := by rw [hg]; rfl
        have hN : idsTo m.pieces 1 (k + 1) = if m.pieces[k].s == 1 then idsTo m.pieces 1 k ++ [(k : Int) + 1] else idsTo m.pieces 1 k := by rw [idsTo, hg]
        obtain ⟨x, hx⟩ : ∃ x, m.pieces[k].l = x := ⟨_, rfl⟩;obtain ⟨y, hy⟩ : ∃ y, m.pieces[k].s = y := ⟨_, rfl⟩;rw [hx] at r1 hpk;rw [hy] at r2 hpk hN;have HP := hide hpk;have HN := hide hN;have hkI : (k : Int) < (m.pieces.length : Int) := by omega
        have hW1 := fun w => l1In_any x 1 60 w;have hW2 := fun w => l1In_any y 0 2 w;clear hcl hcs hx hy hg hpk hb hN;cases g1 : wi x 1 60 with
        | false =>
         rw [g1] at hW1;have HF := hide (show millB m = false from millB_pc hlt (by rw [HP.out, g1]; rfl));clear g1;go_wp2_with fail
         refine (hW1 _).mono ?_;rintro e wq ⟨rfl, rfl⟩;go_wp2_with fail
         go_ret;exact ⟨by rw [HF.out]; rfl, Below.step HB0.out HB.out nl⟩
        | true =>
         rw [g1] at hW1;cases g2 : wi y 0 2 with
         | false =>
          rw [g2] at hW2;have HF := hide (show millB m = false from millB_pc hlt (by rw [HP.out, g1, g2]; rfl));clear g1 g2;go_wp2_with fail
          refine (hW1 _).mono ?_;rintro e wq ⟨rfl, rfl⟩;go_wp2_with fail
          refine (hW2 _).mono ?_;rintro e wq ⟨rfl, rfl⟩;go_wp2_with fail
          go_ret;exact ⟨by rw [HF.out]; rfl, Below.step HB0.out HB.out nl⟩
         | true =>
          rw [g2] at hW2;have HQ := hide (show pcB (m.pieces.getD k pc0) = true by rw [HP.out, g1, g2]; rfl);clear g1 g2;cases hq : (y == 1) with
          | false =>
           have HN2 := hide (show idsTo m.pieces 1 (k + 1) = idsTo m.pieces 1 k by rw [HN.out, hq]; rfl);go_wp2_with fail
           refine (hW1 _).mono ?_;rintro e wq ⟨rfl, rfl⟩;go_wp2_with fail
           refine (hW2 _).mono ?_;rintro e wq ⟨rfl, rfl⟩;go_wp2_with fail
           go_roundw
           case rel => exact ⟨k + 1, by omega, by go_num, HB.out, upTo_snoc HA.out HQ.out, by rw [HN2.out]; exact HO.out⟩
           case measure => simp [intOf]; omega
          | true =>
           have HN2 := hide (show idsTo m.pieces 1 (k + 1) = idsTo m.pieces 1 k ++ [(k : Int) + 1] by rw [HN.out, hq]; rfl);go_wp2_with fail
           refine (hW1 _).mono ?_;rintro e wq ⟨rfl, rfl⟩;go_wp2_with fail
           refine (hW2 _).mono ?_;rintro e wq ⟨rfl, rfl⟩;go_wp2_with (at_builtin; refine wpList_append_view rfl _ _ 27 rfl w3.heap.size 3 i0 (.int .i64 0) 1 8 Tryz.underlying27 hi0 hz0 hi1 hi2 rfl (by decide) _ _ _ rfl (HO.out.alloc _) (.slice (some ⟨wr.heap.size, 0, none⟩) 1 1) 1 [.int .i64 ((k : Int) + 1)] rfl ?c0 ?c1 ?c2 ?c3 ?_)
           case c0 => exact Source.lit wr [.int .i64 ((k : Int) + 1)] 1 3 1 rfl (fun u hu => by simp at hu; subst hu; rfl) 1
           case c1 => unfold maxLen; omega
           case c2 => omega
           case c3 => simp; omega
           intro v2 w9 hown2 hgrow2 _;have hB3 := (HB.out.alloc hz (.cells #[.int .i64 ((k : Int) + 1)] 3)).trans (Below.grow hgrow2 (HO.out.alloc _) nl (by simp; omega));have HB3 := hide hB3;have HO3 := hide (show w9.ownsRow w3.heap.size 3 1 v2 (idsTo m.pieces 1 (k + 1)).length (flatI (idsTo m.pieces 1 (k + 1))) by rw [HN2.out]; simpa [flatI] using hown2);clear hown2 hgrow2 hB3;go_wp2_with fail
           go_roundw
           case rel => exact ⟨k + 1, by omega, by go_num, HB3.out, upTo_snoc HA.out HQ.out, HO3.out⟩
           case measure => simp [intOf]; omega
       ·obtain rfl : k = m.pieces.length := by omega
        have HBr := hide (Below.step HB0.out HB.out nl);have VLr := hide (((VL_3.out).below HB.out).mono nl ((VL_3.out).below HB.out).lt nl);have VHr := hide (((VH_3.out).below HB.out).mono nl ((VH_3.out).below HB.out).lt nl);clear hb;have HC := hide (fun W H1 H2 => coils_spec l h m.low m.high W H1 H2);unfold pileV at HC;have HM := hide (mill_end KC1.out KC2.out KC3.out hlen KC5.out KC6.out (pcsB_iff.2 HA.out));obtain ⟨xs, hxs⟩ : ∃ xs, idsTo m.pieces 1 m.pieces.length = xs := ⟨_, rfl⟩;obtain ⟨ys, hys⟩ : ∃ ys, coilR m.low m.high = ys := ⟨_, rfl⟩;have hM : millB m = decide (xs = ys) := by rw [HM.out, ← hxs, ← hys]; rfl
        rw [hxs] at HO hnl ⊢;rw [hys] at HC;have HMM := hide hM;have hxl : xs.length ≤ 30 := by omega
        have VX := hide (ownI_at HO.out rfl (by omega));clear hM hxs hys HM hnl;go_wp2_with fail
        refine (HC.out _ VLr.out VHr.out).mono ?_;rintro e wb ⟨vb, rfl, hob, hbb⟩;have VY := hide (ownI_at hob rfl hbb.size);have VX2 := hide (VX.out.below hbb);have HBb := hide (Below.step HBr.out hbb nl);have hyl := VY.out.len;obtain ⟨aoy, capy, rfl, -, -⟩ := own_slice hob;clear hob hbb hp8 hp9 hp10;by_cases hl : ys.length = xs.length
        ·have hlB : ((ys.length : Int) != (xs.length : Int)) = false := by simp [hl]
         have HL := hide hl;have hyl2 : ys.length ≤ 30 := by omega
         clear hl;go_wp2_with fail
         go_loopw [6] (fun i wr => ∃ k : Nat, k ≤ ys.length ∧ i = .int .i64 k ∧ Below wb.heap.size wb wr ∧ xs.take k = ys.take k) (fun i _ => ys.length - (intOf i).toNat)
         case atStart => exact ⟨0, Nat.zero_le _, rfl, Below.refl _ _, rfl⟩
         case round =>
          obtain ⟨k, hk, rfl, hb, hall⟩ := hrel;have HA2 := hide hall;have HB2 := hide hb;clear hall hb;by_cases hlt : k < ys.length
          ·have hlt2 : k < xs.length := by have := HL.out; omega
           have VYr := hide (VY.out.below HB2.out);have VXr := hide (VX2.out.below HB2.out);obtain ⟨_, _, e1, -, -, -, hcx⟩ := VXr.out;obtain ⟨_, _, e2, -, -, -, hcy⟩ := VYr.out;simp only [Value.slice.injEq] at e1 e2;obtain ⟨rfl, -, rfl⟩ := e1;obtain ⟨rfl, -, rfl⟩ := e2;obtain ⟨b1, o1, rfl, -, -, hc1⟩ := hcx (by omega);obtain ⟨b2, o2, rfl, -, -, hc2⟩ := hcy (by omega);obtain ⟨r1, -⟩ := hc1 k hlt2;obtain ⟨r2, -⟩ := hc2 k hlt;have hkI1 : (k : Int) < (xs.length : Int) := by omega
           have hkI2 : (k : Int) < (ys.length : Int) := by omega
           obtain ⟨x, hx⟩ : ∃ x, xs[k] = x := ⟨_, rfl⟩;obtain ⟨y, hy⟩ : ∃ y, ys[k] = y := ⟨_, rfl⟩;rw [hx] at r1;rw [hy] at r2;have HX := hide hx;have HY := hide hy;clear hcx hcy hc1 hc2 hx hy;by_cases hq : x = y
           ·have hqB : (y != x) = false := by simp [hq]
            have HT := hide (show xs.take (k + 1) = ys.take (k + 1) by rw [List.take_succ_eq_append_getElem hlt, List.take_succ_eq_append_getElem hlt2, HA2.out, HX.out, HY.out, hq]);clear hq;go_wp2_with fail
            go_quiet (fail)
            go_wp2_with fail
            go_roundw
            case rel => exact ⟨k + 1, by omega, by go_num, below_drewN HB2.out _, HT.out⟩
            case measure => simp [intOf]; omega
           ·have hqB : (y != x) = true := by simp; exact fun e => hq e.symm
            have HF := hide (show millB m = false by
             rw [HMM.out, decide_eq_false_iff_not];intro e;have e1 := HX.out;have e2 := HY.out;subst e;exact hq (e1.symm.trans e2))
            clear hq;go_wp2_with fail
            go_quiet (fail)
            go_wp2_with fail
            go_ret;exact ⟨by rw [HF.out]; rfl, below_drewN (Below.step HBb.out HB2.out nl) _⟩
          ·have HF := hide (show millB m = true by
            rw [HMM.out, decide_eq_true_iff];have h1 := HA2.out;have h2 := HL.out;rw [List.take_of_length_le (by omega), List.take_of_length_le (by omega)] at h1;exact h1)
           go_wp2_with fail
           go_ret;exact ⟨by rw [HF.out]; rfl, Below.step HBb.out HB2.out nl⟩
        ·have hlB : ((ys.length : Int) != (xs.length : Int)) = true := by simp; omega
         have HF := hide (show millB m = false by
          rw [HMM.out, decide_eq_false_iff_not];intro e; exact hl (by rw [e]))
         go_wp2_with fail
         go_ret;exact ⟨by rw [HF.out]; rfl, HBb.out⟩
end Go.Proofs.YtmemgbklgcjobaaGreatDoor
