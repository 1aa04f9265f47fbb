/-
  Parts of the proofs over mills, of: Frame, ClearA, SepG, HelpQ. Conditions: each theorem states its own.
-/
import Derived.Test.YtmemgbklgcjobaaGreatDoorY57
set_option linter.unusedSimpArgs false
set_option linter.unusedVariables false
set_option maxRecDepth 10000
set_option maxHeartbeats 64000000
namespace Go.Proofs.YtmemgbklgcjobaaGreatDoor
open Go.ChangeShapes Go.WideShapes Go.Deep Go.RowKit
section
variable {H : Type} {enc : TypeId × Value → H} {P : Program}
theorem wf64 {n : Int} (h : (Lit.int .i64 n).wf = true) : -9223372036854775808 ≤ n ∧ n ≤ 9223372036854775807 := by
 simp [Lit.wf, IntKind.min, IntKind.max, IntKind.signed, IntKind.bits] at h;exact ⟨by omega, by omega⟩
theorem open_intsAt {t e : TypeId} {w : World} {v : Value} {d : DataW H} {ps before : List MemPlace} (ht : P.underlying t = some (.slice e)) (he : P.underlying e = some (.int .i64)) (hc : P.cellsOf e = 1)
 (h : DataW.Trod enc P w 0 (fun _ => true) true t v d ps) (hvs : ∃ ao n c, v = .slice ao n c) (hz : w.noneFrozen before) (hp : ∀ x ∈ ps, x ∈ before) :
 ∃ xs : List Int, IntsAt 0 w.heap.size w v xs ∧ ∀ x ∈ xs, -9223372036854775808 ≤ x ∧ x ≤ 9223372036854775807 := by
 obtain ⟨ao, n0, c0, rfl⟩ := hvs;obtain ⟨fuel, hf⟩ := h;rcases open_slice1 ht hc hf with ⟨hcs, hx⟩ | ⟨a, len, cap, m, n, V, D, Pl, hcs, hb, hl, hm, hmm, hx, hi⟩
 ·simp only [Value.cells, List.cons.injEq, and_true] at hcs
  rw [hcs];exact ⟨[], ⟨none, 0, rfl, Nat.le_refl _, by omega, Nat.le_refl _, fun h => absurd h (Nat.not_lt_zero _)⟩, by simp⟩
 ·simp only [Value.cells, List.cons.injEq, and_true] at hcs
  rw [hcs];simp only [↓reduceIte] at hmm;subst hmm;simp only [Prod.mk.injEq] at hx;have hint : ∀ i, i < m → ∃ x : Int, V i = .int .i64 x ∧ -9223372036854775808 ≤ x ∧ x ≤ 9223372036854775807 := fun i him => by
   obtain ⟨_, ht'⟩ := hi i him;obtain ⟨x, e1, _, e3⟩ := DataW.trod_int he ht';simp only [List.cons.injEq, and_true] at e1;exact ⟨x, e1, wf64 e3⟩
  obtain ⟨X, hX⟩ := choose_lt hint;refine ⟨(List.range len).map X, ⟨some a, m, by simp, by simpa using hl, by unfold maxLen at hm; omega, Nat.le_refl _, fun hn => ?_⟩, ?_⟩
  ·have hn' : 0 < len := by simpa using hn
   obtain ⟨h0, _⟩ := hi 0 (by omega);have ha0 : a.add 0 = a := by simp [Addr.add]
   rw [ha0] at h0;obtain ⟨hs, hblt⟩ := cell_spot h0;obtain ⟨b, o, sp⟩ := a;simp only at hs hblt;subst hs;refine ⟨b, o, rfl, Nat.zero_le _, hblt, fun i hi' => ?_⟩;have hi'' : i < len := by simpa using hi'
   obtain ⟨h1, _⟩ := hi i (by omega);have hadd : (⟨b, o, none⟩ : Addr).add i = ⟨b, o + i, none⟩ := by
    unfold Addr.add;split
    ·next h => subst h; rfl
    ·rfl
   rw [hadd] at h1;refine ⟨by rw [h1, (hX i (by omega)).1]; simp, ?_⟩;refine hz b (o + i) (hp _ ?_);rw [hx.2];exact List.mem_append_left _ (MemPlace.mem_row.2 ⟨i, by omega, rfl⟩)
  ·intro x hx'
   obtain ⟨i, hi', rfl⟩ := List.mem_map.1 hx';exact (hX i (by have := List.mem_range.1 hi'; omega)).2
end
end Go.Proofs.YtmemgbklgcjobaaGreatDoor
namespace Go.Proofs.YtmemgbklgcjobaaGreatDoor
open Go.RowKit
theorem clear_impl (s p l h : Value) (m : Mi) (w : World) (H : MillIn 0 w.heap.size w s p l h m) :
 Calls Tryz.prog 47 #[millV s p l h m] w (DeedsNew w.heap.size (clearR m) w) := by
 obtain ⟨ao1, cap1, rfl, -, -, -, -⟩ := id H.store;obtain ⟨ao2, cap2, rfl, -, -, -, -⟩ := id H.pieces;obtain ⟨ao3, cap3, rfl, -, -, -, -⟩ := id H.low;obtain ⟨ao4, cap4, rfl, -, -, -, -⟩ := id H.high;have hpl := H.pieces.len;obtain ⟨j0, hj0, hzj, hj1, hj2⟩ := info_parts info_J;unfold millV;go_enter Tryz.func47, Tryz.ntmps47;go_wp2_with fail
 refine calls_at fun wx hwx => ?_;have A_0 : RowL wx (w.heap.size) 31 [.slice ao1 m.store.length cap1, .int .i64 m.rule.lc, .int .i64 m.rule.hc, .int .i64 m.rule.lm, .int .i64 m.rule.hm, .int .i64 m.rule.ls, .int .i64 m.rule.hs, .int .i64 m.strand, .slice ao2 m.pieces.length cap2, .slice ao3 m.low.length cap3, .slice ao4 m.high.length cap4, .int .i64 m.scrap] := by rw [hwx]; exact (RowL.new _ _ _)
 have B_0 : Below w.heap.size w wx := by rw [hwx]; go_grown
 clear hwx;have hL0 := A_0.lt;have VV_0 := hide (H.below B_0);have KV := mill_impl _ _ _ _ m wx VV_0.out.all;cases hv : millB m with
 | false =>
  rw [hv] at KV;refine KV.mono ?_;rintro e w1 ⟨rfl, hb⟩;have HB := hide (Below.step B_0 hb nl);have HF := hide (show clearR m = [] by simp [clearR, hv]);clear hb KV hv;go_wp2_with fail
  go_ret;exact ⟨_, rfl, by rw [HF.out]; exact World.ownsRow_nil _ _ _ _, HB.out⟩
 | true =>
  rw [hv] at KV;have HF := hide (show clearR m = (nz (m.high ++ m.low)).map shipJ ++ (idsIn m.pieces 0).flatMap slabJ by simp [clearR, hv]);have MV := millB_iff.1 hv;have h5 := MV.len;have q1 := MV.pile.l1;have q2 := MV.pile.l6;have q3 := MV.pile.lh;clear MV hv;refine (KV).mono ?_;rintro e w1 ⟨rfl, hb⟩;have A_1 := A_0.below hb A_0.lt;have VV_1 := hide (VV_0.out.below hb);have B_1 := hide (Below.step B_0 hb nl);have hz1 := hb.size;clear hb;have cA9 := A_1.c 9 rfl;have cA10 := A_1.c 10 rfl;clear KV;have hzw := B_1.out.size;go_wp2_with fail
  refine calls_at fun y hwy => ?_;have R2 : RowL y w1.heap.size 27 [.slice ao4 m.high.length cap4, .slice ao3 m.low.length cap3] := by rw [hwy]; exact RowL.new _ _ _
  have hby : Below w1.heap.size w1 y := by rw [hwy]; go_grown
  clear hwy cA9 cA10;have A_y := A_1.below hby A_1.lt;have VV_y := hide (VV_1.out.below hby);have B_y := hide (Below.step B_1.out hby nl);have hLy := A_y.lt;refine (concat_any _ _ _ _ m.high m.low y R2 VV_y.out.all.high VV_y.out.all.low (by omega) (by omega)).mono ?_;rintro e w2 ⟨v, rfl, hown, hb2⟩;have hat := ownI_at hown rfl hb2.size;have A_2 := A_y.below hb2 hLy;have VV_2 := hide (VV_y.out.below hb2);have B_2 := hide (Below.step B_y.out hb2 nl);have hL2 := A_2.lt;have hzw2 := B_2.out.size;obtain ⟨ids, hids⟩ : ∃ ids, m.high ++ m.low = ids := ⟨_, rfl⟩;have hil : ids.length = m.high.length + m.low.length := by rw [← hids]; simp
  rw [hids] at hat hown HF;have hl3 : ids.length ≤ 20 := by omega
  have HAT := hide hat;obtain ⟨aov, capv, rfl, -, -⟩ := own_slice hown;clear hown hb2 hids hat hil hby;obtain ⟨aov', capv', e', -, -, -, hcv⟩ := HAT.out;simp only [Value.slice.injEq] at e';obtain ⟨rfl, -, rfl⟩ := e';have HCV := hide hcv;clear hcv;go_wp2_with fail
  go_loopw [3, 5, 20] (fun o _ i wr => ∃ k : Nat, k ≤ ids.length ∧ i = .int .i64 k ∧ Below w2.heap.size w2 wr ∧ wr.ownsRow w2.heap.size 48 3 o ((nz (ids.take k)).map shipJ).length (flatD ((nz (ids.take k)).map shipJ))) (fun _ _ i _ => ids.length - (intOf i).toNat)
  case atStart => exact ⟨0, Nat.zero_le _, rfl, Below.refl _ _, World.ownsRow_nil _ _ _ _⟩
  case round =>
   obtain ⟨k, hk, rfl, hb, hown⟩ := hrel;have HB := hide hb;have HO := hide hown;have hnl := nz_len (ids.take k);have htk : (ids.take k).length ≤ k := List.length_take_le _ _;have hszr := hb.size;obtain ⟨aow, capw, rfl, -, -⟩ := own_slice hown;have A_r := A_2.below hb hL2;have cA8 := A_r.c 8 rfl;have HAr := hide A_r;clear hown A_r;by_cases hlt : k < ids.length
   ·obtain ⟨b, o, rfl, hx1, hx2, hcs⟩ := HCV.out (by omega)
    obtain ⟨r1, -⟩ := hcs k hlt;rw [← hb.cell (p := ⟨b, _, none⟩) (by simpa using by omega)] at r1;have HN := hide (nz_take hlt);obtain ⟨x, hx⟩ : ∃ x, ids[k] = x := ⟨_, rfl⟩;rw [hx] at r1 HN;have hkI : (k : Int) < (ids.length : Int) := by omega
    clear hcs hx hb;obtain ⟨D, hD⟩ : ∃ D, (nz (ids.take k)).map shipJ = D := ⟨_, rfl⟩;have hDl : D.length ≤ 20 := by rw [← hD]; simp; omega
    rw [hD] at HO ⊢;by_cases hq : x = 0
    ·have hqB : (x != 0) = false := by simp [hq]
     have HN2 := hide (show (nz (ids.take (k + 1))).map shipJ = D by rw [HN.out, if_pos hq, hD]);clear hq hD;go_wp2_with fail
     go_roundw
     case rel => exact ⟨k + 1, by omega, by go_num, HB.out, by rw [HN2.out]; exact HO.out⟩
     case measure => simp [intOf]; omega
    ·have hqB : (x != 0) = true := by simp [hq]
     have HN2 := hide (show (nz (ids.take (k + 1))).map shipJ = D ++ [shipJ x] by rw [HN.out, if_neg hq, List.map_append, hD]; rfl);clear hq hD;go_wp2_with (at_builtin; refine wpList_append_view rfl _ _ 39 rfl w2.heap.size 48 j0 _ 3 24 Tryz.underlying39 hj0 hzj hj1 hj2 rfl (by decide) _ _ _ rfl (HO.out.alloc _) (.slice (some ⟨wr.heap.size, 0, none⟩) 1 1) 1 [.int .i64 4, .int .i64 x, .int .i64 0] rfl ?c0 ?c1 ?c2 ?c3 ?_)
     case c0 => exact Source.lit wr [.int .i64 4, .int .i64 x, .int .i64 0] 3 48 1 rfl (fun u hu => by simp at hu; rcases hu with rfl | rfl | rfl <;> rfl) 1
     case c1 => unfold maxLen; omega
     case c2 => omega
     case c3 => simp; omega
     intro v2 w3 hown2 hgrow2 _;have hB3 := (HB.out.alloc hszr (.cells #[.int .i64 4, .int .i64 x, .int .i64 0] 48)).trans (Below.grow hgrow2 (HO.out.alloc _) nl (by simp; omega));have HB3 := hide hB3;have HO3 := hide (show w3.ownsRow w2.heap.size 48 3 v2 ((nz (ids.take (k + 1))).map shipJ).length (flatD ((nz (ids.take (k + 1))).map shipJ)) by rw [HN2.out, flatD_append, List.length_append]; exact hown2);clear hown2 hgrow2 hB3;go_wp2_with fail
     go_roundw
     case rel => exact ⟨k + 1, by omega, by go_num, HB3.out, HO3.out⟩
     case measure => simp [intOf]; omega
   ·obtain rfl : k = ids.length := by omega
    rw [List.take_of_length_le nl] at HO hnl ⊢;have HBO := hide (Below.step B_2.out hb nl);have VO := hide (VV_2.out.below hb);clear hb;obtain ⟨D1, hD1⟩ : ∃ D, (nz ids).map shipJ = D := ⟨_, rfl⟩;have hDl : D1.length ≤ 20 := by rw [← hD1]; simp; omega
    rw [hD1] at HO HF ⊢;clear hD1;obtain ⟨wo, rfl⟩ : ∃ wo : World, wo = wr := ⟨_, rfl⟩;go_wp2_with fail
    refine (idsIn_any _ m.pieces 0 _ _ wo VO.out.pieces (by omega)).mono ?_;rintro e w5 ⟨v5, rfl, hown5, hb5⟩;obtain ⟨zs, hzs⟩ : ∃ zs, idsIn m.pieces 0 = zs := ⟨_, rfl⟩;have hzl : zs.length ≤ 30 := by rw [← hzs]; exact Nat.le_trans (idsTo_len m.pieces 0 m.pieces.length) h5
    rw [hzs] at hown5 HF;have HI5 := hide hown5;have HO5 := hide (ownsRow_below HO.out hb5 nl);have HAP := hide (apart_new HO.out hown5 nl);have HB5 := hide (Below.step HBO.out hb5 nl);have hz5 := hb5.size;obtain ⟨ao5, cap5, rfl, -, -⟩ := own_slice hown5;clear hown5 hb5 hzs cA8;go_wp2_with fail
    go_loopw [3, 7, 36] (fun o _ i wr => ∃ k : Nat, k ≤ zs.length ∧ i = .int .i64 k ∧ Below w2.heap.size w5 wr ∧ wr.ownsRow w2.heap.size 48 3 o (D1 ++ (zs.take k).flatMap slabJ).length (flatD (D1 ++ (zs.take k).flatMap slabJ)) ∧ wr.ownsRow wo.heap.size 3 1 (.slice ao5 zs.length cap5) zs.length (flatI zs) ∧ Apart o (.slice ao5 zs.length cap5)) (fun _ _ i _ => zs.length - (intOf i).toNat)
    case atStart => exact ⟨0, Nat.zero_le _, rfl, Below.refl _ _, by simpa using HO5.out, HI5.out, HAP.out⟩
    case round =>
     obtain ⟨k, hk, rfl, hb, hown, hids, hap⟩ := hrel;have HB := hide hb;have HO := hide hown;have HI := hide hids;have HA := hide hap;have hszr := hb.size;obtain ⟨aow, capw, rfl, -, -⟩ := own_slice hown;clear hown hap;obtain ⟨_, _, e1, -, -, -, hcl⟩ := ownI_at hids rfl (by omega);simp only [Value.slice.injEq] at e1;obtain ⟨rfl, -, rfl⟩ := e1;clear hids hb;obtain ⟨D, hD⟩ : ∃ D, D1 ++ (zs.take k).flatMap slabJ = D := ⟨_, rfl⟩;have hDl : D.length ≤ 80 := by
      rw [← hD, List.length_append, flat_len];have := List.length_take_le k zs;omega
     rw [hD] at HO HA ⊢;by_cases hlt : k < zs.length
     ·obtain ⟨b, o, rfl, hx1, hx2, hcs⟩ := hcl (by omega)
      obtain ⟨r1, -⟩ := hcs k hlt;obtain ⟨x, hx⟩ : ∃ x, zs[k] = x := ⟨_, rfl⟩;rw [hx] at r1;have hkI : (k : Int) < (zs.length : Int) := by omega
      have HN2 := hide (show D1 ++ (zs.take (k + 1)).flatMap slabJ = D ++ slabJ x by rw [slab_take hlt, hx, ← List.append_assoc, hD]);clear hcs hx hD hcl;go_wp2_with (at_builtin; refine wpList_append_view rfl _ _ 39 rfl w2.heap.size 48 j0 _ 3 24 Tryz.underlying39 hj0 hzj hj1 hj2 rfl (by decide) _ _ _ rfl (HO.out.alloc _) (.slice (some ⟨wr.heap.size, 0, none⟩) 2 2) 2 [.int .i64 2, .int .i64 x, .int .i64 0, .int .i64 4, .int .i64 x, .int .i64 0] rfl ?c0 ?c1 ?c2 ?c3 ?_)
      case c0 => exact Source.lit wr [.int .i64 2, .int .i64 x, .int .i64 0, .int .i64 4, .int .i64 x, .int .i64 0] 3 48 2 rfl (fun u hu => by simp at hu; rcases hu with rfl | rfl | rfl | rfl | rfl | rfl <;> rfl) 2
      case c1 => unfold maxLen; omega
      case c2 => omega
      case c3 => simp; omega
      intro v2 w3 hown2 hgrow2 h4;have hB3 := (HB.out.alloc (by omega) (.cells #[.int .i64 2, .int .i64 x, .int .i64 0, .int .i64 4, .int .i64 x, .int .i64 0] 48)).trans (Below.grow hgrow2 (HO.out.alloc _) nl (by simp; omega));have HB3 := hide hB3;have HI3 := hide (ownsRow_apart (HI.out.alloc _) hgrow2 HA.out);have HA3 := hide (HA.out.grow (HI.out.alloc (.cells #[.int .i64 2, .int .i64 x, .int .i64 0, .int .i64 4, .int .i64 x, .int .i64 0] 48)) (by simpa using h4));have HO3 := hide (show w3.ownsRow w2.heap.size 48 3 v2 (D1 ++ (zs.take (k + 1)).flatMap slabJ).length (flatD (D1 ++ (zs.take (k + 1)).flatMap slabJ)) by rw [HN2.out, flatD_append, List.length_append]; exact hown2);clear hown2 hgrow2 hB3 h4;go_wp2_with fail
      go_roundw
      case rel => exact ⟨k + 1, by omega, by go_num, HB3.out, HO3.out, HI3.out, HA3.out⟩
      case measure => simp [intOf]; omega
     ·obtain rfl : k = zs.length := by omega
      have HR := hide (show clearR m = D by rw [HF.out, ← hD, List.take_of_length_le nl]);have HO4 := hide (ownsRow_mono HO.out hzw2);have HB4 := hide (HB5.out.trans (HB.out.mono hzw2));clear hcl hD;go_wp2_with fail
      go_ret;exact ⟨_, rfl, by rw [HR.out]; exact HO4.out, HB4.out⟩
theorem MillGot.sep {base : Nat} {w : World} {s p l h : Value} {m : Mi} (H : MillGot base w s p l h m) : MillSep base w.heap.size w s p l h m := by
 obtain ⟨a1, z1, b1, c1, d1, e1, f1, g1⟩ := ownE_S H.so rfl H.hb;obtain ⟨a2, z2, b2, c2, d2, e2, f2, g2⟩ := ownE_P H.po rfl H.hb;obtain ⟨a3, z3, b3, c3, d3, e3, f3, g3⟩ := ownE_I H.lo rfl H.hb;obtain ⟨a4, z4, b4, c4, d4, e4, f4, g4⟩ := ownE_I H.ho rfl H.hb;exact ⟨a1, z1, a2, z2, a3, z3, a4, z4, ⟨b1, d1⟩, ⟨b2, d2⟩, ⟨b3, d3⟩, ⟨b4, d4⟩, ⟨sep_of H.sp g1 g2 c1 c2 f1 f2, sep_of H.sl g1 g3 c1 c3 f1 f3, sep_of H.sh g1 g4 c1 c4 f1 f4, sep_of H.pl g2 g3 c2 c3 f2 f3, sep_of H.ph g2 g4 c2 c4 f2 f4, sep_of H.lh g3 g4 c3 c4 f3 f4⟩, e1, e2, e3, e4, Nat.le_refl _⟩
theorem small_valid {m : Mi} (h : millB m = true) : sizeM m ≤ 1000 := by
 have hv := millB_iff.1 h;have h1 := stsB_len hv.store;have h2 := hv.len;have h3 := hv.pile.l6;have h4 := hv.pile.lh;unfold sizeM;omega
theorem small_zero : sizeM mi0 ≤ 1000 := by decide
theorem small_do (m : Mi) (d : J) : sizeM (doR m d).1 ≤ 1000 := by
 cases h : millB m with
 | false => rw [do_bad h]; exact small_zero
 | true => exact small_valid (millB_iff.2 (do_v d (millB_iff.1 h)).1)
theorem small_run (m : Mi) (l : List J) : sizeM (runR m l).1 ≤ 1000 := by
 cases h : millB m with
 | false => rw [run_bad (.inl h)]; exact small_zero
 | true =>
  by_cases hl : l.length ≤ 99
  ·exact small_valid (run_valid h hl).1
  ·rw [run_bad (.inr (by omega))]; exact small_zero
theorem marks_bd {m : Mi} (h : sizeM m ≤ 1048576) : 0 ≤ marksM m ∧ marksM m ≤ 5242880 := by
 unfold sizeM at h;unfold marksM;omega
theorem RowL.stay {w w' : World} {b T : Nat} {vs : List Value} (h : RowL w b T vs) (k : Below w.heap.size w w') : RowL w' b T vs := h.below k h.lt
theorem markI_len (k : Int) (n : Nat) : (markI k n).length = n := by simp [markI]
theorem markSt_len (k : Int) (n : Nat) : (markSt k n).length = n := by simp [markSt]
theorem markPc_len (k : Int) (n : Nat) : (markPc k n).length = n := by simp [markPc]
theorem heldI_any (v : Value) (n lo hi : Nat) (k0 : Int) (w : World) (h : IntsAt lo hi w v (markI k0 n)) (hlen : n ≤ 2097152) (hk0 : 0 ≤ k0) (hk1 : k0 ≤ 16777216) :
 Calls Tryz.prog 155 #[v, .int .i64 k0] w fun e w' => e = .returned (.int .i64 (k0 + n)) ∧ w = w' :=
 (heldIntS_any v _ lo hi k0 w h (by rw [markI_len]; exact hlen) hk0 hk1 (markI_at k0 n)).mono fun e w' ⟨h1, h2⟩ => ⟨by rw [h1, markI_len], h2⟩
theorem heldS_any (v : Value) (n lo hi : Nat) (k0 : Int) (w : World) (h : StAt lo hi w v (markSt k0 n)) (hlen : n ≤ 2097152) (hk0 : 0 ≤ k0) (hk1 : k0 ≤ 16777216) :
 Calls Tryz.prog 101 #[v, .int .i64 k0] w fun e w' => e = .returned (.int .i64 (k0 + 5 * n)) ∧ w = w' :=
 (heldStuffS_any v _ lo hi k0 w h (by rw [markSt_len]; exact hlen) hk0 hk1 (markSt_at k0 n)).mono fun e w' ⟨h1, h2⟩ => ⟨by rw [h1, markSt_len], h2⟩
theorem heldP_any (v : Value) (n lo hi : Nat) (k0 : Int) (w : World) (h : PcAt lo hi w v (markPc k0 n)) (hlen : n ≤ 2097152) (hk0 : 0 ≤ k0) (hk1 : k0 ≤ 16777216) :
 Calls Tryz.prog 102 #[v, .int .i64 k0] w fun e w' => e = .returned (.int .i64 (k0 + 2 * n)) ∧ w = w' :=
 (heldPieceS_any v _ lo hi k0 w h (by rw [markPc_len]; exact hlen) hk0 hk1 (markPc_at k0 n)).mono fun e w' ⟨h1, h2⟩ => ⟨by rw [h1, markPc_len], h2⟩
theorem heldPile_any (l h : Value) (n1 n2 a1 z1 a2 z2 : Nat) (k0 : Int) (w : World) (Hl : IntsAt a1 z1 w l (markI k0 n1)) (Hh : IntsAt a2 z2 w h (markI (k0 + n1) n2)) (h1 : n1 ≤ 1048576) (h2 : n2 ≤ 1048576) (hk0 : 0 ≤ k0) (hk1 : k0 ≤ 8388608) :
 Calls Tryz.prog 103 #[pileV l h, .int .i64 k0] w fun e w' => e = .returned (.int .i64 (k0 + n1 + n2)) ∧ Below w.heap.size w w' := by
 have HL := hide Hl;have HH := hide Hh;clear Hl Hh;unfold pileV;go_enter Tryz.func103, Tryz.ntmps103;go_wp2_with fail
 refine calls_at fun wx hwx => ?_;have R1 : RowL wx w.heap.size 29 [l, h] := by rw [hwx]; exact RowL.new _ _ _
 have hb0 : Below w.heap.size w wx := by rw [hwx]; go_grown
 clear hwx;refine (heldI_any l n1 _ _ k0 wx (HL.out.below hb0) (by omega) hk0 (by omega)).mono ?_;rintro e w1 ⟨rfl, rfl⟩;have c1 : wx.cell? ⟨w.heap.size, 1, none⟩ = some h := R1.cell 1 (by simp);have HB := hide hb0;have hneg : ¬ k0 + (n1 : Int) < 0 := by omega
 have HQ := hide (HH.out.below hb0);clear hb0;go_wp2_with fail
 refine (heldI_any h n2 _ _ (k0 + n1) wx HQ.out (by omega) (by omega) (by omega)).mono ?_;rintro e w2 ⟨rfl, rfl⟩;have hneg2 : ¬ k0 + (n1 : Int) + (n2 : Int) < 0 := by omega
 go_wp2_with fail
 go_ret;exact ⟨rfl, HB.out⟩
theorem heldMill_any (s p l h : Value) (m : Mi) (w : World) (H : MillIn 0 w.heap.size w s p l h (markedM 1 m)) (hs : sizeM m ≤ 1048576) :
 Calls Tryz.prog 34 #[millV s p l h m, .int .i64 1] w fun e w' => e = .returned (.int .i64 (1 + marksM m)) ∧ Below w.heap.size w w' := by
 obtain ⟨h1, h2, h3, h4⟩ := H;have VS := hide h1;have VP := hide h2;have VL := hide h3;have VH := hide h4;unfold sizeM at hs;clear h1 h2 h3 h4;unfold millV;go_enter Tryz.func34, Tryz.ntmps34;go_wp2_with fail
 refine calls_at fun wx hwx => ?_;have R0 : RowL wx w.heap.size 31 [s, .int .i64 m.rule.lc, .int .i64 m.rule.hc, .int .i64 m.rule.lm, .int .i64 m.rule.hm, .int .i64 m.rule.ls, .int .i64 m.rule.hs, .int .i64 m.strand, p, l, h, .int .i64 m.scrap] := by rw [hwx]; exact RowL.new _ _ _
 have hb0 : Below w.heap.size w wx := by rw [hwx]; go_grown
 have HB := hide hb0;have WS := hide (VS.out.below hb0);have WP := hide (VP.out.below hb0);have WL := hide (VL.out.below hb0);have WH := hide (VH.out.below hb0);have hz0 := R0.lt;clear hwx hb0;refine (heldS_any s m.store.length _ _ 1 wx WS.out (by omega) (by omega) (by omega)).mono ?_;rintro e w1 ⟨rfl, rfl⟩;have c8 : wx.cell? ⟨w.heap.size, 8, none⟩ = some p := R0.cell 8 (by simp);have c9 : wx.cell? ⟨w.heap.size, 9, none⟩ = some l := R0.cell 9 (by simp);have c10 : wx.cell? ⟨w.heap.size, 10, none⟩ = some h := R0.cell 10 (by simp);have hn1 : ¬ (1 + 5 * (m.store.length : Int)) < 0 := by omega
 go_wp2_with fail
 refine (heldP_any p m.pieces.length _ _ (1 + 5 * m.store.length) wx WP.out (by omega) (by omega) (by omega)).mono ?_;rintro e w1 ⟨rfl, rfl⟩;have hn2 : ¬ (1 + 5 * (m.store.length : Int) + 2 * (m.pieces.length : Int)) < 0 := by omega
 go_wp2_with fail
 have hpl := heldPile_any l h m.low.length m.high.length _ _ _ _ (1 + 5 * m.store.length + 2 * m.pieces.length) wx WL.out WH.out (by omega) (by omega) (by omega) (by omega);unfold pileV at hpl;refine hpl.mono ?_;rintro e w3 ⟨rfl, hb3⟩;have HB3 := hide (Below.step HB.out hb3 nl);have hn3 : ¬ (1 + 5 * (m.store.length : Int) + 2 * (m.pieces.length : Int) + (m.low.length : Int) + (m.high.length : Int)) < 0 := by omega
 clear hpl hb3;go_wp2_with fail
 go_ret;refine ⟨?_, HB3.out⟩;exact ret_i64 (by unfold marksM; omega)
end Go.Proofs.YtmemgbklgcjobaaGreatDoor
