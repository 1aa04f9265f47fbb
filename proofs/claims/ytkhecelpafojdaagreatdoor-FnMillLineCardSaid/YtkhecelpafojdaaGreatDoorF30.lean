/-
  Parts of the proofs over mills, of: CoilB, MethE, CutW, RunP, RdPast, DrawMZ. Conditions: each theorem states its own.
-/
import Derived.Test.YtkhecelpafojdaaGreatDoorF26
import Derived.Test.YtkhecelpafojdaaGreatDoorF28
set_option linter.unusedSimpArgs false
set_option linter.unusedVariables false
set_option maxRecDepth 10000
set_option maxHeartbeats 64000000
namespace Go.Proofs.YtkhecelpafojdaaGreatDoor
open Go.RowKit
theorem lib_idx (xs : List Int) (x : Int) : Lib.idxOf xs x = if jo xs x then ((xs.idxOf x : Nat) : Int) else -1 := by
 split
 ·rename_i h
  have hm := dE.1 h;obtain ⟨h1, h2⟩ := idx_get hm;have := Lib.idxOf_hit xs xs.length (xs.idxOf x) x h1 nl h2 (fun j hj e => by
   have hjl : j < xs.length := by omega
   have hp := List.not_of_lt_findIdx (p := (· == x)) (xs := xs) (i := j) hj
   rw [List.getD_eq_getElem?_getD, List.getElem?_eq_getElem hjl] at e;simp at e hp;exact hp e)
  rwa [List.take_of_length_le nl] at this
 ·rename_i h
  have hm : x ∉ xs := fun hm => h (dE.2 hm);have := Lib.idxOf_miss xs xs.length x (fun j hj e => by
   rw [List.getD_eq_getElem?_getD, List.getElem?_eq_getElem hj] at e;simp at e;exact hm (by rw [← e]; exact List.getElem_mem _))
  rwa [List.take_of_length_le nl] at this
theorem index_any (v : Value) (xs : List Int) (lo hi : Nat) (n : Int) (w : World) (h : au lo hi w v xs) :
 Calls Tryz.prog 130 #[v, .int .i64 n] w fun e w' => e = .returned (.int .i64 (if jo xs n then ((xs.idxOf n : Nat) : Int) else -1)) ∧ w = w' := by
 have hlen := h.len;obtain ⟨ao, cap, rfl, a1, a2, a3, a4⟩ := h;rw [← lib_idx];rcases Nat.eq_zero_or_pos xs.length with h0 | h0
 ·obtain rfl : xs = [] := List.eq_nil_of_length_eq_zero h0
  exact (Tryz.slices_Index_int_empty ao cap n w).mono fun e w' ⟨he, hw⟩ => ⟨he, hw.symm⟩
 ·obtain ⟨b, o, rfl, hb1, hb2, hc⟩ := a4 h0
  have := Tryz.slices_Index_int b o xs.length cap xs n w nl (by omega) (fun j hj => by rw [(hc j hj).1, getD_eq hj]);rw [List.take_of_length_le nl] at this;exact this.mono fun e w' ⟨he, hw⟩ => ⟨he, hw.symm⟩
theorem find_impl (l h : Value) (lo hi : List Int) (id : Int) (w : World) (Hl : au 0 w.heap.size w l lo) (Hh : au 0 w.heap.size w h hi) :
 Calls Tryz.prog 117 #[aD l h, .int .i64 id] w fun e w' => e = .returned (findV (cK lo hi id)) ∧ Below w.heap.size w w' := by
 have HL := hide Hl;have HH := hide Hh;have hp := fun W => gI l h lo hi W;unfold aD at hp ⊢;have HP := hide hp;clear hp Hl Hh;go_enter Tryz.func117, Tryz.ntmps117;go_wp2_with fail
 refine aj fun wx hwx => ?_;have A_0 : ae wx (w.heap.size) 29 [l, h] := by rw [hwx]; exact ((ae.new _ _ _).alloc _)
 have R_0 : ae wx (w.heap.size + 1) 111 [.bool false, .int .i64 0] := by rw [hwx]; simpa using (ae.new (World.alloc _ _) 111 [.bool false, .int .i64 0])
 have B_0 : Below w.heap.size w wx := by rw [hwx]; go_grown
 clear hwx;have hL0 := R_0.lt;have VL_0 := hide (HL.out.below B_0);have VH_0 := hide (HH.out.below B_0);have k_c1 := HP.out wx ((VL_0.out).mono nl (VL_0.out).lt nl) ((VH_0.out).mono nl (VH_0.out).lt nl);cases c1 : aO lo hi with
 | false =>
  rw [c1] at k_c1;have Hc1 := hide (show cK lo hi id = none from find_bad c1);clear c1;refine (k_c1).mono ?_;rintro e w1 ⟨rfl, hb⟩;have A_1 := A_0.below hb A_0.lt;have R_1 := R_0.below hb R_0.lt;have VL_1 := hide (VL_0.out.below hb);have VH_1 := hide (VH_0.out.below hb);have B_1 := bs B_0 hb;have hz1 := hb.size;clear hb;have cR0 := R_1.c 0 rfl;have cR1 := R_1.c 1 rfl;have fR0 := R_1.frozen 0;have fR1 := R_1.frozen 1;clear k_c1;go_wp2_with fail
  refine bodyPost_ret (by simp [results, Tryz.results117, go_sem, cR0, cR1]; try rfl) rfl ?_;exact ⟨by rw [Hc1.out]; rfl, ((B_1.out).setCell (by simp) _).setCell (by simp) _⟩
 | true =>
  rw [c1] at k_c1;have Kc1 := hide c1;clear c1;refine (k_c1).mono ?_;rintro e w1 ⟨rfl, hb⟩;have A_1 := A_0.below hb A_0.lt;have R_1 := R_0.below hb R_0.lt;have VL_1 := hide (VL_0.out.below hb);have VH_1 := hide (VH_0.out.below hb);have B_1 := bs B_0 hb;have hz1 := hb.size;clear hb;have cA0 := A_1.c 0 rfl;have cA1 := A_1.c 1 rfl;have cR0 := R_1.c 0 rfl;have cR1 := R_1.c 1 rfl;have fR0 := R_1.frozen 0;have fR1 := R_1.frozen 1;clear k_c1;by_cases hid : id < 1
  ·have HF := hide (find_low (lo := lo) (hi := hi) (show id ≤ 0 by omega))
   go_wp2_with fail
   refine bodyPost_ret (by simp [results, Tryz.results117, go_sem, cR0, cR1]; try rfl) rfl ?_;exact ⟨by rw [HF.out]; rfl, ((B_1.out).setCell (by simp) _).setCell (by simp) _⟩
  have hF : cK lo hi id = if jo lo id then some (false, ((lo.idxOf id : Nat) : Int)) else if jo hi id then some (true, ((hi.idxOf id : Nat) : Int)) else none := by
   unfold cK;rw [if_pos (by rw [Kc1.out]; simp; omega)]
  have HF := hide hF;clear hF;have k_i := index_any l lo _ _ id w1 VL_1.out;cases c2 : jo lo id with
  | true =>
   rw [c2] at k_i HF;simp only [if_true] at k_i HF;obtain ⟨j, hj⟩ : ∃ j, lo.idxOf id = j := ⟨_, rfl⟩;rw [hj] at k_i HF;have hj0 : (0 : Int) ≤ (j : Int) := by omega
   clear hj c2;go_wp2_with fail
   refine k_i.mono ?_;rintro e wq ⟨rfl, rfl⟩;clear k_i;go_wp2_with fail
   refine bodyPost_ret (by simp [results, Tryz.results117, go_sem, cR0, cR1]; try rfl) rfl ?_;exact ⟨by rw [HF.out]; rfl, ((B_1.out).setCell (by simp) _).setCell (by simp) _⟩
  | false =>
   rw [c2] at k_i HF;simp only [Bool.false_eq_true, if_false] at k_i HF;clear c2;go_wp2_with fail
   refine k_i.mono ?_;rintro e wq ⟨rfl, rfl⟩;clear k_i;go_wp2_with fail
   have k_i := index_any h hi _ _ id w1 VH_1.out;cases c3 : jo hi id with
   | true =>
    rw [c3] at k_i HF;simp only [if_true] at k_i HF;obtain ⟨j, hj⟩ : ∃ j, hi.idxOf id = j := ⟨_, rfl⟩;rw [hj] at k_i HF;have hj0 : (0 : Int) ≤ (j : Int) := by omega
    clear hj c3;refine k_i.mono ?_;rintro e wq ⟨rfl, rfl⟩;clear k_i;go_wp2_with fail
    refine bodyPost_ret (by simp [results, Tryz.results117, go_sem, cR0, cR1]; try rfl) rfl ?_;exact ⟨by rw [HF.out]; rfl, ((B_1.out).setCell (by simp) _).setCell (by simp) _⟩
   | false =>
    rw [c3] at k_i HF;simp only [Bool.false_eq_true, if_false] at k_i HF;clear c3;refine k_i.mono ?_;rintro e wq ⟨rfl, rfl⟩;clear k_i;go_wp2_with fail
    refine bodyPost_ret (by simp [results, Tryz.results117, go_sem, cR0, cR1]; try rfl) rfl ?_;exact ⟨by rw [HF.out]; rfl, ((B_1.out).setCell (by simp) _).setCell (by simp) _⟩
theorem ak.far {base a z : Nat} {w w' : World} {s p l h : Value} {m : Mi} (H : ak base w s p l h m) (k : ai a z w w') (hs : ∀ g, s.ownBlock = some g → g < a ∨ z ≤ g) (hp : ∀ g, p.ownBlock = some g → g < a ∨ z ≤ g) (hl : ∀ g, l.ownBlock = some g → g < a ∨ z ≤ g) (hh : ∀ g, h.ownBlock = some g → g < a ∨ z ≤ g) : ak base w' s p l h m :=
 ⟨Nat.le_trans H.hb k.size, H.so.other k hs, H.po.other k hp, H.lo.other k hl, H.ho.other k hh, H.sp, H.sl, H.sh, H.pl, H.ph, H.lh⟩
theorem spec_got {base : Nat} {w w' : World} {p : Value} {x : Mi × Bool} {e : Ending} (hb : base ≤ w.heap.size) (k : Below w.heap.size w w') {s' p' l' h' : Value} (he : e = .returned (.tuple #[ag s' p' l' h' x.1, .bool x.2])) (G : ak base w' s' p' l' h' x.1) : SpecGot base p x w e w' :=
 ⟨⟨_, _, _, _, he, G, k.mono hb⟩, fun _ _ _ r _ => r.below k r.lt⟩
theorem other_two {g : Nat} {w w1 w2 : World} (h : ai g (g + 1) w w1) (k : ai (g + 1) (g + 1 + 1) w1 w2) : ai g (g + 1 + 1) w w2 :=
 ⟨k.os.trans h.os, k.tape.trans h.tape, k.output.trans h.output, Nat.le_trans h.size k.size, fun q hq hd => (k.block q (Nat.lt_of_lt_of_le hq h.size) (by omega)).trans (h.block q hq (by omega))⟩
theorem jd {base g : Nat} {w w1 : World} {s p l h : Value} {m : Mi} (H : ak base w s p l h m) (hb : Below w.heap.size w w1) (hg : w.heap.size ≤ g) (v0 v1 v2 v3 v4 v5 v6 v7 v8 v9 v10 v11 : Value) :
 SpecGot base p (m, false) w (.returned (.tuple #[ag s p l h m, .bool false])) (((((((((((((w1).setCell ⟨g, 0, none⟩ v0).setCell ⟨g, 1, none⟩ v1).setCell ⟨g, 2, none⟩ v2).setCell ⟨g, 3, none⟩ v3).setCell ⟨g, 4, none⟩ v4).setCell ⟨g, 5, none⟩ v5).setCell ⟨g, 6, none⟩ v6).setCell ⟨g, 7, none⟩ v7).setCell ⟨g, 8, none⟩ v8).setCell ⟨g, 9, none⟩ v9).setCell ⟨g, 10, none⟩ v10).setCell ⟨g, 11, none⟩ v11) := by
 have K := hb.trans ((aI g w1 v0 v1 v2 v3 v4 v5 v6 v7 v8 v9 v10 v11).below (B := w.heap.size) hg hb.size);exact spec_got H.hb K rfl (H.below K)
theorem done_got {base : Nat} {w wk wz : World} {s' p p' l' h' : Value} {x : Mi} (hb : base ≤ w.heap.size) (K : Below w.heap.size w wk) (G : ak base wk s' p' l' h' x) (T : ai w.heap.size (w.heap.size + 1) wk wz)
 (hs : ∀ g, s'.ownBlock = some g → g < w.heap.size ∨ w.heap.size + 1 + 1 ≤ g) (hp : ∀ g, p'.ownBlock = some g → g < w.heap.size ∨ w.heap.size + 1 + 1 ≤ g) (hl : ∀ g, l'.ownBlock = some g → g < w.heap.size ∨ w.heap.size + 1 + 1 ≤ g) (hh : ∀ g, h'.ownBlock = some g → g < w.heap.size ∨ w.heap.size + 1 + 1 ≤ g) (v0 v1 v2 v3 v4 v5 v6 v7 v8 v9 v10 v11 : Value) :
 SpecGot base p (x, true) w (.returned (.tuple #[ag s' p' l' h' x, .bool true])) (((((((((((((wz).setCell ⟨w.heap.size + 1, 0, none⟩ v0).setCell ⟨w.heap.size + 1, 1, none⟩ v1).setCell ⟨w.heap.size + 1, 2, none⟩ v2).setCell ⟨w.heap.size + 1, 3, none⟩ v3).setCell ⟨w.heap.size + 1, 4, none⟩ v4).setCell ⟨w.heap.size + 1, 5, none⟩ v5).setCell ⟨w.heap.size + 1, 6, none⟩ v6).setCell ⟨w.heap.size + 1, 7, none⟩ v7).setCell ⟨w.heap.size + 1, 8, none⟩ v8).setCell ⟨w.heap.size + 1, 9, none⟩ v9).setCell ⟨w.heap.size + 1, 10, none⟩ v10).setCell ⟨w.heap.size + 1, 11, none⟩ v11) := by
 have T2 := other_two T (aI (w.heap.size + 1) wz v0 v1 v2 v3 v4 v5 v6 v7 v8 v9 v10 v11);exact spec_got hb (K.trans (T2.below (B := w.heap.size) nl K.size)) rfl (G.far T2 hs hp hl hh)
theorem melt_spec {base : Nat} {w : World} {s p l h : Value} {m : Mi} (tons : Int) (H : ak base w s p l h m) (hm : dO m) :
 Calls Tryz.prog 79 #[ag s p l h m, .int .i64 tons] w (SpecGot base p (orOld m (jv m tons)) w) := by
 have HH := hide H;have hst0 := hm.st0;have hbz := H.hb;obtain ⟨aS, cs, ap, cp, al, cl, ah, ch, rfl, rfl, rfl, rfl⟩ := H.op;have hbest := fun W (K : bW 0 W.heap.size W (.slice aS m.store.length cs) m.store) => best_spec (.slice aS m.store.length cs) m.store m.rule tons W K;unfold grV at hbest;have HBT := hide hbest;clear hbest H;unfold ag;go_enter Tryz.func79, Tryz.ntmps79;go_wp2_with fail
 refine aj fun wx hwx => ?_;have A_0 : ae wx w.heap.size 31 (mC aS cs ap cp al cl ah ch m) := by rw [hwx]; exact (ae.new _ 31 (mC aS cs ap cp al cl ah ch m)).alloc _
 have R_0 : ae wx (w.heap.size + 1) 31 z12 := by rw [hwx]; simpa using (ae.new (World.alloc _ _) 31 z12)
 have B_0 : Below w.heap.size w wx := by rw [hwx]; go_grown
 clear hwx;have hL0 := R_0.lt;refine (HBT.out wx (HH.out.below B_0).all.store).mono ?_;rintro e w1 ⟨ao1, n1, cap1, rfl, hmix, hb⟩;have A_1 := A_0.below hb A_0.lt;have R_1 := R_0.below hb R_0.lt;have B_1 := bs B_0 hb;have hz1 := hb.size;clear hb;by_cases hs : m.strand = 0
 ·have hsB : decide (0 < m.strand) = false := by simp [hs]
  have HS0 := hide hs;cases hmb : dM m.store m.rule tons with
  | none =>
   have HN := hide (melt_no2 hmb);clear hmix hmb hs;obtain ⟨cA0, cA1, cA2, cA3, cA4, cA5, cA6, cA7, cA8, cA9, cA10, cA11⟩ := af A_1;have cRz := af R_1;have fRz := ay R_1;go_wp2_with fail
   refine bodyPost_ret (by simp [results, Tryz.results79, go_sem, cRz]; try rfl) rfl ?_;rw [HN.out];exact jd HH.out B_1.out (by omega) _ _ _ _ _ _ _ _ _ _ _ _
  | some mix =>
   have HM := hide hmb;obtain ⟨hmv, -, ht1, ht2⟩ := best_ok hmb;have HMB := hide hmv;have HI := hide (hmix mix hmb);have hw4 : IntKind.i64.wrap (4 * tons) = 4 * tons := IntWalk.i64_in _ (by omega);clear hmix hmb hmv hs;have cA0 := A_1.c 0 rfl;have cA7 := A_1.c 7 rfl;go_wp2_with fail
   refine (take_spec (.slice aS m.store.length cs) (.slice ao1 n1 cap1) m.store mix w1 ((HH.out.below B_1.out).all.store) (HI.out.mono (Nat.zero_le _) nl nl) HMB.out).mono ?_;rintro e w2 ⟨v, rfl, own, hb2⟩;have A_2 := A_1.below hb2 A_1.lt;have R_2 := R_1.below hb2 R_1.lt;have B_2 := bs B_1.out hb2;have hz2 := hb2.size;have G_2 := hide (HH.out.store B_2.out (show w.heap.size ≤ w1.heap.size by have := B_1.out.size; omega) (aK.own own) (4 * tons));have HO := hide own;obtain ⟨av, cv, rfl, -, -⟩ := aB own;clear own hb2 cA0 cA7;obtain ⟨cA0, cA1, cA2, cA3, cA4, cA5, cA6, cA7, cA8, cA9, cA10, cA11⟩ := af A_2;have fAz := ay A_2;have cRz := af R_2;have fRz := ay R_2;go_wp2_with fail
   refine bodyPost_ret (by simp [results, Tryz.results79, go_sem, cRz]; try rfl) rfl ?_;rw [melt_yes HS0.out HM.out];have T : ai w.heap.size (w.heap.size + 1) w2 ((w2.setCell ⟨w.heap.size, 0, none⟩ (.slice av (ig m.store mix).length cv)).setCell ⟨w.heap.size, 7, none⟩ (.int .i64 (4 * tons))) := ai.setCell (p := ⟨w.heap.size, 7, none⟩) (ai.setCell (p := ⟨w.heap.size, 0, none⟩) (ai.refl _ _ _) nl ns _) nl ns _;exact done_got (x := { m with store := ig m.store mix, strand := 4 * tons }) hbz B_2.out G_2.out T (fun g hg => .inr (by have := (aK.own HO.out).lt g hg; omega)) (fun g hg => .inl (HH.out.po.lt g hg).2) (fun g hg => .inl (HH.out.lo.lt g hg).2) (fun g hg => .inl (HH.out.ho.lt g hg).2) _ _ _ _ _ _ _ _ _ _ _ _
 ·have hsB : decide (0 < m.strand) = true := by simp; omega
  have HN := hide (melt_no1 (t := tons) hs);clear hmix hs;obtain ⟨cA0, cA1, cA2, cA3, cA4, cA5, cA6, cA7, cA8, cA9, cA10, cA11⟩ := af A_1;have cRz := af R_1;have fRz := ay R_1;go_wp2_with fail
  refine bodyPost_ret (by simp [results, Tryz.results79, go_sem, cRz]; try rfl) rfl ?_;rw [HN.out];exact jd HH.out B_1.out (by omega) _ _ _ _ _ _ _ _ _ _ _ _
theorem many_sums {L : Nat} {a b : Int} (h : dB a b = true) : 0 ≤ (dx L a b : Int) * a ∧ 0 ≤ (bA L a b : Int) * b ∧ (dx L a b : Int) * a + (bA L a b : Int) * b ≤ L := by
 obtain ⟨⟨h1, h2⟩, h3, h4⟩ := di.1 h;obtain ⟨-, e0⟩ := many_le h (show (0 : Int) ≤ L by omega);exact ⟨Int.mul_nonneg (by omega) (by omega), Int.mul_nonneg (by omega) (by omega), e0⟩
theorem tdiv_ge {n : Nat} {x y : Int} (hx : 0 ≤ x) (hy : 1 ≤ y) (h : (n : Int) * y ≤ x) (hl : x ≤ 60) : (n : Int) ≤ x.tdiv y ∧ 0 ≤ x.tdiv y ∧ x.tdiv y ≤ 60 := by
 rw [Int.tdiv_eq_ediv_of_nonneg hx];have h1 : (n : Int) ≤ x / y := Int.le_ediv_of_mul_le (by omega) h;have h2 : x / y ≤ x := Int.ediv_le_self _ hx;have h3 : 0 ≤ x / y := Int.ediv_nonneg hx (by omega);omega
theorem cutWaste_impl (v mv : Value) (a b : Int) (lo hi lo2 hi2 L : Nat) (hL : L ≤ 60) (hv : dB a b = true) (w : World) (H : au lo hi w v [a, b]) (H2 : au lo2 hi2 w mv (iR L a b)) :
 Calls Tryz.prog 112 #[.int .i64 (L : Int), v, mv] w fun e w' => e = .returned (.int .i64 (dJ L a b)) ∧ w = w' := by
 obtain ⟨⟨ha1, ha2⟩, hb1, hb2⟩ := di.1 hv;obtain ⟨hn0, hn1⟩ := many_bd hv (show (0 : Int) ≤ L by omega);obtain ⟨hs0, hs1, hs2⟩ := many_sums (L := L) hv;have hlen := lens_impl v a b lo hi w H;rw [hv] at hlen;have HLN := hide hlen;obtain ⟨b0, o0, cap, rfl, -, -, c0, c1⟩ := bK H;have hR : dJ L a b = L - dx L a b * a - bA L a b * b := rfl;unfold iR at H2;obtain ⟨n0, hn0e⟩ : ∃ n : Nat, dx L a b = n := ⟨_, rfl⟩;obtain ⟨n1, hn1e⟩ : ∃ n : Nat, bA L a b = n := ⟨_, rfl⟩;rw [hn0e, hn1e] at H2 hR;rw [hn0e] at hn1 hs0 hs2;rw [hn1e] at hn0 hs1 hs2;obtain ⟨b2, o2, cap2, rfl, -, -, m0, m1⟩ := bK H2;have hq := fun W => aU (L : Int) 0 60 W;rw [show wi (L : Int) 0 60 = true from aN.2 (by omega)] at hq;have hq0 := fun W => aU (n0 : Int) 0 (L : Int) W;rw [show wi (n0 : Int) 0 (L : Int) = true from aN.2 (by omega)] at hq0;have hq1 := fun W => aU (n1 : Int) 0 (L : Int) W;rw [show wi (n1 : Int) 0 (L : Int) = true from aN.2 (by omega)] at hq1;have HQ := hide hq;have HQ0 := hide hq0;have HQ1 := hide hq1;obtain ⟨p0, hp0⟩ : ∃ p, (n0 : Int) * a = p := ⟨_, rfl⟩;obtain ⟨p1, hp1⟩ : ∃ p, (n1 : Int) * b = p := ⟨_, rfl⟩;rw [hp0] at hs0 hs2;rw [hp1] at hs1 hs2;have hR2 : dJ L a b = L - p0 - p1 := by rw [hR, hp0, hp1]
 rw [hR2];have w0 : IntKind.i64.wrap ((n0 : Int) * a) = p0 := by rw [hp0]; exact IntWalk.i64_in _ (by omega)
 have w1 : IntKind.i64.wrap ((n1 : Int) * b) = p1 := by rw [hp1]; exact IntWalk.i64_in _ (by omega)
 have w2 : IntKind.i64.wrap ((L : Int) - p0) = (L : Int) - p0 := IntWalk.i64_in _ (by omega);have w3 : IntKind.i64.wrap ((L : Int) - p0 - p1) = (L : Int) - p0 - p1 := IntWalk.i64_in _ (by omega);have hnn : ¬ (L : Int) - p0 - p1 < -1 := by omega
 clear hn0e hn1e hR hR2 hp0 hp1 H H2 hlen hq hq0 hq1 hv;go_enter Tryz.func112, Tryz.ntmps112;go_wp2_with fail
 refine (HQ.out w).mono ?_;rintro e w1 ⟨rfl, rfl⟩;go_wp2_with fail
 refine HLN.out.mono ?_;rintro e w1 ⟨rfl, rfl⟩;go_wp2_with fail
 go_loop [7, 8, 9, 28] (fun x _ _ i => (i = .int .i64 0 ∧ x = .int .i64 (L : Int)) ∨ (i = .int .i64 1 ∧ x = .int .i64 ((L : Int) - p0)) ∨ (i = .int .i64 2 ∧ x = .int .i64 ((L : Int) - p0 - p1))) (fun _ _ _ i => 2 - (intOf i).toNat)
 case atStart => exact .inl ⟨rfl, rfl⟩
 case round =>
  rcases hrel with ⟨rfl, rfl⟩ | ⟨rfl, rfl⟩ | ⟨rfl, rfl⟩
  ·go_wp2_with fail
   refine (HQ0.out w).mono ?_;rintro e w1 ⟨rfl, rfl⟩;go_wp2_with fail
   go_round
   case rel => exact .inr (.inl ⟨rfl, rfl⟩)
   case measure => simp [intOf]
  ·go_wp2_with fail
   refine (HQ1.out w).mono ?_;rintro e w1 ⟨rfl, rfl⟩;go_wp2_with fail
   go_round
   case rel => exact .inr (.inr ⟨rfl, rfl⟩)
   case measure => simp [intOf]
  ·go_wp2_with fail
   go_ret;have hmx : max ((L : Int) - p0 - p1) (-1) = (L : Int) - p0 - p1 := by omega
   simp [hmx]
theorem cutWaste_spec (v mv : Value) (a b : Int) (lo hi lo2 hi2 L : Nat) (hL : L ≤ 60) (hv : dB a b = true) (w : World) (H : au lo hi w v [a, b]) (H2 : au lo2 hi2 w mv (iR L a b)) :
 Calls Tryz.prog 125 #[.int .i64 (L : Int), v, mv] w fun e w' => e = .returned (.int .i64 (dJ L a b)) ∧ Below w.heap.size w w' := by
 obtain ⟨⟨ha1, ha2⟩, hb1, hb2⟩ := di.1 hv;obtain ⟨hs0, hs1, hs2⟩ := many_sums (L := L) hv;have hlen := lens_spec v a b lo hi w H;rw [hv] at hlen;have HLN := hide hlen;have HH := hide H;have HH2 := hide H2;obtain ⟨b0, o0, cap, rfl, -, -, -, -⟩ := bK H;have hR : dJ L a b = L - dx L a b * a - bA L a b * b := rfl;unfold iR at H2 HH2;obtain ⟨n0, hn0e⟩ : ∃ n : Nat, dx L a b = n := ⟨_, rfl⟩;obtain ⟨n1, hn1e⟩ : ∃ n : Nat, bA L a b = n := ⟨_, rfl⟩;rw [hn0e, hn1e] at H2 HH2 hR;rw [hn0e] at hs0 hs2;rw [hn1e] at hs1 hs2;obtain ⟨b2, o2, cap2, rfl, -, -, -, -⟩ := bK H2;obtain ⟨d1, d2, d3⟩ := tdiv_ge (n := n0) (x := (L : Int)) (y := a) (by omega) ha1 (by omega) (by omega);obtain ⟨q0, hq0e⟩ : ∃ q, (L : Int).tdiv a = q := ⟨_, rfl⟩;rw [hq0e] at d1 d2 d3;obtain ⟨p0, hp0⟩ : ∃ p, (n0 : Int) * a = p := ⟨_, rfl⟩;rw [hp0] at hs0 hs2;obtain ⟨e1, e2, e3⟩ := tdiv_ge (n := n1) (x := (L : Int) - p0) (y := b) (by omega) (by omega) (by omega) (by omega);obtain ⟨q1, hq1e⟩ : ∃ q, ((L : Int) - p0).tdiv b = q := ⟨_, rfl⟩;rw [hq1e] at e1 e2 e3;obtain ⟨p1, hp1⟩ : ∃ p, (n1 : Int) * b = p := ⟨_, rfl⟩;rw [hp1] at hs1 hs2;have hR2 : dJ L a b = L - p0 - p1 := by rw [hR, hp0, hp1]
 rw [hR2];have hq := fun W => aY (L : Int) 0 60 W;rw [show wi (L : Int) 0 60 = true from aN.2 (by omega)] at hq;have hq0 := fun W => aY (n0 : Int) 0 q0 W;rw [show wi (n0 : Int) 0 q0 = true from aN.2 (by omega)] at hq0;have hq1 := fun W => aY (n1 : Int) 0 q1 W;rw [show wi (n1 : Int) 0 q1 = true from aN.2 (by omega)] at hq1;have HQ := hide hq;have HQ0 := hide hq0;have HQ1 := hide hq1;have w0 : IntKind.i64.wrap ((n0 : Int) * a) = p0 := by rw [hp0]; exact IntWalk.i64_in _ (by omega)
 have w1 : IntKind.i64.wrap ((n1 : Int) * b) = p1 := by rw [hp1]; exact IntWalk.i64_in _ (by omega)
 have w2 : IntKind.i64.wrap ((L : Int) - p0) = (L : Int) - p0 := IntWalk.i64_in _ (by omega);have w3 : IntKind.i64.wrap ((L : Int) - p0 - p1) = (L : Int) - p0 - p1 := IntWalk.i64_in _ (by omega);have w4 : IntKind.i64.wrap q0 = q0 := IntWalk.i64_in _ (by omega);have w5 : IntKind.i64.wrap q1 = q1 := IntWalk.i64_in _ (by omega);have hne0 : (a == 0) = false := by rw [beq_eq_false_iff_ne]; omega
 have hne1 : (b == 0) = false := by rw [beq_eq_false_iff_ne]; omega
 clear hn0e hn1e hR hR2 hp0 hp1 H H2 hlen hq hq0 hq1 hv;go_enter Tryz.func125, Tryz.ntmps125;go_wp2_with fail
 refine HLN.out.mono ?_;rintro e wa ⟨rfl, hb⟩;have HB := hide hb;clear hb;go_wp2_with fail
 refine (HQ.out wa).mono ?_;rintro e wb ⟨rfl, rfl⟩;go_wp2_with fail
 go_loopw [7, 8] (fun x i wr => Below w.heap.size w wr ∧ ((i = .int .i64 0 ∧ x = .int .i64 (L : Int)) ∨ (i = .int .i64 1 ∧ x = .int .i64 ((L : Int) - p0)) ∨ (i = .int .i64 2 ∧ x = .int .i64 ((L : Int) - p0 - p1)))) (fun _ i _ => 2 - (intOf i).toNat)
 case atStart => exact ⟨HB.out, .inl ⟨rfl, rfl⟩⟩
 case round =>
  obtain ⟨hb, hcase⟩ := hrel;obtain ⟨b1, o1, cap1, e1, -, -, c0, c1⟩ := bK (HH.out.below hb);cases e1;obtain ⟨b3, o3, cap3, e3, -, -, m0, m1⟩ := bK (HH2.out.below hb);cases e3;have HBr := hide hb;clear hb;rcases hcase with ⟨rfl, rfl⟩ | ⟨rfl, rfl⟩ | ⟨rfl, rfl⟩
  ·go_wp2_with fail
   go_quiet ((go_at_call 42; exact bL (HQ0.out _)))
   go_wp2_with fail
   go_quiet (fail)
   go_wp2_with fail
   go_roundw
   case rel => exact ⟨below_drewN HBr.out _, .inr (.inl ⟨rfl, rfl⟩)⟩
   case measure => simp [intOf]
  ·go_wp2_with fail
   go_quiet ((go_at_call 42; exact bL (HQ1.out _)))
   go_wp2_with fail
   go_quiet (fail)
   go_wp2_with fail
   go_roundw
   case rel => exact ⟨below_drewN HBr.out _, .inr (.inr ⟨rfl, rfl⟩)⟩
   case measure => simp [intOf]
  ·go_wp2_with fail
   go_ret;exact ⟨rfl, HBr.out⟩
def jz : J := ⟨0, 0, 0⟩
theorem jb_at {lo hi : Nat} {w : World} {v : Value} {xs : List J} (h : bz lo hi w v xs) {k : Nat} (hk : k < xs.length) :
 ∃ b o cap, v = .slice (some ⟨b, o, none⟩) xs.length cap ∧ lo ≤ b ∧ b < hi ∧
  (w.cell? ⟨b, o + k * 3, none⟩ = some (.int .i64 (xs.getD k jz).s) ∧ w.cell? ⟨b, o + k * 3 + 1, none⟩ = some (.int .i64 (xs.getD k jz).d) ∧ w.cell? ⟨b, o + k * 3 + 2, none⟩ = some (.int .i64 (xs.getD k jz).g)) := by
 obtain ⟨ao, cap, rfl, h1, h2, h3, h4⟩ := h;obtain ⟨b, o, rfl, b1, b2, hc⟩ := h4 (by omega);have hg : xs.getD k jz = xs[k] := by simp [hk]
 rw [hg];exact ⟨b, o, cap, rfl, b1, b2, (hc k hk).1⟩
theorem run_take (m : Mi) {js : List J} {k : Nat} (h : k < js.length) : dX m (js.take (k + 1)) = iJ (dX m (js.take k)) (js.getD k jz) := by
 unfold dX;rw [List.take_succ_eq_append_getElem h, List.foldl_append];simp [h]
theorem runS_no {x : Mi} {n : Int} {d : J} {y : Mi} (h : doR x d = (y, false)) : iJ (x, n) d = (x, n) := by unfold iJ; simp [h]
theorem runS_yes {x : Mi} {n : Int} {d : J} {y : Mi} (h : doR x d = (y, true)) : iJ (x, n) d = (y, n + 1) := by unfold iJ; simp [h]
def BoxM (base : Nat) (w : World) (y : Mi) (bx : Value) : Prop := ∃ G s p l h, bx = .pointer (some ⟨G, 0, none⟩) ∧ base ≤ G ∧ ae w G 31 (az s p l h y) ∧ ak base w s p l h y
theorem boxM_new {base b : Nat} {w : World} {s p l h : Value} {y : Mi} (G : ak b w s p l h y) (hb : base ≤ b) (hz : base ≤ w.heap.size) :
 BoxM base (w.alloc (.cells (az s p l h y).toArray 31)) y (.pointer (some ⟨w.heap.size, 0, none⟩)) :=
 ⟨_, s, p, l, h, rfl, hz, ae.new _ _ _, (G.below ((Below.refl _ _).alloc nl _)).mono hb⟩
theorem boxM_old {base b C : Nat} {w : World} {s p l h : Value} {y : Mi} {us : List Value} (r : ae w C 31 us) (hl : us.length = 12) (G : ak b w s p l h y) (hC : base ≤ C) (hb : base ≤ b) :
 BoxM base (((((((((((((w).setCell ⟨C, 0, none⟩ s).setCell ⟨C, 1, none⟩ (.int .i64 y.rule.lc)).setCell ⟨C, 2, none⟩ (.int .i64 y.rule.hc)).setCell ⟨C, 3, none⟩ (.int .i64 y.rule.lm)).setCell ⟨C, 4, none⟩ (.int .i64 y.rule.hm)).setCell ⟨C, 5, none⟩ (.int .i64 y.rule.ls)).setCell ⟨C, 6, none⟩ (.int .i64 y.rule.hs)).setCell ⟨C, 7, none⟩ (.int .i64 y.strand)).setCell ⟨C, 8, none⟩ p).setCell ⟨C, 9, none⟩ l).setCell ⟨C, 10, none⟩ h).setCell ⟨C, 11, none⟩ (.int .i64 y.scrap)) y (.pointer (some ⟨C, 0, none⟩)) :=
 ⟨_, s, p, l, h, rfl, hC, dU r hl _ _ _ _ _ _ _ _ _ _ _ _, (G.past r (aI _ _ _ _ _ _ _ _ _ _ _ _ _ _)).mono hb⟩
theorem Rd.past {R k Z T : Nat} {w w' : World} {vs : List Value} (h : Rd R k w) (r : ae w Z T vs) (hne : R ≠ Z) (hv : ∀ u ∈ vs, ∀ x, u ≠ .int .u8 x) (K : ai Z (Z + 1) w w') : Rd R k w' := by
 obtain ⟨v, n, p, h1, h2⟩ := h;have hRl := World.rowIs.lt h2.row;refine ⟨v, n, p, h1, World.rowIs.of_block h2.row (K.block R hRl (by omega)), ?_, h2.few⟩;obtain ⟨ao, cap, e, a1, a2, a3, a4⟩ := h2.bytes;refine ⟨ao, cap, e, a1, a2, Nat.le_trans a3 K.size, fun hn => ?_⟩;obtain ⟨b, o, e1, e2, e3, e4⟩ := a4 hn;have hb : b ≠ Z := by
  rintro rfl;obtain ⟨x, x1, -⟩ := e4 0 hn;obtain ⟨c, hc, hl, hf⟩ := r;simp [World.cell?, hc] at x1;obtain ⟨hi, -⟩ := Array.getElem?_eq_some_iff.1 x1;have hi2 : o < vs.length := by omega
  have h3 := hf o hi2;rw [x1] at h3;have h4 := Option.some.inj h3;have h5 : vs.getD o default = vs[o] := by simp [hi2]
  simp only [h5] at h4;exact hv _ (List.getElem_mem hi2) x h4.symm
 refine ⟨b, o, e1, e2, e3, fun i hi => ?_⟩;obtain ⟨x, x1, x2⟩ := e4 i hi;exact ⟨x, by rw [World.cell?_of_block (w := w) (K.block b (by omega) (by omega))]; exact x1, x2⟩
theorem no8_zero : ∀ u ∈ [Value.slice none 0 0, Value.int .i64 0, Value.int .i64 0, Value.int .i64 0, Value.int .i64 0, Value.int .i64 0, Value.int .i64 0, Value.int .i64 0, Value.slice none 0 0, Value.slice none 0 0, Value.slice none 0 0, Value.int .i64 0], ∀ x, u ≠ Value.int .u8 x := by
 intro u hu x;simp only [List.mem_cons, List.not_mem_nil, or_false] at hu;rcases hu with rfl | rfl | rfl | rfl | rfl | rfl | rfl | rfl | rfl | rfl | rfl | rfl <;> (intro h; cases h)
def MillIsAt (b Z : Nat) (w0 : World) (s p l h : Value) (m : Mi) (W : World) : Prop :=
 ae W Z 31 (az s p l h m) ∧ ak b W s p l h m ∧ Below b w0 W
theorem mia_z {b b' Z : Nat} {w0 w : World} {s p l h : Value} {us : List Value} {m : Mi} (rz : ae w Z 31 us) (hl : us.length = 12) (G : ak b' w s p l h m) (B : Below b w0 w) (hbb : b ≤ b') (hz : b ≤ w0.heap.size) (h1 : b ≤ Z) :
 MillIsAt b Z w0 s p l h m (((((((((((((w).setCell ⟨Z, 0, none⟩ (s)).setCell ⟨Z, 1, none⟩ (.int .i64 m.rule.lc)).setCell ⟨Z, 2, none⟩ (.int .i64 m.rule.hc)).setCell ⟨Z, 3, none⟩ (.int .i64 m.rule.lm)).setCell ⟨Z, 4, none⟩ (.int .i64 m.rule.hm)).setCell ⟨Z, 5, none⟩ (.int .i64 m.rule.ls)).setCell ⟨Z, 6, none⟩ (.int .i64 m.rule.hs)).setCell ⟨Z, 7, none⟩ (.int .i64 m.strand)).setCell ⟨Z, 8, none⟩ (p)).setCell ⟨Z, 9, none⟩ (l)).setCell ⟨Z, 10, none⟩ (h)).setCell ⟨Z, 11, none⟩ (.int .i64 m.scrap)) := by
 have T := aI Z w s (.int .i64 m.rule.lc) (.int .i64 m.rule.hc) (.int .i64 m.rule.lm) (.int .i64 m.rule.hm) (.int .i64 m.rule.ls) (.int .i64 m.rule.hs) (.int .i64 m.strand) p l h (.int .i64 m.scrap);exact ⟨dU rz hl _ _ _ _ _ _ _ _ _ _ _ _, (G.past rz T).mono hbb, B.trans (T.below h1 (Nat.le_trans hz B.size))⟩
theorem mia_0 {b b' Z : Nat} {w0 w : World} {s p l h : Value} {m : Mi} (rz : ae w Z 31 (az s p l h m)) (G : ak b' w s p l h m) (B : Below b w0 w) (hbb : b ≤ b') : MillIsAt b Z w0 s p l h m w := ⟨rz, G.mono hbb, B⟩
end Go.Proofs.YtkhecelpafojdaaGreatDoor
