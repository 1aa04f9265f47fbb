/-
  Parts of the proofs over mills, of: PileF, CutT, CutB. Conditions: each theorem states its own.
-/
import Derived.Test.YtkhecelpafojdaaGreatDoorF21
set_option linter.unusedSimpArgs false
set_option linter.unusedVariables false
set_option maxRecDepth 10000
set_option maxHeartbeats 64000000
namespace Go.Proofs.YtkhecelpafojdaaGreatDoor
open Go.RowKit
theorem sort_any (base : Nat) (v : Value) (xs : List Int) (w : World) (h : w.ownsRow base 3 1 v xs.length (aC xs)) (hl : xs.length ≤ 1000) (hb : base ≤ w.heap.size) :
 Calls Tryz.prog 102 #[v] w fun e w' => e = .returned (.tuple #[]) ∧ ∃ ys : List Int, ys.Perm xs ∧ ys.Pairwise (· ≤ ·) ∧ ys.length = xs.length ∧ w'.ownsRow base 3 1 v ys.length (aC ys) ∧ Below base w w' := by
 rcases id h.2 with ⟨rfl, h0⟩ | ⟨g, cap, cur, rfl, hbg, hg, h1, h2, h3, h4⟩
 ·obtain rfl : xs = [] := List.eq_nil_of_length_eq_zero h0
  exact (Tryz.slices_Sort_int_none none 0 w).mono fun e w' ⟨he, hw⟩ => ⟨he, [], List.Perm.refl _, List.Pairwise.nil, rfl, by rw [hw]; exact h, by rw [hw]; exact Below.refl _ _⟩
 ·have hlt := (Array.getElem?_eq_some_iff.1 hg).1
  refine (Tryz.slices_Sort_int g 0 cap xs w (holds_of_blockI hg (by rw [Nat.mul_one] at h4; exact h4)) hlt (by omega)).mono ?_;rintro e w' ⟨he, n, os, rfl⟩;have hp := List.mergeSort_perm xs fun x y => decide (x ≤ y);have hlen := hp.length_eq;refine ⟨he, _, hp, ?_, hlen, ?_, ?_⟩
  ·have := List.pairwise_mergeSort (le := fun x y : Int => decide (x ≤ y)) (fun a b c h1 h2 => by simp at *; omega) (fun a b => by simp; omega) xs
   exact this.imp fun h => by simpa using h
  ·rw [hlen]
   have := ownsRow_sortedI (os := os) (n := n) (w := w) hlen hbg hg h1 h2 h3;exact this
  ·exact (Below.refl _ _).grown (grownBy_sortedI _) hb fun k hk => by simp at hk; omega
theorem nz_take {xs : List Int} {k : Nat} (hk : k < xs.length) : nz (xs.take (k + 1)) = if xs[k] = 0 then nz (xs.take k) else nz (xs.take k) ++ [xs[k]] := by
 rw [List.take_succ_eq_append_getElem hk, nz_app];split
 ·rename_i h; simp [nz, h]
 ·rename_i h; simp [nz, h]
theorem nz_len (l : List Int) : (nz l).length ≤ l.length := List.length_filter_le _ _
theorem coils_impl (l h : Value) (lo hi : List Int) (w : World) (Hl : au 0 w.heap.size w l lo) (Hh : au 0 w.heap.size w h hi) :
 Calls Tryz.prog 55 #[aD l h] w (fA w.heap.size (ib lo hi) w) := by
 have HL := hide Hl;have HH := hide Hh;obtain ⟨ao1, cap1, rfl, -, -, -, -⟩ := Hl;obtain ⟨ao2, cap2, rfl, -, -, -, -⟩ := Hh;have hP := fun W H1 H2 => gI (.slice ao1 lo.length cap1) (.slice ao2 hi.length cap2) lo hi W H1 H2;unfold aD at hP ⊢;have HP := hide hP;obtain ⟨i0, hi0, hz0, hi1, hi2⟩ := info_parts bF;clear hP;go_enter Tryz.func55, Tryz.ntmps55;go_wp2_with fail
 refine aj fun wx hwx => ?_;have R0 : ae wx w.heap.size 29 [.slice ao1 lo.length cap1, .slice ao2 hi.length cap2] := by rw [hwx]; exact ae.new _ _ _
 have hb0 : Below w.heap.size w wx := by rw [hwx]; go_grown
 clear hwx;refine (HP.out wx ((HL.out.below hb0).mono nl hb0.size nl) ((HH.out.below hb0).mono nl hb0.size nl)).mono ?_;cases hv : aO lo hi with
 | false =>
  rintro e w1 ⟨rfl, hb1⟩;have HB1 := bs hb0 hb1;have HF := hide (show ib lo hi = [] by simp [ib, hv]);clear hb1 hv;go_wp2_with fail
  go_ret;exact ⟨_, rfl, by rw [HF.out]; exact World.ownsRow_nil _ _ _ _, HB1.out⟩
 | true =>
  rintro e w1 ⟨rfl, hb1⟩;have HV := hide (aZ.1 hv);have HB1 := bs hb0 hb1;have R1 := R0.below hb1 R0.lt;have hp0 := R1.cell 0 (by simp);have hp1 := R1.cell 1 (by simp);simp only [List.getD_cons_zero, List.getD_cons_succ] at hp0 hp1;have q1 := HV.out.l1;have q2 := HV.out.l6;have q3 := HV.out.lh;have hz0' := R1.lt;clear hb1 hv;go_wp2_with fail
  refine aj fun wy hwy => ?_;have R2 : ae wy w1.heap.size 27 [.slice ao1 lo.length cap1, .slice ao2 hi.length cap2] := by rw [hwy]; exact ae.new _ _ _
  have hby : Below w1.heap.size w1 wy := by rw [hwy]; go_grown
  clear hwy hp0 hp1;have hBy := Below.step HB1.out hby nl;refine (concat_any _ _ _ _ lo hi _ R2 ((HL.out.below hBy).mono nl hBy.size nl) ((HH.out.below hBy).mono nl hBy.size nl) (by omega) (by omega)).mono ?_;rintro e w2 ⟨v, rfl, hown, hb2⟩;have hat := bH hown rfl hb2.size;obtain ⟨ids, hids⟩ : ∃ ids, lo ++ hi = ids := ⟨_, rfl⟩;have hil : ids.length = lo.length + hi.length := by rw [← hids]; simp
  rw [hids] at hat hown;have HIDS := hide hids;have HAT := hide hat;have HB2 := bs hBy hb2;obtain ⟨aov, capv, rfl, -, -⟩ := aB hown;have hl3 : ids.length ≤ 20 := by omega
  clear hown hb2 hids hat hil;obtain ⟨aov', capv', e', -, -, -, hcv⟩ := HAT.out;simp only [Value.slice.injEq] at e';obtain ⟨rfl, -, rfl⟩ := e';have HCV := hide hcv;have hsz2 := HB2.out.size;clear hcv;go_wp2_with fail
  go_loopw [3, 5, 16] (fun o _ i wr => ∃ k : Nat, k ≤ ids.length ∧ i = .int .i64 k ∧ Below w2.heap.size w2 wr ∧ wr.ownsRow w2.heap.size 3 1 o (nz (ids.take k)).length (aC (nz (ids.take k)))) (fun _ _ i _ => ids.length - (intOf i).toNat)
  case atStart => exact ⟨0, Nat.zero_le _, rfl, Below.refl _ _, World.ownsRow_nil _ _ _ _⟩
  case round =>
   obtain ⟨k, hk, rfl, hb, hown⟩ := hrel;have HB := hide hb;have HO := hide hown;have hnl := nz_len (ids.take k);have htk : (ids.take k).length ≤ k := List.length_take_le _ _;have hszr := hb.size;obtain ⟨aow, capw, rfl, -, -⟩ := aB hown;clear hown;by_cases hlt : k < ids.length
   ·obtain ⟨b, o, rfl, hx1, hx2, hcs⟩ := HCV.out (by omega)
    obtain ⟨r1, -⟩ := hcs k hlt;rw [← hb.cell (p := ⟨b, _, none⟩) (by simpa using by omega)] at r1;have HN := hide (nz_take hlt);obtain ⟨x, hx⟩ : ∃ x, ids[k] = x := ⟨_, rfl⟩;rw [hx] at r1 HN;have hkI : (k : Int) < (ids.length : Int) := by omega
    clear hcs hx hb;by_cases hq : x = 0
    ·have hqB : (x != 0) = false := by simp [hq]
     have HN2 := hide (show nz (ids.take (k + 1)) = nz (ids.take k) by rw [HN.out, if_pos hq]);clear hq;go_wp2_with fail
     go_roundw
     case rel => exact ⟨k + 1, by omega, by go_num, HB.out, by rw [HN2.out]; exact HO.out⟩
     case measure => simp [intOf]; omega
    ·have hqB : (x != 0) = true := by simp [hq]
     have HN2 := hide (show nz (ids.take (k + 1)) = nz (ids.take k) ++ [x] by rw [HN.out, if_neg hq]);clear hq;go_wp2_with (at_builtin; refine aA rfl _ _ 27 rfl w2.heap.size 3 i0 (.int .i64 0) 1 8 Tryz.underlying27 hi0 hz0 hi1 hi2 rfl (by decide) _ _ _ rfl (HO.out.alloc _) (.slice (some ⟨wr.heap.size, 0, none⟩) 1 1) 1 [.int .i64 x] rfl ?c0 ?c1 ?c2 ?c3 ?_)
     case c0 => exact Source.lit wr [.int .i64 x] 1 3 1 rfl (fun u hu => by simp at hu; subst hu; rfl) 1
     case c1 => unfold maxLen; omega
     case c2 => omega
     case c3 => simp; omega
     intro v2 w3 hown2 hgrow2 _;have hB3 := (HB.out.alloc hszr (.cells #[.int .i64 x] 3)).trans (Below.grow hgrow2 (HO.out.alloc _) nl (by simp; omega));have HB3 := hide hB3;have HO3 := hide (show w3.ownsRow w2.heap.size 3 1 v2 (nz (ids.take (k + 1))).length (aC (nz (ids.take (k + 1)))) by rw [HN2.out]; simpa [aC] using hown2);clear hown2 hgrow2 hB3;go_wp2_with fail
     go_roundw
     case rel => exact ⟨k + 1, by omega, by go_num, HB3.out, HO3.out⟩
     case measure => simp [intOf]; omega
   ·obtain rfl : k = ids.length := by omega
    rw [List.take_of_length_le nl] at HO ⊢;have HBr := hide (HB2.out.trans (HB.out.mono hsz2));clear hb;go_wp2_with fail
    refine (sort_any w2.heap.size _ (nz ids) _ HO.out (by have := nz_len ids; omega) hszr).mono ?_;rintro e w4 ⟨rfl, ys, hp, hs, hly, hown, hb4⟩;have hc := coil_sorted HV.out (l := ys) (by rw [HIDS.out]; exact hp) hs;rw [hly] at hown;have HO4 := hide (show w4.ownsRow w.heap.size 3 1 (.slice aow (nz ids).length capw) (ib lo hi).length (aC (ib lo hi)) by rw [← hc, hly]; exact aJ hown hsz2);have HB4 := hide (HBr.out.trans (hb4.mono hsz2));clear hp hs hly hown hb4 hc;go_wp2_with fail
    go_ret;exact ⟨_, rfl, HO4.out, HB4.out⟩
theorem wastes_impl (v : Value) (a b : Int) (lo hi L : Nat) (hL : L ≤ 60) (hv : dB a b = true) (w : World) (H : au lo hi w v [a, b]) :
 Calls Tryz.prog 140 #[.int .i64 (L : Int), v] w (fA w.heap.size (tab a b (L + 1)) w) := by
 have HH := hide H;have hlt := H.lt;obtain ⟨⟨ha1, ha2⟩, hb1, hb2⟩ := di.1 hv;obtain ⟨T, hT⟩ : ∃ T, tab a b (L + 1) = T := ⟨_, rfl⟩;have HE := hide (show ∀ k : Nat, k ≤ L → T.getD k 0 = wst2 T a b k from fun k hk => hT ▸ tab_eq hv hk);have hTl : T.length = L + 1 := by rw [← hT, eQ]
 rw [hT];obtain ⟨N, hN1, hN2⟩ : ∃ N : Nat, N ≤ L + 1 ∧ L + 1 ≤ N := ⟨_, Nat.le_refl _, Nat.le_refl _⟩;have hTn : T.length = N := by omega
 clear hTl;obtain ⟨b0, o0, cap, rfl, h1, h2, -, -⟩ := bK H;have hmk : ∀ W : World, (Instr.makeSlice 27 (.int .i64 ((L : Int) + 1)) (.int .i64 ((L : Int) + 1))).run Tryz.prog W = .ok (.slice (some ⟨W.heap.size, 0, none⟩) N N) (W.alloc (.cells (madeCells (Value.int .i64 0).cells (N * 1)) 3)) := fun W => by
  rw [show (L : Int) + 1 = (N : Int) by omega];exact gN (P := Tryz.prog) 27 3 _ _ _ Tryz.underlying27 bF .i64 .i64 N (by omega) (by omega) W
 clear H hv hT;go_enter Tryz.func140, Tryz.ntmps140;go_wp2_with fail
 clear hmk
 go_loopw [6, 8, 14] (fun _ _ i wr => ∃ k : Nat, k ≤ N ∧ i = .int .i64 (k : Int) ∧ Below w.heap.size w wr ∧ ∃ f, wr.rowIs w.heap.size 3 N f ∧ ∀ j, j < k → f j = .int .i64 (T.getD j 0)) (fun _ _ i _ => N - (intOf i).toNat)
 case atStart =>
  obtain ⟨f, hf⟩ := rowIs_madeN w #[.int .i64 0] N 3;exact ⟨0, Nat.zero_le _, rfl, by go_grown, f, by simpa using hf, fun _ h => absurd h (Nat.not_lt_zero _)⟩
 case round =>
  obtain ⟨k, hk, rfl, hb, f, hrow, hall⟩ := hrel;have HB := hide hb;have HR := hide hrow;have HA := hide hall;have hz := hrow.lt;clear hall;by_cases hltk : k < N
  ·have hkI : (k : Int) < (N : Int) := by omega
   have hk0 : (0 : Int) ≤ (k : Int) := by omega
   have hgk := hrow.cell (i := k) hltk;have hgf := hrow.frozen k;clear hb hrow;go_wp2_with fail
   have hR2 := HR.out.set k (.int .i64 (k : Int));have hB2 : Below w.heap.size w (wr.setCell ⟨w.heap.size, k, none⟩ (.int .i64 (k : Int))) := HB.out.setCell nl _;obtain ⟨wo, hwo⟩ : ∃ wo : World, wo = wr.setCell ⟨w.heap.size, k, none⟩ (.int .i64 (k : Int)) := ⟨_, rfl⟩;rw [← hwo] at hR2 hB2 ⊢;clear hwo hgk hgf;have HR2 := hide hR2;have HB2 := hide hB2;clear hR2 hB2
   go_loopw [8, 23] (fun _ i wr => ∃ (x : Int) (f' : Nat → Value), wr.rowIs w.heap.size 3 N f' ∧ Below w.heap.size w wr ∧ f' k = .int .i64 x ∧ (∀ j, j < k → f' j = .int .i64 (T.getD j 0)) ∧ ((i = .int .i64 0 ∧ x = k) ∨ (i = .int .i64 1 ∧ x = wst1 T a k) ∨ (i = .int .i64 2 ∧ x = wst2 T a b k))) (fun _ i _ => 2 - (intOf i).toNat)
   case atStart =>
    exact ⟨k, _, HR2.out, HB2.out, by simp, fun j hj => by rw [if_neg (by omega)]; exact HA.out j hj, .inl ⟨rfl, rfl⟩⟩
   case round =>
    obtain ⟨x, f', hrow, hb, hfk, hfj, hcase⟩ := hrel;have hzz := hrow.lt;have cc := (bK (HH.out.below hb));obtain ⟨b1, o1, cap1, e1, -, -, c0, c1⟩ := cc;cases e1;have hgk : wr.cell? ⟨w.heap.size, k, none⟩ = some (.int .i64 x) := by rw [hrow.cell (i := k) hltk, hfk]
    have hgf := hrow.frozen k;have HRr := hide hrow;have HBr := hide hb;have HFk := hide hfk;have HFj := hide hfj;rcases hcase with ⟨rfl, rfl⟩ | ⟨rfl, rfl⟩ | ⟨rfl, rfl⟩
    ·by_cases hle : a ≤ (k : Int)
     ·obtain ⟨d, hd⟩ : ∃ d : Nat, (k : Int) - a = d := ⟨((k : Int) - a).toNat, by omega⟩
      have hdk : d < k := by omega
      have hdI : (d : Int) < (N : Int) := by omega
      have hd0 : (0 : Int) ≤ (d : Int) := by omega
      have hwd : IntKind.i64.wrap ((k : Int) - a) = (d : Int) := by rw [hd]; exact IntWalk.i64_in _ (by omega)
      have hgd : wr.cell? ⟨w.heap.size, d, none⟩ = some (.int .i64 (T.getD d 0)) := by rw [hrow.cell (i := d) (by omega), hfj d hdk]
      obtain ⟨y, hy⟩ : ∃ y, T.getD d 0 = y := ⟨_, rfl⟩;rw [hy] at hgd;have HX := hide (show wst1 T a k = min (k : Int) y by
       unfold wst1;rw [if_pos hle, hd];simp [← hy])
      clear hrow hb hfk hfj hy hd;go_wp2_with fail
      go_still_tail 14, (by kernel_rfl)
      change wpList _ _ _ _ _ wr.drew;go_wp2_with fail
      go_roundw
      case rel => exact ⟨wst1 T a k, _, (HRr.out.drew).set k _, (HBr.out.drew).setCell nl _, by rw [HX.out]; simp, fun j hj => by rw [if_neg (by omega)]; exact HFj.out j hj, .inr (.inl ⟨rfl, rfl⟩)⟩
      case measure => simp [intOf]
     ·have HX := hide (show wst1 T a k = k by unfold wst1; rw [if_neg hle])
      clear hrow hb hfk hfj;go_wp2_with fail
      go_roundw
      case rel => exact ⟨_, f', HRr.out, HBr.out, HFk.out, HFj.out, .inr (.inl ⟨rfl, HX.out.symm⟩)⟩
      case measure => simp [intOf]
    ·by_cases hle : b ≤ (k : Int)
     ·obtain ⟨d, hd⟩ : ∃ d : Nat, (k : Int) - b = d := ⟨((k : Int) - b).toNat, by omega⟩
      have hdk : d < k := by omega
      have hdI : (d : Int) < (N : Int) := by omega
      have hd0 : (0 : Int) ≤ (d : Int) := by omega
      have hwd : IntKind.i64.wrap ((k : Int) - b) = (d : Int) := by rw [hd]; exact IntWalk.i64_in _ (by omega)
      have hgd : wr.cell? ⟨w.heap.size, d, none⟩ = some (.int .i64 (T.getD d 0)) := by rw [hrow.cell (i := d) (by omega), hfj d hdk]
      obtain ⟨y, hy⟩ : ∃ y, T.getD d 0 = y := ⟨_, rfl⟩;rw [hy] at hgd;obtain ⟨x1, hx1⟩ : ∃ x1, wst1 T a k = x1 := ⟨_, rfl⟩;have HX := hide (show wst2 T a b k = min x1 y by
       unfold wst2;rw [if_pos hle, hd, hx1];simp [← hy])
      rw [hx1] at hgk;clear hx1;clear hrow hb hfk hfj hy hd;go_wp2_with fail
      go_still_tail 14, (by kernel_rfl)
      change wpList _ _ _ _ _ wr.drew;go_wp2_with fail
      go_roundw
      case rel => exact ⟨wst2 T a b k, _, (HRr.out.drew).set k _, (HBr.out.drew).setCell nl _, by rw [HX.out]; simp, fun j hj => by rw [if_neg (by omega)]; exact HFj.out j hj, .inr (.inr ⟨rfl, rfl⟩)⟩
      case measure => simp [intOf]
     ·have HX := hide (show wst2 T a b k = wst1 T a k by unfold wst2; rw [if_neg hle])
      clear hrow hb hfk hfj;go_wp2_with fail
      go_roundw
      case rel => exact ⟨_, f', HRr.out, HBr.out, HFk.out, HFj.out, .inr (.inr ⟨rfl, HX.out.symm⟩)⟩
      case measure => simp [intOf]
    ·clear hrow hb hfk hfj
     go_wp2_with fail
     go_roundw
     case rel =>
      refine ⟨k + 1, by omega, by go_num, HBr.out, f', HRr.out, fun j hj => ?_⟩;by_cases e : j = k
      ·subst e
       rw [HFk.out, HE.out j (by omega)]
      ·exact HFj.out j (by omega)
     case measure => simp [intOf]; omega
  ·obtain rfl : k = N := by omega
   have hkk : ¬ (k : Int) < (k : Int) := by omega
   clear hb hrow;go_wp2_with fail
   go_ret;refine ⟨_, rfl, ?_, HB.out⟩;have := own_of_row (n := k) (sz := 1) (cs := aC T) (f := f) (by simpa using HR.out) nl (by omega) (by rw [jG, hTn, Nat.mul_one]) (fun i hi => by
    have hi2 : i < T.length := by omega
    rw [HA.out i (by omega)];simp [aC, hi2])
   rw [hTn];exact this
def iR (L : Nat) (a b : Int) : List Int := [(dx L a b : Int), (bA L a b : Int)]
theorem many_60 {L : Nat} {a b : Int} (h : dB a b = true) (hL : L ≤ 60) : dx L a b ≤ 60 ∧ bA L a b ≤ 60 := by
 obtain ⟨h1, h2⟩ := many_bd h (show (0 : Int) ≤ L by omega);omega
def fu (w : World) (G : Nat) (c0 c1 : Nat) : Prop := ∃ f, w.rowIs G 3 2 f ∧ f 0 = .int .i64 (c0 : Int) ∧ f 1 = .int .i64 (c1 : Int)
theorem fu.cell {w : World} {G c0 c1 : Nat} (h : fu w G c0 c1) : w.cell? ⟨G, 0, none⟩ = some (.int .i64 (c0 : Int)) ∧ w.cell? ⟨G, 1, none⟩ = some (.int .i64 (c1 : Int)) ∧ w.frozen? ⟨G, 0, none⟩ = false ∧ w.frozen? ⟨G, 1, none⟩ = false ∧ G < w.heap.size := by
 obtain ⟨f, h, e0, e1⟩ := h;refine ⟨?_, ?_, h.frozen 0, h.frozen 1, h.lt⟩
 ·rw [h.cell (i := 0) (by omega), e0]
 ·rw [h.cell (i := 1) (by omega), e1]
theorem fu.set0 {w : World} {G c0 c1 : Nat} (h : fu w G c0 c1) (y : Nat) : fu (w.setCell ⟨G, 0, none⟩ (.int .i64 (y : Int))) G y c1 := by
 obtain ⟨f, h, e0, e1⟩ := h;exact ⟨_, h.set 0 _, by simp, by simpa using e1⟩
theorem fu.set1 {w : World} {G c0 c1 : Nat} (h : fu w G c0 c1) (y : Nat) : fu (w.setCell ⟨G, 1, none⟩ (.int .i64 (y : Int))) G c0 y := by
 obtain ⟨f, h, e0, e1⟩ := h;exact ⟨_, h.set 1 _, by simpa using e0, by simp⟩
theorem fu.own {w : World} {base G c0 c1 : Nat} (h : fu w G c0 c1) (hb : base ≤ G) : w.ownsRow base 3 1 (.slice (some ⟨G, 0, none⟩) 2 2) 2 (aC [(c0 : Int), (c1 : Int)]) := by
 obtain ⟨f, h, e0, e1⟩ := h;refine own_of_row (n := 2) (sz := 1) h hb (by omega) rfl fun i hi => ?_;have : i = 0 ∨ i = 1 := by omega
 rcases this with rfl | rfl
 ·rw [e0]; rfl
 ·rw [e1]; rfl
theorem fu.drewN {w : World} {G c0 c1 : Nat} (h : fu w G c0 c1) (n : Nat) : fu (w.drewN n) G c0 c1 := h
theorem cutBest_impl (v : Value) (a b : Int) (lo hi L : Nat) (hL : L ≤ 60) (hv : dB a b = true) (w : World) (H : au lo hi w v [a, b]) :
 Calls Tryz.prog 111 #[.int .i64 (L : Int), v] w (fA w.heap.size (iR L a b) w) := by
 have HH := hide H;have HV := hide hv;have hlt := H.lt;obtain ⟨⟨ha1, ha2⟩, hb1, hb2⟩ := di.1 hv;obtain ⟨hn0, hn1⟩ := many_60 hv hL;obtain ⟨b0, o0, cap, rfl, h1, h2, -, -⟩ := bK H;have hmk : ∀ W : World, (Instr.makeSlice 27 (.int .i64 2) (.int .i64 2)).run Tryz.prog W = .ok (.slice (some ⟨W.heap.size, 0, none⟩) 2 2) (W.alloc (.cells (madeCells #[.int .i64 0] 2) 3)) := fun W =>
  gN (P := Tryz.prog) 27 3 _ _ _ Tryz.underlying27 bF .i64 .i64 2 (by omega) (by omega) W
 have hs1 : eH (tab a b (L + 1)) L b (bA L a b) 0 L := eH.start;have hnx : ∀ l : Int, eH (tab a b (L + 1)) L b (bA L a b) (bA L a b) l → l = L - bA L a b * b → eH (tab a b (L + 1)) L a (dx L a b) 0 l := fun l => eH.next;have HW := hide (fun W => aU (L : Int) 0 60 W);have hw : wi (L : Int) 0 60 = true := aN.2 (by omega);rw [hw] at HW;have HT := hide (fun (W : World) (k : Below w.heap.size w W) => wastes_impl (.slice (some ⟨b0, o0, none⟩) 2 cap) a b lo hi L hL hv W (H.below k));have HLN := hide (fun (W : World) (k : Below w.heap.size w W) => lens_impl (.slice (some ⟨b0, o0, none⟩) 2 cap) a b lo hi W (H.below k));clear H hv hw;go_enter Tryz.func111, Tryz.ntmps111;go_wp2_with fail
 refine (HW.out _).mono ?_;rintro e w1 ⟨rfl, rfl⟩;go_wp2_with fail
 refine (HLN.out w (Below.refl _ _)).mono ?_;rintro e w1 ⟨rfl, rfl⟩;rw [HV.out];go_wp2_with fail
 refine (HT.out w (Below.refl _ _)).mono ?_;rintro e w2 ⟨v1, rfl, hown, hb2⟩;have hz2 := hb2.size;have HB2 := hide hb2;have h12 := bH hown rfl (by omega);obtain ⟨T, hT⟩ : ∃ T, tab a b (L + 1) = T := ⟨_, rfl⟩;have HTL := hide (show T.length = L + 1 by rw [← hT, eQ]);rw [hT] at h12 hs1 hnx;have HS1 := hide hs1;have HNX := hide hnx;have HI := hide h12;obtain ⟨ao1, cap1, rfl, -⟩ := h12;clear hown hb2 hT hs1 hnx;go_wp2_with fail
 clear hmk;obtain ⟨G, hG⟩ : ∃ G, w2.heap.size = G := ⟨_, rfl⟩;obtain ⟨wa, hwa⟩ : ∃ wa, wa = w2.alloc (.cells (madeCells #[.int .i64 0] 2) 3) := ⟨_, rfl⟩;have HR := hide (show fu wa G 0 0 by
  rw [← hG, hwa];exact ⟨_, World.rowIs_made w2 (.int .i64 0) 2 3, rfl, rfl⟩)
 have HB := hide (show Below w2.heap.size w2 wa by rw [hwa]; exact (Below.refl _ _).alloc nl _);rw [← hwa, hG];have HGZ := hide hG;have hbG : b0 ≠ G := by omega
 have hGb : G ≠ b0 := by omega
 clear hwa hG
 go_loopw [7, 8] (fun left i wr => Below w2.heap.size w2 wr ∧ ((i = .int .i64 1 ∧ left = .int .i64 (L : Int) ∧ fu wr G 0 0) ∨ (∃ l : Int, i = .int .i64 0 ∧ left = .int .i64 l ∧ eH T L a (dx L a b) 0 l ∧ fu wr G 0 (bA L a b)) ∨ (i = .int .i64 (-1) ∧ fu wr G (dx L a b) (bA L a b)))) (fun _ i _ => (intOf i + 1).toNat)
 case atStart => exact ⟨HB.out, .inl ⟨rfl, rfl, HR.out⟩⟩
 case round =>
  obtain ⟨hb, hcase⟩ := hrel;clear HB HR;have HB := hide hb;obtain ⟨wo, rfl⟩ : ∃ wo : World, wo = wr := ⟨_, rfl⟩;rcases hcase with ⟨rfl, rfl, hr⟩ | ⟨l, rfl, rfl, hst, hr⟩ | ⟨rfl, hr⟩
  ·have HR := hide hr
   clear hr hb;go_wp2_with fail
   go_loopw [7] (fun left wr => ∃ (c : Nat) (l : Int), left = .int .i64 l ∧ Below w2.heap.size w2 wr ∧ eH T L b (bA L a b) c l ∧ fu wr G 0 c ∧ l = L - c * b) (fun left _ => (intOf left).toNat)
   case atStart => exact ⟨0, _, rfl, HB.out, HS1.out, HR.out, by simp⟩
   case round =>
    obtain ⟨c, l, rfl, hb, hst, hrow, hlx⟩ := hrel;have HB := hide hb;have HC := hide hst;have HR := hide hrow;have HLX := hide hlx;obtain ⟨b1, o1, cap1, e1, -, -, c0, c1⟩ := bK (HH.out.below (HB2.out.trans (hb.mono hz2)));cases e1;obtain ⟨g0, g1, f0, f1, hGz⟩ := hrow.cell;have hl0 := hst.pos;have hl1 := hst.le;have HAT := hide (HI.out.below hb);clear hb hst hrow hlx;by_cases hle : b ≤ l
    ·obtain ⟨d, hd⟩ : ∃ d : Nat, l - b = d := ⟨(l - b).toNat, by omega⟩
     have hwd : IntKind.i64.wrap (l - b) = (d : Int) := by rw [hd]; exact IntWalk.i64_in _ (by omega)
     have hTl := HTL.out;have hdT : (d : Int) < (T.length : Int) := by omega
     have hd0 : (0 : Int) ≤ (d : Int) := by omega
     have hLT : (L : Int) < (T.length : Int) := by omega
     have hL0 : (0 : Int) ≤ (L : Int) := by omega
     obtain ⟨b3, o3, cap3, e3, -, -, gL, -⟩ := ints_at HAT.out (k := L) (by omega);cases e3;obtain ⟨b4, o4, cap4, e4, -, -, gd, -⟩ := ints_at HAT.out (k := d) (by omega);cases e4;obtain ⟨y, hy⟩ : ∃ y, T.getD d 0 = y := ⟨_, rfl⟩;obtain ⟨z, hz⟩ : ∃ z, T.getD L 0 = z := ⟨_, rfl⟩;rw [hy] at gd;rw [hz] at gL;have HM := hide (show eU T b l = (y == z) by
      unfold eU;rw [HC.out.same, hd, hz, show ((d : Int)).toNat = d by omega, hy];simp [hle])
     have HD := hide hd;clear hy hz hd hTl;by_cases hyz : y = z
     ·subst hyz
      have HM2 := HC.out.more (by omega) (HM.out.trans (by simp));rw [HD.out] at HM2;obtain ⟨hst2, -, hcn⟩ := HM2;have hw1 : IntKind.i64.wrap ((c : Int) + 1) = ((c + 1 : Nat) : Int) := by rw [show (c : Int) + 1 = ((c + 1 : Nat) : Int) by omega]; exact IntWalk.i64_in _ (by omega)
      have HST := hide hst2;clear hst2 HM HC;go_wp2_with fail
      go_quiet (fail)
      go_wp2_with fail
      go_roundw
      case rel => exact ⟨c + 1, d, rfl, (below_drewN HB.out _).setCell (by have := HGZ.out; show w2.heap.size ≤ G; omega) _, HST.out, by simpa using fu.drewN HR.out _ |>.set1 (c + 1), by have h1 := HLX.out; have h2 := HD.out; rw [Int.natCast_add, Int.add_mul]; omega⟩
      case measure => have hD := HD.out; simp [intOf]; omega
     ·obtain rfl := HC.out.done (HM.out.trans (by simpa using hyz))
      have hyzb : (y == z) = false := by simpa using hyz
      clear HM;go_wp2_with fail
      go_quiet (fail)
      go_wp2_with fail
      go_roundw
      case rel => exact ⟨below_drewN HB.out _, .inr (.inl ⟨l, rfl, rfl, HNX.out l HC.out HLX.out, fu.drewN HR.out _⟩)⟩
      case measure => simp [intOf]
    ·obtain rfl := HC.out.done (show eU T b l = false by unfold eU; simp [hle])
     have hleb : decide (b ≤ l) = false := by simpa using hle
     go_wp2_with fail
     go_quiet (fail)
     go_wp2_with fail
     go_roundw
     case rel => exact ⟨below_drewN HB.out _, .inr (.inl ⟨l, rfl, rfl, HNX.out l HC.out HLX.out, fu.drewN HR.out _⟩)⟩
     case measure => simp [intOf]
  ·have HR := hide hr
   have HS0 := hide hst;clear hr hst hb;go_wp2_with fail
   go_loopw [7] (fun left wr => ∃ (c : Nat) (l : Int), left = .int .i64 l ∧ Below w2.heap.size w2 wr ∧ eH T L a (dx L a b) c l ∧ fu wr G c (bA L a b) ∧ True) (fun left _ => (intOf left).toNat)
   case atStart => exact ⟨0, _, rfl, HB.out, HS0.out, HR.out, trivial⟩
   case round =>
    obtain ⟨c, l, rfl, hb, hst, hrow, hlx⟩ := hrel;have HB := hide hb;have HC := hide hst;have HR := hide hrow;obtain ⟨b1, o1, cap1, e1, -, -, c0, c1⟩ := bK (HH.out.below (HB2.out.trans (hb.mono hz2)));cases e1;obtain ⟨g0, g1, f0, f1, hGz⟩ := hrow.cell;have hl0 := hst.pos;have hl1 := hst.le;have HAT := hide (HI.out.below hb);clear hb hst hrow hlx;by_cases hle : a ≤ l
    ·obtain ⟨d, hd⟩ : ∃ d : Nat, l - a = d := ⟨(l - a).toNat, by omega⟩
     have hwd : IntKind.i64.wrap (l - a) = (d : Int) := by rw [hd]; exact IntWalk.i64_in _ (by omega)
     have hTl := HTL.out;have hdT : (d : Int) < (T.length : Int) := by omega
     have hd0 : (0 : Int) ≤ (d : Int) := by omega
     have hLT : (L : Int) < (T.length : Int) := by omega
     have hL0 : (0 : Int) ≤ (L : Int) := by omega
     obtain ⟨b3, o3, cap3, e3, -, -, gL, -⟩ := ints_at HAT.out (k := L) (by omega);cases e3;obtain ⟨b4, o4, cap4, e4, -, -, gd, -⟩ := ints_at HAT.out (k := d) (by omega);cases e4;obtain ⟨y, hy⟩ : ∃ y, T.getD d 0 = y := ⟨_, rfl⟩;obtain ⟨z, hz⟩ : ∃ z, T.getD L 0 = z := ⟨_, rfl⟩;rw [hy] at gd;rw [hz] at gL;have HM := hide (show eU T a l = (y == z) by
      unfold eU;rw [HC.out.same, hd, hz, show ((d : Int)).toNat = d by omega, hy];simp [hle])
     have HD := hide hd;clear hy hz hd hTl;by_cases hyz : y = z
     ·subst hyz
      have HM2 := HC.out.more (by omega) (HM.out.trans (by simp));rw [HD.out] at HM2;obtain ⟨hst2, -, hcn⟩ := HM2;have hw1 : IntKind.i64.wrap ((c : Int) + 1) = ((c + 1 : Nat) : Int) := by rw [show (c : Int) + 1 = ((c + 1 : Nat) : Int) by omega]; exact IntWalk.i64_in _ (by omega)
      have HST := hide hst2;clear hst2 HM HC;go_wp2_with fail
      go_quiet (fail)
      go_wp2_with fail
      go_roundw
      case rel => exact ⟨c + 1, d, rfl, (below_drewN HB.out _).setCell (by have := HGZ.out; show w2.heap.size ≤ G; omega) _, HST.out, by simpa using fu.drewN HR.out _ |>.set0 (c + 1), trivial⟩
      case measure => have hD := HD.out; simp [intOf]; omega
     ·obtain rfl := HC.out.done (HM.out.trans (by simpa using hyz))
      have hyzb : (y == z) = false := by simpa using hyz
      clear HM;go_wp2_with fail
      go_quiet (fail)
      go_wp2_with fail
      go_roundw
      case rel => exact ⟨below_drewN HB.out _, .inr (.inr ⟨rfl, fu.drewN HR.out _⟩)⟩
      case measure => simp [intOf]
    ·obtain rfl := HC.out.done (show eU T a l = false by unfold eU; simp [hle])
     have hleb : decide (a ≤ l) = false := by simpa using hle
     go_wp2_with fail
     go_quiet (fail)
     go_wp2_with fail
     go_roundw
     case rel => exact ⟨below_drewN HB.out _, .inr (.inr ⟨rfl, fu.drewN HR.out _⟩)⟩
     case measure => simp [intOf]
  ·have HR := hide hr
   clear hr hb;go_wp2_with fail
   go_ret;exact ⟨_, rfl, (HR.out.own (base := w.heap.size) (by have := HGZ.out; omega)), HB2.out.trans (HB.out.mono hz2)⟩
end Go.Proofs.YtkhecelpafojdaaGreatDoor
