/-
  Parts of the proofs over mills, of: MethA, MethB, MillC, CutL, MethC, CutN. Conditions: each theorem states its own.
-/
import Derived.Sort.OwnSortedInts
import Derived.Test.YtmemgbklgcjobaaGreatDoorY12
import Derived.Test.YtmemgbklgcjobaaGreatDoorY13
set_option linter.unusedSimpArgs false
set_option linter.unusedVariables false
set_option maxRecDepth 10000
set_option maxHeartbeats 64000000
namespace Go.Proofs.YtmemgbklgcjobaaGreatDoor
open Go.RowKit
def SpecGot (base : Nat) (p : Value) (x : Mi × Bool) (w : World) (e : Ending) (w' : World) : Prop :=
 DoGot base x w e w' ∧ ∀ B T vs, RowL w B T vs → p.ownBlock ≠ some B → RowL w' B T vs
def orOld (m : Mi) (o : Option Mi) : Mi × Bool := match o with | none => (m, false) | some x => (x, true)
theorem melt_no1 {m : Mi} {t : Int} (h : m.strand ≠ 0) : meltD m t = none := by simp [meltD, h]
theorem melt_no2 {m : Mi} {t : Int} (h : mixBest m.store m.rule t = none) : meltD m t = none := by simp [meltD, h]
theorem melt_yes {m : Mi} {t : Int} {mix : List Int} (h1 : m.strand = 0) (h2 : mixBest m.store m.rule t = some mix) : meltD m t = some { m with store := takeM m.store mix, strand := 4 * t } := by simp [meltD, h1, h2]
def BoxGot (base : Nat) (w : World) (q : List Int × List Int) (bx : Value) : Prop := ∃ G l h, bx = .pointer (some ⟨G, 0, none⟩) ∧ base ≤ G ∧ RowL w G 29 [l, h] ∧ PileOwn base w l h q.1 q.2
theorem box_new {base b : Nat} {w : World} {l h : Value} {q : List Int × List Int} (own : PileOwn b w l h q.1 q.2) (hb : base ≤ b) (hz : base ≤ w.heap.size) :
 BoxGot base (w.alloc (.cells #[l, h] 29)) q (.pointer (some ⟨w.heap.size, 0, none⟩)) :=
 ⟨_, _, _, rfl, hz, RowL.new _ _ _, (own.below ((Below.refl _ _).alloc nl _) nl).mono hb⟩
theorem box_old {base b G : Nat} {w : World} {x y l h : Value} {q : List Int × List Int} (r : RowL w G 29 [x, y]) (own : PileOwn b w l h q.1 q.2) (hG : base ≤ G) (hb : G < b) :
 BoxGot base ((w.setCell ⟨G, 0, none⟩ l).setCell ⟨G, 1, none⟩ h) q (.pointer (some ⟨G, 0, none⟩)) := by
 have k : Other G (G + 1) w ((w.setCell ⟨G, 0, none⟩ l).setCell ⟨G, 1, none⟩ h) :=
  ((Other.refl _ _ _).setCell (p := ⟨G, 0, none⟩) nl (Nat.lt_succ_self _) _).setCell (p := ⟨G, 1, none⟩) nl (Nat.lt_succ_self _) _
 exact ⟨_, _, _, rfl, hG, (r.set 0 l (by simp)).set 1 h (by simp), (own.other k (by omega)).mono (by omega)⟩
theorem liftD_no1 {m : Mi} {a b : Int} (h : (decide (0 ≤ a) && decide (0 ≤ b)) = false) : liftD m a b = none := by simp [liftD, h]
theorem liftD_no2 {m : Mi} {a b : Int} (h : (liftR m.low m.high (spotTop a) (spotPlace a) (spotTop b) (spotPlace b)).2 = false) : liftD m a b = none := by simp [liftD, h]
theorem liftD_yes {m : Mi} {a b : Int} {q : List Int × List Int} (h1 : 0 ≤ a) (h2 : 0 ≤ b) (h : liftR m.low m.high (spotTop a) (spotPlace a) (spotTop b) (spotPlace b) = (q, true)) : liftD m a b = some { m with low := q.1, high := q.2 } := by simp [liftD, h, h1, h2]
theorem equal_any (v v' : Value) (xs ys : List Int) (lo hi lo' hi' : Nat) (w : World) (h : IntsAt lo hi w v xs) (h' : IntsAt lo' hi' w v' ys) :
 Calls Tryz.prog 85 #[v, v'] w fun e w' => e = .returned (.bool (decide (xs = ys))) ∧ Below w.heap.size w w' := by
 have h1 := h.len;have h2 := h'.len;obtain ⟨ao, cap, rfl, -, -, -, hc⟩ := h;obtain ⟨ao', cap', rfl, -, -, -, hc'⟩ := h';by_cases hl : xs.length = ys.length
 ·rcases Nat.eq_zero_or_pos xs.length with h0 | h0
  ·have e1 : xs = [] := List.eq_nil_of_length_eq_zero h0
   have e2 : ys = [] := List.eq_nil_of_length_eq_zero (by omega);subst e1 e2;exact (Tryz.slices_Equal_int_empty ao ao' cap 0 cap' w (by omega)).mono fun e w' ⟨he, hw⟩ => ⟨by rw [List.length_nil] at *; rw [he]; rfl, by rw [hw]; exact Below.refl _ _⟩
  ·obtain ⟨b, o, rfl, -, -, hcs⟩ := hc h0
   obtain ⟨b', o', rfl, -, -, hcs'⟩ := hc' (by omega);refine (Tryz.slices_Equal_int b o xs.length cap b' o' ys.length cap' xs ys w nl nl h1 h2 (fun j hj => by rw [(hcs j hj).1, getD_eq hj]) (fun j hj => by rw [(hcs' j hj).1, getD_eq hj])).mono ?_;rintro e w' ⟨he, q, hw⟩;refine ⟨?_, by rw [hw]; exact below_drewN (Below.refl _ _) _⟩;rw [he, List.take_of_length_le nl, List.take_of_length_le nl];congr 2;rw [Bool.eq_iff_iff]; simp
 ·exact (Tryz.slices_Equal_int_lens ao ao' xs.length cap ys.length cap' w hl).mono fun e w' ⟨he, hw⟩ => ⟨by rw [he]; have : xs ≠ ys := fun e => hl (by rw [e]); simp [this], by rw [hw]; exact Below.refl _ _⟩
theorem idsIn_any (p : Value) (ps : List Pc) (st : Int) (lo hi : Nat) (w : World) (H : PcAt lo hi w p ps) (hl : ps.length ≤ 1000000) :
 Calls Tryz.prog 86 #[p, .int .i64 st] w (IntsNew w.heap.size (idsIn ps st) w) := by
 obtain ⟨ao, cap, rfl, hlc, hcap, hhi, hc⟩ := H;have HC := hide hc;obtain ⟨i0, hi0, hz0, hi1, hi2⟩ := info_parts info_int;clear hc;go_enter Tryz.func86, Tryz.ntmps86;go_wp2_with fail
 go_loopw [5, 6, 7, 10] (fun o _ _ i wr => ∃ k : Nat, k ≤ ps.length ∧ i = .int .i64 k ∧ Below w.heap.size w wr ∧ wr.ownsRow w.heap.size 3 1 o (idsTo ps st k).length (flatI (idsTo ps st k))) (fun _ _ _ i _ => ps.length - (intOf i).toNat)
 case atStart => exact ⟨0, Nat.zero_le _, rfl, Below.refl _ _, World.ownsRow_nil _ _ _ _⟩
 case round =>
  obtain ⟨k, hk, rfl, hb, hown⟩ := hrel;have HB := hide hb;have HO := hide hown;have hnl := idsTo_len ps st k;have hszr := hb.size;obtain ⟨aow, capw, rfl, -, -⟩ := own_slice hown;clear hown;by_cases hlt : k < ps.length
  ·obtain ⟨b, o, rfl, hx1, hx2, hcs⟩ := HC.out (by omega)
   obtain ⟨⟨r1, r2⟩, -⟩ := hcs k hlt;rw [← hb.cell (p := ⟨b, _, none⟩) (by simpa using by omega)] at r1 r2;have hg : ps.getD k pc0 = ps[k] := by simp [hlt]
   have hN : idsTo ps st (k + 1) = if ps[k].s == st then idsTo ps st k ++ [(k : Int) + 1] else idsTo ps st k := by rw [idsTo, hg]
   have HN := hide hN;obtain ⟨x, hx⟩ : ∃ x, ps[k].s = x := ⟨_, rfl⟩;obtain ⟨y, hy⟩ : ∃ y, ps[k].l = y := ⟨_, rfl⟩;rw [hx] at r2 HN;rw [hy] at r1;have hkI : (k : Int) < (ps.length : Int) := by omega
   clear hcs hx hy hb hg hN;cases hq : (x == st) with
   | false =>
    have HN2 := hide (show idsTo ps st (k + 1) = idsTo ps st k by rw [HN.out, hq]; rfl);go_wp2_with fail
    go_roundw
    case rel => exact ⟨k + 1, by omega, by go_num, HB.out.alloc hszr _, by rw [HN2.out]; exact HO.out.alloc _⟩
    case measure => simp [intOf]; omega
   | true =>
    have HN2 := hide (show idsTo ps st (k + 1) = idsTo ps st k ++ [(k : Int) + 1] by rw [HN.out, hq]; rfl);go_wp2_with (at_builtin; refine wpList_append_view rfl _ _ 27 rfl w.heap.size 3 i0 (.int .i64 0) 1 8 Tryz.underlying27 hi0 hz0 hi1 hi2 rfl (by decide) _ _ _ rfl ((HO.out.alloc _).alloc _) (.slice (some ⟨wr.heap.size + 1, 0, none⟩) 1 1) 1 [.int .i64 ((k : Int) + 1)] rfl ?c0 ?c1 ?c2 ?c3 ?_)
    case c0 => simpa using Source.lit (World.alloc wr _) [.int .i64 ((k : Int) + 1)] 1 3 1 rfl (fun u hu => by simp at hu; subst hu; rfl) 1
    case c1 => unfold maxLen; omega
    case c2 => omega
    case c3 => simp; omega
    intro v2 w3 hown2 hgrow2 _;have hB3 := ((HB.out.alloc hszr (.cells #[.int .i64 y, .int .i64 x] 73)).alloc (by simp; omega) (.cells #[.int .i64 ((k : Int) + 1)] 3)).trans (Below.grow hgrow2 ((HO.out.alloc _).alloc _) nl (by simp; omega));have HB3 := hide hB3;have HO3 := hide (show w3.ownsRow w.heap.size 3 1 v2 (idsTo ps st (k + 1)).length (flatI (idsTo ps st (k + 1))) by rw [HN2.out]; simpa [flatI] using hown2);clear hown2 hgrow2 hB3;go_wp2_with fail
    go_roundw
    case rel => exact ⟨k + 1, by omega, by go_num, HB3.out, HO3.out⟩
    case measure => simp [intOf]; omega
  ·obtain rfl : k = ps.length := by omega
   go_wp2_with fail
   go_ret;exact ⟨_, rfl, HO.out, HB.out⟩
theorem lens_spec (v : Value) (a b : Int) (lo hi : Nat) (w : World) (H : IntsAt lo hi w v [a, b]) :
 Calls Tryz.prog 209 #[v] w fun e w' => e = .returned (.bool (lensB a b)) ∧ Below w.heap.size w w' := by
 have HH := hide H;obtain ⟨b0, o0, cap, rfl, -, -, -, -⟩ := two_at H;clear H;go_enter Tryz.func209, Tryz.ntmps209;go_wp2_with fail
 go_loopw [3] (fun i wr => Below w.heap.size w wr ∧ ((i = .int .i64 0) ∨ (i = .int .i64 1 ∧ wi a 1 60 = true) ∨ (i = .int .i64 2 ∧ lensB a b = true))) (fun i _ => 2 - (intOf i).toNat)
 case atStart => exact ⟨Below.refl _ _, .inl rfl⟩
 case round =>
  obtain ⟨hb, hcase⟩ := hrel;have HB := hide hb;obtain ⟨b1, o1, cap1, e1, -, -, c0, c1⟩ := two_at (HH.out.below hb);cases e1;clear hb;rcases hcase with rfl | ⟨rfl, h⟩ | ⟨rfl, h⟩
  ·cases h : wi a 1 60 with
   | false =>
    have HF := hide (show lensB a b = false by simp [lensB, h]);have hq := fun W => l1In_any a 1 60 W;rw [h] at hq;have HQ := hide hq;have HA := hide h;clear h hq;go_wp2_with fail
    go_quiet ((go_at_call 68; exact quiet_left (HQ.out _)))
    go_wp2_with fail
    go_ret;exact ⟨by rw [HF.out]; rfl, below_drewN HB.out _⟩
   | true =>
    have hq := fun W => l1In_any a 1 60 W;rw [h] at hq;have HQ := hide hq;have HA := hide h;clear h hq;go_wp2_with fail
    go_quiet ((go_at_call 68; exact quiet_left (HQ.out _)))
    go_wp2_with fail
    go_roundw
    case rel => exact ⟨below_drewN HB.out _, .inr (.inl ⟨rfl, by first | trivial | exact HA.out⟩)⟩
    case measure => simp [intOf]
  ·have ha := wi_iff.1 h
   cases h1 : wi b 1 60 with
   | false =>
    have HF := hide (show lensB a b = false by
     rw [← Bool.not_eq_true, lensB_iff];intro hh;have : wi b 1 60 = true := wi_iff.2 (by omega);rw [this] at h1; cases h1)
    have hq := fun W => l1In_any b 1 60 W;rw [h1] at hq;have HQ := hide hq;clear h h1 hq;go_wp2_with fail
    go_quiet ((go_at_call 68; exact quiet_left (HQ.out _)))
    go_wp2_with fail
    go_ret;exact ⟨by rw [HF.out]; rfl, below_drewN HB.out _⟩
   | true =>
    have hb1 := wi_iff.1 h1;by_cases hab : b ≤ a
    ·have HF := hide (show lensB a b = false by
      rw [← Bool.not_eq_true, lensB_iff];omega)
     have hq := fun W => l1In_any b 1 60 W;rw [h1] at hq;have HQ := hide hq;have habd : decide (b ≤ a) = true := by simpa using hab
     clear h h1 hq;go_wp2_with fail
     go_quiet ((go_at_call 68; exact quiet_left (HQ.out _)))
     go_wp2_with fail
     go_ret;exact ⟨by rw [HF.out]; rfl, below_drewN HB.out _⟩
    ·have HF := hide (show lensB a b = true from lensB_iff.2 (by omega))
     have hq := fun W => l1In_any b 1 60 W;rw [h1] at hq;have HQ := hide hq;have habd : decide (b ≤ a) = false := by simpa using hab
     clear h h1 hq;go_wp2_with fail
     go_quiet ((go_at_call 68; exact quiet_left (HQ.out _)))
     go_wp2_with fail
     go_roundw
     case rel => exact ⟨below_drewN HB.out _, .inr (.inr ⟨rfl, HF.out⟩)⟩
     case measure => simp [intOf]
  ·go_wp2_with fail
   refine (l1In_any 2 1 4 wr).mono ?_;rintro e w1 ⟨rfl, rfl⟩;have hw : wi 2 1 4 = true := by decide
   rw [hw];go_wp2_with fail
   go_ret;exact ⟨by rw [h]; rfl, HB.out⟩
theorem table_spec (v : Value) (a b : Int) (lo hi L : Nat) (hL : L ≤ 60) (hv : lensB a b = true) (w : World) (H : IntsAt lo hi w v [a, b]) :
 Calls Tryz.prog 208 #[.int .i64 (L : Int), v] w (IntsNew w.heap.size (tab a b (L + 1)) w) := by
 have HH := hide H;have hlt := H.lt;obtain ⟨⟨ha1, ha2⟩, hb1, hb2⟩ := lensB_iff.1 hv;have HV := hide hv;obtain ⟨b0, o0, cap, rfl, h1, h2, -, -⟩ := two_at H;obtain ⟨j0, hj0, hy0, hj1, hj2⟩ := info_parts info_int;clear H hv;go_enter Tryz.func208, Tryz.ntmps208;go_wp2_with fail
 go_loopw [5, 6, 7, 8] (fun o i _ _ wr => ∃ k : Nat, k ≤ L + 1 ∧ i = .int .i64 (k : Int) ∧ Below w.heap.size w wr ∧ wr.ownsRow w.heap.size 3 1 o k (flatI (tab a b k))) (fun _ i _ _ _ => L + 1 - (intOf i).toNat)
 case atStart =>
  exact ⟨0, Nat.zero_le _, rfl, by go_grown, by simpa [tab, flatI] using World.ownsRow_lit (e := 3) (size := 1) (base := w.heap.size) w #[] 0 nl (by unfold maxLen; omega) (by simp)⟩
 case round =>
  obtain ⟨k, hk, rfl, hb, hown⟩ := hrel;have hzr := hb.size;obtain ⟨aov, capv, rfl, -, -⟩ := own_slice hown;have hat := ownI_at hown (tab_len a b k).symm hzr;have HB := hide hb;have HO := hide hown;clear hown;by_cases hltk : k < L + 1
  ·have hkI : (k : Int) ≤ (L : Int) := by omega
   have hk0 : (0 : Int) ≤ (k : Int) := by omega
   have HAT := hide hat;have HC := hide (two_at (HH.out.below hb));clear hb hat;obtain ⟨wo, hwo⟩ : ∃ wo : World, wo = wr := ⟨_, rfl⟩;subst hwo;go_wp2_with fail
   go_loop [7, 8] (fun x i => ∃ y : Int, x = .int .i64 y ∧ ((i = .int .i64 0 ∧ y = k) ∨ (i = .int .i64 1 ∧ y = wst1 (tab a b k) a k) ∨ (i = .int .i64 2 ∧ y = wst2 (tab a b k) a b k))) (fun _ i => 2 - (intOf i).toNat)
   case atStart => exact ⟨k, rfl, .inl ⟨rfl, rfl⟩⟩
   case round =>
    obtain ⟨y, rfl, hcase⟩ := hrel;obtain ⟨b1, o1, cap1, e1, -, -, c0, c1⟩ := HC.out;cases e1;rcases hcase with ⟨rfl, rfl⟩ | ⟨rfl, rfl⟩ | ⟨rfl, rfl⟩
    ·by_cases hle : a ≤ (k : Int)
     ·obtain ⟨d, hd⟩ : ∃ d : Nat, (k : Int) - a = d := ⟨((k : Int) - a).toNat, by omega⟩
      have hdk : d < k := by omega
      have hdI : (d : Int) < (k : Int) := by omega
      have hd0 : (0 : Int) ≤ (d : Int) := by omega
      have hwd : IntKind.i64.wrap ((k : Int) - a) = (d : Int) := by rw [hd]; exact IntWalk.i64_in _ (by omega)
      obtain ⟨b2, o2, cap2, e2, -, -, gd, -⟩ := ints_at HAT.out (k := d) (by rw [tab_len]; exact hdk);rw [tab_len] at e2;cases e2;obtain ⟨z, hz⟩ : ∃ z, (tab a b k).getD d 0 = z := ⟨_, rfl⟩;rw [hz] at gd;have HX := hide (show wst1 (tab a b k) a k = min (k : Int) z by
       unfold wst1;rw [if_pos hle, hd];simp [← hz])
      clear hz hd;go_wp2_with fail
      go_round
      case rel => exact ⟨_, by rw [HX.out], .inr (.inl ⟨rfl, rfl⟩)⟩
      case measure => simp [intOf]
     ·have HX := hide (show wst1 (tab a b k) a k = k by unfold wst1; rw [if_neg hle])
      go_wp2_with fail
      go_round
      case rel => exact ⟨_, rfl, .inr (.inl ⟨rfl, HX.out.symm⟩)⟩
      case measure => simp [intOf]
    ·by_cases hle : b ≤ (k : Int)
     ·obtain ⟨d, hd⟩ : ∃ d : Nat, (k : Int) - b = d := ⟨((k : Int) - b).toNat, by omega⟩
      have hdk : d < k := by omega
      have hdI : (d : Int) < (k : Int) := by omega
      have hd0 : (0 : Int) ≤ (d : Int) := by omega
      have hwd : IntKind.i64.wrap ((k : Int) - b) = (d : Int) := by rw [hd]; exact IntWalk.i64_in _ (by omega)
      obtain ⟨b2, o2, cap2, e2, -, -, gd, -⟩ := ints_at HAT.out (k := d) (by rw [tab_len]; exact hdk);rw [tab_len] at e2;cases e2;obtain ⟨z, hz⟩ : ∃ z, (tab a b k).getD d 0 = z := ⟨_, rfl⟩;obtain ⟨x1, hx1⟩ : ∃ x1, wst1 (tab a b k) a k = x1 := ⟨_, rfl⟩;rw [hz] at gd;have HX := hide (show wst2 (tab a b k) a b k = min x1 z by
       unfold wst2;rw [if_pos hle, hd, hx1];simp [← hz])
      have HX1 := hide hx1;rw [hx1];clear hz hd hx1;go_wp2_with fail
      go_round
      case rel => exact ⟨_, by rw [HX.out], .inr (.inr ⟨rfl, rfl⟩)⟩
      case measure => simp [intOf]
     ·have HX := hide (show wst2 (tab a b k) a b k = wst1 (tab a b k) a k by unfold wst2; rw [if_neg hle])
      go_wp2_with fail
      go_round
      case rel => exact ⟨_, rfl, .inr (.inr ⟨rfl, HX.out.symm⟩)⟩
      case measure => simp [intOf]
    ·obtain ⟨z, hz⟩ : ∃ z, wst2 (tab a b k) a b k = z := ⟨_, rfl⟩
     have HT := hide (show tab a b (k + 1) = tab a b k ++ [z] by rw [← hz]; rfl);rw [hz];clear hz;go_wp2_with (at_builtin; refine wpList_append_view rfl _ _ 27 rfl w.heap.size 3 j0 (.int .i64 0) 1 8 Tryz.underlying27 hj0 hy0 hj1 hj2 rfl (by decide) _ _ _ rfl (HO.out.alloc _) (.slice (some ⟨wo.heap.size, 0, none⟩) 1 1) 1 [.int .i64 z] rfl ?c0 ?c1 ?c2 ?c3 ?_)
     case c0 => simpa using Source.lit wo [.int .i64 z] 1 3 1 rfl (fun u hu => by simp at hu; subst hu; rfl) 1
     case c1 => unfold maxLen; omega
     case c2 => omega
     case c3 => first | omega | (simp; omega)
     intro v2 w2 hown2 hgrow2 _;have hb2 : Below w.heap.size w w2 := (HB.out.alloc hzr _).trans (Below.grow hgrow2 (HO.out.alloc _) nl (by simp; omega));have HB2 := hide hb2;have HO2 := hide (show w2.ownsRow w.heap.size 3 1 v2 (k + 1) (flatI (tab a b (k + 1))) by rw [HT.out]; simpa [flatI] using hown2);clear hown2 hgrow2 hb2;go_wp2_with fail
     go_roundw
     case rel => exact ⟨k + 1, by omega, by go_num, HB2.out, HO2.out⟩
     case measure => simp [intOf]; omega
  ·obtain rfl : k = L + 1 := by omega
   clear hb;have hkk : ¬ ((L + 1 : Nat) : Int) ≤ (L : Int) := by omega
   go_wp2_with fail
   go_ret;exact ⟨_, rfl, by rw [tab_len]; exact HO.out, HB.out⟩
theorem cutLeast_spec (v : Value) (a b : Int) (lo hi L : Nat) (hL : L ≤ 60) (w : World) (H : IntsAt lo hi w v [a, b]) :
 Calls Tryz.prog 207 #[.int .i64 (L : Int), v] w fun e w' => ∃ x : Int, e = .returned (.int .i64 x) ∧ (lensB a b = false → x = -1) ∧ (lensB a b = true → 0 ≤ x) ∧ Below w.heap.size w w' := by
 have HH := hide H;have hl := fun (W : World) (k : Below w.heap.size w W) => lens_spec v a b lo hi W (H.below k);obtain ⟨b0, o0, cap, rfl, -, -, -, -⟩ := two_at H;have hq := fun W => l1In_any (L : Int) 0 60 W;rw [show wi (L : Int) 0 60 = true from wi_iff.2 (by omega)] at hq;cases hv : lensB a b with
 | false =>
  rw [hv] at hl;have HL := hide hl;clear hl hv H hq;go_enter Tryz.func207, Tryz.ntmps207;go_wp2_with fail
  refine (HL.out w (Below.refl _ _)).mono ?_;rintro e w1 ⟨rfl, hb⟩;have HB := hide hb;clear hb;go_wp2_with fail
  go_ret;exact ⟨-1, rfl, fun _ => rfl, (fun h => by cases h), HB.out⟩
 | true =>
  have HTS := hide (fun (W : World) (k : Below w.heap.size w W) => table_spec (.slice (some ⟨b0, o0, none⟩) 2 cap) a b lo hi L hL hv W (H.below k));have HTB := hide (tab_bd (a := a) (b := b) (L + 1) L (Nat.lt_succ_self L));rw [hv] at hl;have HL := hide hl;have HQ := hide hq;clear hl hv H hq;go_enter Tryz.func207, Tryz.ntmps207;go_wp2_with fail
  refine (HL.out w (Below.refl _ _)).mono ?_;rintro e w1 ⟨rfl, hb⟩;have HB := hide hb;clear hb;go_wp2_with fail
  refine (HQ.out w1).mono ?_;rintro e w2 ⟨rfl, rfl⟩;go_wp2_with fail
  refine (HTS.out w1 HB.out).mono ?_;rintro e w3 ⟨v3, rfl, hown, hb⟩;have HB3 := hide (Below.step HB.out hb nl);have hat := ownI_at hown rfl hb.size;obtain ⟨b3, o3, cap3, rfl, -, -, g3, -⟩ := ints_at hat (k := L) (by rw [tab_len]; omega);obtain ⟨x, hx⟩ : ∃ x, (tab a b (L + 1)).getD L 0 = x := ⟨_, rfl⟩;rw [hx] at g3;have HX := hide hx;obtain ⟨n, hn⟩ : ∃ n, (tab a b (L + 1)).length = n := ⟨_, rfl⟩;rw [hn];have hn2 := hn;rw [tab_len] at hn2;have hLn : (L : Int) < (n : Int) := by omega
  have hL0 : (0 : Int) ≤ (L : Int) := by omega
  clear hb hown hat hx hn hn2;go_wp2_with fail
  go_ret;exact ⟨x, rfl, (fun h => by cases h), fun _ => by have := HTB.out.1; rw [HX.out] at this; exact this, HB3.out⟩
theorem Other.alloc {lo hi : Nat} {a w : World} (h : Other lo hi a w) (o : Obj) : Other lo hi a (w.alloc o) :=
 h.trans (Other.of_below ((Below.refl w.heap.size w).alloc nl o))
theorem grown_other {w w' : World} {g : Nat} (h : w.grownBy w' (some g)) : Other g (g + 1) w w' :=
 ⟨h.os, h.tape, h.output, h.size, fun k hk hd => h.block k hk (fun e => by have := Option.some.inj e; omega)⟩
theorem grown_none {w w' : World} {lo hi : Nat} (h : w.grownBy w' none) : Other lo hi w w' :=
 ⟨h.os, h.tape, h.output, h.size, fun k hk _ => h.block k hk (fun e => by cases e)⟩
theorem grown_any {w w' : World} {p : Value} (h : w.grownBy w' p.ownBlock) (X : Nat) : ∃ a z, Other a z w w' ∧ ((z = a + 1 ∧ p.ownBlock = some a) ∨ (a = X ∧ z = X)) := by
 cases hp : p.ownBlock with
 | none => rw [hp] at h; exact ⟨X, X, grown_none h, .inr ⟨rfl, rfl⟩⟩
 | some g => rw [hp] at h; exact ⟨g, g + 1, grown_other h, .inl ⟨rfl, rfl⟩⟩
structure CutInv (base B lo z : Nat) (w0 : World) (s l h : Value) (m : Mi) (v mv : Value) (xs ys : List Int) (W : World) (p : Value) (ps : List Pc) : Prop where
 row : RowL W B 31 (millC s p l h m)
 got : MillGot base W s p l h { m with pieces := ps }
 off : NotIn B s p l h
 bel : Below base w0 W
 len : IntsAt lo z W v xs
 man : IntsAt lo z W mv ys
 apz : ∀ g, p.ownBlock = some g → g < lo ∨ z ≤ g
 hB : base ≤ B ∧ B < lo
theorem CutInv.drew {base B lo z : Nat} {w0 W : World} {s l h v mv p : Value} {m : Mi} {xs ys : List Int} {ps : List Pc} (H : CutInv base B lo z w0 s l h m v mv xs ys W p ps) : CutInv base B lo z w0 s l h m v mv xs ys W.drew p ps :=
 ⟨H.row.drew, H.got.below (Below.refl _ _).drew, H.off, H.bel.drew, H.len.below (Below.refl _ _).drew, H.man.below (Below.refl _ _).drew, H.apz, H.hB⟩
theorem CutInv.alloc {base B lo z : Nat} {w0 W : World} {s l h v mv p : Value} {m : Mi} {xs ys : List Int} {ps : List Pc} (H : CutInv base B lo z w0 s l h m v mv xs ys W p ps) (o : Obj) : CutInv base B lo z w0 s l h m v mv xs ys (W.alloc o) p ps := by
 have k : Below W.heap.size W (W.alloc o) := (Below.refl _ _).alloc nl o;exact ⟨H.row.below k H.row.lt, H.got.below k, H.off, H.bel.trans (k.mono H.got.hb), H.len.below k, H.man.below k, H.apz, H.hB⟩
theorem CutInv.below {base B lo z : Nat} {w0 W W' : World} {s l h v mv p : Value} {m : Mi} {xs ys : List Int} {ps : List Pc} (H : CutInv base B lo z w0 s l h m v mv xs ys W p ps) (k : Below W.heap.size W W') : CutInv base B lo z w0 s l h m v mv xs ys W' p ps :=
 ⟨H.row.below k H.row.lt, H.got.below k, H.off, H.bel.trans (k.mono H.got.hb), H.len.below k, H.man.below k, H.apz, H.hB⟩
theorem CutInv.app {base B lo z : Nat} {w0 W W2 : World} {s l h v mv p p' : Value} {m : Mi} {xs ys : List Int} {ps : List Pc} (H : CutInv base B lo z w0 s l h m v mv xs ys W p ps) {x : Int} {n : Nat} {cs : List Value}
 (ho : OwnE base 73 2 W2 p' n cs) (hn : n = (ps ++ [(⟨x, 0⟩ : Pc)]).length) (hc : cs = flatP (ps ++ [(⟨x, 0⟩ : Pc)])) (hg : W.grownBy W2 p.ownBlock) (hb : ∀ g, p'.ownBlock = some g → p.ownBlock = some g ∨ W.heap.size ≤ g) :
 CutInv base B lo z w0 s l h m v mv xs ys (W2.setCell ⟨B, 8, none⟩ p') p' (ps ++ [(⟨x, 0⟩ : Pc)]) := by
 subst hn hc;obtain ⟨a, y, hO, hay⟩ := grown_any hg W.heap.size;have hBlt := H.row.lt;have hpl := H.got.po.lt;have hlz := H.len.lt;have hpB := H.off.2.1;have nB : B < a ∨ y ≤ B := by
  rcases hay with ⟨h1, h2⟩ | ⟨h1, h2⟩
  ·have : a ≠ B := fun e => hpB (e ▸ h2)
   omega
  ·omega
 have hd : ∀ {u : Value} {T sz k : Nat} {cs : List Value}, OwnE base T sz W u k cs → Apart u p → ∀ g, u.ownBlock = some g → g < a ∨ y ≤ g := fun hu ha g hgu => by
  have := (hu.lt g hgu).2;rcases hay with ⟨h1, h2⟩ | ⟨h1, h2⟩
  ·have : g ≠ a := fun e => ha g hgu (e ▸ h2)
   omega
  ·omega
 have hzz : z ≤ a ∨ y ≤ lo := by
  rcases hay with ⟨h1, h2⟩ | ⟨h1, h2⟩
  ·have := H.apz a h2; omega
  ·omega
 have nO : base ≤ a := by
  rcases hay with ⟨h1, h2⟩ | ⟨h1, h2⟩
  ·exact (hpl a h2).1
  ·have := H.got.hb; omega
 have pB : p'.ownBlock ≠ some B := fun e => by
  rcases hb B e with h1 | h1
  ·exact hpB h1
  ·omega
 have ap : ∀ {u : Value} {T sz k : Nat} {cs : List Value}, OwnE base T sz W u k cs → Apart u p → Apart u p' := fun hu ha g h1 h2 => by
  rcases hb g h2 with h3 | h3
  ·exact ha g h1 h3
  ·have := (hu.lt g h1).2; omega
 have G2 : MillGot base W2 s p' l h { m with pieces := ps ++ [(⟨x, 0⟩ : Pc)] } :=
  ⟨Nat.le_trans H.got.hb hO.size, H.got.so.other hO (hd H.got.so H.got.sp), ho, H.got.lo.other hO (hd H.got.lo H.got.pl.symm), H.got.ho.other hO (hd H.got.ho H.got.ph.symm),
   ap H.got.so H.got.sp, H.got.sl, H.got.sh, (ap H.got.lo H.got.pl.symm).symm, (ap H.got.ho H.got.ph.symm).symm, H.got.lh⟩
 have O2 : NotIn B s p' l h := ⟨H.off.1, pB, H.off.2.2⟩;obtain ⟨r, g, b⟩ := box_set (H.row.other hO nB) G2 O2 H.hB.1 (j := 8) (by simp [millC]) p';have kB : Other B (B + 1) W2 (W2.setCell ⟨B, 8, none⟩ p') := (Other.refl _ _ _).setCell (p := ⟨B, 8, none⟩) nl (Nat.lt_succ_self _) _;have hBB := H.hB;exact ⟨r, g, O2, (H.bel.trans (hO.below (B := base) nO H.got.hb)).trans b, (H.len.other hO hzz).other kB (by omega), (H.man.other hO hzz).other kB (by omega), fun g hg => by
  rcases hb g hg with h1 | h1
  ·exact H.apz g h1
  ·exact .inr (by omega), H.hB⟩
structure CutK (B z : Nat) (w1 : World) (p0 : Value) (W : World) (p : Value) : Prop where
 blk : ∀ g, p.ownBlock = some g → p0.ownBlock = some g ∨ z ≤ g
 keep : ∀ G, G < z → G ≠ B → p0.ownBlock ≠ some G → W.heap[G]? = w1.heap[G]?
 size : z ≤ W.heap.size
theorem CutK.below {B z : Nat} {w1 W W' : World} {p0 p : Value} (H : CutK B z w1 p0 W p) (k : Below W.heap.size W W') : CutK B z w1 p0 W' p :=
 ⟨H.blk, fun G h1 h2 h3 => (k.block G (Nat.lt_of_lt_of_le h1 H.size)).trans (H.keep G h1 h2 h3), Nat.le_trans H.size k.size⟩
theorem CutK.app {B z : Nat} {w1 W W2 : World} {p0 p p' : Value} (H : CutK B z w1 p0 W p) (hg : W.grownBy W2 p.ownBlock) (hb : ∀ g, p'.ownBlock = some g → p.ownBlock = some g ∨ W.heap.size ≤ g) (x : Value) : CutK B z w1 p0 (W2.setCell ⟨B, 8, none⟩ x) p' := by
 refine ⟨fun g e => ?_, fun G h1 h2 h3 => ?_, ?_⟩
 ·rcases hb g e with h | h
  ·exact H.blk g h
  ·exact .inr (Nat.le_trans H.size h)
 ·rw [Below.heap_setCell _ _ _ _ h2]
  refine (hg.block G (Nat.lt_of_lt_of_le h1 H.size) fun e => ?_).trans (H.keep G h1 h2 h3);rcases H.blk G e.symm with h | h
  ·exact h3 h
  ·omega
 ·simp only [World.setCell]
  have := hg.size;have := H.size;simp;omega
theorem flatP_one1 (ps : List Pc) (x : Int) : flatP ps ++ [.int .i64 x, .int .i64 0] = flatP (ps ++ [(⟨x, 0⟩ : Pc)]) := by simp [flatP, pcL]
theorem rep_snoc (ps : List Pc) (c : Nat) (x : Pc) : ps ++ List.replicate (c + 1) x = (ps ++ List.replicate c x) ++ [x] := by
 rw [List.replicate_succ', List.append_assoc]
theorem cutD_no1 {m : Mi} {a b : Int} (h : m.strand = 0) : cutD m a b = none := by simp [cutD, h]
theorem cutD_no2 {m : Mi} {a b : Int} (h : lensB a b = false) : cutD m a b = none := by simp [cutD, h]
theorem cutD_no3 {m : Mi} {a b : Int} (h : ¬ m.pieces.length + many0 m.strand a b + many1 m.strand a b ≤ 30) : cutD m a b = none := by simp [cutD, h]
theorem cutD_no4 {m : Mi} {a b : Int} (h : ¬ m.scrap + wasteR m.strand a b ≤ 999) : cutD m a b = none := by simp [cutD, h]
theorem cutD_yes {m : Mi} {a b : Int} (h1 : m.strand ≠ 0) (h2 : lensB a b = true) (h3 : m.pieces.length + many0 m.strand a b + many1 m.strand a b ≤ 30) (h4 : m.scrap + wasteR m.strand a b ≤ 999) :
 cutD m a b = some { m with pieces := m.pieces ++ newPcs m.strand a b, strand := 0, scrap := m.scrap + wasteR m.strand a b } := by simp [cutD, h1, h2, h3, h4]
theorem cutBest_no (v : Value) (a b : Int) (lo hi L : Nat) (hL : L ≤ 60) (hv : lensB a b = false) (w : World) (H : IntsAt lo hi w v [a, b]) :
 Calls Tryz.prog 172 #[.int .i64 (L : Int), v] w fun e w' => ∃ g, e = .returned (.slice (some ⟨g, 0, none⟩) 0 0) ∧ Below w.heap.size w w' := by
 have HC := hide (cutLeast_spec v a b lo hi L hL w H);obtain ⟨b0, o0, cap, rfl, h1, h2, -, -⟩ := two_at H;clear H;go_enter Tryz.func172, Tryz.ntmps172;go_wp2_with fail
 refine HC.out.mono ?_;rintro e w0 ⟨x, rfl, hx, -, hb0⟩;obtain rfl := hx hv;have HB := hide hb0;clear hb0;go_wp2_with fail
 go_ret;exact ⟨_, rfl, by have := HB.out; first | exact this.alloc this.size _ | go_grown⟩
end Go.Proofs.YtmemgbklgcjobaaGreatDoor
