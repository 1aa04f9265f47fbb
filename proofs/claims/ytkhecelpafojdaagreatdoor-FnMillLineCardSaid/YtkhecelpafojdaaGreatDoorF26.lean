/-
  Parts of the proofs over mills, of: MillC, MethC, SameM. Conditions: each theorem states its own.
-/
import Derived.Test.YtkhecelpafojdaaGreatDoorF25
set_option linter.unusedSimpArgs false
set_option linter.unusedVariables false
set_option maxRecDepth 10000
set_option maxHeartbeats 64000000
namespace Go.Proofs.YtkhecelpafojdaaGreatDoor
open Go.RowKit
theorem equal_any (v v' : Value) (xs ys : List Int) (lo hi lo' hi' : Nat) (w : World) (h : au lo hi w v xs) (h' : au lo' hi' w v' ys) :
 Calls Tryz.prog 53 #[v, v'] w fun e w' => e = .returned (.bool (decide (xs = ys))) ∧ Below w.heap.size w w' := by
 have h1 := h.len;have h2 := h'.len;obtain ⟨ao, cap, rfl, -, -, -, hc⟩ := h;obtain ⟨ao', cap', rfl, -, -, -, hc'⟩ := h';by_cases hl : xs.length = ys.length
 ·rcases Nat.eq_zero_or_pos xs.length with h0 | h0
  ·have e1 : xs = [] := List.eq_nil_of_length_eq_zero h0
   have e2 : ys = [] := List.eq_nil_of_length_eq_zero (by omega);subst e1 e2;exact (Tryz.slices_Equal_int_empty ao ao' cap 0 cap' w (by omega)).mono fun e w' ⟨he, hw⟩ => ⟨by rw [List.length_nil] at *; rw [he]; rfl, by rw [hw]; exact Below.refl _ _⟩
  ·obtain ⟨b, o, rfl, -, -, hcs⟩ := hc h0
   obtain ⟨b', o', rfl, -, -, hcs'⟩ := hc' (by omega);refine (Tryz.slices_Equal_int b o xs.length cap b' o' ys.length cap' xs ys w nl nl h1 h2 (fun j hj => by rw [(hcs j hj).1, getD_eq hj]) (fun j hj => by rw [(hcs' j hj).1, getD_eq hj])).mono ?_;rintro e w' ⟨he, q, hw⟩;refine ⟨?_, by rw [hw]; exact below_drewN (Below.refl _ _) _⟩;rw [he, List.take_of_length_le nl, List.take_of_length_le nl];congr 2;rw [Bool.eq_iff_iff]; simp
 ·exact (Tryz.slices_Equal_int_lens ao ao' xs.length cap ys.length cap' w hl).mono fun e w' ⟨he, hw⟩ => ⟨by rw [he]; have : xs ≠ ys := fun e => hl (by rw [e]); simp [this], by rw [hw]; exact Below.refl _ _⟩
theorem idsIn_any (p : Value) (ps : List Pc) (st : Int) (lo hi : Nat) (w : World) (H : fo lo hi w p ps) (hl : ps.length ≤ 1000000) :
 Calls Tryz.prog 54 #[p, .int .i64 st] w (fA w.heap.size (dA ps st) w) := by
 obtain ⟨ao, cap, rfl, hlc, hcap, hhi, hc⟩ := H;have HC := hide hc;obtain ⟨i0, hi0, hz0, hi1, hi2⟩ := info_parts bF;clear hc;go_enter Tryz.func54, Tryz.ntmps54;go_wp2_with fail
 go_loopw [5, 6, 7, 10] (fun o _ _ i wr => ∃ k : Nat, k ≤ ps.length ∧ i = .int .i64 k ∧ Below w.heap.size w wr ∧ wr.ownsRow w.heap.size 3 1 o (bg ps st k).length (aC (bg ps st k))) (fun _ _ _ i _ => ps.length - (intOf i).toNat)
 case atStart => exact ⟨0, Nat.zero_le _, rfl, Below.refl _ _, World.ownsRow_nil _ _ _ _⟩
 case round =>
  obtain ⟨k, hk, rfl, hb, hown⟩ := hrel;have HB := hide hb;have HO := hide hown;have hnl := gK ps st k;have hszr := hb.size;obtain ⟨aow, capw, rfl, -, -⟩ := aB hown;clear hown;by_cases hlt : k < ps.length
  ·obtain ⟨b, o, rfl, hx1, hx2, hcs⟩ := HC.out (by omega)
   obtain ⟨⟨r1, r2⟩, -⟩ := hcs k hlt;rw [← hb.cell (p := ⟨b, _, none⟩) (by simpa using by omega)] at r1 r2;have hg : ps.getD k pc0 = ps[k] := by simp [hlt]
   have hN : bg ps st (k + 1) = if ps[k].s == st then bg ps st k ++ [(k : Int) + 1] else bg ps st k := by rw [bg, hg]
   have HN := hide hN;obtain ⟨x, hx⟩ : ∃ x, ps[k].s = x := ⟨_, rfl⟩;obtain ⟨y, hy⟩ : ∃ y, ps[k].l = y := ⟨_, rfl⟩;rw [hx] at r2 HN;rw [hy] at r1;have hkI : (k : Int) < (ps.length : Int) := by omega
   clear hcs hx hy hb hg hN;cases hq : (x == st) with
   | false =>
    have HN2 := hide (show bg ps st (k + 1) = bg ps st k by rw [HN.out, hq]; rfl);go_wp2_with fail
    go_roundw
    case rel => exact ⟨k + 1, by omega, by go_num, HB.out.alloc hszr _, by rw [HN2.out]; exact HO.out.alloc _⟩
    case measure => simp [intOf]; omega
   | true =>
    have HN2 := hide (show bg ps st (k + 1) = bg ps st k ++ [(k : Int) + 1] by rw [HN.out, hq]; rfl);go_wp2_with (at_builtin; refine aA rfl _ _ 27 rfl w.heap.size 3 i0 (.int .i64 0) 1 8 Tryz.underlying27 hi0 hz0 hi1 hi2 rfl (by decide) _ _ _ rfl ((HO.out.alloc _).alloc _) (.slice (some ⟨wr.heap.size + 1, 0, none⟩) 1 1) 1 [.int .i64 ((k : Int) + 1)] rfl ?c0 ?c1 ?c2 ?c3 ?_)
    case c0 => simpa using Source.lit (World.alloc wr _) [.int .i64 ((k : Int) + 1)] 1 3 1 rfl (fun u hu => by simp at hu; subst hu; rfl) 1
    case c1 => unfold maxLen; omega
    case c2 => omega
    case c3 => simp; omega
    intro v2 w3 hown2 hgrow2 _;have hB3 := ((HB.out.alloc hszr (.cells #[.int .i64 y, .int .i64 x] 63)).alloc (by simp; omega) (.cells #[.int .i64 ((k : Int) + 1)] 3)).trans (Below.grow hgrow2 ((HO.out.alloc _).alloc _) nl (by simp; omega));have HB3 := hide hB3;have HO3 := hide (show w3.ownsRow w.heap.size 3 1 v2 (bg ps st (k + 1)).length (aC (bg ps st (k + 1))) by rw [HN2.out]; simpa [aC] using hown2);clear hown2 hgrow2 hB3;go_wp2_with fail
    go_roundw
    case rel => exact ⟨k + 1, by omega, by go_num, HB3.out, HO3.out⟩
    case measure => simp [intOf]; omega
  ·obtain rfl : k = ps.length := by omega
   go_wp2_with fail
   go_ret;exact ⟨_, rfl, HO.out, HB.out⟩
theorem quiet_left2 {P : Program} {f : FuncId} {args : Array Value} {w : World} {n k : Nat} {v : Value}
 (h : Calls P f args (w.drewN (k + n)) fun e w' => e = .returned v ∧ w.drewN (k + n) = w') : Calls P f args (w.drewN (k + n)) fun e w'' => e = .returned v ∧ ∃ m, w'' = w.drewN (k + m) :=
 h.mono fun _ _ ⟨he, hm⟩ => ⟨he, n, hm.symm⟩
theorem ai.alloc {lo hi : Nat} {a w : World} (h : ai lo hi a w) (o : Obj) : ai lo hi a (w.alloc o) :=
 h.trans (ai.of_below ((Below.refl w.heap.size w).alloc nl o))
theorem grown_other {w w' : World} {g : Nat} (h : w.grownBy w' (some g)) : ai g (g + 1) w w' :=
 ⟨h.os, h.tape, h.output, h.size, fun k hk hd => h.block k hk (fun e => by have := Option.some.inj e; omega)⟩
theorem grown_none {w w' : World} {lo hi : Nat} (h : w.grownBy w' none) : ai lo hi w w' :=
 ⟨h.os, h.tape, h.output, h.size, fun k hk _ => h.block k hk (fun e => by cases e)⟩
theorem grown_any {w w' : World} {p : Value} (h : w.grownBy w' p.ownBlock) (X : Nat) : ∃ a z, ai a z w w' ∧ ((z = a + 1 ∧ p.ownBlock = some a) ∨ (a = X ∧ z = X)) := by
 cases hp : p.ownBlock with
 | none => rw [hp] at h; exact ⟨X, X, grown_none h, .inr ⟨rfl, rfl⟩⟩
 | some g => rw [hp] at h; exact ⟨g, g + 1, grown_other h, .inl ⟨rfl, rfl⟩⟩
structure bX (base B lo z : Nat) (w0 : World) (s l h : Value) (m : Mi) (v mv : Value) (xs ys : List Int) (W : World) (p : Value) (ps : List Pc) : Prop where
 row : ae W B 31 (az s p l h m)
 got : ak base W s p l h { m with pieces := ps }
 off : NotIn B s p l h
 bel : Below base w0 W
 len : au lo z W v xs
 man : au lo z W mv ys
 apz : ∀ g, p.ownBlock = some g → g < lo ∨ z ≤ g
 hB : base ≤ B ∧ B < lo
theorem bX.drew {base B lo z : Nat} {w0 W : World} {s l h v mv p : Value} {m : Mi} {xs ys : List Int} {ps : List Pc} (H : bX base B lo z w0 s l h m v mv xs ys W p ps) : bX base B lo z w0 s l h m v mv xs ys W.drew p ps :=
 ⟨H.row.drew, H.got.below (Below.refl _ _).drew, H.off, H.bel.drew, H.len.below (Below.refl _ _).drew, H.man.below (Below.refl _ _).drew, H.apz, H.hB⟩
theorem bX.alloc {base B lo z : Nat} {w0 W : World} {s l h v mv p : Value} {m : Mi} {xs ys : List Int} {ps : List Pc} (H : bX base B lo z w0 s l h m v mv xs ys W p ps) (o : Obj) : bX base B lo z w0 s l h m v mv xs ys (W.alloc o) p ps := by
 have k : Below W.heap.size W (W.alloc o) := (Below.refl _ _).alloc nl o;exact ⟨H.row.below k H.row.lt, H.got.below k, H.off, H.bel.trans (k.mono H.got.hb), H.len.below k, H.man.below k, H.apz, H.hB⟩
theorem bX.below {base B lo z : Nat} {w0 W W' : World} {s l h v mv p : Value} {m : Mi} {xs ys : List Int} {ps : List Pc} (H : bX base B lo z w0 s l h m v mv xs ys W p ps) (k : Below W.heap.size W W') : bX base B lo z w0 s l h m v mv xs ys W' p ps :=
 ⟨H.row.below k H.row.lt, H.got.below k, H.off, H.bel.trans (k.mono H.got.hb), H.len.below k, H.man.below k, H.apz, H.hB⟩
theorem bX.app {base B lo z : Nat} {w0 W W2 : World} {s l h v mv p p' : Value} {m : Mi} {xs ys : List Int} {ps : List Pc} (H : bX base B lo z w0 s l h m v mv xs ys W p ps) {x : Int} {n : Nat} {cs : List Value}
 (ho : aK base 63 2 W2 p' n cs) (hn : n = (ps ++ [(⟨x, 0⟩ : Pc)]).length) (hc : cs = bO (ps ++ [(⟨x, 0⟩ : Pc)])) (hg : W.grownBy W2 p.ownBlock) (hb : ∀ g, p'.ownBlock = some g → p.ownBlock = some g ∨ W.heap.size ≤ g) :
 bX base B lo z w0 s l h m v mv xs ys (W2.setCell ⟨B, 8, none⟩ p') p' (ps ++ [(⟨x, 0⟩ : Pc)]) := by
 subst hn hc;obtain ⟨a, y, hO, hay⟩ := grown_any hg W.heap.size;have hBlt := H.row.lt;have hpl := H.got.po.lt;have hlz := H.len.lt;have hpB := H.off.2.1;have nB : B < a ∨ y ≤ B := by
  rcases hay with ⟨h1, h2⟩ | ⟨h1, h2⟩
  ·have : a ≠ B := fun e => hpB (e ▸ h2)
   omega
  ·omega
 have hd : ∀ {u : Value} {T sz k : Nat} {cs : List Value}, aK base T sz W u k cs → Apart u p → ∀ g, u.ownBlock = some g → g < a ∨ y ≤ g := fun hu ha g hgu => by
  have := (hu.lt g hgu).2;rcases hay with ⟨h1, h2⟩ | ⟨h1, h2⟩
  ·have : g ≠ a := fun e => ha g hgu (e ▸ h2)
   omega
  ·omega
 have hzz : z ≤ a ∨ y ≤ lo := by
  rcases hay with ⟨h1, h2⟩ | ⟨h1, h2⟩
  ·have := H.apz a h2; omega
  ·omega
 have nO : base ≤ a := by
  rcases hay with ⟨h1, h2⟩ | ⟨h1, h2⟩
  ·exact (hpl a h2).1
  ·have := H.got.hb; omega
 have pB : p'.ownBlock ≠ some B := fun e => by
  rcases hb B e with h1 | h1
  ·exact hpB h1
  ·omega
 have ap : ∀ {u : Value} {T sz k : Nat} {cs : List Value}, aK base T sz W u k cs → Apart u p → Apart u p' := fun hu ha g h1 h2 => by
  rcases hb g h2 with h3 | h3
  ·exact ha g h1 h3
  ·have := (hu.lt g h1).2; omega
 have G2 : ak base W2 s p' l h { m with pieces := ps ++ [(⟨x, 0⟩ : Pc)] } :=
  ⟨Nat.le_trans H.got.hb hO.size, H.got.so.other hO (hd H.got.so H.got.sp), ho, H.got.lo.other hO (hd H.got.lo H.got.pl.symm), H.got.ho.other hO (hd H.got.ho H.got.ph.symm),
   ap H.got.so H.got.sp, H.got.sl, H.got.sh, (ap H.got.lo H.got.pl.symm).symm, (ap H.got.ho H.got.ph.symm).symm, H.got.lh⟩
 have O2 : NotIn B s p' l h := ⟨H.off.1, pB, H.off.2.2⟩;obtain ⟨r, g, b⟩ := df (H.row.other hO nB) G2 O2 H.hB.1 (j := 8) (by simp [az]) p';have kB : ai B (B + 1) W2 (W2.setCell ⟨B, 8, none⟩ p') := (ai.refl _ _ _).setCell (p := ⟨B, 8, none⟩) nl ns _;have hBB := H.hB;exact ⟨r, g, O2, (H.bel.trans (hO.below (B := base) nO H.got.hb)).trans b, (H.len.other hO hzz).other kB (by omega), (H.man.other hO hzz).other kB (by omega), fun g hg => by
  rcases hb g hg with h1 | h1
  ·exact H.apz g h1
  ·exact .inr (by omega), H.hB⟩
structure CutK (B z : Nat) (w1 : World) (p0 : Value) (W : World) (p : Value) : Prop where
 blk : ∀ g, p.ownBlock = some g → p0.ownBlock = some g ∨ z ≤ g
 keep : ∀ G, G < z → G ≠ B → p0.ownBlock ≠ some G → W.heap[G]? = w1.heap[G]?
 size : z ≤ W.heap.size
theorem CutK.below {B z : Nat} {w1 W W' : World} {p0 p : Value} (H : CutK B z w1 p0 W p) (k : Below W.heap.size W W') : CutK B z w1 p0 W' p :=
 ⟨H.blk, fun G h1 h2 h3 => (k.block G (Nat.lt_of_lt_of_le h1 H.size)).trans (H.keep G h1 h2 h3), Nat.le_trans H.size k.size⟩
theorem CutK.app {B z : Nat} {w1 W W2 : World} {p0 p p' : Value} (H : CutK B z w1 p0 W p) (hg : W.grownBy W2 p.ownBlock) (hb : ∀ g, p'.ownBlock = some g → p.ownBlock = some g ∨ W.heap.size ≤ g) (x : Value) : CutK B z w1 p0 (W2.setCell ⟨B, 8, none⟩ x) p' := by
 refine ⟨fun g e => ?_, fun G h1 h2 h3 => ?_, ?_⟩
 ·rcases hb g e with h | h
  ·exact H.blk g h
  ·exact .inr (Nat.le_trans H.size h)
 ·rw [Below.heap_setCell _ _ _ _ h2]
  refine (hg.block G (Nat.lt_of_lt_of_le h1 H.size) fun e => ?_).trans (H.keep G h1 h2 h3);rcases H.blk G e.symm with h | h
  ·exact h3 h
  ·omega
 ·simp only [World.setCell]
  have := hg.size;have := H.size;simp;omega
theorem jP (ps : List Pc) (x : Int) : bO ps ++ [.int .i64 x, .int .i64 0] = bO (ps ++ [(⟨x, 0⟩ : Pc)]) := by simp [bO, pcL]
theorem rep_snoc (ps : List Pc) (c : Nat) (x : Pc) : ps ++ List.replicate (c + 1) x = (ps ++ List.replicate c x) ++ [x] := by
 rw [List.replicate_succ', List.append_assoc]
theorem cutD_no1 {m : Mi} {a b : Int} (h : m.strand = 0) : cutD m a b = none := by simp [cutD, h]
theorem cutD_no2 {m : Mi} {a b : Int} (h : dB a b = false) : cutD m a b = none := by simp [cutD, h]
theorem cutD_no3 {m : Mi} {a b : Int} (h : ¬ m.pieces.length + dx m.strand a b + bA m.strand a b ≤ 30) : cutD m a b = none := by simp [cutD, h]
theorem cutD_no4 {m : Mi} {a b : Int} (h : ¬ m.scrap + dJ m.strand a b ≤ 999) : cutD m a b = none := by simp [cutD, h]
theorem cutD_yes {m : Mi} {a b : Int} (h1 : m.strand ≠ 0) (h2 : dB a b = true) (h3 : m.pieces.length + dx m.strand a b + bA m.strand a b ≤ 30) (h4 : m.scrap + dJ m.strand a b ≤ 999) :
 cutD m a b = some { m with pieces := m.pieces ++ eO m.strand a b, strand := 0, scrap := m.scrap + dJ m.strand a b } := by simp [cutD, h1, h2, h3, h4]
theorem tons_many (L : Nat) (a b : Int) : dV (iR L a b) = (dx L a b : Int) + bA L a b := by simp [dV, iR, sumTo]
theorem sameInts_any (v v' : Value) (xs ys : List Int) (lo hi lo' hi' : Nat) (w : World) (h : au lo hi w v xs) (h' : au lo' hi' w v' ys) :
 Calls Tryz.prog 92 #[v, v'] w fun e w' => e = .returned (.bool (decide (xs = ys))) ∧ Below w.heap.size w w' := by
 obtain ⟨ao, cap, rfl, hlc, hcap, hhi, hc⟩ := h;obtain ⟨ao', cap', rfl, hlc', hcap', hhi', hc'⟩ := h';have Hc := hide hc;have Hc' := hide hc';clear hc hc';by_cases hl : xs.length = ys.length
 ·have HL := hide hl
  have hlB : ((xs.length : Int) != (ys.length : Int)) = false := by simp [hl]
  clear hl;go_enter Tryz.func92, Tryz.ntmps92;go_wp2_with fail
  go_loopw [5] (fun i wr => ∃ k : Nat, k ≤ xs.length ∧ i = .int .i64 k ∧ Below w.heap.size w wr ∧ xs.take k = ys.take k) (fun i _ => xs.length - (intOf i).toNat)
  case atStart => exact ⟨0, Nat.zero_le _, rfl, Below.refl _ _, rfl⟩
  case round =>
   obtain ⟨k, hk, rfl, hb, hall⟩ := hrel;have Ha := hide hall;clear hall;by_cases hlt : k < xs.length
   ·have hlt' : k < ys.length := by have := HL.out; omega
    obtain ⟨b, o, rfl, hb1, hb2, hcs⟩ := Hc.out (by omega);obtain ⟨b', o', rfl, hb1', hb2', hcs'⟩ := Hc'.out (by omega);obtain ⟨h1, -⟩ := hcs k hlt;obtain ⟨h1', -⟩ := hcs' k hlt';rw [← hb.cell (p := ⟨_, _, none⟩) (by simpa using by omega)] at h1 h1';clear hcs hcs';have hi1 : (k : Int) < (xs.length : Int) := by omega
    have hi2 : (k : Int) < (ys.length : Int) := by omega
    by_cases hq : xs[k] = ys[k]
    ·have hqB : (xs[k] != ys[k]) = false := by simp [hq]
     have hall' : xs.take (k + 1) = ys.take (k + 1) := by
      rw [List.take_succ_eq_append_getElem hlt, List.take_succ_eq_append_getElem hlt', Ha.out, hq]
     have Ha' := hide hall';clear hq hall';go_wp2_with fail
     go_quiet (fail)
     go_wp2_with fail
     go_roundw
     case rel => exact ⟨k + 1, by omega, by go_num, below_drewN hb _, Ha'.out⟩
     case measure => simp [intOf]; omega
    ·have hqB : (xs[k] != ys[k]) = true := by simp [hq]
     have HQ := hide hq;clear hq;go_wp2_with fail
     go_quiet (fail)
     go_wp2_with fail
     go_ret;refine ⟨?_, below_drewN hb _⟩;have hne : xs ≠ ys := by
      intro e;subst e;exact HQ.out rfl
     simp [hne]
   ·go_wp2_with fail
    go_ret;refine ⟨?_, hb⟩;have e : xs = ys := by
     have := Ha.out;rw [List.take_of_length_le (by omega), List.take_of_length_le (by have := HL.out; omega)] at this;exact this
    simp [e]
 ·have hlB : ((xs.length : Int) != (ys.length : Int)) = true := by simp; omega
  go_enter Tryz.func92, Tryz.ntmps92;go_wp2_with fail
  go_ret;exact ⟨by simp; intro h; exact hl (by rw [h]), Below.refl _ _⟩
theorem samePile_any (l h l' h' : Value) (lo hi lo2 hi2 : List Int) (a z a' z' b y b' y' : Nat) (w : World) (Hl : au a z w l lo) (Hh : au b y w h hi) (Hl' : au a' z' w l' lo2) (Hh' : au b' y' w h' hi2) :
 Calls Tryz.prog 33 #[aD l h, aD l' h'] w fun e w' => e = .returned (.bool (decide (lo = lo2) && decide (hi = hi2))) ∧ Below w.heap.size w w' := by
 have HL := hide Hl;have HH := hide Hh;have HL' := hide Hl';have HH' := hide Hh';unfold aD;clear Hl Hh Hl' Hh';go_enter Tryz.func33, Tryz.ntmps33;go_wp2_with fail
 refine aj fun wx hwx => ?_;have R1 : ae wx w.heap.size 29 [l, h] := by rw [hwx]; exact (ae.new _ _ _).alloc _
 have R2 : ae wx (w.heap.size + 1) 29 [l', h'] := by rw [hwx]; simpa using ae.new (w.alloc _) 29 [l', h']
 have hb0 : Below w.heap.size w wx := by rw [hwx]; go_grown
 clear hwx;refine (sameInts_any l l' lo lo2 _ _ _ _ _ (HL.out.below hb0) (HL'.out.below hb0)).mono ?_;rintro e w1 ⟨rfl, hb1⟩;have R1b := R1.below hb1 R1.lt;have R2b := R2.below hb1 R2.lt;have HB1 := bs hb0 hb1;have c1 : w1.cell? ⟨w.heap.size, 1, none⟩ = some h := R1b.cell 1 (by simp);have c2 : w1.cell? ⟨w.heap.size + 1, 1, none⟩ = some h' := R2b.cell 1 (by simp);clear hb1;cases hq : decide (lo = lo2) with
 | false =>
  go_wp2_with fail
  go_ret;exact ⟨by rw [hq]; rfl, HB1.out⟩
 | true =>
  go_wp2_with fail
  refine (sameInts_any h h' hi hi2 _ _ _ _ _ (HH.out.below HB1.out) (HH'.out.below HB1.out)).mono ?_;rintro e w2 ⟨rfl, hb2⟩;have HB2 := bs HB1.out hb2;clear hb2 c1 c2;go_wp2_with fail
  go_ret;exact ⟨by rw [hq, Bool.true_and]; rfl, HB2.out⟩
theorem aR {w : World} {b T : Nat} {v0 v1 v2 v3 v4 v5 v6 v7 v8 v9 v10 v11 : Value} (h : ae w b T [v0, v1, v2, v3, v4, v5, v6, v7, v8, v9, v10, v11]) :
 w.cell? ⟨b, 0, none⟩ = some v0 ∧ w.cell? ⟨b, 1, none⟩ = some v1 ∧ w.cell? ⟨b, 2, none⟩ = some v2 ∧ w.cell? ⟨b, 3, none⟩ = some v3 ∧ w.cell? ⟨b, 4, none⟩ = some v4 ∧ w.cell? ⟨b, 5, none⟩ = some v5 ∧ w.cell? ⟨b, 6, none⟩ = some v6 ∧ w.cell? ⟨b, 7, none⟩ = some v7 ∧ w.cell? ⟨b, 8, none⟩ = some v8 ∧ w.cell? ⟨b, 9, none⟩ = some v9 ∧ w.cell? ⟨b, 10, none⟩ = some v10 ∧ w.cell? ⟨b, 11, none⟩ = some v11 :=
 ⟨h.c 0 rfl, h.c 1 rfl, h.c 2 rfl, h.c 3 rfl, h.c 4 rfl, h.c 5 rfl, h.c 6 rfl, h.c 7 rfl, h.c 8 rfl, h.c 9 rfl, h.c 10 rfl, h.c 11 rfl⟩
end Go.Proofs.YtkhecelpafojdaaGreatDoor
