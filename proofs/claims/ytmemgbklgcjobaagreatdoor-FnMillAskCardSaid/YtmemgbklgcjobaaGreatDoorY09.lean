/-
  Parts of the proofs over mills, of: HelpSt, MillA, DrawME, CoilC, DrawMP, MillG, DrawMG, BestMI. Conditions: each theorem states its own.
-/
import Derived.Shelf.Strings.OnBuilder
import Derived.Shelf.Strings.BuilderK
import Derived.Shelf.Strconv.Itoa3
import Derived.Shelf.Strings.Shaped
import Derived.Shelf.Sort.Plain
import Derived.Shelf.Strings.SplitShaped
import Derived.Shelf.Unicode.DecodeSlow
import Derived.Shelf.Slices.Turned
import Derived.Shelf.Slices.Clone
import Derived.Shelf.Slices.In.SortNone
import Derived.Shelf.Slices.Empties2
import Derived.Lib.AppendZeros
import Derived.Deep.RegionHeldLaw
import Derived.Test.YtmemgbklgcjobaaGreatDoorY06
set_option linter.unusedSimpArgs false
set_option linter.unusedVariables false
set_option maxRecDepth 10000
set_option maxHeartbeats 64000000
namespace Go.Proofs.YtmemgbklgcjobaaGreatDoor
open Go.RowKit
theorem info_St : (Tryz.prog.info? 65).map (fun i => (i.zero, i.size, i.bytes)) = some (some (.agg #[.int .i64 0, .int .i64 0, .int .i64 0, .int .i64 0, .int .i64 0]), 5, 40) := by kernel_rfl
theorem stv_impl (c m s p k : Int) (w : World) :
 Calls Tryz.prog 145 #[.agg #[.int .i64 c, .int .i64 m, .int .i64 s, .int .i64 p, .int .i64 k]] w fun e w' => e = .returned (.bool (stB ⟨c, m, s, p, k⟩)) ∧ Below w.heap.size w w' := by
 go_enter Tryz.func145, Tryz.ntmps145;go_wp2_with (go_at_call 79; refine (within_any _ _ _ _).mono ?_; rintro e w' ⟨rfl, rfl⟩)
 all_goals
  go_ret;exact ⟨by simp_all [stB], by go_grown⟩
theorem stv_spec (c m s p k : Int) (w : World) :
 Calls Tryz.prog 132 #[.agg #[.int .i64 c, .int .i64 m, .int .i64 s, .int .i64 p, .int .i64 k]] w fun e w' => e = .returned (.bool (stB ⟨c, m, s, p, k⟩)) ∧ Below w.heap.size w w' := by
 go_enter Tryz.func132, Tryz.ntmps132;go_wp2_with (go_at_call 68; refine (l1In_any _ _ _ _).mono ?_; rintro e w' ⟨rfl, rfl⟩)
 all_goals
  go_ret;exact ⟨by simp_all [stB], by go_grown⟩
theorem stsv_impl (v : Value) (js : List St) (lo hi : Nat) (w : World) (h : StAt lo hi w v js) :
 Calls Tryz.prog 82 #[v] w fun e w' => e = .returned (.bool (stsB js)) ∧ Below w.heap.size w w' := by
 obtain ⟨ao, cap, rfl, hlc, hcap, hhi, hc⟩ := h;have Hc := hide hc;clear hc;by_cases h6 : js.length ≤ 4
 ·go_enter Tryz.func82, Tryz.ntmps82
  go_wp2_with fail
  go_loopw [10] (fun i wr => ∃ k : Nat, k ≤ js.length ∧ i = .int .i64 k ∧ Below w.heap.size w wr ∧ (∀ j (_ : j < js.length), j < k → stB js[j] = true)) (fun i _ => js.length - (intOf i).toNat)
  case atStart => exact ⟨0, Nat.zero_le _, rfl, Below.refl _ _, fun _ _ h => absurd h (Nat.not_lt_zero _)⟩
  case round =>
   obtain ⟨k, hk, rfl, hb, hall⟩ := hrel;have Ha := hide hall;clear hall;by_cases hlt : k < js.length
   ·obtain ⟨b, o, rfl, hb1, hb2, hcs⟩ := Hc.out (by omega)
    obtain ⟨⟨h1, h2, h3, h4, h5⟩, -⟩ := hcs k hlt;rw [← hb.cell (p := ⟨b, _, none⟩) (by simpa using by omega)] at h1 h2 h3 h4 h5;clear hcs;go_wp2_with (go_at_call 145; refine (stv_impl _ _ _ _ _ _).mono ?_; rintro e w1 ⟨rfl, hb1'⟩)
    ·go_ret
     refine ⟨?_, Below.step (hb.alloc hb.size _) hb1' nl⟩;have hf : stB js[k] = false := by simpa using (by assumption : (!stB { c := js[k].c, m := js[k].m, s := js[k].s, p := js[k].p, k := js[k].k }) = true)
     simp [stsB, all_fell hlt hf]
    ·have hf : stB js[k] = true := by simpa using (by assumption : (!stB { c := js[k].c, m := js[k].m, s := js[k].s, p := js[k].p, k := js[k].k }) = false)
     go_roundw
     case rel => exact ⟨k + 1, by omega, by go_num, Below.step (hb.alloc hb.size _) hb1' nl, all_snoc hlt Ha.out hf⟩
     case measure => simp [intOf]; omega
   ·go_wp2
    go_ret;exact ⟨by simp [stsB, h6, all_done (by omega) Ha.out], hb⟩
 ·go_enter Tryz.func82, Tryz.ntmps82
  go_wp2_with fail
  go_ret;exact ⟨by simp [stsB, h6], Below.refl _ _⟩
theorem stsv_spec (v : Value) (js : List St) (lo hi : Nat) (w : World) (h : StAt lo hi w v js) :
 Calls Tryz.prog 66 #[v] w fun e w' => e = .returned (.bool (stsB js)) ∧ Below w.heap.size w w' := by
 obtain ⟨ao, cap, rfl, hlc, hcap, hhi, hc⟩ := h;have Hc := hide hc;clear hc;go_enter Tryz.func66, Tryz.ntmps66;go_wp2_with fail
 go_loopw [3] (fun i wr => ∃ k : Nat, k ≤ js.length ∧ i = .int .i64 k ∧ Below w.heap.size w wr ∧ (∀ j (_ : j < js.length), j < k → stB js[j] = true)) (fun i _ => js.length - (intOf i).toNat)
 case atStart => exact ⟨0, Nat.zero_le _, rfl, Below.refl _ _, fun _ _ h => absurd h (Nat.not_lt_zero _)⟩
 case round =>
  obtain ⟨k, hk, rfl, hb, hall⟩ := hrel;have Ha := hide hall;clear hall;by_cases hlt : k < js.length
  ·obtain ⟨b, o, rfl, hb1, hb2, hcs⟩ := Hc.out (by omega)
   obtain ⟨⟨h1, h2, h3, h4, h5⟩, -⟩ := hcs k hlt;rw [← hb.cell (p := ⟨b, _, none⟩) (by simpa using by omega)] at h1 h2 h3 h4 h5;clear hcs;go_wp2_with (go_at_call 132; refine (stv_spec _ _ _ _ _ _).mono ?_; rintro e w1 ⟨rfl, hb1'⟩)
   ·go_ret
    refine ⟨?_, Below.step hb hb1' nl⟩;have hf : stB js[k] = false := by simpa using (by assumption : (!stB { c := js[k].c, m := js[k].m, s := js[k].s, p := js[k].p, k := js[k].k }) = true)
    simp [stsB, all_fell hlt hf]
   ·have hf : stB js[k] = true := by simpa using (by assumption : (!stB { c := js[k].c, m := js[k].m, s := js[k].s, p := js[k].p, k := js[k].k }) = false)
    go_roundw
    case rel => exact ⟨k + 1, by omega, by go_num, Below.step hb hb1' nl, all_snoc hlt Ha.out hf⟩
    case measure => simp [intOf]; omega
  ·go_wp2_with fail
   go_ret;refine ⟨?_, hb⟩;have hall := all_done (by omega) Ha.out;by_cases h6 : js.length ≤ 4
   ·simp [stsB, hall, h6]; omega
   ·simp [stsB, h6]; omega
def grV (g : Gr) : Value := .agg #[.int .i64 g.lc, .int .i64 g.hc, .int .i64 g.lm, .int .i64 g.hm, .int .i64 g.ls, .int .i64 g.hs]
theorem grv_impl (g : Gr) (w : World) :
 Calls Tryz.prog 83 #[grV g] w fun e w' => e = .returned (.bool (grB g)) ∧ Below w.heap.size w w' := by
 obtain ⟨a, b, c, d, f, h⟩ := g;unfold grV;go_enter Tryz.func83, Tryz.ntmps83;go_wp2_with (go_at_call 79; refine (within_any _ _ _ _).mono ?_; rintro e w' ⟨rfl, rfl⟩)
 all_goals
  go_ret;exact ⟨by simp_all [grB], by go_grown⟩
theorem l1Range_any (a b : Int) (w : World) :
 Calls Tryz.prog 133 #[.int .i64 a, .int .i64 b] w fun e w' => e = .returned (.bool (wi a 0 999 && wi b a 999)) ∧ w = w' := by
 go_enter Tryz.func133, Tryz.ntmps133;go_wp2_with (go_at_call 68; refine (l1In_any _ _ _ _).mono ?_; rintro e w' ⟨rfl, rfl⟩)
 all_goals
  go_ret;exact ⟨by simp_all, rfl⟩
theorem grv_spec (g : Gr) (w : World) :
 Calls Tryz.prog 67 #[grV g] w fun e w' => e = .returned (.bool (grB g)) ∧ Below w.heap.size w w' := by
 obtain ⟨a, b, c, d, f, h⟩ := g;unfold grV;have e0 : grB ⟨a, b, c, d, f, h⟩ = ((wi a 0 999 && wi b a 999) && ((wi c 0 999 && wi d c 999) && (wi f 0 999 && wi h f 999))) := by simp [grB, Bool.and_assoc]
 rw [e0];rcases h1 : (wi a 0 999 && wi b a 999) <;> rcases h2 : (wi c 0 999 && wi d c 999) <;> rcases h3 : (wi f 0 999 && wi h f 999);all_goals
  have c1 := fun w => l1Range_any a b w;have c2 := fun w => l1Range_any c d w;have c3 := fun w => l1Range_any f h w;rw [h1] at c1;rw [h2] at c2;rw [h3] at c3;go_enter Tryz.func67, Tryz.ntmps67;go_wp2_with fail
  refine (c1 _).mono ?_;rintro e w1 ⟨rfl, rfl⟩;go_wp2_with fail
  first
   | (go_ret; exact ⟨rfl, by go_grown⟩)
   | (refine (c2 _).mono ?_
      rintro e w1 ⟨rfl, rfl⟩;go_wp2_with fail
      first
       | (go_ret; exact ⟨rfl, by go_grown⟩)
       | (refine (c3 _).mono ?_
          rintro e w1 ⟨rfl, rfl⟩;go_wp2_with fail
          go_ret;exact ⟨rfl, by go_grown⟩))
structure AroundW (R k : Nat) (w : World) (gb zb : Nat) (gs zs : List Value) (W : World) : Prop where
 o : Other R (R + 1) w W
 r : Rd R k W
 gr : RowL W gb 25 gs
 zr : RowL W zb 25 zs
 hg : R < gb ∧ R < zb
theorem AroundW.step {R k gb zb : Nat} {w W W' : World} {gs zs : List Value} (h : AroundW R k w gb zb gs zs W) (ho : Other R (R + 1) W W') (hr : Rd R (k + 1) W') : AroundW R (k + 1) w gb zb gs zs W' :=
 ⟨h.o.trans ho, hr, h.gr.other ho (by have := h.hg; omega), h.zr.other ho (by have := h.hg; omega), h.hg⟩
structure PileOwn (base : Nat) (w : World) (l h : Value) (lo hi : List Int) : Prop where
 hb : base ≤ w.heap.size
 lo : OwnE base 3 1 w l lo.length (flatI lo)
 ho : OwnE base 3 1 w h hi.length (flatI hi)
 ap : Apart l h
theorem PileOwn.below {base B : Nat} {w w' : World} {l h : Value} {lo hi : List Int} (H : PileOwn base w l h lo hi) (k : Below B w w') (hB : w.heap.size ≤ B) : PileOwn base w' l h lo hi :=
 ⟨Nat.le_trans H.hb k.size, H.lo.below k hB, H.ho.below k hB, H.ap⟩
theorem PileOwn.other {base a z : Nat} {w w' : World} {l h : Value} {lo hi : List Int} (H : PileOwn base w l h lo hi) (k : Other a z w w') (hd : z ≤ base) : PileOwn base w' l h lo hi :=
 ⟨Nat.le_trans H.hb k.size, H.lo.other k fun g hg => .inr (Nat.le_trans hd (H.lo.lt g hg).1), H.ho.other k fun g hg => .inr (Nat.le_trans hd (H.ho.lt g hg).1), H.ap⟩
theorem PileOwn.mono {base base' : Nat} {w : World} {l h : Value} {lo hi : List Int} (H : PileOwn base w l h lo hi) (k : base' ≤ base) : PileOwn base' w l h lo hi :=
 ⟨Nat.le_trans k H.hb, H.lo.mono k, H.ho.mono k, H.ap⟩
theorem PileOwn.low {base : Nat} {w : World} {l h : Value} {lo hi : List Int} (H : PileOwn base w l h lo hi) : IntsAt base w.heap.size w l lo := ownE_ints H.lo rfl H.hb
theorem PileOwn.high {base : Nat} {w : World} {l h : Value} {lo hi : List Int} (H : PileOwn base w l h lo hi) : IntsAt base w.heap.size w h hi := ownE_ints H.ho rfl H.hb
theorem PileOwn.low0 {base : Nat} {w : World} {l h : Value} {lo hi : List Int} (H : PileOwn base w l h lo hi) : IntsAt 0 w.heap.size w l lo := H.low.mono (Nat.zero_le _) nl nl
theorem PileOwn.high0 {base : Nat} {w : World} {l h : Value} {lo hi : List Int} (H : PileOwn base w l h lo hi) : IntsAt 0 w.heap.size w h hi := H.high.mono (Nat.zero_le _) nl nl
def PileGot1 (base : Nat) (lo hi : List Int) (w : World) (e : Ending) (w' : World) : Prop := ∃ l h, e = .returned (pileV l h) ∧ PileOwn base w' l h lo hi ∧ Below base w w'
def PileGot2 (base : Nat) (q : List Int × List Int) (c : Value) (w : World) (e : Ending) (w' : World) : Prop := ∃ l h, e = .returned (.tuple #[pileV l h, c]) ∧ PileOwn base w' l h q.1 q.2 ∧ Below base w w'
theorem copyB {w W W2 : World} {l h : Value} (H : (W.cell? ⟨w.heap.size, 0, none⟩ = some l ∧ W.cell? ⟨w.heap.size, 1, none⟩ = some h) ∧ ((W.cell? ⟨w.heap.size + 1, 0, none⟩).isSome = true ∧ (W.cell? ⟨w.heap.size + 1, 1, none⟩).isSome = true) ∧ (W.frozen? ⟨w.heap.size + 1, 0, none⟩ = false ∧ W.frozen? ⟨w.heap.size + 1, 1, none⟩ = false) ∧ w.heap.size + 1 < W.heap.size ∧ Below w.heap.size w W) (k : Below (w.heap.size + 2) W W2) : (W2.cell? ⟨w.heap.size, 0, none⟩ = some l ∧ W2.cell? ⟨w.heap.size, 1, none⟩ = some h) ∧ ((W2.cell? ⟨w.heap.size + 1, 0, none⟩).isSome = true ∧ (W2.cell? ⟨w.heap.size + 1, 1, none⟩).isSome = true) ∧ (W2.frozen? ⟨w.heap.size + 1, 0, none⟩ = false ∧ W2.frozen? ⟨w.heap.size + 1, 1, none⟩ = false) ∧ w.heap.size + 1 < W2.heap.size ∧ Below w.heap.size w W2 := by
 obtain ⟨⟨h0, h1⟩, ⟨h2, h3⟩, ⟨h4, h5⟩, h6, h7⟩ := H;have a0 : w.heap.size < w.heap.size + 2 := by omega
 have a1 : w.heap.size + 1 < w.heap.size + 2 := by omega
 exact ⟨⟨by rw [k.cell (p := ⟨w.heap.size, 0, none⟩) a0]; exact h0, by rw [k.cell (p := ⟨w.heap.size, 1, none⟩) a0]; exact h1⟩, ⟨by rw [k.cell (p := ⟨w.heap.size + 1, 0, none⟩) a1]; exact h2, by rw [k.cell (p := ⟨w.heap.size + 1, 1, none⟩) a1]; exact h3⟩, ⟨by rw [k.frozen (p := ⟨w.heap.size + 1, 0, none⟩) a1]; exact h4, by rw [k.frozen (p := ⟨w.heap.size + 1, 1, none⟩) a1]; exact h5⟩, Nat.lt_of_lt_of_le h6 k.size, h7.trans (k.mono (by omega))⟩
theorem copyA {w W : World} {l h : Value} (H : (W.cell? ⟨w.heap.size, 0, none⟩ = some l ∧ W.cell? ⟨w.heap.size, 1, none⟩ = some h) ∧ ((W.cell? ⟨w.heap.size + 1, 0, none⟩).isSome = true ∧ (W.cell? ⟨w.heap.size + 1, 1, none⟩).isSome = true) ∧ (W.frozen? ⟨w.heap.size + 1, 0, none⟩ = false ∧ W.frozen? ⟨w.heap.size + 1, 1, none⟩ = false) ∧ w.heap.size + 1 < W.heap.size ∧ Below w.heap.size w W) (o : Obj) : ((W.alloc o).cell? ⟨w.heap.size, 0, none⟩ = some l ∧ (W.alloc o).cell? ⟨w.heap.size, 1, none⟩ = some h) ∧ (((W.alloc o).cell? ⟨w.heap.size + 1, 0, none⟩).isSome = true ∧ ((W.alloc o).cell? ⟨w.heap.size + 1, 1, none⟩).isSome = true) ∧ ((W.alloc o).frozen? ⟨w.heap.size + 1, 0, none⟩ = false ∧ (W.alloc o).frozen? ⟨w.heap.size + 1, 1, none⟩ = false) ∧ w.heap.size + 1 < (W.alloc o).heap.size ∧ Below w.heap.size w (W.alloc o) :=
 copyB H ((Below.refl _ _).alloc H.2.2.2.1 o)
theorem grown_below {base g : Nat} {W w2 : World} (hg : W.grownBy w2 (Value.slice (some ⟨g, 0, none⟩) 0 0).ownBlock) (h1 : base ≤ g) (h2 : base ≤ W.heap.size) : Below base W w2 :=
 (Below.refl _ _).grown hg h2 fun k hk => by
   obtain rfl : g = k := Option.some.inj hk;exact h1
theorem copyP {w W : World} {l h : Value} (H : (W.cell? ⟨w.heap.size, 0, none⟩ = some l ∧ W.cell? ⟨w.heap.size, 1, none⟩ = some h) ∧ ((W.cell? ⟨w.heap.size + 1, 0, none⟩).isSome = true ∧ (W.cell? ⟨w.heap.size + 1, 1, none⟩).isSome = true) ∧ (W.frozen? ⟨w.heap.size + 1, 0, none⟩ = false ∧ W.frozen? ⟨w.heap.size + 1, 1, none⟩ = false) ∧ w.heap.size + 1 < W.heap.size ∧ Below w.heap.size w W) (x y : Value) : (((W.setCell ⟨w.heap.size + 1, 0, none⟩ x).setCell ⟨w.heap.size + 1, 1, none⟩ y).cell? ⟨w.heap.size, 0, none⟩ = some l ∧ ((W.setCell ⟨w.heap.size + 1, 0, none⟩ x).setCell ⟨w.heap.size + 1, 1, none⟩ y).cell? ⟨w.heap.size, 1, none⟩ = some h) ∧ ((((W.setCell ⟨w.heap.size + 1, 0, none⟩ x).setCell ⟨w.heap.size + 1, 1, none⟩ y).cell? ⟨w.heap.size + 1, 0, none⟩).isSome = true ∧ (((W.setCell ⟨w.heap.size + 1, 0, none⟩ x).setCell ⟨w.heap.size + 1, 1, none⟩ y).cell? ⟨w.heap.size + 1, 1, none⟩).isSome = true) ∧ (((W.setCell ⟨w.heap.size + 1, 0, none⟩ x).setCell ⟨w.heap.size + 1, 1, none⟩ y).frozen? ⟨w.heap.size + 1, 0, none⟩ = false ∧ ((W.setCell ⟨w.heap.size + 1, 0, none⟩ x).setCell ⟨w.heap.size + 1, 1, none⟩ y).frozen? ⟨w.heap.size + 1, 1, none⟩ = false) ∧ w.heap.size + 1 < ((W.setCell ⟨w.heap.size + 1, 0, none⟩ x).setCell ⟨w.heap.size + 1, 1, none⟩ y).heap.size ∧ Below w.heap.size w ((W.setCell ⟨w.heap.size + 1, 0, none⟩ x).setCell ⟨w.heap.size + 1, 1, none⟩ y) := by
 obtain ⟨⟨h0, h1⟩, ⟨h2, h3⟩, ⟨h4, h5⟩, h6, h7⟩ := H;obtain ⟨u, hu⟩ := Option.isSome_iff_exists.1 h2;obtain ⟨v, hv⟩ := Option.isSome_iff_exists.1 h3;refine ⟨⟨?_, ?_⟩, ⟨?_, ?_⟩, ⟨by simp only [World.frozen?_setCell]; exact h4, by simp only [World.frozen?_setCell]; exact h5⟩, by simpa [World.setCell] using h6, (h7.setCell (by simp) _).setCell (by simp) _⟩
 ·rw [World.cell?_setCell_other _ _ _ _ (by simp), World.cell?_setCell_other _ _ _ _ (by simp)]; exact h0
 ·rw [World.cell?_setCell_other _ _ _ _ (by simp), World.cell?_setCell_other _ _ _ _ (by simp)]; exact h1
 ·rw [World.cell?_setCell_other _ _ _ _ (by simp), World.cell?_setCell_same _ _ _ hu]; rfl
 ·rw [World.cell?_setCell_same _ _ _ (by rw [World.cell?_setCell_other _ _ _ _ (by simp)]; exact hv)]; rfl
theorem l6Copy_any (l h : Value) (lo hi : List Int) (w : World) (Hl : IntsAt 0 w.heap.size w l lo) (Hh : IntsAt 0 w.heap.size w h hi) (n1 : lo.length ≤ 1000000) (n2 : hi.length ≤ 1000000) :
 Calls Tryz.prog 143 #[pileV l h] w (PileGot1 w.heap.size lo hi w) := by
 have HL := hide Hl;have HH := hide Hh;clear Hl Hh;obtain ⟨i0, hi0, hz0, hi1, hi2⟩ := info_parts info_int;unfold pileV;go_enter Tryz.func143, Tryz.ntmps143;go_wp2_with fail
 obtain ⟨wx, hwx⟩ : ∃ wx, wx = (w.alloc (.cells #[l, h] 29)).alloc (.cells #[.slice none 0 0, .slice none 0 0] 29) := ⟨_, rfl⟩;rw [← hwx];have A_0 : RowL wx w.heap.size 29 [l, h] := by rw [hwx]; exact (RowL.new _ _ _).alloc _
 have R_0 : RowL wx (w.heap.size + 1) 29 [.slice none 0 0, .slice none 0 0] := by rw [hwx]; simpa using RowL.new (World.alloc _ _) 29 [.slice none 0 0, .slice none 0 0]
 have B_0 : Below w.heap.size w wx := by rw [hwx]; go_grown
 clear hwx;obtain ⟨⟨s0, s1⟩, ⟨s2, s3⟩, ⟨s4, s5⟩, s6, s7⟩ : (wx.drew.cell? ⟨w.heap.size, 0, none⟩ = some l ∧ wx.drew.cell? ⟨w.heap.size, 1, none⟩ = some h) ∧ (wx.drew.cell? ⟨w.heap.size + 1, 0, none⟩ = some (.slice none 0 0) ∧ wx.drew.cell? ⟨w.heap.size + 1, 1, none⟩ = some (.slice none 0 0)) ∧ (wx.drew.frozen? ⟨w.heap.size + 1, 0, none⟩ = false ∧ wx.drew.frozen? ⟨w.heap.size + 1, 1, none⟩ = false) ∧ w.heap.size + 1 < wx.drew.heap.size ∧ Below w.heap.size w wx.drew := ⟨⟨A_0.cell 0 (by simp), A_0.cell 1 (by simp)⟩, ⟨R_0.cell 0 (by simp), R_0.cell 1 (by simp)⟩, ⟨R_0.frozen 0, R_0.frozen 1⟩, R_0.lt, B_0.drew⟩;have hwz : w.heap.size + 1 < wx.heap.size := R_0.lt;clear A_0 R_0 B_0;have hI : (wx.drew.cell? ⟨w.heap.size, 0, none⟩ = some l ∧ wx.drew.cell? ⟨w.heap.size, 1, none⟩ = some h) ∧ ((wx.drew.cell? ⟨w.heap.size + 1, 0, none⟩).isSome = true ∧ (wx.drew.cell? ⟨w.heap.size + 1, 1, none⟩).isSome = true) ∧ (wx.drew.frozen? ⟨w.heap.size + 1, 0, none⟩ = false ∧ wx.drew.frozen? ⟨w.heap.size + 1, 1, none⟩ = false) ∧ w.heap.size + 1 < wx.drew.heap.size ∧ Below w.heap.size w wx.drew := ⟨⟨s0, s1⟩, ⟨by rw [s2]; rfl, by rw [s3]; rfl⟩, ⟨s4, s5⟩, s6, s7⟩
 go_region_held_law (fun w' => (w'.cell? ⟨w.heap.size, 0, none⟩ = some l ∧ w'.cell? ⟨w.heap.size, 1, none⟩ = some h) ∧ ((w'.cell? ⟨w.heap.size + 1, 0, none⟩).isSome = true ∧ (w'.cell? ⟨w.heap.size + 1, 1, none⟩).isSome = true) ∧ (w'.frozen? ⟨w.heap.size + 1, 0, none⟩ = false ∧ w'.frozen? ⟨w.heap.size + 1, 1, none⟩ = false) ∧ w.heap.size + 1 < w'.heap.size ∧ Below w.heap.size w w') (first | exact hI | exact hS5 | exact hS6 | exact copyA (by assumption) _ | exact copyP (by assumption) _ _ | go_keep) (first | (have hS := (by assumption : (World.cell? _ _ = some l ∧ World.cell? _ _ = some h) ∧ _); refine step_append_E rfl (.tmp 3) (.tmp 5) 27 rfl (w.heap.size + 2) 3 i0 (.int .i64 0) 1 8 Tryz.underlying27 hi0 hz0 hi1 hi2 rfl (by decide) (.slice (some ⟨wx.heap.size, 0, none⟩) 0 0) 0 [] ?_ (OwnE.lit ?_ ?_) l lo.length (flatI lo) ?_ (IntsAt.source (HL.out.below hS.2.2.2.2)) (by unfold maxLen; omega) (by omega) hS.2.2.2.1 ?_; (focus (simp [Act.eval, Act.put]; done)); (focus (first | omega | (simp; omega) | fail)); (focus (first | omega | (simp; done) | (simp; omega) | fail)); (focus (simp [Act.eval, Act.put]; done)); intro v5 w5 ho5 hg5 hat5; rw [Nat.zero_add, List.nil_append] at ho5; obtain ⟨a5, c5, rfl, -, -⟩ := ho5.form; have hb5 := grown_below (base := w.heap.size + 2) hg5 (by first | omega | (simp; done) | (simp; omega)) hS.2.2.2.1; have hS5 := copyB hS hb5; have hlt5 := hS5.2.2.2.1; obtain ⟨rx5, hrx5⟩ := Option.isSome_iff_exists.1 hS5.2.1.1; obtain ⟨ry5, hry5⟩ := Option.isSome_iff_exists.1 hS5.2.1.2; have hz5 := hg5.size; (try simp at hz5); have hl5 := fun k e => (ho5.lt k e).2; skip) | (have hS := (by assumption : (World.cell? _ _ = some l ∧ World.cell? _ _ = some h) ∧ _); refine step_append_E rfl (.tmp 3) (.tmp 5) 27 rfl (w.heap.size + 2) 3 i0 (.int .i64 0) 1 8 Tryz.underlying27 hi0 hz0 hi1 hi2 rfl (by decide) (.slice (some ⟨wx.heap.size + 1, 0, none⟩) 0 0) 0 [] ?_ (OwnE.lit ?_ ?_) l lo.length (flatI lo) ?_ (IntsAt.source (HL.out.below hS.2.2.2.2)) (by unfold maxLen; omega) (by omega) hS.2.2.2.1 ?_; (focus (simp [Act.eval, Act.put]; done)); (focus (first | omega | (simp; omega) | fail)); (focus (first | omega | (simp; done) | (simp; omega) | fail)); (focus (simp [Act.eval, Act.put]; done)); intro v5 w5 ho5 hg5 hat5; rw [Nat.zero_add, List.nil_append] at ho5; obtain ⟨a5, c5, rfl, -, -⟩ := ho5.form; have hb5 := grown_below (base := w.heap.size + 2) hg5 (by first | omega | (simp; done) | (simp; omega)) hS.2.2.2.1; have hS5 := copyB hS hb5; have hlt5 := hS5.2.2.2.1; obtain ⟨rx5, hrx5⟩ := Option.isSome_iff_exists.1 hS5.2.1.1; obtain ⟨ry5, hry5⟩ := Option.isSome_iff_exists.1 hS5.2.1.2; have hz5 := hg5.size; (try simp at hz5); have hl5 := fun k e => (ho5.lt k e).2; skip) | (have hS := (by assumption : (World.cell? _ _ = some l ∧ World.cell? _ _ = some h) ∧ _); refine step_append_E rfl (.tmp 3) (.tmp 5) 27 rfl (w.heap.size + 2) 3 i0 (.int .i64 0) 1 8 Tryz.underlying27 hi0 hz0 hi1 hi2 rfl (by decide) (.slice (some ⟨w6.heap.size, 0, none⟩) 0 0) 0 [] ?_ (OwnE.lit ?_ ?_) l lo.length (flatI lo) ?_ (IntsAt.source (HL.out.below hS.2.2.2.2)) (by unfold maxLen; omega) (by omega) hS.2.2.2.1 ?_; (focus (simp [Act.eval, Act.put]; done)); (focus (first | omega | (simp; omega) | fail)); (focus (first | omega | (simp; done) | (simp; omega) | fail)); (focus (simp [Act.eval, Act.put]; done)); intro v5 w5 ho5 hg5 hat5; rw [Nat.zero_add, List.nil_append] at ho5; obtain ⟨a5, c5, rfl, -, -⟩ := ho5.form; have hb5 := grown_below (base := w.heap.size + 2) hg5 (by first | omega | (simp; done) | (simp; omega)) hS.2.2.2.1; have hS5 := copyB hS hb5; have hlt5 := hS5.2.2.2.1; obtain ⟨rx5, hrx5⟩ := Option.isSome_iff_exists.1 hS5.2.1.1; obtain ⟨ry5, hry5⟩ := Option.isSome_iff_exists.1 hS5.2.1.2; have hz5 := hg5.size; (try simp at hz5); have hl5 := fun k e => (ho5.lt k e).2; skip) | (have hS := (by assumption : (World.cell? _ _ = some l ∧ World.cell? _ _ = some h) ∧ _); refine step_append_E rfl (.tmp 7) (.tmp 9) 27 rfl (w.heap.size + 2) 3 i0 (.int .i64 0) 1 8 Tryz.underlying27 hi0 hz0 hi1 hi2 rfl (by decide) (.slice (some ⟨wx.heap.size, 0, none⟩) 0 0) 0 [] ?_ (OwnE.lit ?_ ?_) h hi.length (flatI hi) ?_ (IntsAt.source (HH.out.below hS.2.2.2.2)) (by unfold maxLen; omega) (by omega) hS.2.2.2.1 ?_; (focus (simp [Act.eval, Act.put]; done)); (focus (first | omega | (simp; omega) | fail)); (focus (first | omega | (simp; done) | (simp; omega) | fail)); (focus (simp [Act.eval, Act.put]; done)); intro v6 w6 ho6 hg6 hat6; rw [Nat.zero_add, List.nil_append] at ho6; obtain ⟨a6, c6, rfl, -, -⟩ := ho6.form; have hb6 := grown_below (base := w.heap.size + 2) hg6 (by first | omega | (simp; done) | (simp; omega)) hS.2.2.2.1; have hS6 := copyB hS hb6; have hlt6 := hS6.2.2.2.1; obtain ⟨rx6, hrx6⟩ := Option.isSome_iff_exists.1 hS6.2.1.1; obtain ⟨ry6, hry6⟩ := Option.isSome_iff_exists.1 hS6.2.1.2; have hz6 := hg6.size; (try simp at hz6); have hl6 := fun k e => (ho6.lt k e).2; skip) | (have hS := (by assumption : (World.cell? _ _ = some l ∧ World.cell? _ _ = some h) ∧ _); refine step_append_E rfl (.tmp 7) (.tmp 9) 27 rfl (w.heap.size + 2) 3 i0 (.int .i64 0) 1 8 Tryz.underlying27 hi0 hz0 hi1 hi2 rfl (by decide) (.slice (some ⟨wx.heap.size + 1, 0, none⟩) 0 0) 0 [] ?_ (OwnE.lit ?_ ?_) h hi.length (flatI hi) ?_ (IntsAt.source (HH.out.below hS.2.2.2.2)) (by unfold maxLen; omega) (by omega) hS.2.2.2.1 ?_; (focus (simp [Act.eval, Act.put]; done)); (focus (first | omega | (simp; omega) | fail)); (focus (first | omega | (simp; done) | (simp; omega) | fail)); (focus (simp [Act.eval, Act.put]; done)); intro v6 w6 ho6 hg6 hat6; rw [Nat.zero_add, List.nil_append] at ho6; obtain ⟨a6, c6, rfl, -, -⟩ := ho6.form; have hb6 := grown_below (base := w.heap.size + 2) hg6 (by first | omega | (simp; done) | (simp; omega)) hS.2.2.2.1; have hS6 := copyB hS hb6; have hlt6 := hS6.2.2.2.1; obtain ⟨rx6, hrx6⟩ := Option.isSome_iff_exists.1 hS6.2.1.1; obtain ⟨ry6, hry6⟩ := Option.isSome_iff_exists.1 hS6.2.1.2; have hz6 := hg6.size; (try simp at hz6); have hl6 := fun k e => (ho6.lt k e).2; skip) | (have hS := (by assumption : (World.cell? _ _ = some l ∧ World.cell? _ _ = some h) ∧ _); refine step_append_E rfl (.tmp 7) (.tmp 9) 27 rfl (w.heap.size + 2) 3 i0 (.int .i64 0) 1 8 Tryz.underlying27 hi0 hz0 hi1 hi2 rfl (by decide) (.slice (some ⟨w5.heap.size, 0, none⟩) 0 0) 0 [] ?_ (OwnE.lit ?_ ?_) h hi.length (flatI hi) ?_ (IntsAt.source (HH.out.below hS.2.2.2.2)) (by unfold maxLen; omega) (by omega) hS.2.2.2.1 ?_; (focus (simp [Act.eval, Act.put]; done)); (focus (first | omega | (simp; omega) | fail)); (focus (first | omega | (simp; done) | (simp; omega) | fail)); (focus (simp [Act.eval, Act.put]; done)); intro v6 w6 ho6 hg6 hat6; rw [Nat.zero_add, List.nil_append] at ho6; obtain ⟨a6, c6, rfl, -, -⟩ := ho6.form; have hb6 := grown_below (base := w.heap.size + 2) hg6 (by first | omega | (simp; done) | (simp; omega)) hS.2.2.2.1; have hS6 := copyB hS hb6; have hlt6 := hS6.2.2.2.1; obtain ⟨rx6, hrx6⟩ := Option.isSome_iff_exists.1 hS6.2.1.1; obtain ⟨ry6, hry6⟩ := Option.isSome_iff_exists.1 hS6.2.1.2; have hz6 := hg6.size; (try simp at hz6); have hl6 := fun k e => (ho6.lt k e).2; skip) | fail)
 all_goals
  first
   | (have t5 : OwnE (w.heap.size + 2) 3 1 w6 (.slice a5 lo.length c5) lo.length (flatI lo) := by
       refine OwnE.grown (by first | exact ho5 | exact ho5.alloc _ | fail) hg6 fun k e1 e2 => ?_;have q1 := hat5 k e1;have q3 := hl5 k e1;simp [Value.ownBlock] at q1 e2;omega
      have HP := hide (show PileOwn (w.heap.size + 2) w6 (.slice a5 lo.length c5) (.slice a6 hi.length c6) lo hi from ⟨hlt6, t5, ho6, fun k e1 e2 => by have q1 := hat5 k e1; have q2 := hat6 k e2; have q3 := hl5 k e1; have q4 := hl6 k e2; simp [Value.ownBlock] at q1 q2; omega⟩);have HK := hide hS6.2.2.2.2;clear ho5 ho6 hb5 hb6 hS5 hS6 hI hg5 hg6;go_wp2_with fail
      refine bodyPost_ret (by simp [results, Tryz.results143, go_sem, hrx6, hry6]; try rfl) rfl ?_;exact ⟨_, _, rfl, (HP.out.other (((Other.refl (w.heap.size + 1) (w.heap.size + 2) w6).setCell (p := ⟨w.heap.size + 1, 0, none⟩) nl (Nat.lt_succ_self _) _).setCell (p := ⟨w.heap.size + 1, 1, none⟩) nl (Nat.lt_succ_self _) _) nl).mono (Nat.le_add_right _ 2), (HK.out.setCell (by simp) _).setCell (by simp) _⟩)
   | (have t6 : OwnE (w.heap.size + 2) 3 1 w5 (.slice a6 hi.length c6) hi.length (flatI hi) := by
       refine OwnE.grown (by first | exact ho6 | exact ho6.alloc _ | fail) hg5 fun k e1 e2 => ?_;have q1 := hat6 k e1;have q3 := hl6 k e1;simp [Value.ownBlock] at q1 e2;omega
      have HP := hide (show PileOwn (w.heap.size + 2) w5 (.slice a5 lo.length c5) (.slice a6 hi.length c6) lo hi from ⟨hlt5, ho5, t6, fun k e1 e2 => by have q1 := hat5 k e1; have q2 := hat6 k e2; have q3 := hl5 k e1; have q4 := hl6 k e2; simp [Value.ownBlock] at q1 q2; omega⟩);have HK := hide hS5.2.2.2.2;clear ho5 ho6 hb5 hb6 hS5 hS6 hI hg5 hg6;go_wp2_with fail
      refine bodyPost_ret (by simp [results, Tryz.results143, go_sem, hrx5, hry5]; try rfl) rfl ?_;exact ⟨_, _, rfl, (HP.out.other (((Other.refl (w.heap.size + 1) (w.heap.size + 2) w5).setCell (p := ⟨w.heap.size + 1, 0, none⟩) nl (Nat.lt_succ_self _) _).setCell (p := ⟨w.heap.size + 1, 1, none⟩) nl (Nat.lt_succ_self _) _) nl).mono (Nat.le_add_right _ 2), (HK.out.setCell (by simp) _).setCell (by simp) _⟩)
structure Few (m : Mi) : Prop where
 p : m.pieces.length ≤ 40
 l : m.low.length ≤ 10
structure Tight (m : Mi) : Prop where
 p : m.pieces.length ≤ 30
 l : m.low.length ≤ 6
theorem Tight.few {m : Mi} (h : Tight m) : Few m := ⟨by have := h.p; omega, by have := h.l; omega⟩
structure OwnV (base T sz : Nat) (w : World) (v : Value) (n : Nat) (cs : List Value) : Prop where
 own : OwnE base T sz w v n cs
 lt : base ≤ w.heap.size
theorem OwnV.below {base T sz n : Nat} {w w' : World} {v : Value} {cs : List Value} (h : OwnV base T sz w v n cs) (k : Below w.heap.size w w') : OwnV base T sz w' v n cs :=
 ⟨h.own.below k nl, Nat.le_trans h.lt k.size⟩
theorem OwnV.other {base T sz n a z : Nat} {w w' : World} {v : Value} {cs : List Value} (h : OwnV base T sz w v n cs) (k : Other a z w w') (hd : z ≤ base) : OwnV base T sz w' v n cs :=
 ⟨h.own.other k fun g hg => by have := (h.own.lt g hg).1; omega, Nat.le_trans h.lt k.size⟩
structure MillGot (base : Nat) (w : World) (s p l h : Value) (m : Mi) : Prop where
 hb : base ≤ w.heap.size
 so : OwnE base 65 5 w s m.store.length (flatS m.store)
 po : OwnE base 73 2 w p m.pieces.length (flatP m.pieces)
 lo : OwnE base 3 1 w l m.low.length (flatI m.low)
 ho : OwnE base 3 1 w h m.high.length (flatI m.high)
 sp : Apart s p
 sl : Apart s l
 sh : Apart s h
 pl : Apart p l
 ph : Apart p h
 lh : Apart l h
theorem MillGot.at {base : Nat} {w : World} {s p l h : Value} {m : Mi} (H : MillGot base w s p l h m) : MillIn base w.heap.size w s p l h m := by
 obtain ⟨a1, z1, h1, h2, h3, h4, -⟩ := ownE_S H.so rfl H.hb;obtain ⟨a2, z2, k1, k2, k3, k4, -⟩ := ownE_P H.po rfl H.hb;exact ⟨h4.mono h1 h3 nl, k4.mono k1 k3 nl, ownE_ints H.lo rfl H.hb, ownE_ints H.ho rfl H.hb⟩
theorem MillGot.all {base : Nat} {w : World} {s p l h : Value} {m : Mi} (H : MillGot base w s p l h m) : MillIn 0 w.heap.size w s p l h m :=
 H.at.mono (Nat.zero_le _) nl nl
theorem MillGot.lt {base : Nat} {w : World} {s p l h : Value} {m : Mi} (H : MillGot base w s p l h m) : base ≤ w.heap.size := H.hb
theorem MillGot.below {base : Nat} {w w' : World} {s p l h : Value} {m : Mi} (H : MillGot base w s p l h m) (k : Below w.heap.size w w') : MillGot base w' s p l h m :=
 ⟨Nat.le_trans H.hb k.size, H.so.below k nl, H.po.below k nl, H.lo.below k nl, H.ho.below k nl, H.sp, H.sl, H.sh, H.pl, H.ph, H.lh⟩
theorem MillGot.other {base a z : Nat} {w w' : World} {s p l h : Value} {m : Mi} (H : MillGot base w s p l h m) (k : Other a z w w') (hd : z ≤ base) : MillGot base w' s p l h m := by
 have hd' : ∀ {T sz n : Nat} {v : Value} {cs : List Value}, OwnE base T sz w v n cs → ∀ g, v.ownBlock = some g → g < a ∨ z ≤ g := fun ho g hg => by
  have := (ho.lt g hg).1; omega
 exact ⟨Nat.le_trans H.hb k.size, H.so.other k (hd' H.so), H.po.other k (hd' H.po), H.lo.other k (hd' H.lo), H.ho.other k (hd' H.ho), H.sp, H.sl, H.sh, H.pl, H.ph, H.lh⟩
theorem MillGot.mono {base base' : Nat} {w : World} {s p l h : Value} {m : Mi} (H : MillGot base w s p l h m) (hb : base' ≤ base) : MillGot base' w s p l h m :=
 ⟨Nat.le_trans hb H.hb, H.so.mono hb, H.po.mono hb, H.lo.mono hb, H.ho.mono hb, H.sp, H.sl, H.sh, H.pl, H.ph, H.lh⟩
theorem MillGot.nums {base : Nat} {w : World} {s p l h : Value} {m : Mi} (H : MillGot base w s p l h m) (r : Gr) (x y : Int) : MillGot base w s p l h { m with rule := r, strand := x, scrap := y } :=
 ⟨H.hb, H.so, H.po, H.lo, H.ho, H.sp, H.sl, H.sh, H.pl, H.ph, H.lh⟩
theorem MillGot.store {base B : Nat} {w w' : World} {s s' p l h : Value} {m : Mi} {xs : List St} (H : MillGot base w s p l h m) (k : Below w.heap.size w w') (hB : w.heap.size ≤ B) (n : OwnE B 65 5 w' s' xs.length (flatS xs)) (y : Int) :
 MillGot base w' s' p l h { m with store := xs, strand := y } :=
 ⟨Nat.le_trans H.hb k.size, n.mono (Nat.le_trans H.hb hB), H.po.below k nl, H.lo.below k nl, H.ho.below k nl, (H.po.apart n hB).symm, (H.lo.apart n hB).symm, (H.ho.apart n hB).symm, H.pl, H.ph, H.lh⟩
theorem MillGot.yard {base B : Nat} {w w' : World} {s p l h l' h' : Value} {m : Mi} {xs ys : List Int} (H : MillGot base w s p l h m) (k : Below w.heap.size w w') (hB : w.heap.size ≤ B) (q : PileOwn B w' l' h' xs ys) :
 MillGot base w' s p l' h' { m with low := xs, high := ys } :=
 ⟨Nat.le_trans H.hb k.size, H.so.below k nl, H.po.below k nl, q.lo.mono (Nat.le_trans H.hb hB), q.ho.mono (Nat.le_trans H.hb hB), H.sp, H.so.apart q.lo hB, H.so.apart q.ho hB, H.po.apart q.lo hB, H.po.apart q.ho hB, q.ap⟩
def CopyGot (base : Nat) (m : Mi) (w : World) (e : Ending) (w' : World) : Prop := ∃ s p l h, e = .returned (millV s p l h m) ∧ MillGot base w' s p l h m ∧ Below base w w'
def DoGot (base : Nat) (x : Mi × Bool) (w : World) (e : Ending) (w' : World) : Prop := ∃ s p l h, e = .returned (.tuple #[millV s p l h x.1, .bool x.2]) ∧ MillGot base w' s p l h x.1 ∧ Below base w w'
theorem got_put {base b a z : Nat} {w wk W : World} {s p l h : Value} {m : Mi} (H : MillGot b wk s p l h m) (hB : Below base w wk) (T : Other a z wk W) (h1 : z ≤ b) (h2 : base ≤ a) (h3 : base ≤ b) (h4 : base ≤ w.heap.size) : MillGot base W s p l h m ∧ Below base w W :=
 ⟨(H.other T h1).mono h3, hB.trans (T.below (B := base) h2 (by have := hB.size; omega))⟩
theorem millGot_zero {base : Nat} {w : World} (h : base ≤ w.heap.size) (z : Mi) (h1 : z.store = []) (h2 : z.pieces = []) (h3 : z.low = []) (h4 : z.high = []) : MillGot base w (.slice none 0 0) (.slice none 0 0) (.slice none 0 0) (.slice none 0 0) z := by
 refine ⟨h, ?_, ?_, ?_, ?_, apart_nil _ _, apart_nil _ _, apart_nil _ _, apart_nil _ _, apart_nil _ _, apart_nil _ _⟩
 ·rw [h1]; exact OwnE.own (World.ownsRow_nil _ _ _ _)
 ·rw [h2]; exact OwnE.own (World.ownsRow_nil _ _ _ _)
 ·rw [h3]; exact OwnE.own (World.ownsRow_nil _ _ _ _)
 ·rw [h4]; exact OwnE.own (World.ownsRow_nil _ _ _ _)
def eightL : List Int := [0, 1, 1, 2, 2, 2, 3, 4]
theorem eight_cell (w : World) (j : Nat) (z : Int) (h : eightL[j]? = some z) : (w.alloc (.cells #[.int .i64 0, .int .i64 1, .int .i64 1, .int .i64 2, .int .i64 2, .int .i64 2, .int .i64 3, .int .i64 4] 3)).cell? ⟨w.heap.size, j, none⟩ = some (.int .i64 z) := by
 have := lit_cells w (flatI eightL) 3 j (.int .i64 z) (by simp [flatI, h]);rw [adds] at this;exact this
def LitAt (W : World) (b : Nat) : Prop := b < W.heap.size ∧ ∀ (j : Nat) (z : Int), eightL[j]? = some z → W.cell? ⟨b, j, none⟩ = some (.int .i64 z)
theorem LitAt.new (W : World) : LitAt (W.alloc (.cells #[.int .i64 0, .int .i64 1, .int .i64 1, .int .i64 2, .int .i64 2, .int .i64 2, .int .i64 3, .int .i64 4] 3)) W.heap.size := ⟨by simp, fun j z h => eight_cell W j z h⟩
theorem LitAt.below {W W' : World} {b : Nat} (h : LitAt W b) (k : Below W.heap.size W W') : LitAt W' b := ⟨Nat.lt_of_lt_of_le h.1 k.size, fun j z hz => by rw [k.cell (p := ⟨b, j, none⟩) h.1]; exact h.2 j z hz⟩
theorem LitAt.other {R : Nat} {W W' : World} {b : Nat} (h : LitAt W b) (k : Other R (R + 1) W W') (hb : b ≠ R) : LitAt W' b := ⟨Nat.lt_of_lt_of_le h.1 k.size, fun j z hz => by rw [World.cell?_of_block (k.block b h.1 (by omega))]; exact h.2 j z hz⟩
theorem LitAt.alloc {W : World} {b : Nat} (h : LitAt W b) (o : Obj) : LitAt (W.alloc o) b := h.below ((Below.refl _ _).alloc nl o)
theorem LitAt.drew {W : World} {b : Nat} (h : LitAt W b) : LitAt W.drew b := h
structure OnWay (R k : Nat) (w W : World) : Prop where
 o : Other R (R + 1) w W
 r : Rd R k W
theorem OnWay.alloc {R k : Nat} {w W : World} (h : OnWay R k w W) (x : Obj) : OnWay R k w (W.alloc x) :=
 ⟨h.o.step ((Below.refl _ _).alloc nl x) h.o.size, h.r.keep ((Below.refl _ _).alloc nl x) h.r.lt⟩
theorem OnWay.drew {R k : Nat} {w W : World} (h : OnWay R k w W) : OnWay R k w W.drew :=
 ⟨h.o.step ((Below.refl W.heap.size W).drew) h.o.size, h.r.keep ((Below.refl W.heap.size W).drew) h.r.lt⟩
theorem OnWay.put {R k : Nat} {w W : World} (h : OnWay R k w W) {b : Nat} (i : Nat) (x : Value) (hb : w.heap.size ≤ b) (hR : R < w.heap.size) : OnWay R k w (W.setCell ⟨b, i, none⟩ x) :=
 ⟨h.o.step (B := w.heap.size) ((Below.refl _ _).setCell (p := ⟨b, i, none⟩) hb _) nl, h.r.keep (B := w.heap.size) ((Below.refl _ _).setCell (p := ⟨b, i, none⟩) hb _) hR⟩
def BestGot (base : Nat) (r : Option (List Int)) (w : World) (e : Ending) (w' : World) : Prop :=
 ∃ ao n cap, e = .returned (.tuple #[.slice ao n cap, .bool r.isSome]) ∧ (∀ mix, r = some mix → IntsAt base w'.heap.size w' (.slice ao n cap) mix) ∧ Below base w w'
theorem best_no1 {sts : List St} {g : Gr} {t : Int} (h : stsB sts = false) : mixBest sts g t = none := by simp [mixBest, h]
theorem best_no2 {sts : List St} {g : Gr} {t : Int} (h : grB g = false) : mixBest sts g t = none := by simp [mixBest, h]
theorem best_no3 {sts : List St} {g : Gr} {t : Int} (h : wi t 1 12 = false) : mixBest sts g t = none := by simp [mixBest, h]
theorem best_yes {sts : List St} {g : Gr} {t : Int} (h1 : stsB sts = true) (h2 : grB g = true) (h3 : wi t 1 12 = true) : mixBest sts g t = (foldM sts g none (withP [] (allM (stocks sts 0) t))).map (·.1) := by
 simp [mixBest, h1, h2, h3, withP_none, stocks_zero]
end Go.Proofs.YtmemgbklgcjobaaGreatDoor
