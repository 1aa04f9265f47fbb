/-
  Parts of the proofs over mills, of: Base, PlainCut, PlainMill, MillV, DeedOwn, PlainAll, Shelf, CoilA, CoilB, Copy, PlainLaw, Has, Meth, CoilD, CoilOn, PlainCut2, MethC, TextA. Conditions: each theorem states its own.
-/
import Derived.Test.YtmemgbklgcjobaaGreatDoorY14
import Derived.Test.YtmemgbklgcjobaaGreatDoorY19
set_option linter.unusedSimpArgs false
set_option linter.unusedVariables false
set_option maxRecDepth 10000
set_option maxHeartbeats 64000000
namespace Go.Proofs.YtmemgbklgcjobaaGreatDoor
open Go.RowKit
theorem rowIs_madeN (w : World) (z : Array Value) (n : Nat) (t : TypeId) : ∃ f, (w.alloc (.cells (madeCells z n) t)).rowIs w.heap.size t n f := by
 refine ⟨fun i => (madeCells z n)[i]?.getD default, ?_⟩;have h := World.rowIs_alloc w (madeCells z n) t (fun i => (madeCells z n)[i]?.getD default) (fun i hi => by simp [hi])
 rwa [size_madeCells] at h
theorem tab_le (a b : Int) {n m k : Nat} (h : k < n) (hm : n ≤ m) : (tab a b m).getD k 0 = (tab a b n).getD k 0 := by
 induction hm with
 | refl => rfl
 | step hm ih => rw [tab_old a b (Nat.lt_of_lt_of_le h hm), ih]
theorem do_no {m x : Mi} {d : J} (hv : MillV m) (h : doR m d = (x, false)) : x = m := by
 unfold doR at h;rw [if_pos (millB_iff.2 hv)] at h;split at h
 ·simp at h; exact h.symm
 ·simp at h
theorem do_v {m : Mi} (d : J) (hv : MillV m) : MillV (doR m d).1 ∧ massI (doR m d).1 = massI m ∧ (doR m d).1.rule = m.rule := by
 rcases h : doR m d with ⟨x, b⟩;cases b
 ·have := do_no hv h
  subst this;exact ⟨hv, rfl, rfl⟩
 ·have := do_ok hv h
  exact ⟨this.v, this.mass, this.rule⟩
def runTo (m : Mi) (l : List J) : Mi × Int := l.foldl runS (m, 0)
def runR (m : Mi) (l : List J) : Mi × Int := if millB m && decide (l.length ≤ 99) then runTo m l else (mi0, 0)
theorem runS_eq {s : Mi × Int} (hv : MillV s.1) (d : J) : (runS s d).1 = (doR s.1 d).1 := by
 unfold runS;split
 ·rfl
 ·rename_i h
  exact (do_no hv (x := (doR s.1 d).1) (by rcases hd : doR s.1 d with ⟨x, b⟩; cases b <;> simp_all)).symm
theorem runS_v {s : Mi × Int} (hv : MillV s.1) (d : J) : MillV (runS s d).1 ∧ massI (runS s d).1 = massI s.1 ∧ (runS s d).1.rule = s.1.rule := by
 rw [runS_eq hv]; exact do_v d hv
theorem run_v : ∀ (l : List J) (s : Mi × Int), MillV s.1 → MillV (l.foldl runS s).1 ∧ massI (l.foldl runS s).1 = massI s.1 ∧ (l.foldl runS s).1.rule = s.1.rule
 | [], s, h => ⟨h, rfl, rfl⟩
 | d :: l, s, h => by
  obtain ⟨h1, h2, h3⟩ := runS_v h d;obtain ⟨k1, k2, k3⟩ := run_v l (runS s d) h1;rw [List.foldl_cons];exact ⟨k1, k2.trans h2, k3.trans h3⟩
theorem run_bd : ∀ (l : List J) (s : Mi × Int), s.2 ≤ (l.foldl runS s).2 ∧ (l.foldl runS s).2 ≤ s.2 + l.length
 | [], s => by simp
 | d :: l, s => by
  have h := run_bd l (runS s d);have : s.2 ≤ (runS s d).2 ∧ (runS s d).2 ≤ s.2 + 1 := by unfold runS; split <;> simp <;> omega
  rw [List.foldl_cons, List.length_cons]; omega
theorem rowIs_put5 {w : World} {g T n : Nat} {f : Nat → Value} (h : w.rowIs g T n f) (a : Nat) (x0 x1 x2 x3 x4 : Value) :
 ∃ f', (((((w.setCell ⟨g, a, none⟩ x0).setCell ⟨g, a + 1, none⟩ x1).setCell ⟨g, a + 2, none⟩ x2).setCell ⟨g, a + 3, none⟩ x3).setCell ⟨g, a + 4, none⟩ x4).rowIs g T n f' ∧ f' (a) = x0 ∧ f' (a + 1) = x1 ∧ f' (a + 2) = x2 ∧ f' (a + 3) = x3 ∧ f' (a + 4) = x4 ∧ ∀ i, i ≠ a → i ≠ a + 1 → i ≠ a + 2 → i ≠ a + 3 → i ≠ a + 4 → f' i = f i := by
 refine ⟨_, (((((h.set (a) x0).set (a + 1) x1).set (a + 2) x2).set (a + 3) x3).set (a + 4) x4), ?_, ?_, ?_, ?_, ?_, fun i h0 h1 h2 h3 h4 => ?_⟩
 ·simp
 ·simp
 ·simp
 ·simp
 ·simp
 ·simp [h0, h1, h2, h3, h4]
def dL (x : J) : List Value := [.int .i64 x.s, .int .i64 x.d, .int .i64 x.g]
def flatD (xs : List J) : List Value := xs.flatMap dL
theorem flatD_append (a b : List J) : flatD (a ++ b) = flatD a ++ flatD b := by simp [flatD]
theorem flatD_at : ∀ (xs : List J) (i : Nat) (h : i < xs.length), (flatD xs)[i * 3]? = some (.int .i64 xs[i].s) ∧ (flatD xs)[i * 3 + 1]? = some (.int .i64 xs[i].d) ∧ (flatD xs)[i * 3 + 2]? = some (.int .i64 xs[i].g)
 | x :: xs, 0, _ => ⟨rfl, rfl, rfl⟩
 | x :: xs, i + 1, h => by
  have := flatD_at xs i (by simpa using h);have e : flatD (x :: xs) = dL x ++ flatD xs := rfl;rw [e, show (i + 1) * 3 = i * 3 + 3 by omega, show i * 3 + 3 + 1 = i * 3 + 1 + 3 by omega, show i * 3 + 3 + 2 = i * 3 + 2 + 3 by omega];rw [List.getElem?_append_right (by simp [dL]), List.getElem?_append_right (by simp [dL]), List.getElem?_append_right (by simp [dL])];simpa [dL] using this
theorem ownD_at1 {w : World} {base n g cap : Nat} {xs : List J} (h : w.ownsRow base 48 3 (.slice (some ⟨g, 0, none⟩) n cap) n (flatD xs)) (hn : n = xs.length) : base ≤ g ∧ g < w.heap.size ∧ JobsAt g (g + 1) w (.slice (some ⟨g, 0, none⟩) n cap) xs := by
 subst hn;have hlt := h.lt g rfl;obtain ⟨ao, cap', e, h1, h2⟩ := own_slice h;simp only [Value.slice.injEq] at e;obtain ⟨-, -, rfl⟩ := e;refine ⟨hlt.1, hlt.2, some ⟨g, 0, none⟩, cap, rfl, h1, h2, hlt.2, fun _ => ⟨g, 0, rfl, Nat.le_refl _, Nat.lt_succ_self _, fun i hi => ?_⟩⟩;obtain ⟨f0, f1, f2⟩ := flatD_at xs i hi;have c := h.cells rfl;simp only [Nat.zero_add];refine ⟨⟨by have := c _ _ f0; rw [adds] at this; exact this, by have := c _ _ f1; rw [adds] at this; exact this, by have := c _ _ f2; rw [adds] at this; exact this⟩, h.frozenAt _, h.frozenAt _, h.frozenAt _⟩
theorem ownD_one {w : World} {base n : Nat} {v : Value} {xs : List J} (h : w.ownsRow base 48 3 v n (flatD xs)) (hn : n = xs.length) (hb : base ≤ w.heap.size) :
 ∃ a z, base ≤ a ∧ a ≤ z ∧ z ≤ w.heap.size ∧ JobsAt a z w v xs ∧ ∀ k, a ≤ k → k < z → v.ownBlock = some k := by
 rcases id h.2 with ⟨rfl, h0⟩ | ⟨g, cap, cur, rfl, -, -, -, -, -, -⟩
 ·have : xs = [] := List.eq_nil_of_length_eq_zero (by omega)
  subst this;exact ⟨base, base, Nat.le_refl _, Nat.le_refl _, hb, JobsAt.nil _ _ _ _ _ (by omega) hb, fun k h1 h2 => by omega⟩
 ·obtain ⟨h1, h2, h3⟩ := ownD_at1 h hn
  exact ⟨g, g + 1, h1, by omega, h2, h3, fun k k1 k2 => by show some g = some k; rw [show g = k by omega]⟩
theorem ownD_at {w : World} {base n : Nat} {v : Value} {xs : List J} (h : w.ownsRow base 48 3 v n (flatD xs)) (hn : n = xs.length) (hb : base ≤ w.heap.size) : JobsAt base w.heap.size w v xs := by
 obtain ⟨a, z, h1, h2, h3, h4, -⟩ := ownD_one h hn hb;exact h4.mono h1 h3 nl
theorem ownsRow_apart {w w' : World} {u v : Value} {base T sz n : Nat} {cs : List Value} (h : w.ownsRow base T sz v n cs) (hg : w.grownBy w' u.ownBlock) (ha : Apart u v) : w'.ownsRow base T sz v n cs :=
 ownsRow_grown h hg fun k hk e => ha k e.symm hk
theorem foldM_nil (sts : List St) (g : Gr) (b : Option (List Int × Int)) : foldM sts g b [] = b := rfl
theorem foldM_one (sts : List St) (g : Gr) (b : Option (List Int × Int)) (x : List Int) : foldM sts g b [x] = stepM sts g b x := rfl
end Go.Proofs.YtmemgbklgcjobaaGreatDoor
namespace Go.Proofs
open Go.Shelf
def Tryz.lays108_ren : Go.Shelf.Ren := ⟨fun | 108 => 185 | n => n, fun | 28 => 27 | 3 => 3 | 0 => 0 | 4 => 4 | n => n, fun | n => n⟩
theorem Tryz.lays108 : Go.Proofs.Lays.n108 Tryz.prog Tryz.lays108_ren := {
 mixed := by kernel_rfl
 f108 := Tryz.func185.trans (congrArg some (by kernel_rfl))
 t0 := Tryz.underlying0
 a0 := Tryz.isAgg0
 z0 := Tryz.sizeOf0
 v0 := Tryz.zeroValue0
 t3 := Tryz.underlying3
 a3 := Tryz.isAgg3
 z3 := Tryz.sizeOf3
 v3 := Tryz.zeroValue3
 t4 := Tryz.underlying4
 a4 := Tryz.isAgg4
 z4 := Tryz.sizeOf4
 v4 := Tryz.zeroValue4
 t28 := Tryz.underlying27
 a28 := Tryz.isAgg27
 z28 := Tryz.sizeOf27
 v28 := Tryz.zeroValue27 }
open Go.Lib in
theorem Tryz.slices_Index_int (b off n c : Nat) (zs : List Int) (x : Int) (w : World) (hz : n ≤ zs.length) (hbig : n ≤ 9223372036854775807) (hc : ∀ j, j < zs.length → w.cell? ⟨b, off + j, none⟩ = some (.int .i64 (zs.getD j 0))) :
 Calls Tryz.prog 185 #[.slice (some ⟨b, off, none⟩) n c, .int .i64 x] w fun e w' => e = .returned (.int .i64 (Lib.idxOf (zs.take n) x)) ∧ w' = w := Any.slices_Index_int Tryz.lays108 b off n c zs x w hz hbig hc
open Go.Lib in
theorem Tryz.slices_Index_int_empty (a : Option Addr) (c : Nat) (x : Int) (w : World) :
 Calls Tryz.prog 185 #[.slice a 0 c, .int .i64 x] w fun e w' => e = .returned (.int .i64 (Lib.idxOf [] x)) ∧ w' = w := Any.slices_Index_int_empty Tryz.lays108 a c x w
end Go.Proofs
namespace Go.Proofs.YtmemgbklgcjobaaGreatDoor
open Go.RowKit
theorem calls_val {P : Program} {f : FuncId} {args : Array Value} {W : World} {v v2 : Value} (h : Calls P f args W fun e w2 => e = .returned v ∧ Below W.heap.size W w2) (e : v = v2) : Calls P f args W fun e w2 => e = .returned v2 ∧ Below W.heap.size W w2 := e ▸ h
theorem held4 {P : Program} {f : FuncId} {args : Array Value} {r : Value} (hc : ∀ w, Calls P f args w fun e w2 => e = .returned r ∧ Below w.heap.size w w2) {w0 W : World} {B : Nat} {u v x y : Value}
 (h0 : W.cell? ⟨B, 0, none⟩ = some u) (h1 : W.cell? ⟨B, 1, none⟩ = some v) (g0 : W.cell? ⟨B + 1, 0, none⟩ = some x) (g1 : W.cell? ⟨B + 1, 1, none⟩ = some y) (h2 : B + 1 < W.heap.size) (h3 : Below w0.heap.size w0 W) :
 Calls P f args W fun e w2 => e = .returned r ∧ (w2.cell? ⟨B, 0, none⟩ = some u ∧ w2.cell? ⟨B, 1, none⟩ = some v) ∧ (w2.cell? ⟨B + 1, 0, none⟩ = some x ∧ w2.cell? ⟨B + 1, 1, none⟩ = some y) ∧ B + 1 < w2.heap.size ∧ Below w0.heap.size w0 w2 :=
 (hc W).mono fun e w2 ⟨he, hb⟩ => ⟨he, ⟨by rw [hb.cell (Nat.lt_of_succ_lt h2)]; exact h0, by rw [hb.cell (Nat.lt_of_succ_lt h2)]; exact h1⟩, ⟨by rw [hb.cell h2]; exact g0, by rw [hb.cell h2]; exact g1⟩, Nat.lt_of_lt_of_le h2 hb.size, Below.step h3 hb nl⟩
theorem held5 {P : Program} {f : FuncId} {args : Array Value} {r : Value} (hc : ∀ w, Calls P f args w fun e w2 => e = .returned r ∧ Below w.heap.size w w2) {w0 W : World} {B b o : Nat} {u v x y z : Value}
 (h0 : W.cell? ⟨B, 0, none⟩ = some u) (h1 : W.cell? ⟨B, 1, none⟩ = some v) (g0 : W.cell? ⟨B + 1, 0, none⟩ = some x) (g1 : W.cell? ⟨B + 1, 1, none⟩ = some y) (h2 : B + 1 < W.heap.size) (h3 : Below w0.heap.size w0 W) (h4 : b < B) (h5 : W.cell? ⟨b, o, none⟩ = some z) :
 Calls P f args W fun e w2 => e = .returned r ∧ (w2.cell? ⟨B, 0, none⟩ = some u ∧ w2.cell? ⟨B, 1, none⟩ = some v) ∧ (w2.cell? ⟨B + 1, 0, none⟩ = some x ∧ w2.cell? ⟨B + 1, 1, none⟩ = some y) ∧ B + 1 < w2.heap.size ∧ Below w0.heap.size w0 w2 ∧ w2.cell? ⟨b, o, none⟩ = some z :=
 (hc W).mono fun e w2 ⟨he, hb⟩ => ⟨he, ⟨by rw [hb.cell (Nat.lt_of_succ_lt h2)]; exact h0, by rw [hb.cell (Nat.lt_of_succ_lt h2)]; exact h1⟩, ⟨by rw [hb.cell h2]; exact g0, by rw [hb.cell h2]; exact g1⟩, Nat.lt_of_lt_of_le h2 hb.size, Below.step h3 hb nl, by rw [hb.cell (p := ⟨b, o, none⟩) (Nat.lt_trans h4 (Nat.lt_of_succ_lt h2))]; exact h5⟩
theorem row_any (l h : Value) (t : Bool) (p : Int) (w : World) :
 Calls Tryz.prog 201 #[pileV l h, .agg #[.bool t, .int .i64 p]] w fun e w' => e = .returned (rowV t l h) ∧ Below w.heap.size w w' := by
 unfold pileV;cases t;all_goals
  go_enter Tryz.func201, Tryz.ntmps201;go_wp2_with fail
  go_ret;exact ⟨rfl, by go_grown⟩
theorem spotIn_any (l h : Value) (lo hi : List Int) (t : Bool) (p : Int) (w : World) (Hl : IntsAt 0 w.heap.size w l lo) (Hh : IntsAt 0 w.heap.size w h hi) :
 Calls Tryz.prog 233 #[pileV l h, .agg #[.bool t, .int .i64 p]] w fun e w' => e = .returned (.bool (wi p 0 ((rowR t lo hi).length - 1))) ∧ Below w.heap.size w w' := by
 obtain ⟨ao, cap, er⟩ := ints_form (ints_row Hl Hh t);have HER := hide er;have hln := (ints_row Hl Hh t).len;clear er;have HL := hide Hl;have HH := hide Hh;have hr := row_any l h t p;obtain ⟨n, hn⟩ : ∃ n, (rowR t lo hi).length = n := ⟨_, rfl⟩;rw [hn] at HER hln ⊢;clear hn;clear Hl Hh;unfold pileV;unfold pileV at hr;have HR := hide (fun W => calls_val (hr W) HER.out);clear hr HER;go_enter Tryz.func233, Tryz.ntmps233;go_wp2_with fail
 obtain ⟨wx, hwx⟩ : ∃ wx, wx = (w.alloc (.cells #[l, h] 29)).alloc (.cells #[.bool t, .int .i64 p] 128) := ⟨_, rfl⟩;rw [← hwx];have A_0 : RowL wx (w.heap.size) 29 [l, h] := by rw [hwx]; exact ((RowL.new _ _ _).alloc _)
 have S_0 : RowL wx (w.heap.size + 1) 128 [.bool t, .int .i64 p] := by rw [hwx]; simpa using (RowL.new (World.alloc _ _) 128 [.bool t, .int .i64 p])
 have B_0 : Below w.heap.size w wx := by rw [hwx]; go_grown
 clear hwx;have hL0 := S_0.lt;have VL_0 := hide (HL.out.below B_0);have VH_0 := hide (HH.out.below B_0);have cA0 := A_0.c 0 rfl;have cA1 := A_0.c 1 rfl;have cS0 := S_0.c 0 rfl;have cS1 := S_0.c 1 rfl;have hw : IntKind.i64.wrap ((n : Int) - 1) = (n : Int) - 1 := IntWalk.i64_in _ (by omega);have hd : (wx.drew.cell? ⟨w.heap.size, 0, none⟩ = some l ∧ wx.drew.cell? ⟨w.heap.size, 1, none⟩ = some h) ∧ (wx.drew.cell? ⟨w.heap.size + 1, 0, none⟩ = some (.bool t) ∧ wx.drew.cell? ⟨w.heap.size + 1, 1, none⟩ = some (.int .i64 p)) ∧ w.heap.size + 1 < wx.drew.heap.size ∧ Below w.heap.size w wx.drew := ⟨⟨cA0, cA1⟩, ⟨cS0, cS1⟩, hL0, B_0.drew⟩;obtain ⟨⟨hd0, hd1⟩, ⟨hd2, hd3⟩, hd4, hd5⟩ := hd;clear hL0 B_0 cA0 cA1 cS0 cS1
 go_region_held (fun w' => (w'.cell? ⟨w.heap.size, 0, none⟩ = some l ∧ w'.cell? ⟨w.heap.size, 1, none⟩ = some h) ∧ (w'.cell? ⟨w.heap.size + 1, 0, none⟩ = some (.bool t) ∧ w'.cell? ⟨w.heap.size + 1, 1, none⟩ = some (.int .i64 p)) ∧ w.heap.size + 1 < w'.heap.size ∧ Below w.heap.size w w') (exact ⟨⟨by assumption, by assumption⟩, ⟨by assumption, by assumption⟩, by assumption, by assumption⟩) (first | (go_at_call 201; refine (held4 (w0 := w) (B := w.heap.size) (u := l) (v := h) (x := .bool t) (y := .int .i64 p) HR.out (by assumption) (by assumption) (by assumption) (by assumption) (by assumption) (by assumption)).mono ?_; rintro e w9 ⟨rfl, ⟨k0, k1⟩, ⟨k2, k3⟩, k4, k5⟩) | (go_at_call 79; refine (within_any _ _ _ _).mono ?_; rintro e wq ⟨rfl, rfl⟩))
 all_goals
  have HB9 := hide k5;clear k5;go_wp2_with fail
  go_ret;exact ⟨rfl, HB9.out⟩
theorem at_impl (l h : Value) (lo hi : List Int) (t : Bool) (p : Int) (w : World) (Hl : IntsAt 0 w.heap.size w l lo) (Hh : IntsAt 0 w.heap.size w h hi) :
 Calls Tryz.prog 200 #[pileV l h, .agg #[.bool t, .int .i64 p]] w fun e w' => e = .returned (.int .i64 (atR lo hi t p)) ∧ Below w.heap.size w w' := by
 have HL := hide Hl;have HH := hide Hh;have hr := row_any l h t p;have hp := fun W => pile_impl l h lo hi W;have hq := fun W => spotIn_any l h lo hi t p W;clear Hl Hh;unfold pileV;unfold pileV at hr hp hq;have HR := hide hr;have HP := hide hp;have HQ := hide hq;clear hr hp hq;go_enter Tryz.func200, Tryz.ntmps200;go_wp2_with fail
 refine calls_at fun wx hwx => ?_;have A_0 : RowL wx (w.heap.size) 29 [l, h] := by rw [hwx]; exact ((RowL.new _ _ _).alloc _)
 have S_0 : RowL wx (w.heap.size + 1) 128 [.bool t, .int .i64 p] := by rw [hwx]; simpa using (RowL.new (World.alloc _ _) 128 [.bool t, .int .i64 p])
 have B_0 : Below w.heap.size w wx := by rw [hwx]; go_grown
 clear hwx;have hL0 := S_0.lt;have VL_0 := hide (HL.out.below B_0);have VH_0 := hide (HH.out.below B_0);have k_c1 := HP.out wx ((VL_0.out).mono nl (VL_0.out).lt nl) ((VH_0.out).mono nl (VH_0.out).lt nl);cases c1 : pileB lo hi with
 | false =>
  rw [c1] at k_c1;have Hc1 := hide (show atR lo hi t p = -1 from at_bad c1);clear c1;refine (k_c1).mono ?_;rintro e w1 ⟨rfl, hb⟩;have A_1 := A_0.below hb A_0.lt;have S_1 := S_0.below hb S_0.lt;have VL_1 := hide (VL_0.out.below hb);have VH_1 := hide (VH_0.out.below hb);have B_1 := hide (Below.step B_0 hb nl);have hz1 := hb.size;clear hb;clear k_c1;go_wp2_with fail
  go_ret;exact ⟨by rw [Hc1.out]; rfl, B_1.out⟩
 | true =>
  rw [c1] at k_c1;have Kc1 := hide c1;clear c1;refine (k_c1).mono ?_;rintro e w1 ⟨rfl, hb⟩;have A_1 := A_0.below hb A_0.lt;have S_1 := S_0.below hb S_0.lt;have VL_1 := hide (VL_0.out.below hb);have VH_1 := hide (VH_0.out.below hb);have B_1 := hide (Below.step B_0 hb nl);have hz1 := hb.size;clear hb;have cA0 := A_1.c 0 rfl;have cA1 := A_1.c 1 rfl;have cS0 := S_1.c 0 rfl;have cS1 := S_1.c 1 rfl;clear k_c1;go_wp2_with fail
  have k_c2 := HQ.out w1 ((VL_1.out).mono nl (VL_1.out).lt nl) ((VH_1.out).mono nl (VH_1.out).lt nl);cases c2 : wi p 0 ((rowR t lo hi).length - 1) with
  | false =>
   rw [c2] at k_c2;have Hc2 := hide (show atR lo hi t p = -1 from at_out c2);clear c2;refine (k_c2).mono ?_;rintro e w2 ⟨rfl, hb⟩;have A_2 := A_1.below hb A_1.lt;have S_2 := S_1.below hb S_1.lt;have VL_2 := hide (VL_1.out.below hb);have VH_2 := hide (VH_1.out.below hb);have B_2 := hide (Below.step B_1.out hb nl);have hz2 := hb.size;clear hb;clear k_c2;go_wp2_with fail
   go_ret;exact ⟨by rw [Hc2.out]; rfl, B_2.out⟩
  | true =>
   rw [c2] at k_c2;have Kc2 := hide c2;clear c2;refine (k_c2).mono ?_;rintro e w2 ⟨rfl, hb⟩;have A_2 := A_1.below hb A_1.lt;have S_2 := S_1.below hb S_1.lt;have VL_2 := hide (VL_1.out.below hb);have VH_2 := hide (VH_1.out.below hb);have B_2 := hide (Below.step B_1.out hb nl);have hz2 := hb.size;clear hb;have cA0 := A_2.c 0 rfl;have cA1 := A_2.c 1 rfl;have cS0 := S_2.c 0 rfl;have cS1 := S_2.c 1 rfl;clear k_c2;go_wp2_with fail
   have hw := wi_iff.1 Kc2.out;obtain ⟨j, rfl⟩ : ∃ j : Nat, p = j := ⟨p.toNat, by omega⟩;have HA := hide (at_in Kc1.out Kc2.out);rw [Int.toNat_natCast] at HA;have HV := hide (ints_row VL_2.out VH_2.out t);have hjl : j < (rowR t lo hi).length := by omega
   obtain ⟨b, o, cap, er, -, hbz, r1, -⟩ := ints_at HV.out hjl;obtain ⟨n, hn⟩ : ∃ n, (rowR t lo hi).length = n := ⟨_, rfl⟩;rw [hn] at er hjl hw;have HR2 := hide (fun W => calls_val (HR.out W) er);have hjI : (j : Int) < (n : Int) := by omega
   obtain ⟨x, hx⟩ : ∃ x, (rowR t lo hi).getD j 0 = x := ⟨_, rfl⟩;rw [hx] at r1 HA;have HX := hide r1;clear hn er hw hx r1;have hd : (w2.drew.cell? ⟨w.heap.size, 0, none⟩ = some l ∧ w2.drew.cell? ⟨w.heap.size, 1, none⟩ = some h) ∧ (w2.drew.cell? ⟨w.heap.size + 1, 0, none⟩ = some (.bool t) ∧ w2.drew.cell? ⟨w.heap.size + 1, 1, none⟩ = some (.int .i64 (j : Int))) ∧ w.heap.size + 1 < w2.drew.heap.size ∧ Below w.heap.size w w2.drew ∧ w2.drew.cell? ⟨b, o + j, none⟩ = some (.int .i64 x) := ⟨⟨cA0, cA1⟩, ⟨cS0, cS1⟩, S_2.lt, (B_2.out).drew, HX.out⟩;have hbz2 : b < w.heap.size := hbz;obtain ⟨⟨hd0, hd1⟩, ⟨hd2, hd3⟩, hd4, hd5, hd6⟩ := hd;clear cA0 cA1 cS0 cS1
   go_region_held (fun w' => (w'.cell? ⟨w.heap.size, 0, none⟩ = some l ∧ w'.cell? ⟨w.heap.size, 1, none⟩ = some h) ∧ (w'.cell? ⟨w.heap.size + 1, 0, none⟩ = some (.bool t) ∧ w'.cell? ⟨w.heap.size + 1, 1, none⟩ = some (.int .i64 (j : Int))) ∧ w.heap.size + 1 < w'.heap.size ∧ Below w.heap.size w w' ∧ w'.cell? ⟨b, o + j, none⟩ = some (.int .i64 x)) (exact ⟨⟨by assumption, by assumption⟩, ⟨by assumption, by assumption⟩, by assumption, by assumption, by assumption⟩) (first | (go_at_call 201; refine (held5 (w0 := w) (B := w.heap.size) (b := b) (o := o + j) (u := l) (v := h) (x := .bool t) (y := .int .i64 (j : Int)) (z := .int .i64 x) HR2.out (by assumption) (by assumption) (by assumption) (by assumption) (by assumption) (by assumption) hbz2 (by assumption)).mono ?_; rintro e w9 ⟨rfl, ⟨k0, k1⟩, ⟨k2, k3⟩, k4, k5, k6⟩))
   all_goals
    have HB9 := hide k5;clear k5;go_wp2_with fail
    go_ret;exact ⟨by rw [HA.out]; rfl, HB9.out⟩
theorem lib_idx (xs : List Int) (x : Int) : Lib.idxOf xs x = if hasI xs x then ((xs.idxOf x : Nat) : Int) else -1 := by
 split
 ·rename_i h
  have hm := hasI_iff.1 h;obtain ⟨h1, h2⟩ := idx_get hm;have := Lib.idxOf_hit xs xs.length (xs.idxOf x) x h1 nl h2 (fun j hj e => by
   have hjl : j < xs.length := by omega
   have hp := List.not_of_lt_findIdx (p := (· == x)) (xs := xs) (i := j) hj
   rw [List.getD_eq_getElem?_getD, List.getElem?_eq_getElem hjl] at e;simp at e hp;exact hp e)
  rwa [List.take_of_length_le nl] at this
 ·rename_i h
  have hm : x ∉ xs := fun hm => h (hasI_iff.2 hm);have := Lib.idxOf_miss xs xs.length x (fun j hj e => by
   rw [List.getD_eq_getElem?_getD, List.getElem?_eq_getElem hj] at e;simp at e;exact hm (by rw [← e]; exact List.getElem_mem _))
  rwa [List.take_of_length_le nl] at this
theorem index_any (v : Value) (xs : List Int) (lo hi : Nat) (n : Int) (w : World) (h : IntsAt lo hi w v xs) :
 Calls Tryz.prog 185 #[v, .int .i64 n] w fun e w' => e = .returned (.int .i64 (if hasI xs n then ((xs.idxOf n : Nat) : Int) else -1)) ∧ w = w' := by
 have hlen := h.len;obtain ⟨ao, cap, rfl, a1, a2, a3, a4⟩ := h;rw [← lib_idx];rcases Nat.eq_zero_or_pos xs.length with h0 | h0
 ·obtain rfl : xs = [] := List.eq_nil_of_length_eq_zero h0
  exact (Tryz.slices_Index_int_empty ao cap n w).mono fun e w' ⟨he, hw⟩ => ⟨he, hw.symm⟩
 ·obtain ⟨b, o, rfl, hb1, hb2, hc⟩ := a4 h0
  have := Tryz.slices_Index_int b o xs.length cap xs n w nl (by omega) (fun j hj => by rw [(hc j hj).1, getD_eq hj]);rw [List.take_of_length_le nl] at this;exact this.mono fun e w' ⟨he, hw⟩ => ⟨he, hw.symm⟩
theorem find_impl (l h : Value) (lo hi : List Int) (id : Int) (w : World) (Hl : IntsAt 0 w.heap.size w l lo) (Hh : IntsAt 0 w.heap.size w h hi) :
 Calls Tryz.prog 168 #[pileV l h, .int .i64 id] w fun e w' => e = .returned (findV (findR lo hi id)) ∧ Below w.heap.size w w' := by
 have HL := hide Hl;have HH := hide Hh;have hp := fun W => pile_impl l h lo hi W;unfold pileV at hp ⊢;have HP := hide hp;clear hp Hl Hh;go_enter Tryz.func168, Tryz.ntmps168;go_wp2_with fail
 refine calls_at fun wx hwx => ?_;have A_0 : RowL wx (w.heap.size) 29 [l, h] := by rw [hwx]; exact ((RowL.new _ _ _).alloc _)
 have R_0 : RowL wx (w.heap.size + 1) 128 [.bool false, .int .i64 0] := by rw [hwx]; simpa using (RowL.new (World.alloc _ _) 128 [.bool false, .int .i64 0])
 have B_0 : Below w.heap.size w wx := by rw [hwx]; go_grown
 clear hwx;have hL0 := R_0.lt;have VL_0 := hide (HL.out.below B_0);have VH_0 := hide (HH.out.below B_0);have k_c1 := HP.out wx ((VL_0.out).mono nl (VL_0.out).lt nl) ((VH_0.out).mono nl (VH_0.out).lt nl);cases c1 : pileB lo hi with
 | false =>
  rw [c1] at k_c1;have Hc1 := hide (show findR lo hi id = none from find_bad c1);clear c1;refine (k_c1).mono ?_;rintro e w1 ⟨rfl, hb⟩;have A_1 := A_0.below hb A_0.lt;have R_1 := R_0.below hb R_0.lt;have VL_1 := hide (VL_0.out.below hb);have VH_1 := hide (VH_0.out.below hb);have B_1 := hide (Below.step B_0 hb nl);have hz1 := hb.size;clear hb;have cR0 := R_1.c 0 rfl;have cR1 := R_1.c 1 rfl;have fR0 := R_1.frozen 0;have fR1 := R_1.frozen 1;clear k_c1;go_wp2_with fail
  refine bodyPost_ret (by simp [results, Tryz.results168, go_sem, cR0, cR1]; try rfl) rfl ?_;exact ⟨by rw [Hc1.out]; rfl, ((B_1.out).setCell (by simp) _).setCell (by simp) _⟩
 | true =>
  rw [c1] at k_c1;have Kc1 := hide c1;clear c1;refine (k_c1).mono ?_;rintro e w1 ⟨rfl, hb⟩;have A_1 := A_0.below hb A_0.lt;have R_1 := R_0.below hb R_0.lt;have VL_1 := hide (VL_0.out.below hb);have VH_1 := hide (VH_0.out.below hb);have B_1 := hide (Below.step B_0 hb nl);have hz1 := hb.size;clear hb;have cA0 := A_1.c 0 rfl;have cA1 := A_1.c 1 rfl;have cR0 := R_1.c 0 rfl;have cR1 := R_1.c 1 rfl;have fR0 := R_1.frozen 0;have fR1 := R_1.frozen 1;clear k_c1;by_cases hid : id < 1
  ·have HF := hide (find_low (lo := lo) (hi := hi) (show id ≤ 0 by omega))
   go_wp2_with fail
   refine bodyPost_ret (by simp [results, Tryz.results168, go_sem, cR0, cR1]; try rfl) rfl ?_;exact ⟨by rw [HF.out]; rfl, ((B_1.out).setCell (by simp) _).setCell (by simp) _⟩
  have hF : findR lo hi id = if hasI lo id then some (false, ((lo.idxOf id : Nat) : Int)) else if hasI hi id then some (true, ((hi.idxOf id : Nat) : Int)) else none := by
   unfold findR;rw [if_pos (by rw [Kc1.out]; simp; omega)]
  have HF := hide hF;clear hF;have k_i := index_any l lo _ _ id w1 VL_1.out;cases c2 : hasI lo id with
  | true =>
   rw [c2] at k_i HF;simp only [if_true] at k_i HF;obtain ⟨j, hj⟩ : ∃ j, lo.idxOf id = j := ⟨_, rfl⟩;rw [hj] at k_i HF;have hj0 : (0 : Int) ≤ (j : Int) := by omega
   clear hj c2;go_wp2_with fail
   refine k_i.mono ?_;rintro e wq ⟨rfl, rfl⟩;clear k_i;go_wp2_with fail
   refine bodyPost_ret (by simp [results, Tryz.results168, go_sem, cR0, cR1]; try rfl) rfl ?_;exact ⟨by rw [HF.out]; rfl, ((B_1.out).setCell (by simp) _).setCell (by simp) _⟩
  | false =>
   rw [c2] at k_i HF;simp only [Bool.false_eq_true, if_false] at k_i HF;clear c2;go_wp2_with fail
   refine k_i.mono ?_;rintro e wq ⟨rfl, rfl⟩;clear k_i;go_wp2_with fail
   have k_i := index_any h hi _ _ id w1 VH_1.out;cases c3 : hasI hi id with
   | true =>
    rw [c3] at k_i HF;simp only [if_true] at k_i HF;obtain ⟨j, hj⟩ : ∃ j, hi.idxOf id = j := ⟨_, rfl⟩;rw [hj] at k_i HF;have hj0 : (0 : Int) ≤ (j : Int) := by omega
    clear hj c3;refine k_i.mono ?_;rintro e wq ⟨rfl, rfl⟩;clear k_i;go_wp2_with fail
    refine bodyPost_ret (by simp [results, Tryz.results168, go_sem, cR0, cR1]; try rfl) rfl ?_;exact ⟨by rw [HF.out]; rfl, ((B_1.out).setCell (by simp) _).setCell (by simp) _⟩
   | false =>
    rw [c3] at k_i HF;simp only [Bool.false_eq_true, if_false] at k_i HF;clear c3;refine k_i.mono ?_;rintro e wq ⟨rfl, rfl⟩;clear k_i;go_wp2_with fail
    refine bodyPost_ret (by simp [results, Tryz.results168, go_sem, cR0, cR1]; try rfl) rfl ?_;exact ⟨by rw [HF.out]; rfl, ((B_1.out).setCell (by simp) _).setCell (by simp) _⟩
def StNew (base : Nat) (xs : List St) (w : World) (e : Ending) (w' : World) : Prop := ∃ v, e = .returned v ∧ w'.ownsRow base 65 5 v xs.length (flatS xs) ∧ Below base w w'
def PcNew (base : Nat) (xs : List Pc) (w : World) (e : Ending) (w' : World) : Prop := ∃ v, e = .returned v ∧ w'.ownsRow base 73 2 v xs.length (flatP xs) ∧ Below base w w'
theorem cloneI_any (v : Value) (xs : List Int) (lo hi : Nat) (w : World) (h : IntsAt lo hi w v xs) (hl : xs.length ≤ 1000000) :
 Calls Tryz.prog 183 #[v] w (IntsNew w.heap.size xs w) := by
 have hs := h.source;obtain ⟨i0, hi0, hz0, hi1, hi2⟩ := info_parts info_int;have hq : ∀ (w : World) (a : Option Addr) (n c n' c' : Nat), (binOp .eql 27 (.slice a n c) (.slice none n' c')).run Tryz.prog w = .ok (.bool a.isNone) w := fun w a n c n' c' => Lib.run_eql_slice_nil w _ _ a n c n' c' Tryz.underlying27;obtain ⟨ao, cap, rfl, hlc, hcap, hhi, hc⟩ := h;cases ao with
 | none =>
  have hx : xs = [] := by
   cases xs with
   | nil => rfl
   | cons a l => obtain ⟨_, _, e, _⟩ := hc (by simp); cases e
  subst hx;clear hs hc hi0 hz0 hi1 hi2;go_enter Tryz.func183, Tryz.ntmps183;go_wp2_with fail
  go_ret;exact ⟨_, rfl, World.ownsRow_nil _ _ _ _, by go_grown⟩
 | some ad =>
  have HS := hide hs;clear hs hc;go_enter Tryz.func183, Tryz.ntmps183;go_wp2_with (at_builtin; refine wpList_append_view rfl _ _ 27 rfl w.heap.size 3 i0 (.int .i64 0) 1 8 Tryz.underlying27 hi0 hz0 hi1 hi2 rfl (by decide) _ _ _ rfl (World.ownsRow_made w #[] 0 nl (Nat.zero_le _) rfl) (.slice (some ad) xs.length cap) xs.length (flatI xs) rfl ?c0 ?c1 ?c2 ?c3 ?_)
  case c0 => exact HS.out.below ((Below.refl _ _).alloc nl _) nl
  case c1 => unfold maxLen; omega
  case c2 => omega
  case c3 => simp
  intro v2 w2 hown2 hgrow2 _;have HB := hide (((Below.refl w.heap.size w).alloc nl (.cells #[] 3)).trans (Below.grow hgrow2 (World.ownsRow_made (size := 1) w #[] 0 nl (Nat.zero_le _) rfl) nl (by simp)));have HO := hide (show w2.ownsRow w.heap.size 3 1 v2 xs.length (flatI xs) by simpa using hown2);clear hown2 hgrow2;go_wp2_with fail
  go_ret;exact ⟨v2, rfl, HO.out, HB.out⟩
theorem cloneS_any (v : Value) (xs : List St) (lo hi : Nat) (w : World) (h : StAt lo hi w v xs) (hl : xs.length ≤ 1000000) :
 Calls Tryz.prog 138 #[v] w (StNew w.heap.size xs w) := by
 have hs := h.source;obtain ⟨i0, hi0, hz0, hi1, hi2⟩ := info_parts info_St;have hq : ∀ (w : World) (a : Option Addr) (n c n' c' : Nat), (binOp .eql 23 (.slice a n c) (.slice none n' c')).run Tryz.prog w = .ok (.bool a.isNone) w := fun w a n c n' c' => Lib.run_eql_slice_nil w _ _ a n c n' c' Tryz.underlying23;obtain ⟨ao, cap, rfl, hlc, hcap, hhi, hc⟩ := h;cases ao with
 | none =>
  have hx : xs = [] := by
   cases xs with
   | nil => rfl
   | cons a l => obtain ⟨_, _, e, _⟩ := hc (by simp); cases e
  subst hx;clear hs hc hi0 hz0 hi1 hi2;go_enter Tryz.func138, Tryz.ntmps138;go_wp2_with fail
  go_ret;exact ⟨_, rfl, World.ownsRow_nil _ _ _ _, by go_grown⟩
 | some ad =>
  have HS := hide hs;clear hs hc;go_enter Tryz.func138, Tryz.ntmps138;go_wp2_with (at_builtin; refine wpList_append_view rfl _ _ 23 rfl w.heap.size 65 i0 _ 5 40 Tryz.underlying23 hi0 hz0 hi1 hi2 rfl (by decide) _ _ _ rfl (World.ownsRow_made w #[] 0 nl (Nat.zero_le _) rfl) (.slice (some ad) xs.length cap) xs.length (flatS xs) rfl ?c0 ?c1 ?c2 ?c3 ?_)
  case c0 => exact HS.out.below ((Below.refl _ _).alloc nl _) nl
  case c1 => unfold maxLen; omega
  case c2 => omega
  case c3 => simp
  intro v2 w2 hown2 hgrow2 _;have HB := hide (((Below.refl w.heap.size w).alloc nl (.cells #[] 65)).trans (Below.grow hgrow2 (World.ownsRow_made (size := 5) w #[] 0 nl (Nat.zero_le _) rfl) nl (by simp)));have HO := hide (show w2.ownsRow w.heap.size 65 5 v2 xs.length (flatS xs) by simpa using hown2);clear hown2 hgrow2;go_wp2_with fail
  go_ret;exact ⟨v2, rfl, HO.out, HB.out⟩
theorem cloneP_any (v : Value) (xs : List Pc) (lo hi : Nat) (w : World) (h : PcAt lo hi w v xs) (hl : xs.length ≤ 1000000) :
 Calls Tryz.prog 139 #[v] w (PcNew w.heap.size xs w) := by
 have hs := h.source;obtain ⟨i0, hi0, hz0, hi1, hi2⟩ := info_parts info_Pc;have hq : ∀ (w : World) (a : Option Addr) (n c n' c' : Nat), (binOp .eql 26 (.slice a n c) (.slice none n' c')).run Tryz.prog w = .ok (.bool a.isNone) w := fun w a n c n' c' => Lib.run_eql_slice_nil w _ _ a n c n' c' Tryz.underlying26;obtain ⟨ao, cap, rfl, hlc, hcap, hhi, hc⟩ := h;cases ao with
 | none =>
  have hx : xs = [] := by
   cases xs with
   | nil => rfl
   | cons a l => obtain ⟨_, _, e, _⟩ := hc (by simp); cases e
  subst hx;clear hs hc hi0 hz0 hi1 hi2;go_enter Tryz.func139, Tryz.ntmps139;go_wp2_with fail
  go_ret;exact ⟨_, rfl, World.ownsRow_nil _ _ _ _, by go_grown⟩
 | some ad =>
  have HS := hide hs;clear hs hc;go_enter Tryz.func139, Tryz.ntmps139;go_wp2_with (at_builtin; refine wpList_append_view rfl _ _ 26 rfl w.heap.size 73 i0 _ 2 16 Tryz.underlying26 hi0 hz0 hi1 hi2 rfl (by decide) _ _ _ rfl (World.ownsRow_made w #[] 0 nl (Nat.zero_le _) rfl) (.slice (some ad) xs.length cap) xs.length (flatP xs) rfl ?c0 ?c1 ?c2 ?c3 ?_)
  case c0 => exact HS.out.below ((Below.refl _ _).alloc nl _) nl
  case c1 => unfold maxLen; omega
  case c2 => omega
  case c3 => simp
  intro v2 w2 hown2 hgrow2 _;have HB := hide (((Below.refl w.heap.size w).alloc nl (.cells #[] 73)).trans (Below.grow hgrow2 (World.ownsRow_made (size := 2) w #[] 0 nl (Nat.zero_le _) rfl) nl (by simp)));have HO := hide (show w2.ownsRow w.heap.size 73 2 v2 xs.length (flatP xs) by simpa using hown2);clear hown2 hgrow2;go_wp2_with fail
  go_ret;exact ⟨v2, rfl, HO.out, HB.out⟩
theorem run_bad {m : Mi} {l : List J} (h : millB m = false ∨ 99 < l.length) : runR m l = (mi0, 0) := by
 unfold runR;rw [if_neg];rw [Bool.and_eq_true, decide_eq_true_iff];rintro ⟨h1, h2⟩;rcases h with h | h
 ·rw [h] at h1; cases h1
 ·omega
theorem run_good {m : Mi} {l : List J} (h : millB m = true) (hl : l.length ≤ 99) : runR m l = runTo m l := by
 unfold runR;rw [if_pos];simp [h, hl]
theorem run_valid {m : Mi} {l : List J} (h : millB m = true) (hl : l.length ≤ 99) : millB (runR m l).1 = true ∧ massR (runR m l).1 = massR m := by
 rw [run_good h hl];obtain ⟨h1, h2, -⟩ := run_v l (m, 0) (millB_iff.1 h);have h3 := millB_iff.2 h1;refine ⟨h3, ?_⟩;unfold massR;rw [if_pos h, if_pos (show millB (runTo m l).1 = true from h3)];exact h2
theorem has_any (b : Nat) (p : Value) (m : Mi) (id st : Int) (w : World) (hp : PcAt 0 w.heap.size w p m.pieces) (hc : w.cell? ⟨b, 8, none⟩ = some p) (hl : m.pieces.length ≤ 1000000) :
 Calls Tryz.prog 164 #[.pointer (some ⟨b, 0, none⟩), .int .i64 id, .int .i64 st] w fun e w' => e = .returned (.bool (hasB m id st)) ∧ w = w' := by
 have HP := hide hp;have hp2 := hp;obtain ⟨ap, cp, rfl, -, -, -, -⟩ := hp2;clear hp;have hW := fun W => within_any id 1 (m.pieces.length : Int) W;by_cases hi : wi id 1 (m.pieces.length : Int) = true
 ·have HI := hide hi
  rw [hi] at hW;obtain ⟨h1, h2⟩ := wi_iff.1 hi;obtain ⟨k, rfl⟩ : ∃ k : Nat, id = k + 1 := ⟨(id - 1).toNat, by omega⟩;have hk : k < m.pieces.length := by omega
  obtain ⟨b2, o, cp2, e, -, -, c0, c1⟩ := pc_at HP.out hk;cases e;have hsub : IntKind.i64.wrap ((k : Int) + 1 - 1) = (k : Int) := by rw [show (k : Int) + 1 - 1 = (k : Int) by omega]; exact IntWalk.i64_in _ (by omega)
  have hkI : (k : Int) < (m.pieces.length : Int) := by omega
  have HW := hide hW;clear hW hi;go_enter Tryz.func164, Tryz.ntmps164;have hj0 : (0 : Int) ≤ (k : Int) := by omega
  go_wp2_with fail
  refine (HW.out w).mono ?_;rintro e w1 ⟨rfl, rfl⟩;go_wp2_with fail
  go_ret;have hg : hasB m ((k : Int) + 1) st = (m.pieces[k].s == st) := by
   have : ((k : Int) + 1 - 1).toNat = k := by omega
   simp [hasB, HI.out, hk]
  simp [hg]
 ·have hi' : wi id 1 (m.pieces.length : Int) = false := by simpa using hi
  rw [hi'] at hW;have HI := hide hi';have HW := hide hW;clear hW hi hi';go_enter Tryz.func164, Tryz.ntmps164;go_wp2_with fail
  refine (HW.out w).mono ?_;rintro e w1 ⟨rfl, rfl⟩;go_wp2_with fail
  go_ret;simp [hasB, HI.out]
def Meth (base B : Nat) (o : Option Mi) (w : World) (e : Ending) (w' : World) : Prop :=
 e = .returned (.bool o.isSome) ∧ Below base w w' ∧ ∀ x, o = some x → ∃ s p l h, RowL w' B 31 (millC s p l h x) ∧ MillGot base w' s p l h x
theorem Meth.no {base B : Nat} {w w' : World} (h : Below base w w') : Meth base B none w (.returned (.bool false)) w' := ⟨rfl, h, fun _ e => by cases e⟩
theorem notIn_store {B B' n : Nat} {w' : World} {s s' p l h : Value} {T sz : Nat} {cs : List Value} (o : NotIn B s p l h) (hB : B < B') (q : OwnE B' T sz w' s' n cs) : NotIn B s' p l h :=
 ⟨fun e => by have := (q.lt B e).1; omega, o.2⟩
theorem spot_put {W : World} {T8 B gg j : Nat} {u v x y : Value} (H : ((W.cell? ⟨T8, 0, none⟩ = some u ∧ W.cell? ⟨T8, 1, none⟩ = some v) ∧ (W.cell? ⟨B, 0, none⟩ = some x ∧ W.cell? ⟨B, 1, none⟩ = some y)) ∧ ((W.cell? ⟨gg, j, none⟩).isSome = true ∧ W.frozen? ⟨gg, j, none⟩ = false)) (h1 : gg ≠ T8) (h2 : gg ≠ B) (z : Value) :
 (((W.setCell ⟨gg, j, none⟩ z).cell? ⟨T8, 0, none⟩ = some u ∧ (W.setCell ⟨gg, j, none⟩ z).cell? ⟨T8, 1, none⟩ = some v) ∧ ((W.setCell ⟨gg, j, none⟩ z).cell? ⟨B, 0, none⟩ = some x ∧ (W.setCell ⟨gg, j, none⟩ z).cell? ⟨B, 1, none⟩ = some y)) ∧ (((W.setCell ⟨gg, j, none⟩ z).cell? ⟨gg, j, none⟩).isSome = true ∧ (W.setCell ⟨gg, j, none⟩ z).frozen? ⟨gg, j, none⟩ = false) := by
 obtain ⟨⟨⟨a, b⟩, ⟨c, d⟩⟩, e, f⟩ := H;obtain ⟨o, ho⟩ := Option.isSome_iff_exists.1 e;have n1 : ∀ k, (⟨gg, j, none⟩ : Addr) ≠ ⟨T8, k, none⟩ := fun k e => h1 (by injection e);have n2 : ∀ k, (⟨gg, j, none⟩ : Addr) ≠ ⟨B, k, none⟩ := fun k e => h2 (by injection e);refine ⟨⟨⟨?_, ?_⟩, ⟨?_, ?_⟩⟩, ?_, by rw [World.frozen?_setCell]; exact f⟩
 ·rw [World.cell?_setCell_other _ _ _ _ (n1 0)]; exact a
 ·rw [World.cell?_setCell_other _ _ _ _ (n1 1)]; exact b
 ·rw [World.cell?_setCell_other _ _ _ _ (n2 0)]; exact c
 ·rw [World.cell?_setCell_other _ _ _ _ (n2 1)]; exact d
 ·rw [World.cell?_setCell_same _ _ _ ho]; rfl
theorem on_impl (l h : Value) (lo hi : List Int) (t : Bool) (p : Int) (w : World) (Hl : IntsAt 0 w.heap.size w l lo) (Hh : IntsAt 0 w.heap.size w h hi) :
 Calls Tryz.prog 202 #[pileV l h, .agg #[.bool t, .int .i64 p]] w (IntsNew w.heap.size (onR lo hi t p) w) := by
 have HL := hide Hl;have HH := hide Hh;clear Hl Hh;obtain ⟨i0, hi0, hz0, hi1, hi2⟩ := info_parts info_int;have hq := fun t p W => at_impl l h lo hi t p W;unfold pileV at hq ⊢;have HQ := hide hq;clear hq;go_enter Tryz.func202, Tryz.ntmps202;go_wp2_with fail
 refine calls_at fun wx hwx => ?_;have A_0 : RowL wx w.heap.size 29 [l, h] := by rw [hwx]; exact (RowL.new _ _ _).alloc _
 have S_0 : RowL wx (w.heap.size + 1) 128 [.bool t, .int .i64 p] := by rw [hwx]; simpa using RowL.new (World.alloc _ _) 128 [.bool t, .int .i64 p]
 have B_0 : Below w.heap.size w wx := by rw [hwx]; go_grown
 clear hwx;refine (HQ.out t p wx ((HL.out.below B_0).mono nl B_0.size nl) ((HH.out.below B_0).mono nl B_0.size nl)).mono ?_;rintro e w1 ⟨rfl, hb⟩;have A_1 := A_0.below hb A_0.lt;have S_1 := S_0.below hb S_0.lt;have B_1 := hide (Below.step B_0 hb nl);clear hb A_0 S_0 B_0;have cS0 := S_1.c 0 rfl;have cS1 := S_1.c 1 rfl;by_cases ha : atR lo hi t p < 1
 ·have HF := hide (on_low ha)
  obtain ⟨a, hae⟩ : ∃ a, atR lo hi t p = a := ⟨_, rfl⟩;rw [hae] at ha ⊢;clear hae;go_wp2_with fail
  go_ret;rw [HF.out];exact ⟨_, rfl, World.ownsRow_nil _ _ _ _, B_1.out⟩
 cases t with
 | true =>
  obtain ⟨a, hae⟩ : ∃ a, atR lo hi true p = a := ⟨_, rfl⟩;rw [hae] at ha ⊢;clear hae;go_wp2_with fail
  go_ret;rw [on_top];exact ⟨_, rfl, World.ownsRow_nil _ _ _ _, B_1.out⟩
 | false =>
  have HF := hide (on_all ha);obtain ⟨hv, j, rfl, hjl, -⟩ := at_row (show 0 ≤ atR lo hi false p by omega);have hj6 : j < 6 := Nat.lt_of_lt_of_le hjl hv.l6;obtain ⟨a, hae⟩ : ∃ a, atR lo hi false (j : Int) = a := ⟨_, rfl⟩;rw [hae] at ha ⊢;clear hae hv hjl;go_wp2_with fail
  go_loopw [5, 6, 7] (fun o i _ wr => ∃ k : Nat, k ≤ 2 ∧ i = .int .i64 ((j : Int) - 1 + k) ∧ Below w.heap.size w wr ∧ RowL wr w.heap.size 29 [l, h] ∧ RowL wr (w.heap.size + 1) 128 [.bool false, .int .i64 (j : Int)] ∧ wr.ownsRow (w.heap.size + 2) 3 1 o (onTo lo hi j k).length (flatI (onTo lo hi j k))) (fun _ i _ _ => ((j : Int) + 1 - intOf i).toNat)
  case atStart => exact ⟨0, by omega, by simp, B_1.out, A_1, S_1, by simpa [onTo, flatI] using World.ownsRow_nil _ _ _ _⟩
  case round =>
   obtain ⟨k, hk, rfl, hb, hA, hS, hown⟩ := hrel;have HB := hide hb;have HA := hide hA;have HS := hide hS;have HO := hide hown;have hol := onTo_len lo hi j k;have hzr := hS.lt;have hp0 : wr.cell? ⟨w.heap.size, 0, none⟩ = some l := hA.cell 0 (by simp);have hp1 : wr.cell? ⟨w.heap.size, 1, none⟩ = some h := hA.cell 1 (by simp);have hs1 := hS.c 1 rfl;obtain ⟨aov, capv, rfl, -, -⟩ := own_slice hown;have HLr := hide ((HL.out.below hb).mono nl hb.size nl);have HHr := hide ((HH.out.below hb).mono nl hb.size nl);clear hb hA hS hown;by_cases hlt : k < 2
   ·have hkI : (j : Int) - 1 + k ≤ (j : Int) := by omega
    obtain ⟨x, hx⟩ : ∃ x, atR lo hi true ((j : Int) - 1 + k) = x := ⟨_, rfl⟩;have hcon := HQ.out true ((j : Int) - 1 + k) wr HLr.out HHr.out;rw [hx] at hcon;have HCON := hide hcon;clear hcon;by_cases hx0 : 0 < x
    ·have HN := hide (onTo_yes hlt hx hx0)
     clear hx;go_wp2_with fail
     refine HCON.out.mono ?_;rintro e w2 ⟨rfl, hb⟩;have HB2 := hide (Below.step HB.out hb nl);have HA2 := hide (HA.out.below hb HA.out.lt);have HS2 := hide (HS.out.below hb HS.out.lt);have HO2 := hide (ownsRow_below HO.out hb nl);have hz2 := HS2.out.lt;clear hb hp0 hp1 hs1;go_wp2_with (at_builtin; refine wpList_append_view rfl _ _ 27 rfl (w.heap.size + 2) 3 i0 (.int .i64 0) 1 8 Tryz.underlying27 hi0 hz0 hi1 hi2 rfl (by decide) _ _ _ rfl (HO2.out.alloc _) (.slice (some ⟨w2.heap.size, 0, none⟩) 1 1) 1 [.int .i64 x] rfl ?c0 ?c1 ?c2 ?c3 ?_)
     case c0 => exact Source.lit w2 [.int .i64 x] 1 3 1 rfl (fun u hu => by simp at hu; subst hu; rfl) 1
     case c1 => unfold maxLen; omega
     case c2 => omega
     case c3 => simp; omega
     intro v2 w3 hown2 hgrow2 _;have hgB : Below (w.heap.size + 2) w2 w3 := ((Below.refl _ w2).alloc (by omega) _).trans (Below.grow hgrow2 (HO2.out.alloc _) nl (by simp; omega));have HB3 := hide (HB2.out.trans (hgB.mono (by omega)));have HA3 := hide (HA2.out.below hgB (by omega));have HS3 := hide (HS2.out.below hgB (by omega));have HO3 := hide (show w3.ownsRow (w.heap.size + 2) 3 1 v2 (onTo lo hi j (k + 1)).length (flatI (onTo lo hi j (k + 1))) by rw [HN.out]; simpa [flatI] using hown2);clear hown2 hgrow2 hgB;go_wp2_with fail
     go_roundw
     case rel => exact ⟨k + 1, by omega, by go_num, HB3.out, HA3.out, HS3.out, HO3.out⟩
     case measure => simp [intOf]; omega
    ·have HN := hide (onTo_no hlt hx hx0)
     clear hx;go_wp2_with fail
     refine HCON.out.mono ?_;rintro e w2 ⟨rfl, hb⟩;have HB2 := hide (Below.step HB.out hb nl);have HA2 := hide (HA.out.below hb HA.out.lt);have HS2 := hide (HS.out.below hb HS.out.lt);have HO2 := hide (ownsRow_below HO.out hb nl);clear hb hp0 hp1 hs1;go_wp2_with fail
     go_roundw
     case rel => exact ⟨k + 1, by omega, by go_num, HB2.out, HA2.out, HS2.out, by rw [HN.out]; exact HO2.out⟩
     case measure => simp [intOf]; omega
   ·obtain rfl : k = 2 := by omega
    have hkI : ¬ (j : Int) - 1 + ((2 : Nat) : Int) ≤ (j : Int) := by omega
    go_wp2_with fail
    go_ret;rw [HF.out];exact ⟨_, rfl, ownsRow_mono HO.out (by omega), HB.out⟩
theorem wasteAt_eq (T : List Int) (a b : Int) (k : Nat) : wasteAt T a b k = wst2 T a b k := rfl
theorem tab_eq {a b : Int} (h : lensB a b = true) {L k : Nat} (hk : k ≤ L) : (tab a b (L + 1)).getD k 0 = wst2 (tab a b (L + 1)) a b k := by
 obtain ⟨⟨h1, h2⟩, h3, h4⟩ := lensB_iff.1 h;rw [tab_le a b (Nat.lt_succ_self k) (Nat.succ_le_succ hk), tab_new];have e1 : a ≤ k → (tab a b (L + 1)).getD ((k : Int) - a).toNat 0 = (tab a b k).getD ((k : Int) - a).toNat 0 := fun hle => tab_le a b (by omega) (by omega);have e2 : b ≤ k → (tab a b (L + 1)).getD ((k : Int) - b).toNat 0 = (tab a b k).getD ((k : Int) - b).toNat 0 := fun hle => tab_le a b (by omega) (by omega);rw [wasteAt_eq];unfold wst2 wst1;by_cases ha : a ≤ k
 ·by_cases hb : b ≤ k
  ·simp only [if_pos ha, if_pos hb, e1 ha, e2 hb]
  ·simp only [if_pos ha, if_neg hb, e1 ha]
 ·by_cases hb : b ≤ k
  ·simp only [if_neg ha, if_pos hb, e2 hb]
  ·simp only [if_neg ha, if_neg hb]
theorem quiet_left2 {P : Program} {f : FuncId} {args : Array Value} {w : World} {n k : Nat} {v : Value}
 (h : Calls P f args (w.drewN (k + n)) fun e w' => e = .returned v ∧ w.drewN (k + n) = w') : Calls P f args (w.drewN (k + n)) fun e w'' => e = .returned v ∧ ∃ m, w'' = w.drewN (k + m) :=
 h.mono fun _ _ ⟨he, hm⟩ => ⟨he, n, hm.symm⟩
theorem tons_many (L : Nat) (a b : Int) : tonsR (manyL L a b) = (many0 L a b : Int) + many1 L a b := by simp [tonsR, manyL, sumTo]
theorem hasTwo_any (k : Int) (w : World) :
 Calls Tryz.prog 81 #[.int .i64 k] w fun e w' => e = .returned (.bool (twoB k)) ∧ w = w' := by
 rcases h1 : (k == 1) <;> rcases h2 : (k == 2) <;> (
  go_enter Tryz.func81, Tryz.ntmps81
  go_wp2
  go_ret;exact ⟨by simp_all [twoB], rfl⟩)
end Go.Proofs.YtmemgbklgcjobaaGreatDoor
