/-
  Parts of the proofs over mills, of: CardD, DrawMA, MillA, DrawMD, Take. Conditions: each theorem states its own.
-/
import Derived.Lib.AppendZeros
import Derived.Test.YtkhecelpafojdaaGreatDoorF08
set_option linter.unusedSimpArgs false
set_option linter.unusedVariables false
set_option maxRecDepth 10000
set_option maxHeartbeats 64000000
namespace Go.Proofs.YtkhecelpafojdaaGreatDoor
open Go.ChangeShapes Go.WideShapes Go.Deep Go.RowKit Go.ChangeAt
section
variable {H : Type} {enc : TypeId × Value → H} {P : Program}
theorem open_bytesAt {t e : TypeId} {w : World} {v : Value} {d : DataW H} {ps : List MemPlace} (ht : P.underlying t = some (.slice e)) (he : P.underlying e = some (.int .u8)) (hc : P.cellsOf e = 1)
 (h : DataW.Trod enc P w 0 (fun _ => true) true t v d ps) (hvs : ∃ ao n c, v = .slice ao n c) : ∃ n, BytesAt 0 w.heap.size w v n := by
 obtain ⟨ao, n0, c0, rfl⟩ := hvs;obtain ⟨fuel, hf⟩ := h;rcases open_slice1 ht hc hf with ⟨hcs, hx⟩ | ⟨a, len, cap, m, n, V, D, Pl, hcs, hb, hl, hm, hmm, hx, hi⟩
 ·simp only [Value.cells, List.cons.injEq, and_true] at hcs
  rw [hcs];exact ⟨0, none, 0, rfl, Nat.le_refl _, by omega, Nat.le_refl _, fun h => absurd h (Nat.not_lt_zero _)⟩
 ·simp only [Value.cells, List.cons.injEq, and_true] at hcs
  rw [hcs];simp only [↓reduceIte] at hmm;subst hmm;have hint : ∀ i, i < m → ∃ x : Int, V i = .int .u8 x ∧ 0 ≤ x ∧ x ≤ 255 := fun i him => by
   obtain ⟨_, ht'⟩ := hi i him;obtain ⟨x, e1, _, e3⟩ := DataW.trod_int he ht';simp only [List.cons.injEq, and_true] at e1;simp [Lit.wf, IntKind.min, IntKind.max, IntKind.signed, IntKind.bits] at e3;exact ⟨x, e1, by omega, by omega⟩
  refine ⟨len, some a, m, rfl, hl, by unfold maxLen at hm; omega, Nat.le_refl _, fun hn => ?_⟩;obtain ⟨h0, _⟩ := hi 0 (by omega);have ha0 : a.add 0 = a := by simp [Addr.add]
  rw [ha0] at h0;obtain ⟨hs, hblt⟩ := cell_spot h0;obtain ⟨b, o, sp⟩ := a;simp only at hs hblt;subst hs;refine ⟨b, o, rfl, Nat.zero_le _, hblt, fun i hi' => ?_⟩;obtain ⟨h1, _⟩ := hi i (by omega);obtain ⟨x, e1, e2, e3⟩ := hint i (by omega);have hadd : (⟨b, o, none⟩ : Addr).add i = ⟨b, o + i, none⟩ := by
   unfold Addr.add;split
   ·next h => subst h; rfl
   ·rfl
  rw [hadd] at h1;exact ⟨x, by rw [h1, e1], e2, e3⟩
end
end Go.Proofs.YtkhecelpafojdaaGreatDoor
namespace Go.Proofs.YtkhecelpafojdaaGreatDoor
open Go.ChangeShapes Go.WideShapes Go.Deep Go.RowKit Go.ChangeAt
theorem looks_off : false = Tryz.pinned.checked.prog.looks [] := by kernel_rfl
end Go.Proofs.YtkhecelpafojdaaGreatDoor
namespace Go.Proofs.YtkhecelpafojdaaGreatDoor
open Go.RowKit
theorem odd_none (R : Nat) (w : World) :
 Calls Tryz.prog 61 #[.pointer (some ⟨R, 0, none⟩), .int .i64 0] w fun e w' => e = .returned (.bool false) ∧ Below w.heap.size w w' := by
 go_enter Tryz.func61, Tryz.ntmps61;go_wp2_with fail
 go_ret;exact ⟨rfl, by go_grown⟩
theorem l20Stuff_any (R k : Nat) (w : World) (h : Rd R k w) (hk : k ≤ 100000) :
 Calls Tryz.prog 103 #[.pointer (some ⟨R, 0, none⟩), .int .i64 0] w fun e w' => ∃ s : St, e = .returned (.agg #[.int .i64 s.c, .int .i64 s.m, .int .i64 s.s, .int .i64 s.p, .int .i64 s.k]) ∧ stB s = true ∧ ai R (R + 1) w w' ∧ Rd R (k + 5) w' := by
 have hlt := h.lt;have HRx := hide h;clear h;go_enter Tryz.func103, Tryz.ntmps103;go_wp2_with fail
 refine aj fun wx hwx => ?_;have Z0 : ae wx w.heap.size 99 [.int .i64 0, .int .i64 0, .int .i64 0, .int .i64 0, .int .i64 0] := by rw [hwx]; exact ae.new _ _ _
 have hb : Below w.heap.size w wx := by rw [hwx]; go_grown
 have HO0 := hide (ai.of_below (lo := R) (hi := R + 1) hb);have HR0 := hide (HRx.out.keep hb hlt);have hz0 := hb.size;have hZl := Z0.lt;clear hwx hb;refine (aH R _ 9 wx HR0.out (by omega) (by omega) (by omega)).mono ?_;rintro e w1 ⟨a, rfl, aa, ab, ho, hr⟩;have HO1 := hide (HO0.out.trans ho);have Z1 := Z0.other ho (by omega);have hz1 := ho.size;have HR1 := hide hr;clear ho hr;go_wp2_with fail
 refine (aH R _ 7 w1 HR1.out (by omega) (by omega) (by omega)).mono ?_;rintro e w2 ⟨b, rfl, ba, bb, ho, hr⟩;have HO2 := hide (HO1.out.trans ho);have Z2 := Z1.other ho (by omega);have hz2 := ho.size;have HR2 := hide hr;clear ho hr;go_wp2_with fail
 refine (aH R _ 5 w2 HR2.out (by omega) (by omega) (by omega)).mono ?_;rintro e w3 ⟨c, rfl, ca, cb, ho, hr⟩;have HO3 := hide (HO2.out.trans ho);have Z3 := Z2.other ho (by omega);have hz3 := ho.size;have HR3 := hide hr;clear ho hr;go_wp2_with fail
 refine (aH R _ 30 w3 HR3.out (by omega) (by omega) (by omega)).mono ?_;rintro e w4 ⟨d, rfl, da, db, ho, hr⟩;have HO4 := hide (HO3.out.trans ho);have Z4 := Z3.other ho (by omega);have hz4 := ho.size;have HR4 := hide hr;clear ho hr;go_wp2_with fail
 refine (aH R _ 10 w4 HR4.out (by omega) (by omega) (by omega)).mono ?_;rintro e w5 ⟨g, rfl, ga, gb, ho, hr⟩;have HO5 := hide (HO4.out.trans ho);have Z5 := Z4.other ho (by omega);have hz5 := ho.size;have HR5 := hide hr;clear ho hr;go_wp2_with fail
 refine aj fun wy hwy => ?_;have S0 : ae wy w5.heap.size 99 [.int .i64 (a * 5), .int .i64 (b * 10), .int .i64 (c * 10), .int .i64 d, .int .i64 g] := by rw [hwy]; exact ae.new _ _ _
 have hb : Below w5.heap.size w5 wy := by rw [hwy]; exact (Below.refl _ _).alloc nl _
 have HOy := hide (HO5.out.step hb (by omega));have HRy := hide (HR5.out.keep hb (by omega));have Zy := Z5.below hb Z5.lt;have hzy := hb.size;clear hwy hb;refine (odd_none R wy).mono ?_;rintro e wz ⟨rfl, hb⟩;have HOz := hide (HOy.out.step hb (by omega));have HRz := hide (HRy.out.keep hb (by omega));have Zz := Zy.below hb Zy.lt;have Sz := S0.below hb S0.lt;have hzz := hb.size;clear hb;have cS0 : wz.cell? ⟨w5.heap.size, 0, none⟩ = some (.int .i64 (a * 5)) := Sz.cell 0 (by simp);have cS1 : wz.cell? ⟨w5.heap.size, 1, none⟩ = some (.int .i64 (b * 10)) := Sz.cell 1 (by simp);have cS2 : wz.cell? ⟨w5.heap.size, 2, none⟩ = some (.int .i64 (c * 10)) := Sz.cell 2 (by simp);have cS3 : wz.cell? ⟨w5.heap.size, 3, none⟩ = some (.int .i64 d) := Sz.cell 3 (by simp);have cS4 : wz.cell? ⟨w5.heap.size, 4, none⟩ = some (.int .i64 g) := Sz.cell 4 (by simp);have cZ0 : wz.cell? ⟨w.heap.size, 0, none⟩ = some (.int .i64 0) := Zz.cell 0 (by simp);have fZ0 := Zz.frozen 0;have cZ1 : wz.cell? ⟨w.heap.size, 1, none⟩ = some (.int .i64 0) := Zz.cell 1 (by simp);have fZ1 := Zz.frozen 1;have cZ2 : wz.cell? ⟨w.heap.size, 2, none⟩ = some (.int .i64 0) := Zz.cell 2 (by simp);have fZ2 := Zz.frozen 2;have cZ3 : wz.cell? ⟨w.heap.size, 3, none⟩ = some (.int .i64 0) := Zz.cell 3 (by simp);have fZ3 := Zz.frozen 3;have cZ4 : wz.cell? ⟨w.heap.size, 4, none⟩ = some (.int .i64 0) := Zz.cell 4 (by simp);have fZ4 := Zz.frozen 4;go_wp2_with fail
 refine bodyPost_ret (by simp [results, Tryz.results103, go_sem, cZ0, cZ1, cZ2, cZ3, cZ4]; try rfl) rfl ?_;refine ⟨⟨a * 5, b * 10, c * 10, d, g⟩, rfl, eP.2 ⟨by constructor <;> dsimp only <;> omega, by constructor <;> dsimp only <;> omega, by constructor <;> dsimp only <;> omega, by constructor <;> dsimp only <;> omega, by constructor <;> dsimp only <;> omega⟩, HOz.out.step (B := w.heap.size) (by go_grown) nl, HRz.out.keep (B := w.heap.size) (by go_grown) hlt⟩
theorem stv_impl (c m s p k : Int) (w : World) :
 Calls Tryz.prog 100 #[.agg #[.int .i64 c, .int .i64 m, .int .i64 s, .int .i64 p, .int .i64 k]] w fun e w' => e = .returned (.bool (stB ⟨c, m, s, p, k⟩)) ∧ Below w.heap.size w w' := by
 go_enter Tryz.func100, Tryz.ntmps100;go_wp2_with (go_at_call 45; refine (aU _ _ _ _).mono ?_; rintro e w' ⟨rfl, rfl⟩)
 all_goals
  go_ret;exact ⟨by simp_all [stB], by go_grown⟩
theorem stv_spec (c m s p k : Int) (w : World) :
 Calls Tryz.prog 95 #[.agg #[.int .i64 c, .int .i64 m, .int .i64 s, .int .i64 p, .int .i64 k]] w fun e w' => e = .returned (.bool (stB ⟨c, m, s, p, k⟩)) ∧ Below w.heap.size w w' := by
 go_enter Tryz.func95, Tryz.ntmps95;go_wp2_with (go_at_call 42; refine (aY _ _ _ _).mono ?_; rintro e w' ⟨rfl, rfl⟩)
 all_goals
  go_ret;exact ⟨by simp_all [stB], by go_grown⟩
theorem stsv_impl (v : Value) (js : List St) (lo hi : Nat) (w : World) (h : bW lo hi w v js) :
 Calls Tryz.prog 50 #[v] w fun e w' => e = .returned (.bool (dY js)) ∧ Below w.heap.size w w' := by
 obtain ⟨ao, cap, rfl, hlc, hcap, hhi, hc⟩ := h;have Hc := hide hc;clear hc;by_cases h6 : js.length ≤ 4
 ·go_enter Tryz.func50, Tryz.ntmps50
  go_wp2_with fail
  go_loopw [10] (fun i wr => ∃ k : Nat, k ≤ js.length ∧ i = .int .i64 k ∧ Below w.heap.size w wr ∧ (∀ j (_ : j < js.length), j < k → stB js[j] = true)) (fun i _ => js.length - (intOf i).toNat)
  case atStart => exact ⟨0, Nat.zero_le _, rfl, Below.refl _ _, fun _ _ h => absurd h (Nat.not_lt_zero _)⟩
  case round =>
   obtain ⟨k, hk, rfl, hb, hall⟩ := hrel;have Ha := hide hall;clear hall;by_cases hlt : k < js.length
   ·obtain ⟨b, o, rfl, hb1, hb2, hcs⟩ := Hc.out (by omega)
    obtain ⟨⟨h1, h2, h3, h4, h5⟩, -⟩ := hcs k hlt;rw [← hb.cell (p := ⟨b, _, none⟩) (by simpa using by omega)] at h1 h2 h3 h4 h5;clear hcs;go_wp2_with (go_at_call 100; refine (stv_impl _ _ _ _ _ _).mono ?_; rintro e w1 ⟨rfl, hb1'⟩)
    ·go_ret
     refine ⟨?_, Below.step (hb.alloc hb.size _) hb1' nl⟩;have hf : stB js[k] = false := by simpa using (by assumption : (!stB { c := js[k].c, m := js[k].m, s := js[k].s, p := js[k].p, k := js[k].k }) = true)
     simp [dY, all_fell hlt hf]
    ·have hf : stB js[k] = true := by simpa using (by assumption : (!stB { c := js[k].c, m := js[k].m, s := js[k].s, p := js[k].p, k := js[k].k }) = false)
     go_roundw
     case rel => exact ⟨k + 1, by omega, by go_num, Below.step (hb.alloc hb.size _) hb1' nl, all_snoc hlt Ha.out hf⟩
     case measure => simp [intOf]; omega
   ·go_wp2
    go_ret;exact ⟨by simp [dY, h6, all_done (by omega) Ha.out], hb⟩
 ·go_enter Tryz.func50, Tryz.ntmps50
  go_wp2_with fail
  go_ret;exact ⟨by simp [dY, h6], Below.refl _ _⟩
theorem stsv_spec (v : Value) (js : List St) (lo hi : Nat) (w : World) (h : bW lo hi w v js) :
 Calls Tryz.prog 40 #[v] w fun e w' => e = .returned (.bool (dY js)) ∧ Below w.heap.size w w' := by
 obtain ⟨ao, cap, rfl, hlc, hcap, hhi, hc⟩ := h;have Hc := hide hc;clear hc;go_enter Tryz.func40, Tryz.ntmps40;go_wp2_with fail
 go_loopw [3] (fun i wr => ∃ k : Nat, k ≤ js.length ∧ i = .int .i64 k ∧ Below w.heap.size w wr ∧ (∀ j (_ : j < js.length), j < k → stB js[j] = true)) (fun i _ => js.length - (intOf i).toNat)
 case atStart => exact ⟨0, Nat.zero_le _, rfl, Below.refl _ _, fun _ _ h => absurd h (Nat.not_lt_zero _)⟩
 case round =>
  obtain ⟨k, hk, rfl, hb, hall⟩ := hrel;have Ha := hide hall;clear hall;by_cases hlt : k < js.length
  ·obtain ⟨b, o, rfl, hb1, hb2, hcs⟩ := Hc.out (by omega)
   obtain ⟨⟨h1, h2, h3, h4, h5⟩, -⟩ := hcs k hlt;rw [← hb.cell (p := ⟨b, _, none⟩) (by simpa using by omega)] at h1 h2 h3 h4 h5;clear hcs;go_wp2_with (go_at_call 95; refine (stv_spec _ _ _ _ _ _).mono ?_; rintro e w1 ⟨rfl, hb1'⟩)
   ·go_ret
    refine ⟨?_, Below.step hb hb1' nl⟩;have hf : stB js[k] = false := by simpa using (by assumption : (!stB { c := js[k].c, m := js[k].m, s := js[k].s, p := js[k].p, k := js[k].k }) = true)
    simp [dY, all_fell hlt hf]
   ·have hf : stB js[k] = true := by simpa using (by assumption : (!stB { c := js[k].c, m := js[k].m, s := js[k].s, p := js[k].p, k := js[k].k }) = false)
    go_roundw
    case rel => exact ⟨k + 1, by omega, by go_num, Below.step hb hb1' nl, all_snoc hlt Ha.out hf⟩
    case measure => simp [intOf]; omega
  ·go_wp2_with fail
   go_ret;refine ⟨?_, hb⟩;have hall := all_done (by omega) Ha.out;by_cases h6 : js.length ≤ 4
   ·simp [dY, hall, h6]; omega
   ·simp [dY, h6]; omega
def grV (g : Gr) : Value := .agg #[.int .i64 g.lc, .int .i64 g.hc, .int .i64 g.lm, .int .i64 g.hm, .int .i64 g.ls, .int .i64 g.hs]
theorem grv_impl (g : Gr) (w : World) :
 Calls Tryz.prog 51 #[grV g] w fun e w' => e = .returned (.bool (grB g)) ∧ Below w.heap.size w w' := by
 obtain ⟨a, b, c, d, f, h⟩ := g;unfold grV;go_enter Tryz.func51, Tryz.ntmps51;go_wp2_with (go_at_call 45; refine (aU _ _ _ _).mono ?_; rintro e w' ⟨rfl, rfl⟩)
 all_goals
  go_ret;exact ⟨by simp_all [grB], by go_grown⟩
theorem l1Range_any (a b : Int) (w : World) :
 Calls Tryz.prog 96 #[.int .i64 a, .int .i64 b] w fun e w' => e = .returned (.bool (wi a 0 999 && wi b a 999)) ∧ w = w' := by
 go_enter Tryz.func96, Tryz.ntmps96;go_wp2_with (go_at_call 42; refine (aY _ _ _ _).mono ?_; rintro e w' ⟨rfl, rfl⟩)
 all_goals
  go_ret;exact ⟨by simp_all, rfl⟩
theorem grv_spec (g : Gr) (w : World) :
 Calls Tryz.prog 41 #[grV g] w fun e w' => e = .returned (.bool (grB g)) ∧ Below w.heap.size w w' := by
 obtain ⟨a, b, c, d, f, h⟩ := g;unfold grV;have e0 : grB ⟨a, b, c, d, f, h⟩ = ((wi a 0 999 && wi b a 999) && ((wi c 0 999 && wi d c 999) && (wi f 0 999 && wi h f 999))) := by simp [grB, Bool.and_assoc]
 rw [e0];rcases h1 : (wi a 0 999 && wi b a 999) <;> rcases h2 : (wi c 0 999 && wi d c 999) <;> rcases h3 : (wi f 0 999 && wi h f 999);all_goals
  have c1 := fun w => l1Range_any a b w;have c2 := fun w => l1Range_any c d w;have c3 := fun w => l1Range_any f h w;rw [h1] at c1;rw [h2] at c2;rw [h3] at c3;go_enter Tryz.func41, Tryz.ntmps41;go_wp2_with fail
  refine (c1 _).mono ?_;rintro e w1 ⟨rfl, rfl⟩;go_wp2_with fail
  first
   | (go_ret; exact ⟨rfl, by go_grown⟩)
   | (refine (c2 _).mono ?_
      rintro e w1 ⟨rfl, rfl⟩;go_wp2_with fail
      first
       | (go_ret; exact ⟨rfl, by go_grown⟩)
       | (refine (c3 _).mono ?_
          rintro e w1 ⟨rfl, rfl⟩;go_wp2_with fail
          go_ret;exact ⟨rfl, by go_grown⟩))
def GradeGot (R k : Nat) (w : World) (e : Ending) (w' : World) : Prop := ∃ g : Gr, e = .returned (grV g) ∧ ai R (R + 1) w w' ∧ Rd R k w'
theorem l20Grade_any (R k : Nat) (w : World) (h : Rd R k w) (hk : k ≤ 50000) :
 Calls Tryz.prog 106 #[.pointer (some ⟨R, 0, none⟩), .int .i64 20] w (GradeGot R (k + 8) w) := by
 have hlt := h.lt;have HR_ := hide h;clear h;go_enter Tryz.func106, Tryz.ntmps106;go_wp2_with fail
 refine aj fun wx hwy => ?_;have Z_n : ae wx (w.heap.size) 25 [.int .i64 0, .int .i64 0, .int .i64 0, .int .i64 0, .int .i64 0, .int .i64 0] := by rw [hwy]; exact ae.new _ _ _
 have hbn : Below w.heap.size w wx := by rw [hwy]; exact (Below.refl _ _).alloc nl _
 have HO1 := hide (ai.of_below (lo := R) (hi := R + 1) hbn);have HR1 := hide (HR_.out.keep hbn (by omega));have hz1 := hbn.size;have hlZ := Z_n.lt;clear hwy hbn;refine (aH R _ 20 wx HR1.out (by omega) (by omega) (by omega)).mono ?_;rintro e w2 ⟨a, rfl, aa, ab, ho, hr⟩;have HO2 := hide (HO1.out.trans ho);have HR2 := hide hr;have Z_2 := Z_n.other ho (by omega);have hz2 := ho.size;clear ho hr;go_wp2_with fail
 refine (aH R _ 30 w2 HR2.out (by omega) (by omega) (by omega)).mono ?_;rintro e w3 ⟨b, rfl, ba, bb, ho, hr⟩;have HO3 := hide (HO2.out.trans ho);have HR3 := hide hr;have Z_3 := Z_2.other ho (by omega);have hz3 := ho.size;clear ho hr;go_wp2_with fail
 refine (aH R _ 20 w3 HR3.out (by omega) (by omega) (by omega)).mono ?_;rintro e w4 ⟨c, rfl, ca, cb, ho, hr⟩;have HO4 := hide (HO3.out.trans ho);have HR4 := hide hr;have Z_4 := Z_3.other ho (by omega);have hz4 := ho.size;clear ho hr;go_wp2_with fail
 obtain ⟨wy, hwy⟩ : ∃ uw : World, uw = w4.alloc (.cells #[.int .i64 a, .int .i64 0, .int .i64 b, .int .i64 0, .int .i64 c, .int .i64 0] 25) := ⟨_, rfl⟩;rw [← hwy];have G_n : ae wy (w4.heap.size) 25 [.int .i64 a, .int .i64 0, .int .i64 b, .int .i64 0, .int .i64 c, .int .i64 0] := by rw [hwy]; exact ae.new _ _ _
 have hbn : Below w4.heap.size w4 wy := by rw [hwy]; exact (Below.refl _ _).alloc nl _
 have HO5 := hide (HO4.out.step hbn (by omega));have HR5 := hide (HR4.out.keep hbn (by omega));have Z_5 := Z_4.below hbn (by omega);have hz5 := hbn.size;have hlG := G_n.lt;clear hwy hbn;have cG0 : wy.cell? ⟨w4.heap.size, 0, none⟩ = some (.int .i64 a) := G_n.c 0 rfl;have cG1 : wy.cell? ⟨w4.heap.size, 1, none⟩ = some (.int .i64 0) := G_n.c 1 rfl;have fG1 := G_n.frozen 1;have hI : (World.drew wy).cell? ⟨w4.heap.size, 0, none⟩ = some (.int .i64 a) := G_n.c 0 rfl;have HRd := hide (show Rd R _ (World.drew wy) from HR5.out.keep ((Below.refl _ _).drew) HR5.out.lt)
 go_region_held (fun W => W.cell? ⟨w4.heap.size, 0, none⟩ = some (.int .i64 a)) (first | (with_reducible exact hI) | (with_reducible exact hS) | (with_reducible exact (G_q.set 1 _ (by simp)).c 0 rfl)) (first | (go_at_call 37; (with_reducible refine (aH R _ 30 _ HRd.out (by omega) (by omega) (by omega)).mono ?_); rintro e w6 ⟨p, rfl, pa, pb, ho, hr⟩; have G_q := (ae.drew G_n).other ho (by omega); have hS : w6.cell? ⟨w4.heap.size, 0, none⟩ = some (.int .i64 a) := G_q.c 0 rfl; have cq : w6.cell? ⟨w4.heap.size, 1, none⟩ = some (.int .i64 0) := G_q.c 1 rfl; have fq : w6.frozen? ⟨w4.heap.size, 1, none⟩ = false := G_q.frozen 1; have hwp : IntKind.i64.wrap ((a + p)) = (a + p) := IntWalk.i64_in _ (by omega)))
 have HO6 := hide ((HO5.out.step ((Below.refl wy.heap.size wy).drew) (by omega)).trans ho);have HR6 := hide hr;have Z_6 := (ae.drew Z_5).other ho (by omega);have G_6 := (ae.drew G_n).other ho (by omega);have hzd6 : (World.drew wy).heap.size = wy.heap.size := rfl;have hz6 := ho.size;clear ho hr hI hS HRd G_q cq fq hwp;clear cG0 cG1 fG1;obtain ⟨y0, hwy⟩ : ∃ uw : World, uw = w6.setCell ⟨w4.heap.size, 1, none⟩ (.int .i64 (a + p)) := ⟨_, rfl⟩;rw [← hwy];have hon : ai (w4.heap.size) (w4.heap.size + 1) w6 y0 := by rw [hwy]; exact (ai.refl _ _ _).setCell (p := ⟨w4.heap.size, 1, none⟩) nl ns _
 have G_t : ae y0 (w4.heap.size) 25 [.int .i64 a, .int .i64 (a + p), .int .i64 b, .int .i64 0, .int .i64 c, .int .i64 0] := by rw [hwy]; exact G_6.set 1 _ (by simp)
 have HO7 := hide (HO6.out.step (hon.below (B := w.heap.size) (by omega) (by omega)) nl);have HR7 := hide (HR6.out.keep (hon.below (B := w.heap.size) (by omega) (by omega)) hlt);have Z_7 := Z_6.other hon (by omega);have G_7 := G_t;have hz7 := hon.size;clear hwy hon G_t;go_wp2_with fail
 have cG2 : y0.cell? ⟨w4.heap.size, 2, none⟩ = some (.int .i64 b) := G_7.c 2 rfl;have cG3 : y0.cell? ⟨w4.heap.size, 3, none⟩ = some (.int .i64 0) := G_7.c 3 rfl;have fG3 := G_7.frozen 3;have hI : (World.drew y0).cell? ⟨w4.heap.size, 2, none⟩ = some (.int .i64 b) := G_7.c 2 rfl;have HRd := hide (show Rd R _ (World.drew y0) from HR7.out.keep ((Below.refl _ _).drew) HR7.out.lt)
 go_region_held (fun W => W.cell? ⟨w4.heap.size, 2, none⟩ = some (.int .i64 b)) (first | (with_reducible exact hI) | (with_reducible exact hS) | (with_reducible exact (G_q.set 3 _ (by simp)).c 2 rfl)) (first | (go_at_call 37; (with_reducible refine (aH R _ 40 _ HRd.out (by omega) (by omega) (by omega)).mono ?_); rintro e w8 ⟨q, rfl, qa, qb, ho, hr⟩; have G_q := (ae.drew G_7).other ho (by omega); have hS : w8.cell? ⟨w4.heap.size, 2, none⟩ = some (.int .i64 b) := G_q.c 2 rfl; have cq : w8.cell? ⟨w4.heap.size, 3, none⟩ = some (.int .i64 0) := G_q.c 3 rfl; have fq : w8.frozen? ⟨w4.heap.size, 3, none⟩ = false := G_q.frozen 3; have hwp : IntKind.i64.wrap ((b + q)) = (b + q) := IntWalk.i64_in _ (by omega)))
 have HO8 := hide ((HO7.out.step ((Below.refl y0.heap.size y0).drew) (by omega)).trans ho);have HR8 := hide hr;have Z_8 := (ae.drew Z_7).other ho (by omega);have G_8 := (ae.drew G_7).other ho (by omega);have hzd8 : (World.drew y0).heap.size = y0.heap.size := rfl;have hz8 := ho.size;clear ho hr hI hS HRd G_q cq fq hwp;clear cG2 cG3 fG3;obtain ⟨y1, hwy⟩ : ∃ uw : World, uw = w8.setCell ⟨w4.heap.size, 3, none⟩ (.int .i64 (b + q)) := ⟨_, rfl⟩;rw [← hwy];have hon : ai (w4.heap.size) (w4.heap.size + 1) w8 y1 := by rw [hwy]; exact (ai.refl _ _ _).setCell (p := ⟨w4.heap.size, 3, none⟩) nl ns _
 have G_t : ae y1 (w4.heap.size) 25 [.int .i64 a, .int .i64 (a + p), .int .i64 b, .int .i64 (b + q), .int .i64 c, .int .i64 0] := by rw [hwy]; exact G_8.set 3 _ (by simp)
 have HO9 := hide (HO8.out.step (hon.below (B := w.heap.size) (by omega) (by omega)) nl);have HR9 := hide (HR8.out.keep (hon.below (B := w.heap.size) (by omega) (by omega)) hlt);have Z_9 := Z_8.other hon (by omega);have G_9 := G_t;have hz9 := hon.size;clear hwy hon G_t;go_wp2_with fail
 have cG4 : y1.cell? ⟨w4.heap.size, 4, none⟩ = some (.int .i64 c) := G_9.c 4 rfl;have cG5 : y1.cell? ⟨w4.heap.size, 5, none⟩ = some (.int .i64 0) := G_9.c 5 rfl;have fG5 := G_9.frozen 5;have hI : (World.drew y1).cell? ⟨w4.heap.size, 4, none⟩ = some (.int .i64 c) := G_9.c 4 rfl;have HRd := hide (show Rd R _ (World.drew y1) from HR9.out.keep ((Below.refl _ _).drew) HR9.out.lt)
 go_region_held (fun W => W.cell? ⟨w4.heap.size, 4, none⟩ = some (.int .i64 c)) (first | (with_reducible exact hI) | (with_reducible exact hS) | (with_reducible exact (G_q.set 5 _ (by simp)).c 4 rfl)) (first | (go_at_call 37; (with_reducible refine (aH R _ 40 _ HRd.out (by omega) (by omega) (by omega)).mono ?_); rintro e w10 ⟨r, rfl, ra, rb, ho, hr⟩; have G_q := (ae.drew G_9).other ho (by omega); have hS : w10.cell? ⟨w4.heap.size, 4, none⟩ = some (.int .i64 c) := G_q.c 4 rfl; have cq : w10.cell? ⟨w4.heap.size, 5, none⟩ = some (.int .i64 0) := G_q.c 5 rfl; have fq : w10.frozen? ⟨w4.heap.size, 5, none⟩ = false := G_q.frozen 5; have hwp : IntKind.i64.wrap ((c + r)) = (c + r) := IntWalk.i64_in _ (by omega)))
 have HO10 := hide ((HO9.out.step ((Below.refl y1.heap.size y1).drew) (by omega)).trans ho);have HR10 := hide hr;have Z_10 := (ae.drew Z_9).other ho (by omega);have G_10 := (ae.drew G_9).other ho (by omega);have hzd10 : (World.drew y1).heap.size = y1.heap.size := rfl;have hz10 := ho.size;clear ho hr hI hS HRd G_q cq fq hwp;clear cG4 cG5 fG5;obtain ⟨y2, hwy⟩ : ∃ uw : World, uw = w10.setCell ⟨w4.heap.size, 5, none⟩ (.int .i64 (c + r)) := ⟨_, rfl⟩;rw [← hwy];have hon : ai (w4.heap.size) (w4.heap.size + 1) w10 y2 := by rw [hwy]; exact (ai.refl _ _ _).setCell (p := ⟨w4.heap.size, 5, none⟩) nl ns _
 have G_t : ae y2 (w4.heap.size) 25 [.int .i64 a, .int .i64 (a + p), .int .i64 b, .int .i64 (b + q), .int .i64 c, .int .i64 (c + r)] := by rw [hwy]; exact G_10.set 5 _ (by simp)
 have HO11 := hide (HO10.out.step (hon.below (B := w.heap.size) (by omega) (by omega)) nl);have HR11 := hide (HR10.out.keep (hon.below (B := w.heap.size) (by omega) (by omega)) hlt);have Z_11 := Z_10.other hon (by omega);have G_11 := G_t;have hz11 := hon.size;clear hwy hon G_t;go_wp2_with fail
 refine (odd_any R _ 20 y2 HR11.out (by omega) (by omega) (by omega)).mono ?_;rintro e w20 ⟨o, rfl, ho, hr⟩;have HO12 := hide (HO11.out.trans ho);have HR12 := hide hr;have Z_12 := Z_11.other ho (by omega);have G_12 := G_11.other ho (by omega);have hz12 := ho.size;clear ho hr;cases o
 case false =>
  have cZ0 : w20.cell? ⟨w.heap.size, 0, none⟩ = some (.int .i64 0) := Z_12.c 0 rfl;have cZ1 : w20.cell? ⟨w.heap.size, 1, none⟩ = some (.int .i64 0) := Z_12.c 1 rfl;have cZ2 : w20.cell? ⟨w.heap.size, 2, none⟩ = some (.int .i64 0) := Z_12.c 2 rfl;have cZ3 : w20.cell? ⟨w.heap.size, 3, none⟩ = some (.int .i64 0) := Z_12.c 3 rfl;have cZ4 : w20.cell? ⟨w.heap.size, 4, none⟩ = some (.int .i64 0) := Z_12.c 4 rfl;have cZ5 : w20.cell? ⟨w.heap.size, 5, none⟩ = some (.int .i64 0) := Z_12.c 5 rfl;have fZ0 := Z_12.frozen 0;have fZ1 := Z_12.frozen 1;have fZ2 := Z_12.frozen 2;have fZ3 := Z_12.frozen 3;have fZ4 := Z_12.frozen 4;have fZ5 := Z_12.frozen 5;have cG0 : w20.cell? ⟨w4.heap.size, 0, none⟩ = some (.int .i64 a) := G_12.c 0 rfl;have cG1 : w20.cell? ⟨w4.heap.size, 1, none⟩ = some (.int .i64 (a + p)) := G_12.c 1 rfl;have cG2 : w20.cell? ⟨w4.heap.size, 2, none⟩ = some (.int .i64 b) := G_12.c 2 rfl;have cG3 : w20.cell? ⟨w4.heap.size, 3, none⟩ = some (.int .i64 (b + q)) := G_12.c 3 rfl;have cG4 : w20.cell? ⟨w4.heap.size, 4, none⟩ = some (.int .i64 c) := G_12.c 4 rfl;have cG5 : w20.cell? ⟨w4.heap.size, 5, none⟩ = some (.int .i64 (c + r)) := G_12.c 5 rfl;go_wp2_with fail
  refine bodyPost_ret (by simp [results, Tryz.results106, go_sem, cZ0, cZ1, cZ2, cZ3, cZ4, cZ5]; try rfl) rfl ?_;refine ⟨⟨_, _, _, _, _, _⟩, rfl, HO12.out.step (B := w.heap.size) (by go_grown) nl, (HR12.out.keep (B := w.heap.size) (by go_grown) hlt).mono (by omega)⟩
 case true =>
  go_wp2_with fail
  refine (aH R _ 3 w20 HR12.out (by omega) (by omega) (by omega)).mono ?_;rintro e w13 ⟨u, rfl, ua, ub, ho, hr⟩;have HO13 := hide (HO12.out.trans ho);have HR13 := hide hr;have Z_13 := Z_12.other ho (by omega);have G_13 := G_12.other ho (by omega);have hz13 := ho.size;clear ho hr;obtain rfl | rfl | rfl : u = 0 ∨ u = 1 ∨ u = 2 := by omega
  ·skip
   have cZ0 : w13.cell? ⟨w.heap.size, 0, none⟩ = some (.int .i64 0) := Z_13.c 0 rfl;have cZ1 : w13.cell? ⟨w.heap.size, 1, none⟩ = some (.int .i64 0) := Z_13.c 1 rfl;have cZ2 : w13.cell? ⟨w.heap.size, 2, none⟩ = some (.int .i64 0) := Z_13.c 2 rfl;have cZ3 : w13.cell? ⟨w.heap.size, 3, none⟩ = some (.int .i64 0) := Z_13.c 3 rfl;have cZ4 : w13.cell? ⟨w.heap.size, 4, none⟩ = some (.int .i64 0) := Z_13.c 4 rfl;have cZ5 : w13.cell? ⟨w.heap.size, 5, none⟩ = some (.int .i64 0) := Z_13.c 5 rfl;have fZ0 := Z_13.frozen 0;have fZ1 := Z_13.frozen 1;have fZ2 := Z_13.frozen 2;have fZ3 := Z_13.frozen 3;have fZ4 := Z_13.frozen 4;have fZ5 := Z_13.frozen 5;have cG0 : w13.cell? ⟨w4.heap.size, 0, none⟩ = some (.int .i64 a) := G_13.c 0 rfl;have cG1 : w13.cell? ⟨w4.heap.size, 1, none⟩ = some (.int .i64 (a + p)) := G_13.c 1 rfl;have cG2 : w13.cell? ⟨w4.heap.size, 2, none⟩ = some (.int .i64 b) := G_13.c 2 rfl;have cG3 : w13.cell? ⟨w4.heap.size, 3, none⟩ = some (.int .i64 (b + q)) := G_13.c 3 rfl;have cG4 : w13.cell? ⟨w4.heap.size, 4, none⟩ = some (.int .i64 c) := G_13.c 4 rfl;have cG5 : w13.cell? ⟨w4.heap.size, 5, none⟩ = some (.int .i64 (c + r)) := G_13.c 5 rfl;have fG0 := G_13.frozen 0;have fG1 := G_13.frozen 1;have fG2 := G_13.frozen 2;have fG3 := G_13.frozen 3;have fG4 := G_13.frozen 4;have fG5 := G_13.frozen 5;go_wp2_with fail
   refine bodyPost_ret (by simp [results, Tryz.results106, go_sem, cZ0, cZ1, cZ2, cZ3, cZ4, cZ5]; try rfl) rfl ?_;refine ⟨⟨_, _, _, _, _, _⟩, rfl, HO13.out.step (B := w.heap.size) (by go_grown) nl, (HR13.out.keep (B := w.heap.size) (by go_grown) hlt).mono (by omega)⟩
  ·skip
   have cZ0 : w13.cell? ⟨w.heap.size, 0, none⟩ = some (.int .i64 0) := Z_13.c 0 rfl;have cZ1 : w13.cell? ⟨w.heap.size, 1, none⟩ = some (.int .i64 0) := Z_13.c 1 rfl;have cZ2 : w13.cell? ⟨w.heap.size, 2, none⟩ = some (.int .i64 0) := Z_13.c 2 rfl;have cZ3 : w13.cell? ⟨w.heap.size, 3, none⟩ = some (.int .i64 0) := Z_13.c 3 rfl;have cZ4 : w13.cell? ⟨w.heap.size, 4, none⟩ = some (.int .i64 0) := Z_13.c 4 rfl;have cZ5 : w13.cell? ⟨w.heap.size, 5, none⟩ = some (.int .i64 0) := Z_13.c 5 rfl;have fZ0 := Z_13.frozen 0;have fZ1 := Z_13.frozen 1;have fZ2 := Z_13.frozen 2;have fZ3 := Z_13.frozen 3;have fZ4 := Z_13.frozen 4;have fZ5 := Z_13.frozen 5;have cG0 : w13.cell? ⟨w4.heap.size, 0, none⟩ = some (.int .i64 a) := G_13.c 0 rfl;have cG1 : w13.cell? ⟨w4.heap.size, 1, none⟩ = some (.int .i64 (a + p)) := G_13.c 1 rfl;have cG2 : w13.cell? ⟨w4.heap.size, 2, none⟩ = some (.int .i64 b) := G_13.c 2 rfl;have cG3 : w13.cell? ⟨w4.heap.size, 3, none⟩ = some (.int .i64 (b + q)) := G_13.c 3 rfl;have cG4 : w13.cell? ⟨w4.heap.size, 4, none⟩ = some (.int .i64 c) := G_13.c 4 rfl;have cG5 : w13.cell? ⟨w4.heap.size, 5, none⟩ = some (.int .i64 (c + r)) := G_13.c 5 rfl;have fG0 := G_13.frozen 0;have fG1 := G_13.frozen 1;have fG2 := G_13.frozen 2;have fG3 := G_13.frozen 3;have fG4 := G_13.frozen 4;have fG5 := G_13.frozen 5;go_wp2_with fail
   refine bodyPost_ret (by simp [results, Tryz.results106, go_sem, cZ0, cZ1, cZ2, cZ3, cZ4, cZ5]; try rfl) rfl ?_;refine ⟨⟨_, _, _, _, _, _⟩, rfl, HO13.out.step (B := w.heap.size) (by go_grown) nl, (HR13.out.keep (B := w.heap.size) (by go_grown) hlt).mono (by omega)⟩
  ·skip
   have cZ0 : w13.cell? ⟨w.heap.size, 0, none⟩ = some (.int .i64 0) := Z_13.c 0 rfl;have cZ1 : w13.cell? ⟨w.heap.size, 1, none⟩ = some (.int .i64 0) := Z_13.c 1 rfl;have cZ2 : w13.cell? ⟨w.heap.size, 2, none⟩ = some (.int .i64 0) := Z_13.c 2 rfl;have cZ3 : w13.cell? ⟨w.heap.size, 3, none⟩ = some (.int .i64 0) := Z_13.c 3 rfl;have cZ4 : w13.cell? ⟨w.heap.size, 4, none⟩ = some (.int .i64 0) := Z_13.c 4 rfl;have cZ5 : w13.cell? ⟨w.heap.size, 5, none⟩ = some (.int .i64 0) := Z_13.c 5 rfl;have fZ0 := Z_13.frozen 0;have fZ1 := Z_13.frozen 1;have fZ2 := Z_13.frozen 2;have fZ3 := Z_13.frozen 3;have fZ4 := Z_13.frozen 4;have fZ5 := Z_13.frozen 5;have cG0 : w13.cell? ⟨w4.heap.size, 0, none⟩ = some (.int .i64 a) := G_13.c 0 rfl;have cG1 : w13.cell? ⟨w4.heap.size, 1, none⟩ = some (.int .i64 (a + p)) := G_13.c 1 rfl;have cG2 : w13.cell? ⟨w4.heap.size, 2, none⟩ = some (.int .i64 b) := G_13.c 2 rfl;have cG3 : w13.cell? ⟨w4.heap.size, 3, none⟩ = some (.int .i64 (b + q)) := G_13.c 3 rfl;have cG4 : w13.cell? ⟨w4.heap.size, 4, none⟩ = some (.int .i64 c) := G_13.c 4 rfl;have cG5 : w13.cell? ⟨w4.heap.size, 5, none⟩ = some (.int .i64 (c + r)) := G_13.c 5 rfl;have fG0 := G_13.frozen 0;have fG1 := G_13.frozen 1;have fG2 := G_13.frozen 2;have fG3 := G_13.frozen 3;have fG4 := G_13.frozen 4;have fG5 := G_13.frozen 5;go_wp2_with fail
   refine bodyPost_ret (by simp [results, Tryz.results106, go_sem, cZ0, cZ1, cZ2, cZ3, cZ4, cZ5]; try rfl) rfl ?_;refine ⟨⟨_, _, _, _, _, _⟩, rfl, HO13.out.step (B := w.heap.size) (by go_grown) nl, (HR13.out.keep (B := w.heap.size) (by go_grown) hlt).mono (by omega)⟩
theorem tkH {P : Program} {ops : Array Oper} {Q : Exit → Act → World → Prop} {md : Region.Mode} {S : World → Prop} {i : Nat} {oi : Oper} {v : Value} {fuel : Nat} {listed : Array Bool} {a : Act} {w : World} (hi : ops[i]? = some oi) (hy : YieldsIf P ops S oi v a) (hS : S w)
 (h : wpAnyH P md ops Q S fuel (listed.setIfInBounds i true) (a.put oi.dst v) w) (hs : Region.noSelect ops = true := by kernel_rfl) (hf : Region.free md ops listed i = true := by kernel_rfl) (hr : (Region.ready md ops listed).contains i = true := by kernel_rfl)
 (hQ : ∀ c a w, Q (.panic c) (a.put oi.dst v) w → Q (.panic c) a w := by exact fun _ _ _ h => h) : wpAnyH P md ops Q S (fuel + 1) listed a w := wpAnyH_take hi hs hf hr hQ hy hS h
end Go.Proofs.YtkhecelpafojdaaGreatDoor
