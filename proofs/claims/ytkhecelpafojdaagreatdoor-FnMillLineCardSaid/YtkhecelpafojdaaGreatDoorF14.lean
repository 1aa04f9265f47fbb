/-
  Parts of the proofs over mills, of: DrawME. Conditions: each theorem states its own.
-/
import Derived.Test.YtkhecelpafojdaaGreatDoorF12
set_option linter.unusedSimpArgs false
set_option linter.unusedVariables false
set_option maxRecDepth 10000
set_option maxHeartbeats 64000000
namespace Go.Proofs.YtkhecelpafojdaaGreatDoor
open Go.RowKit
theorem sums_bd {f : St → Int} (hf : ∀ s, stB s = true → 0 ≤ f s ∧ f s ≤ 999) (sts : List St) (mix : List Int) (hl : mix.length ≤ 4) : -1 ≤ bS f sts mix ∧ bS f sts mix ≤ 40000 := by
 unfold bS;split
 ·rename_i h
  have := gq hf h mix.length nl;omega
 ·omega
theorem st_c {s : St} (h : stB s = true) : 0 ≤ s.c ∧ s.c ≤ 999 := (eP.1 h).1
theorem st_m {s : St} (h : stB s = true) : 0 ≤ s.m ∧ s.m ≤ 999 := (eP.1 h).2.1
theorem st_s {s : St} (h : stB s = true) : 0 ≤ s.s ∧ s.s ≤ 999 := (eP.1 h).2.2.1
structure AroundW (R k : Nat) (w : World) (gb zb : Nat) (gs zs : List Value) (W : World) : Prop where
 o : ai R (R + 1) w W
 r : Rd R k W
 gr : ae W gb 25 gs
 zr : ae W zb 25 zs
 hg : R < gb ∧ R < zb
theorem AroundW.step {R k gb zb : Nat} {w W W' : World} {gs zs : List Value} (h : AroundW R k w gb zb gs zs W) (ho : ai R (R + 1) W W') (hr : Rd R (k + 1) W') : AroundW R (k + 1) w gb zb gs zs W' :=
 ⟨h.o.trans ho, hr, h.gr.other ho (by have := h.hg; omega), h.zr.other ho (by have := h.hg; omega), h.hg⟩
theorem quo_bd {a n : Int} (ha : -1 ≤ a) (h : a ≤ 40000) (hn : 1 ≤ n) : ∃ q, a.tdiv n = q ∧ -1 ≤ q ∧ q ≤ 40000 := by
 refine ⟨_, rfl, ?_, ?_⟩
 ·by_cases h0 : 0 ≤ a
  ·exact Int.le_trans (by omega) (Int.tdiv_nonneg h0 (by omega))
  ·obtain rfl : a = -1 := by omega
   rcases Int.lt_or_eq_of_le hn with h1 | rfl
   ·rw [show (-1 : Int).tdiv n = 0 by rw [Int.neg_tdiv, Int.tdiv_eq_ediv_of_nonneg (by omega), Int.ediv_eq_zero_of_lt (by omega) h1]; rfl]; omega
   ·simp
 ·by_cases h0 : 0 ≤ a
  ·rw [Int.tdiv_eq_ediv_of_nonneg h0]; exact Int.le_trans (Int.ediv_le_self _ h0) h
  ·obtain rfl : a = -1 := by omega
   rcases Int.lt_or_eq_of_le hn with h1 | rfl
   ·rw [show (-1 : Int).tdiv n = 0 by rw [Int.neg_tdiv, Int.tdiv_eq_ediv_of_nonneg (by omega), Int.ediv_eq_zero_of_lt (by omega) h1]; rfl]; omega
   ·simp
theorem l20Around_any (R k : Nat) (sv mv : Value) (sts : List St) (mix : List Int) (w : World) (h : Rd R k w) (hk : k ≤ 40000) (Hs : bW 0 w.heap.size w sv sts) (Hm : au 0 w.heap.size w mv mix) (hl : mix.length ≤ 4) (hb : ∀ j, j < mix.length → 0 ≤ mix.getD j 0 ∧ mix.getD j 0 ≤ 9) :
 Calls Tryz.prog 58 #[.pointer (some ⟨R, 0, none⟩), sv, mv] w (GradeGot R (k + 15) w) := by
 have hlt := h.lt;have HR_ := hide h;clear h;have HB9 := hide (show ∀ j, j < mix.length → 0 ≤ mix.getD j 0 ∧ mix.getD j 0 ≤ 60 from fun j hj => by have := hb j hj; omega);have HS := hide Hs;have HM := hide Hm;obtain ⟨aos, caps, rfl, -, -, -, -⟩ := Hs;obtain ⟨aom, capm, rfl, -, -, -, -⟩ := Hm;clear hb;go_enter Tryz.func58, Tryz.ntmps58;go_wp2_with fail
 refine aj fun wx hwy => ?_;have Z_n : ae wx (w.heap.size) 25 [.int .i64 0, .int .i64 0, .int .i64 0, .int .i64 0, .int .i64 0, .int .i64 0] := by rw [hwy]; exact ae.new _ _ _
 have hbn : Below w.heap.size w wx := by rw [hwy]; exact (Below.refl _ _).alloc nl _
 have BX := hide hbn;have HO1 := hide (ai.of_below (lo := R) (hi := R + 1) hbn);have HR1 := hide (HR_.out.keep hbn (by omega));have hz1 := hbn.size;have hlZ := Z_n.lt;clear hwy hbn;have VSx := HS.out.below BX.out;have VMx := HM.out.below BX.out;have k1 := sums_spec _ _ sts mix wx (VSx.mono (Nat.zero_le _) BX.out.size nl) (VMx.mono (Nat.zero_le _) BX.out.size nl);obtain ⟨a, ha⟩ : ∃ x, bS St.c sts mix = x := ⟨_, rfl⟩;obtain ⟨b, hb⟩ : ∃ x, bS St.m sts mix = x := ⟨_, rfl⟩;obtain ⟨c, hc⟩ : ∃ x, bS St.s sts mix = x := ⟨_, rfl⟩;have ba := sums_bd (fun s h => st_c h) sts mix hl;have bb := sums_bd (fun s h => st_m h) sts mix hl;have bc := sums_bd (fun s h => st_s h) sts mix hl;rw [ha] at ba k1;rw [hb] at bb k1;rw [hc] at bc k1;clear ha hb hc VSx;refine k1.mono ?_;rintro e w2 ⟨rfl, hb2⟩;have HO2 := hide (HO1.out.step hb2 (by omega));have HR2 := hide (HR1.out.keep hb2 (by omega));have Z_2 := Z_n.below hb2 (by omega);have hz2 := hb2.size;have VM2 := hide (VMx.below hb2);clear hb2 k1 VMx;go_wp2_with fail
 refine (tons_spec _ mix _ _ w2 VM2.out hl HB9.out).mono ?_;rintro e w3 ⟨rfl, rfl⟩;obtain ⟨t, ht⟩ : ∃ x, dV mix = x := ⟨_, rfl⟩;rw [ht];obtain ⟨n, hn, hn1⟩ : ∃ n : Int, max t 1 = n ∧ 1 ≤ n := ⟨_, rfl, by omega⟩;clear ht;go_wp2_with fail
 refine (l20Grade_any R _ w2 HR2.out (by omega)).mono ?_;rintro e w4 ⟨g, rfl, ho, hr⟩;have HO3 := hide (HO2.out.trans ho);have HR3 := hide hr;have Z_3 := Z_2.other ho (by omega);have hz3 := ho.size;clear ho hr hn;unfold grV
 go_upto_region 4 with fail
 obtain ⟨wy, hwy⟩ : ∃ uw : World, uw = w4.alloc (.cells #[.int .i64 g.lc, .int .i64 g.hc, .int .i64 g.lm, .int .i64 g.hm, .int .i64 g.ls, .int .i64 g.hs] 25) := ⟨_, rfl⟩;rw [← hwy];have G_n : ae wy (w4.heap.size) 25 [.int .i64 g.lc, .int .i64 g.hc, .int .i64 g.lm, .int .i64 g.hm, .int .i64 g.ls, .int .i64 g.hs] := by rw [hwy]; exact ae.new _ _ _
 have hbn : Below w4.heap.size w4 wy := by rw [hwy]; exact (Below.refl _ _).alloc nl _
 have HO4 := hide (HO3.out.step hbn (by omega));have HR4 := hide (HR3.out.keep hbn (by omega));have Z_4 := Z_3.below hbn (by omega);have hz4 := hbn.size;have hlG := G_n.lt;clear hwy hbn;by_cases h0 : 0 ≤ a;rotate_left
 ·have hB : decide (0 ≤ a) = false := by simpa using h0
  have cZ0 : wy.cell? ⟨w.heap.size, 0, none⟩ = some (.int .i64 0) := Z_4.c 0 rfl;have cZ1 : wy.cell? ⟨w.heap.size, 1, none⟩ = some (.int .i64 0) := Z_4.c 1 rfl;have cZ2 : wy.cell? ⟨w.heap.size, 2, none⟩ = some (.int .i64 0) := Z_4.c 2 rfl;have cZ3 : wy.cell? ⟨w.heap.size, 3, none⟩ = some (.int .i64 0) := Z_4.c 3 rfl;have cZ4 : wy.cell? ⟨w.heap.size, 4, none⟩ = some (.int .i64 0) := Z_4.c 4 rfl;have cZ5 : wy.cell? ⟨w.heap.size, 5, none⟩ = some (.int .i64 0) := Z_4.c 5 rfl;have fZ0 := Z_4.frozen 0;have fZ1 := Z_4.frozen 1;have fZ2 := Z_4.frozen 2;have fZ3 := Z_4.frozen 3;have fZ4 := Z_4.frozen 4;have fZ5 := Z_4.frozen 5;have cG0 : wy.cell? ⟨w4.heap.size, 0, none⟩ = some (.int .i64 g.lc) := G_n.c 0 rfl;have cG1 : wy.cell? ⟨w4.heap.size, 1, none⟩ = some (.int .i64 g.hc) := G_n.c 1 rfl;have cG2 : wy.cell? ⟨w4.heap.size, 2, none⟩ = some (.int .i64 g.lm) := G_n.c 2 rfl;have cG3 : wy.cell? ⟨w4.heap.size, 3, none⟩ = some (.int .i64 g.hm) := G_n.c 3 rfl;have cG4 : wy.cell? ⟨w4.heap.size, 4, none⟩ = some (.int .i64 g.ls) := G_n.c 4 rfl;have cG5 : wy.cell? ⟨w4.heap.size, 5, none⟩ = some (.int .i64 g.hs) := G_n.c 5 rfl;go_wp2_with fail
  refine bodyPost_ret (by simp [results, Tryz.results58, go_sem, cZ0, cZ1, cZ2, cZ3, cZ4, cZ5]; try rfl) rfl ?_;exact ⟨⟨_, _, _, _, _, _⟩, rfl, HO4.out.step (B := w.heap.size) (by go_grown) nl, (HR4.out.keep (B := w.heap.size) (by go_grown) hlt).mono (by omega)⟩
 have hB : decide (0 ≤ a) = true := by simpa using h0
 go_wp2_with fail
 refine (aH R _ 4 wy HR4.out (by omega) (by omega) (by omega)).mono ?_;rintro e w5 ⟨y, rfl, ya, yb, ho, hr⟩;have HO5 := hide (HO4.out.trans ho);have HR5 := hide hr;have Z_5 := Z_4.other ho (by omega);have G_5 := G_n.other ho (by omega);have hz5 := ho.size;clear ho hr;by_cases hy : 0 < y;rotate_left
 ·have hyB : decide (0 < y) = false := by simpa using hy
  have cZ0 : w5.cell? ⟨w.heap.size, 0, none⟩ = some (.int .i64 0) := Z_5.c 0 rfl;have cZ1 : w5.cell? ⟨w.heap.size, 1, none⟩ = some (.int .i64 0) := Z_5.c 1 rfl;have cZ2 : w5.cell? ⟨w.heap.size, 2, none⟩ = some (.int .i64 0) := Z_5.c 2 rfl;have cZ3 : w5.cell? ⟨w.heap.size, 3, none⟩ = some (.int .i64 0) := Z_5.c 3 rfl;have cZ4 : w5.cell? ⟨w.heap.size, 4, none⟩ = some (.int .i64 0) := Z_5.c 4 rfl;have cZ5 : w5.cell? ⟨w.heap.size, 5, none⟩ = some (.int .i64 0) := Z_5.c 5 rfl;have fZ0 := Z_5.frozen 0;have fZ1 := Z_5.frozen 1;have fZ2 := Z_5.frozen 2;have fZ3 := Z_5.frozen 3;have fZ4 := Z_5.frozen 4;have fZ5 := Z_5.frozen 5;have cG0 : w5.cell? ⟨w4.heap.size, 0, none⟩ = some (.int .i64 g.lc) := G_5.c 0 rfl;have cG1 : w5.cell? ⟨w4.heap.size, 1, none⟩ = some (.int .i64 g.hc) := G_5.c 1 rfl;have cG2 : w5.cell? ⟨w4.heap.size, 2, none⟩ = some (.int .i64 g.lm) := G_5.c 2 rfl;have cG3 : w5.cell? ⟨w4.heap.size, 3, none⟩ = some (.int .i64 g.hm) := G_5.c 3 rfl;have cG4 : w5.cell? ⟨w4.heap.size, 4, none⟩ = some (.int .i64 g.ls) := G_5.c 4 rfl;have cG5 : w5.cell? ⟨w4.heap.size, 5, none⟩ = some (.int .i64 g.hs) := G_5.c 5 rfl;go_wp2_with fail
  refine bodyPost_ret (by simp [results, Tryz.results58, go_sem, cZ0, cZ1, cZ2, cZ3, cZ4, cZ5]; try rfl) rfl ?_;exact ⟨⟨_, _, _, _, _, _⟩, rfl, HO5.out.step (B := w.heap.size) (by go_grown) nl, (HR5.out.keep (B := w.heap.size) (by go_grown) hlt).mono (by omega)⟩
 have hyB : decide (0 < y) = true := by simpa using hy
 obtain ⟨qa, hqa, qa0, qa1⟩ := quo_bd ba.1 ba.2 hn1;obtain ⟨qb, hqb, qb0, qb1⟩ := quo_bd bb.1 bb.2 hn1;obtain ⟨qc, hqc, qc0, qc1⟩ := quo_bd bc.1 bc.2 hn1;have hn0 : (n == 0) = false := by simp; omega
 have hn2 : ¬ n = 0 := by omega
 have HWd := hide (show AroundW R (k + 9) w w4.heap.size w.heap.size [.int .i64 g.lc, .int .i64 g.hc, .int .i64 g.lm, .int .i64 g.hm, .int .i64 g.ls, .int .i64 g.hs] [.int .i64 0, .int .i64 0, .int .i64 0, .int .i64 0, .int .i64 0, .int .i64 0] (World.drew w5) from ⟨HO5.out.step (Below.refl w5.heap.size w5).drew (by omega), HR5.out.keep ((Below.refl _ _).drew) HR5.out.lt, ae.drew G_5, ae.drew Z_5, by omega⟩);clear ba bb bc HB9 HS HM ya yb;go_wp2_with fail
 clear h0 hB hy hyB
 go_cut [] from 31 to 70 (fun W => ∃ x0 x1 x2 x3 x4 x5 : Int, AroundW R (k + 15) w w4.heap.size w.heap.size [.int .i64 x0, .int .i64 x1, .int .i64 x2, .int .i64 x3, .int .i64 x4, .int .i64 x5] [.int .i64 0, .int .i64 0, .int .i64 0, .int .i64 0, .int .i64 0, .int .i64 0] W)
 case first =>
  refine wp_region_held_drew (S := fun _ => True) (by kernel_rfl) trivial (fun hHeld => ?_);clear hHeld;refine tkH (i := 0) (v := ?v0) rfl (Or.inl ⟨by rfl, ?hy0⟩) trivial ?rest0
  case hy0 => (intro wz hSw; go_simp; first | done | with_reducible rfl)
  try simp only [Act.put, List.setIfInBounds_toArray, List.set_cons_zero, List.set_cons_succ]
  refine tkH (i := 1) (v := ?v1) rfl (Or.inl ⟨by rfl, ?hy1⟩) trivial ?rest1
  case hy1 => (intro wz hSw; go_simp; first | done | with_reducible rfl)
  try simp only [Act.put, List.setIfInBounds_toArray, List.set_cons_zero, List.set_cons_succ]
  refine tkH (i := 2) (v := ?v2) rfl (Or.inl ⟨by rfl, ?hy2⟩) trivial ?rest2
  case hy2 => (intro wz hSw; go_simp; first | done | with_reducible rfl)
  try simp only [Act.put, List.setIfInBounds_toArray, List.set_cons_zero, List.set_cons_succ]
  refine tkH (i := 3) (v := ?v3) rfl (Or.inl ⟨by rfl, ?hy3⟩) trivial ?rest3
  case hy3 => (intro wz hSw; go_simp; first | done | with_reducible rfl)
  try simp only [Act.put, List.setIfInBounds_toArray, List.set_cons_zero, List.set_cons_succ]
  refine tkH (i := 7) (v := ?v7) rfl (Or.inl ⟨by rfl, ?hy7⟩) trivial ?rest7
  case hy7 => (intro wz hSw; go_simp; first | done | with_reducible rfl)
  try simp only [Act.put, List.setIfInBounds_toArray, List.set_cons_zero, List.set_cons_succ]
  refine tkH (i := 8) (v := ?v8) rfl (Or.inl ⟨by rfl, ?hy8⟩) trivial ?rest8
  case hy8 => (intro wz hSw; go_simp; first | done | with_reducible rfl)
  try simp only [Act.put, List.setIfInBounds_toArray, List.set_cons_zero, List.set_cons_succ]
  refine tkH (i := 9) (v := ?v9) rfl (Or.inl ⟨by rfl, ?hy9⟩) trivial ?rest9
  case hy9 => (intro wz hSw; go_simp; first | done | with_reducible rfl)
  try simp only [Act.put, List.setIfInBounds_toArray, List.set_cons_zero, List.set_cons_succ]
  refine tkH (i := 10) (v := ?v10) rfl (Or.inl ⟨by rfl, ?hy10⟩) trivial ?rest10
  case hy10 => (intro wz hSw; go_simp; first | done | with_reducible rfl)
  try simp only [Act.put, List.setIfInBounds_toArray, List.set_cons_zero, List.set_cons_succ]
  refine tkH (i := 13) (v := ?v13) rfl (Or.inl ⟨by rfl, ?hy13⟩) trivial ?rest13
  case hy13 => (intro wz hSw; go_simp; first | done | with_reducible rfl)
  try simp only [Act.put, List.setIfInBounds_toArray, List.set_cons_zero, List.set_cons_succ]
  refine tkH (i := 14) (v := ?v14) rfl (Or.inl ⟨by rfl, ?hy14⟩) trivial ?rest14
  case hy14 => (intro wz hSw; go_simp; first | done | with_reducible rfl)
  try simp only [Act.put, List.setIfInBounds_toArray, List.set_cons_zero, List.set_cons_succ]
  refine tkH (i := 15) (v := ?v15) rfl (Or.inl ⟨by rfl, ?hy15⟩) trivial ?rest15
  case hy15 => (intro wz hSw; go_simp; first | done | with_reducible rfl)
  try simp only [Act.put, List.setIfInBounds_toArray, List.set_cons_zero, List.set_cons_succ]
  refine tkH (i := 16) (v := ?v16) rfl (Or.inl ⟨by rfl, ?hy16⟩) trivial ?rest16
  case hy16 => (intro wz hSw; go_simp; first | done | with_reducible rfl)
  try simp only [Act.put, List.setIfInBounds_toArray, List.set_cons_zero, List.set_cons_succ]
  refine tkH (i := 20) (v := ?v20) rfl (Or.inl ⟨by rfl, ?hy20⟩) trivial ?rest20
  case hy20 => (intro wz hSw; go_simp; first | done | with_reducible rfl)
  try simp only [Act.put, List.setIfInBounds_toArray, List.set_cons_zero, List.set_cons_succ]
  refine tkH (i := 21) (v := ?v21) rfl (Or.inl ⟨by rfl, ?hy21⟩) trivial ?rest21
  case hy21 => (intro wz hSw; go_simp; first | done | with_reducible rfl)
  try simp only [Act.put, List.setIfInBounds_toArray, List.set_cons_zero, List.set_cons_succ]
  refine tkH (i := 22) (v := ?v22) rfl (Or.inl ⟨by rfl, ?hy22⟩) trivial ?rest22
  case hy22 => (intro wz hSw; go_simp; first | done | with_reducible rfl)
  try simp only [Act.put, List.setIfInBounds_toArray, List.set_cons_zero, List.set_cons_succ]
  refine tkH (i := 23) (v := ?v23) rfl (Or.inl ⟨by rfl, ?hy23⟩) trivial ?rest23
  case hy23 => (intro wz hSw; go_simp; first | done | with_reducible rfl)
  try simp only [Act.put, List.setIfInBounds_toArray, List.set_cons_zero, List.set_cons_succ]
  refine tkH (i := 26) (v := ?v26) rfl (Or.inl ⟨by rfl, ?hy26⟩) trivial ?rest26
  case hy26 => (intro wz hSw; go_simp; first | done | with_reducible rfl)
  try simp only [Act.put, List.setIfInBounds_toArray, List.set_cons_zero, List.set_cons_succ]
  refine tkH (i := 27) (v := ?v27) rfl (Or.inl ⟨by rfl, ?hy27⟩) trivial ?rest27
  case hy27 => (intro wz hSw; go_simp; first | done | with_reducible rfl)
  try simp only [Act.put, List.setIfInBounds_toArray, List.set_cons_zero, List.set_cons_succ]
  refine tkH (i := 28) (v := ?v28) rfl (Or.inl ⟨by rfl, ?hy28⟩) trivial ?rest28
  case hy28 => (intro wz hSw; go_simp; first | done | with_reducible rfl)
  try simp only [Act.put, List.setIfInBounds_toArray, List.set_cons_zero, List.set_cons_succ]
  refine tkH (i := 29) (v := ?v29) rfl (Or.inl ⟨by rfl, ?hy29⟩) trivial ?rest29
  case hy29 => (intro wz hSw; go_simp; first | done | with_reducible rfl)
  try simp only [Act.put, List.setIfInBounds_toArray, List.set_cons_zero, List.set_cons_succ]
  refine tkH (i := 33) (v := ?v33) rfl (Or.inl ⟨by rfl, ?hy33⟩) trivial ?rest33
  case hy33 => (intro wz hSw; go_simp; first | done | with_reducible rfl)
  try simp only [Act.put, List.setIfInBounds_toArray, List.set_cons_zero, List.set_cons_succ]
  refine tkH (i := 34) (v := ?v34) rfl (Or.inl ⟨by rfl, ?hy34⟩) trivial ?rest34
  case hy34 => (intro wz hSw; go_simp; first | done | with_reducible rfl)
  try simp only [Act.put, List.setIfInBounds_toArray, List.set_cons_zero, List.set_cons_succ]
  refine tkH (i := 35) (v := ?v35) rfl (Or.inl ⟨by rfl, ?hy35⟩) trivial ?rest35
  case hy35 => (intro wz hSw; go_simp; first | done | with_reducible rfl)
  try simp only [Act.put, List.setIfInBounds_toArray, List.set_cons_zero, List.set_cons_succ]
  refine tkH (i := 36) (v := ?v36) rfl (Or.inl ⟨by rfl, ?hy36⟩) trivial ?rest36
  case hy36 => (intro wz hSw; go_simp; first | done | with_reducible rfl)
  try simp only [Act.put, List.setIfInBounds_toArray, List.set_cons_zero, List.set_cons_succ]
  refine wpAnyH_ready (rs := [4]) (by kernel_rfl) (by simp) ?_;refine AllReadyH.cons rfl (fun K hK => ?_) AllReadyH.nil
  go_simp
  go_wp2_with (first | (go_at_call 37; (with_reducible refine (aH R (k + 9) 6 _ HWd.out.r (by omega) (by omega) (by omega)).mono ?_); rintro e u1 ⟨x1, rfl, xa1, xb1, ho, hr⟩; have HW1 := hide (HWd.out.step ho hr); clear HWd ho hr hqa hqb hqc hn0 hn2))
  refine hK.out _ _ trivial (fun hHeld => ?_);clear hK K hHeld;refine tkH (i := 5) (v := ?v5) rfl (Or.inl ⟨by rfl, ?hy5⟩) trivial ?rest5
  case hy5 => (intro wz hSw; go_simp; first | done | with_reducible rfl)
  try simp only [Act.put, List.setIfInBounds_toArray, List.set_cons_zero, List.set_cons_succ]
  refine tkH (i := 6) (v := ?v6) rfl (Or.inl ⟨by rfl, ?hy6⟩) trivial ?rest6
  case hy6 => (intro wz hSw; go_simp; first | done | with_reducible rfl)
  try simp only [Act.put, List.setIfInBounds_toArray, List.set_cons_zero, List.set_cons_succ]
  refine wpAnyH_ready (rs := [11]) (by kernel_rfl) (by simp) ?_;refine AllReadyH.cons rfl (fun K hK => ?_) AllReadyH.nil
  go_simp
  go_wp2_with (first | (go_at_call 37; (with_reducible refine (aH R (k + 10) 8 _ HW1.out.r (by omega) (by omega) (by omega)).mono ?_); rintro e u2 ⟨x2, rfl, xa2, xb2, ho, hr⟩; have HW2 := hide (HW1.out.step ho hr); clear HW1 ho hr xa1 xb1))
  refine hK.out _ _ trivial (fun hHeld => ?_);clear hK K hHeld;refine tkH (i := 12) (v := ?v12) rfl (Or.inl ⟨by rfl, ?hy12⟩) trivial ?rest12
  case hy12 => (intro wz hSw; go_simp; first | done | with_reducible rfl)
  try simp only [Act.put, List.setIfInBounds_toArray, List.set_cons_zero, List.set_cons_succ]
  refine wpAnyH_ready (rs := [17]) (by kernel_rfl) (by simp) ?_;refine AllReadyH.cons rfl (fun K hK => ?_) AllReadyH.nil
  go_simp
  go_wp2_with (first | (go_at_call 37; (with_reducible refine (aH R (k + 11) 9 _ HW2.out.r (by omega) (by omega) (by omega)).mono ?_); rintro e u3 ⟨x3, rfl, xa3, xb3, ho, hr⟩; have HW3 := hide (HW2.out.step ho hr); clear HW2 ho hr xa2 xb2))
  refine hK.out _ _ trivial (fun hHeld => ?_);clear hK K hHeld;refine tkH (i := 18) (v := ?v18) rfl (Or.inl ⟨by rfl, ?hy18⟩) trivial ?rest18
  case hy18 => (intro wz hSw; go_simp; first | done | with_reducible rfl)
  try simp only [Act.put, List.setIfInBounds_toArray, List.set_cons_zero, List.set_cons_succ]
  refine tkH (i := 19) (v := ?v19) rfl (Or.inl ⟨by rfl, ?hy19⟩) trivial ?rest19
  case hy19 => (intro wz hSw; go_simp; first | done | with_reducible rfl)
  try simp only [Act.put, List.setIfInBounds_toArray, List.set_cons_zero, List.set_cons_succ]
  refine wpAnyH_ready (rs := [24]) (by kernel_rfl) (by simp) ?_;refine AllReadyH.cons rfl (fun K hK => ?_) AllReadyH.nil
  go_simp
  go_wp2_with (first | (go_at_call 37; (with_reducible refine (aH R (k + 12) 9 _ HW3.out.r (by omega) (by omega) (by omega)).mono ?_); rintro e u4 ⟨x4, rfl, xa4, xb4, ho, hr⟩; have HW4 := hide (HW3.out.step ho hr); clear HW3 ho hr xa3 xb3))
  refine hK.out _ _ trivial (fun hHeld => ?_);clear hK K hHeld;refine tkH (i := 25) (v := ?v25) rfl (Or.inl ⟨by rfl, ?hy25⟩) trivial ?rest25
  case hy25 => (intro wz hSw; go_simp; first | done | with_reducible rfl)
  try simp only [Act.put, List.setIfInBounds_toArray, List.set_cons_zero, List.set_cons_succ]
  refine wpAnyH_ready (rs := [30]) (by kernel_rfl) (by simp) ?_;refine AllReadyH.cons rfl (fun K hK => ?_) AllReadyH.nil
  go_simp
  go_wp2_with (first | (go_at_call 37; (with_reducible refine (aH R (k + 13) 9 _ HW4.out.r (by omega) (by omega) (by omega)).mono ?_); rintro e u5 ⟨x5, rfl, xa5, xb5, ho, hr⟩; have HW5 := hide (HW4.out.step ho hr); clear HW4 ho hr xa4 xb4))
  refine hK.out _ _ trivial (fun hHeld => ?_);clear hK K hHeld;refine tkH (i := 31) (v := ?v31) rfl (Or.inl ⟨by rfl, ?hy31⟩) trivial ?rest31
  case hy31 => (intro wz hSw; go_simp; first | done | with_reducible rfl)
  try simp only [Act.put, List.setIfInBounds_toArray, List.set_cons_zero, List.set_cons_succ]
  refine tkH (i := 32) (v := ?v32) rfl (Or.inl ⟨by rfl, ?hy32⟩) trivial ?rest32
  case hy32 => (intro wz hSw; go_simp; first | done | with_reducible rfl)
  try simp only [Act.put, List.setIfInBounds_toArray, List.set_cons_zero, List.set_cons_succ]
  refine wpAnyH_ready (rs := [37]) (by kernel_rfl) (by simp) ?_;refine AllReadyH.cons rfl (fun K hK => ?_) AllReadyH.nil
  go_simp
  go_wp2_with (first | (go_at_call 37; (with_reducible refine (aH R (k + 14) 9 _ HW5.out.r (by omega) (by omega) (by omega)).mono ?_); rintro e u6 ⟨x6, rfl, xa6, xb6, ho, hr⟩; have HW6 := hide (HW5.out.step ho hr); clear HW5 ho hr xa5 xb5; clear qa0 qa1 qb0 qb1 qc0 qc1 xa6 xb6; have cG0 : u6.cell? ⟨w4.heap.size, 0, none⟩ = some (.int .i64 g.lc) := HW6.out.gr.c 0 rfl; have fG0 : u6.frozen? ⟨w4.heap.size, 0, none⟩ = false := HW6.out.gr.frozen 0; have cG1 : u6.cell? ⟨w4.heap.size, 1, none⟩ = some (.int .i64 g.hc) := HW6.out.gr.c 1 rfl; have fG1 : u6.frozen? ⟨w4.heap.size, 1, none⟩ = false := HW6.out.gr.frozen 1; have cG2 : u6.cell? ⟨w4.heap.size, 2, none⟩ = some (.int .i64 g.lm) := HW6.out.gr.c 2 rfl; have fG2 : u6.frozen? ⟨w4.heap.size, 2, none⟩ = false := HW6.out.gr.frozen 2; have cG3 : u6.cell? ⟨w4.heap.size, 3, none⟩ = some (.int .i64 g.hm) := HW6.out.gr.c 3 rfl; have fG3 : u6.frozen? ⟨w4.heap.size, 3, none⟩ = false := HW6.out.gr.frozen 3; have cG4 : u6.cell? ⟨w4.heap.size, 4, none⟩ = some (.int .i64 g.ls) := HW6.out.gr.c 4 rfl; have fG4 : u6.frozen? ⟨w4.heap.size, 4, none⟩ = false := HW6.out.gr.frozen 4; have cG5 : u6.cell? ⟨w4.heap.size, 5, none⟩ = some (.int .i64 g.hs) := HW6.out.gr.c 5 rfl; have fG5 : u6.frozen? ⟨w4.heap.size, 5, none⟩ = false := HW6.out.gr.frozen 5))
  refine hK.out _ _ trivial (fun hHeld => ?_);clear hK K hHeld;refine tkH (i := 38) (v := ?v38) rfl (Or.inl ⟨by rfl, ?hy38⟩) trivial ?rest38
  case hy38 => (intro wz hSw; go_simp; first | done | with_reducible rfl)
  try simp only [Act.put, List.setIfInBounds_toArray, List.set_cons_zero, List.set_cons_succ]
  refine tkH (i := 39) (v := ?v39) rfl (Or.inl ⟨by rfl, ?hy39⟩) trivial ?rest39
  case hy39 => (intro wz hSw; go_simp; first | done | with_reducible rfl)
  try simp only [Act.put, List.setIfInBounds_toArray, List.set_cons_zero, List.set_cons_succ]
  refine wpAnyH_ready (rs := [40]) (by kernel_rfl) (by simp) ?_;refine AllReadyH.cons rfl (fun K hK => ?_) AllReadyH.nil
  go_simp
  skip;refine hK.out _ _ trivial (fun hHeld => ?_);clear hK K hHeld;refine wpAnyH_done (by kernel_rfl) ?_ _;obtain ⟨wv, hwv⟩ : ∃ uw : World, uw = ((((((u6.setCell ⟨w4.heap.size, 0, none⟩ (.int .i64 (max (IntKind.i64.wrap (IntKind.i64.wrap qa - x1)) 0))).setCell ⟨w4.heap.size, 1, none⟩ (.int .i64 (IntKind.i64.wrap (IntKind.i64.wrap qa + x2)))).setCell ⟨w4.heap.size, 2, none⟩ (.int .i64 (max (IntKind.i64.wrap (IntKind.i64.wrap qb - x3)) 0))).setCell ⟨w4.heap.size, 3, none⟩ (.int .i64 (IntKind.i64.wrap (IntKind.i64.wrap qb + x4)))).setCell ⟨w4.heap.size, 4, none⟩ (.int .i64 (max (IntKind.i64.wrap (IntKind.i64.wrap qc - x5)) 0))).setCell ⟨w4.heap.size, 5, none⟩ (.int .i64 (IntKind.i64.wrap (IntKind.i64.wrap qc + x6)))) := ⟨_, rfl⟩;go_wp2_with fail
  rw [← hwv];go_meet;have hon : Below w.heap.size u6 wv := by rw [hwv]; go_grown
  refine ⟨(max (IntKind.i64.wrap (IntKind.i64.wrap qa - x1)) 0), (IntKind.i64.wrap (IntKind.i64.wrap qa + x2)), (max (IntKind.i64.wrap (IntKind.i64.wrap qb - x3)) 0), (IntKind.i64.wrap (IntKind.i64.wrap qb + x4)), (max (IntKind.i64.wrap (IntKind.i64.wrap qc - x5)) 0), (IntKind.i64.wrap (IntKind.i64.wrap qc + x6)), HW6.out.o.step hon nl, HW6.out.r.keep hon hlt, ?_, ?_, HW6.out.hg⟩
  ·rw [hwv]
   exact (((((HW6.out.gr.set 0 _ (by simp)).set 1 _ (by simp)).set 2 _ (by simp)).set 3 _ (by simp)).set 4 _ (by simp)).set 5 _ (by simp)
  ·rw [hwv]
   exact (((((HW6.out.zr.far (by simp; omega) _).far (by simp; omega) _).far (by simp; omega) _).far (by simp; omega) _).far (by simp; omega) _).far (by simp; omega) _
 obtain ⟨x0, x1, x2, x3, x4, x5, HW⟩ := hcut;have G_v := HW.gr;have Z_v := HW.zr;have HOv := hide HW.o;have HRv := hide HW.r;have hlv := HW.o.size;clear HW HWd;have cZ0 : wc.cell? ⟨w.heap.size, 0, none⟩ = some (.int .i64 0) := Z_v.c 0 rfl;have cZ1 : wc.cell? ⟨w.heap.size, 1, none⟩ = some (.int .i64 0) := Z_v.c 1 rfl;have cZ2 : wc.cell? ⟨w.heap.size, 2, none⟩ = some (.int .i64 0) := Z_v.c 2 rfl;have cZ3 : wc.cell? ⟨w.heap.size, 3, none⟩ = some (.int .i64 0) := Z_v.c 3 rfl;have cZ4 : wc.cell? ⟨w.heap.size, 4, none⟩ = some (.int .i64 0) := Z_v.c 4 rfl;have cZ5 : wc.cell? ⟨w.heap.size, 5, none⟩ = some (.int .i64 0) := Z_v.c 5 rfl;have fZ0 := Z_v.frozen 0;have fZ1 := Z_v.frozen 1;have fZ2 := Z_v.frozen 2;have fZ3 := Z_v.frozen 3;have fZ4 := Z_v.frozen 4;have fZ5 := Z_v.frozen 5;have cG0 : wc.cell? ⟨w4.heap.size, 0, none⟩ = some (.int .i64 x0) := G_v.c 0 rfl;have cG1 : wc.cell? ⟨w4.heap.size, 1, none⟩ = some (.int .i64 x1) := G_v.c 1 rfl;have cG2 : wc.cell? ⟨w4.heap.size, 2, none⟩ = some (.int .i64 x2) := G_v.c 2 rfl;have cG3 : wc.cell? ⟨w4.heap.size, 3, none⟩ = some (.int .i64 x3) := G_v.c 3 rfl;have cG4 : wc.cell? ⟨w4.heap.size, 4, none⟩ = some (.int .i64 x4) := G_v.c 4 rfl;have cG5 : wc.cell? ⟨w4.heap.size, 5, none⟩ = some (.int .i64 x5) := G_v.c 5 rfl;go_wp2_with fail
 refine bodyPost_ret (by simp [results, Tryz.results58, go_sem, cZ0, cZ1, cZ2, cZ3, cZ4, cZ5]; try rfl) rfl ?_;exact ⟨⟨_, _, _, _, _, _⟩, rfl, HOv.out.step (B := w.heap.size) (by go_grown) nl, (HRv.out.keep (B := w.heap.size) (by go_grown) hlt).mono (by omega)⟩
end Go.Proofs.YtkhecelpafojdaaGreatDoor
