/-
  Parts of the proofs over mills, of: DrawMD. Conditions: each theorem states its own.
-/
import Derived.Test.YtmemgbklgcjobaaGreatDoorB09
set_option linter.unusedSimpArgs false
set_option linter.unusedVariables false
set_option maxRecDepth 10000
namespace Go.Proofs.YtmemgbklgcjobaaGreatDoor
open Go.RowKit
def GradeGot (R k : Nat) (w : World) (e : Ending) (w' : World) : Prop := ∃ g : Gr, e = .returned (grV g) ∧ Other R (R + 1) w w' ∧ Rd R k w'
set_option maxHeartbeats 1600000 in
theorem l20Grade_any (R k : Nat) (w : World) (h : Rd R k w) (hk : k ≤ 50000) :
    Calls Tryz.prog 181 #[.pointer (some ⟨R, 0, none⟩), .int .i64 20] w (GradeGot R (k + 8) w) := by
  have hlt := h.lt
  have HR_ := hide h
  clear h
  go_enter Tryz.func181, Tryz.ntmps181
  go_wp2_with fail
  refine calls_at fun wx hwy => ?_
  have Z_n : RowL wx (w.heap.size) 25 [.int .i64 0, .int .i64 0, .int .i64 0, .int .i64 0, .int .i64 0, .int .i64 0] := by rw [hwy]; exact RowL.new _ _ _
  have hbn : Below w.heap.size w wx := by rw [hwy]; exact (Below.refl _ _).alloc (Nat.le_refl _) _
  have HO1 := hide (Other.of_below (lo := R) (hi := R + 1) hbn)
  have HR1 := hide (HR_.out.keep hbn (by omega))
  have hz1 := hbn.size
  have hlZ := Z_n.lt
  clear hwy hbn
  refine (pick_in R _ 20 wx HR1.out (by omega) (by omega) (by omega)).mono ?_
  rintro e w2 ⟨a, rfl, aa, ab, ho, hr⟩
  have HO2 := hide (HO1.out.trans ho)
  have HR2 := hide hr
  have Z_2 := Z_n.other ho (by omega)
  have hz2 := ho.size
  clear ho hr
  go_wp2_with fail
  refine (pick_in R _ 30 w2 HR2.out (by omega) (by omega) (by omega)).mono ?_
  rintro e w3 ⟨b, rfl, ba, bb, ho, hr⟩
  have HO3 := hide (HO2.out.trans ho)
  have HR3 := hide hr
  have Z_3 := Z_2.other ho (by omega)
  have hz3 := ho.size
  clear ho hr
  go_wp2_with fail
  refine (pick_in R _ 20 w3 HR3.out (by omega) (by omega) (by omega)).mono ?_
  rintro e w4 ⟨c, rfl, ca, cb, ho, hr⟩
  have HO4 := hide (HO3.out.trans ho)
  have HR4 := hide hr
  have Z_4 := Z_3.other ho (by omega)
  have hz4 := ho.size
  clear ho hr
  go_wp2_with fail
  obtain ⟨wy, hwy⟩ : ∃ uw : World, uw = w4.alloc (.cells #[.int .i64 a, .int .i64 0, .int .i64 b, .int .i64 0, .int .i64 c, .int .i64 0] 25) := ⟨_, rfl⟩
  rw [← hwy]
  have G_n : RowL wy (w4.heap.size) 25 [.int .i64 a, .int .i64 0, .int .i64 b, .int .i64 0, .int .i64 c, .int .i64 0] := by rw [hwy]; exact RowL.new _ _ _
  have hbn : Below w4.heap.size w4 wy := by rw [hwy]; exact (Below.refl _ _).alloc (Nat.le_refl _) _
  have HO5 := hide (HO4.out.step hbn (by omega))
  have HR5 := hide (HR4.out.keep hbn (by omega))
  have Z_5 := Z_4.below hbn (by omega)
  have hz5 := hbn.size
  have hlG := G_n.lt
  clear hwy hbn
  have cG0 : wy.cell? ⟨w4.heap.size, 0, none⟩ = some (.int .i64 a) := G_n.c 0 rfl
  have cG1 : wy.cell? ⟨w4.heap.size, 1, none⟩ = some (.int .i64 0) := G_n.c 1 rfl
  have fG1 := G_n.frozen 1
  have hI : (World.drew wy).cell? ⟨w4.heap.size, 0, none⟩ = some (.int .i64 a) := G_n.c 0 rfl
  have HRd := hide (show Rd R _ (World.drew wy) from HR5.out.keep ((Below.refl _ _).drew) HR5.out.lt)
  go_region_held (fun W => W.cell? ⟨w4.heap.size, 0, none⟩ = some (.int .i64 a)) (first | (with_reducible exact hI) | (with_reducible exact hS) | (with_reducible exact (G_q.set 1 _ (by simp)).c 0 rfl)) (first | (go_at_call 61; (with_reducible refine (pick_in R _ 30 _ HRd.out (by omega) (by omega) (by omega)).mono ?_); rintro e w6 ⟨p, rfl, pa, pb, ho, hr⟩; have G_q := (RowL.drew G_n).other ho (by omega); have hS : w6.cell? ⟨w4.heap.size, 0, none⟩ = some (.int .i64 a) := G_q.c 0 rfl; have cq : w6.cell? ⟨w4.heap.size, 1, none⟩ = some (.int .i64 0) := G_q.c 1 rfl; have fq : w6.frozen? ⟨w4.heap.size, 1, none⟩ = false := G_q.frozen 1; have hwp : IntKind.i64.wrap ((a + p)) = (a + p) := IntWalk.i64_in _ (by omega)))
  have HO6 := hide ((HO5.out.step ((Below.refl wy.heap.size wy).drew) (by omega)).trans ho)
  have HR6 := hide hr
  have Z_6 := (RowL.drew Z_5).other ho (by omega)
  have G_6 := (RowL.drew G_n).other ho (by omega)
  have hzd6 : (World.drew wy).heap.size = wy.heap.size := rfl
  have hz6 := ho.size
  clear ho hr hI hS HRd G_q cq fq hwp
  clear cG0 cG1 fG1
  obtain ⟨y0, hwy⟩ : ∃ uw : World, uw = w6.setCell ⟨w4.heap.size, 1, none⟩ (.int .i64 (a + p)) := ⟨_, rfl⟩
  rw [← hwy]
  have hon : Other (w4.heap.size) (w4.heap.size + 1) w6 y0 := by rw [hwy]; exact (Other.refl _ _ _).setCell (p := ⟨w4.heap.size, 1, none⟩) (Nat.le_refl _) (Nat.lt_succ_self _) _
  have G_t : RowL y0 (w4.heap.size) 25 [.int .i64 a, .int .i64 (a + p), .int .i64 b, .int .i64 0, .int .i64 c, .int .i64 0] := by rw [hwy]; exact G_6.set 1 _ (by simp)
  have HO7 := hide (HO6.out.step (hon.below (B := w.heap.size) (by omega) (by omega)) (Nat.le_refl _))
  have HR7 := hide (HR6.out.keep (hon.below (B := w.heap.size) (by omega) (by omega)) hlt)
  have Z_7 := Z_6.other hon (by omega)
  have G_7 := G_t
  have hz7 := hon.size
  clear hwy hon G_t
  go_wp2_with fail
  have cG2 : y0.cell? ⟨w4.heap.size, 2, none⟩ = some (.int .i64 b) := G_7.c 2 rfl
  have cG3 : y0.cell? ⟨w4.heap.size, 3, none⟩ = some (.int .i64 0) := G_7.c 3 rfl
  have fG3 := G_7.frozen 3
  have hI : (World.drew y0).cell? ⟨w4.heap.size, 2, none⟩ = some (.int .i64 b) := G_7.c 2 rfl
  have HRd := hide (show Rd R _ (World.drew y0) from HR7.out.keep ((Below.refl _ _).drew) HR7.out.lt)
  go_region_held (fun W => W.cell? ⟨w4.heap.size, 2, none⟩ = some (.int .i64 b)) (first | (with_reducible exact hI) | (with_reducible exact hS) | (with_reducible exact (G_q.set 3 _ (by simp)).c 2 rfl)) (first | (go_at_call 61; (with_reducible refine (pick_in R _ 40 _ HRd.out (by omega) (by omega) (by omega)).mono ?_); rintro e w8 ⟨q, rfl, qa, qb, ho, hr⟩; have G_q := (RowL.drew G_7).other ho (by omega); have hS : w8.cell? ⟨w4.heap.size, 2, none⟩ = some (.int .i64 b) := G_q.c 2 rfl; have cq : w8.cell? ⟨w4.heap.size, 3, none⟩ = some (.int .i64 0) := G_q.c 3 rfl; have fq : w8.frozen? ⟨w4.heap.size, 3, none⟩ = false := G_q.frozen 3; have hwp : IntKind.i64.wrap ((b + q)) = (b + q) := IntWalk.i64_in _ (by omega)))
  have HO8 := hide ((HO7.out.step ((Below.refl y0.heap.size y0).drew) (by omega)).trans ho)
  have HR8 := hide hr
  have Z_8 := (RowL.drew Z_7).other ho (by omega)
  have G_8 := (RowL.drew G_7).other ho (by omega)
  have hzd8 : (World.drew y0).heap.size = y0.heap.size := rfl
  have hz8 := ho.size
  clear ho hr hI hS HRd G_q cq fq hwp
  clear cG2 cG3 fG3
  obtain ⟨y1, hwy⟩ : ∃ uw : World, uw = w8.setCell ⟨w4.heap.size, 3, none⟩ (.int .i64 (b + q)) := ⟨_, rfl⟩
  rw [← hwy]
  have hon : Other (w4.heap.size) (w4.heap.size + 1) w8 y1 := by rw [hwy]; exact (Other.refl _ _ _).setCell (p := ⟨w4.heap.size, 3, none⟩) (Nat.le_refl _) (Nat.lt_succ_self _) _
  have G_t : RowL y1 (w4.heap.size) 25 [.int .i64 a, .int .i64 (a + p), .int .i64 b, .int .i64 (b + q), .int .i64 c, .int .i64 0] := by rw [hwy]; exact G_8.set 3 _ (by simp)
  have HO9 := hide (HO8.out.step (hon.below (B := w.heap.size) (by omega) (by omega)) (Nat.le_refl _))
  have HR9 := hide (HR8.out.keep (hon.below (B := w.heap.size) (by omega) (by omega)) hlt)
  have Z_9 := Z_8.other hon (by omega)
  have G_9 := G_t
  have hz9 := hon.size
  clear hwy hon G_t
  go_wp2_with fail
  have cG4 : y1.cell? ⟨w4.heap.size, 4, none⟩ = some (.int .i64 c) := G_9.c 4 rfl
  have cG5 : y1.cell? ⟨w4.heap.size, 5, none⟩ = some (.int .i64 0) := G_9.c 5 rfl
  have fG5 := G_9.frozen 5
  have hI : (World.drew y1).cell? ⟨w4.heap.size, 4, none⟩ = some (.int .i64 c) := G_9.c 4 rfl
  have HRd := hide (show Rd R _ (World.drew y1) from HR9.out.keep ((Below.refl _ _).drew) HR9.out.lt)
  go_region_held (fun W => W.cell? ⟨w4.heap.size, 4, none⟩ = some (.int .i64 c)) (first | (with_reducible exact hI) | (with_reducible exact hS) | (with_reducible exact (G_q.set 5 _ (by simp)).c 4 rfl)) (first | (go_at_call 61; (with_reducible refine (pick_in R _ 40 _ HRd.out (by omega) (by omega) (by omega)).mono ?_); rintro e w10 ⟨r, rfl, ra, rb, ho, hr⟩; have G_q := (RowL.drew G_9).other ho (by omega); have hS : w10.cell? ⟨w4.heap.size, 4, none⟩ = some (.int .i64 c) := G_q.c 4 rfl; have cq : w10.cell? ⟨w4.heap.size, 5, none⟩ = some (.int .i64 0) := G_q.c 5 rfl; have fq : w10.frozen? ⟨w4.heap.size, 5, none⟩ = false := G_q.frozen 5; have hwp : IntKind.i64.wrap ((c + r)) = (c + r) := IntWalk.i64_in _ (by omega)))
  have HO10 := hide ((HO9.out.step ((Below.refl y1.heap.size y1).drew) (by omega)).trans ho)
  have HR10 := hide hr
  have Z_10 := (RowL.drew Z_9).other ho (by omega)
  have G_10 := (RowL.drew G_9).other ho (by omega)
  have hzd10 : (World.drew y1).heap.size = y1.heap.size := rfl
  have hz10 := ho.size
  clear ho hr hI hS HRd G_q cq fq hwp
  clear cG4 cG5 fG5
  obtain ⟨y2, hwy⟩ : ∃ uw : World, uw = w10.setCell ⟨w4.heap.size, 5, none⟩ (.int .i64 (c + r)) := ⟨_, rfl⟩
  rw [← hwy]
  have hon : Other (w4.heap.size) (w4.heap.size + 1) w10 y2 := by rw [hwy]; exact (Other.refl _ _ _).setCell (p := ⟨w4.heap.size, 5, none⟩) (Nat.le_refl _) (Nat.lt_succ_self _) _
  have G_t : RowL y2 (w4.heap.size) 25 [.int .i64 a, .int .i64 (a + p), .int .i64 b, .int .i64 (b + q), .int .i64 c, .int .i64 (c + r)] := by rw [hwy]; exact G_10.set 5 _ (by simp)
  have HO11 := hide (HO10.out.step (hon.below (B := w.heap.size) (by omega) (by omega)) (Nat.le_refl _))
  have HR11 := hide (HR10.out.keep (hon.below (B := w.heap.size) (by omega) (by omega)) hlt)
  have Z_11 := Z_10.other hon (by omega)
  have G_11 := G_t
  have hz11 := hon.size
  clear hwy hon G_t
  go_wp2_with fail
  refine (odd_any R _ 20 y2 HR11.out (by omega) (by omega) (by omega)).mono ?_
  rintro e w20 ⟨o, rfl, ho, hr⟩
  have HO12 := hide (HO11.out.trans ho)
  have HR12 := hide hr
  have Z_12 := Z_11.other ho (by omega)
  have G_12 := G_11.other ho (by omega)
  have hz12 := ho.size
  clear ho hr
  cases o
  case false =>
    have cZ0 : w20.cell? ⟨w.heap.size, 0, none⟩ = some (.int .i64 0) := Z_12.c 0 rfl
    have cZ1 : w20.cell? ⟨w.heap.size, 1, none⟩ = some (.int .i64 0) := Z_12.c 1 rfl
    have cZ2 : w20.cell? ⟨w.heap.size, 2, none⟩ = some (.int .i64 0) := Z_12.c 2 rfl
    have cZ3 : w20.cell? ⟨w.heap.size, 3, none⟩ = some (.int .i64 0) := Z_12.c 3 rfl
    have cZ4 : w20.cell? ⟨w.heap.size, 4, none⟩ = some (.int .i64 0) := Z_12.c 4 rfl
    have cZ5 : w20.cell? ⟨w.heap.size, 5, none⟩ = some (.int .i64 0) := Z_12.c 5 rfl
    have fZ0 := Z_12.frozen 0
    have fZ1 := Z_12.frozen 1
    have fZ2 := Z_12.frozen 2
    have fZ3 := Z_12.frozen 3
    have fZ4 := Z_12.frozen 4
    have fZ5 := Z_12.frozen 5
    have cG0 : w20.cell? ⟨w4.heap.size, 0, none⟩ = some (.int .i64 a) := G_12.c 0 rfl
    have cG1 : w20.cell? ⟨w4.heap.size, 1, none⟩ = some (.int .i64 (a + p)) := G_12.c 1 rfl
    have cG2 : w20.cell? ⟨w4.heap.size, 2, none⟩ = some (.int .i64 b) := G_12.c 2 rfl
    have cG3 : w20.cell? ⟨w4.heap.size, 3, none⟩ = some (.int .i64 (b + q)) := G_12.c 3 rfl
    have cG4 : w20.cell? ⟨w4.heap.size, 4, none⟩ = some (.int .i64 c) := G_12.c 4 rfl
    have cG5 : w20.cell? ⟨w4.heap.size, 5, none⟩ = some (.int .i64 (c + r)) := G_12.c 5 rfl
    go_wp2_with fail
    refine bodyPost_ret (by simp [results, Tryz.results181, go_sem, cZ0, cZ1, cZ2, cZ3, cZ4, cZ5]; try rfl) rfl ?_
    refine ⟨⟨_, _, _, _, _, _⟩, rfl, HO12.out.step (B := w.heap.size) (by go_grown) (Nat.le_refl _), (HR12.out.keep (B := w.heap.size) (by go_grown) hlt).mono (by omega)⟩
  case true =>
    go_wp2_with fail
    refine (pick_in R _ 3 w20 HR12.out (by omega) (by omega) (by omega)).mono ?_
    rintro e w13 ⟨u, rfl, ua, ub, ho, hr⟩
    have HO13 := hide (HO12.out.trans ho)
    have HR13 := hide hr
    have Z_13 := Z_12.other ho (by omega)
    have G_13 := G_12.other ho (by omega)
    have hz13 := ho.size
    clear ho hr
    obtain rfl | rfl | rfl : u = 0 ∨ u = 1 ∨ u = 2 := by omega
    · skip
      have cZ0 : w13.cell? ⟨w.heap.size, 0, none⟩ = some (.int .i64 0) := Z_13.c 0 rfl
      have cZ1 : w13.cell? ⟨w.heap.size, 1, none⟩ = some (.int .i64 0) := Z_13.c 1 rfl
      have cZ2 : w13.cell? ⟨w.heap.size, 2, none⟩ = some (.int .i64 0) := Z_13.c 2 rfl
      have cZ3 : w13.cell? ⟨w.heap.size, 3, none⟩ = some (.int .i64 0) := Z_13.c 3 rfl
      have cZ4 : w13.cell? ⟨w.heap.size, 4, none⟩ = some (.int .i64 0) := Z_13.c 4 rfl
      have cZ5 : w13.cell? ⟨w.heap.size, 5, none⟩ = some (.int .i64 0) := Z_13.c 5 rfl
      have fZ0 := Z_13.frozen 0
      have fZ1 := Z_13.frozen 1
      have fZ2 := Z_13.frozen 2
      have fZ3 := Z_13.frozen 3
      have fZ4 := Z_13.frozen 4
      have fZ5 := Z_13.frozen 5
      have cG0 : w13.cell? ⟨w4.heap.size, 0, none⟩ = some (.int .i64 a) := G_13.c 0 rfl
      have cG1 : w13.cell? ⟨w4.heap.size, 1, none⟩ = some (.int .i64 (a + p)) := G_13.c 1 rfl
      have cG2 : w13.cell? ⟨w4.heap.size, 2, none⟩ = some (.int .i64 b) := G_13.c 2 rfl
      have cG3 : w13.cell? ⟨w4.heap.size, 3, none⟩ = some (.int .i64 (b + q)) := G_13.c 3 rfl
      have cG4 : w13.cell? ⟨w4.heap.size, 4, none⟩ = some (.int .i64 c) := G_13.c 4 rfl
      have cG5 : w13.cell? ⟨w4.heap.size, 5, none⟩ = some (.int .i64 (c + r)) := G_13.c 5 rfl
      have fG0 := G_13.frozen 0
      have fG1 := G_13.frozen 1
      have fG2 := G_13.frozen 2
      have fG3 := G_13.frozen 3
      have fG4 := G_13.frozen 4
      have fG5 := G_13.frozen 5
      go_wp2_with fail
      refine bodyPost_ret (by simp [results, Tryz.results181, go_sem, cZ0, cZ1, cZ2, cZ3, cZ4, cZ5]; try rfl) rfl ?_
      refine ⟨⟨_, _, _, _, _, _⟩, rfl, HO13.out.step (B := w.heap.size) (by go_grown) (Nat.le_refl _), (HR13.out.keep (B := w.heap.size) (by go_grown) hlt).mono (by omega)⟩
    · skip
      have cZ0 : w13.cell? ⟨w.heap.size, 0, none⟩ = some (.int .i64 0) := Z_13.c 0 rfl
      have cZ1 : w13.cell? ⟨w.heap.size, 1, none⟩ = some (.int .i64 0) := Z_13.c 1 rfl
      have cZ2 : w13.cell? ⟨w.heap.size, 2, none⟩ = some (.int .i64 0) := Z_13.c 2 rfl
      have cZ3 : w13.cell? ⟨w.heap.size, 3, none⟩ = some (.int .i64 0) := Z_13.c 3 rfl
      have cZ4 : w13.cell? ⟨w.heap.size, 4, none⟩ = some (.int .i64 0) := Z_13.c 4 rfl
      have cZ5 : w13.cell? ⟨w.heap.size, 5, none⟩ = some (.int .i64 0) := Z_13.c 5 rfl
      have fZ0 := Z_13.frozen 0
      have fZ1 := Z_13.frozen 1
      have fZ2 := Z_13.frozen 2
      have fZ3 := Z_13.frozen 3
      have fZ4 := Z_13.frozen 4
      have fZ5 := Z_13.frozen 5
      have cG0 : w13.cell? ⟨w4.heap.size, 0, none⟩ = some (.int .i64 a) := G_13.c 0 rfl
      have cG1 : w13.cell? ⟨w4.heap.size, 1, none⟩ = some (.int .i64 (a + p)) := G_13.c 1 rfl
      have cG2 : w13.cell? ⟨w4.heap.size, 2, none⟩ = some (.int .i64 b) := G_13.c 2 rfl
      have cG3 : w13.cell? ⟨w4.heap.size, 3, none⟩ = some (.int .i64 (b + q)) := G_13.c 3 rfl
      have cG4 : w13.cell? ⟨w4.heap.size, 4, none⟩ = some (.int .i64 c) := G_13.c 4 rfl
      have cG5 : w13.cell? ⟨w4.heap.size, 5, none⟩ = some (.int .i64 (c + r)) := G_13.c 5 rfl
      have fG0 := G_13.frozen 0
      have fG1 := G_13.frozen 1
      have fG2 := G_13.frozen 2
      have fG3 := G_13.frozen 3
      have fG4 := G_13.frozen 4
      have fG5 := G_13.frozen 5
      go_wp2_with fail
      refine bodyPost_ret (by simp [results, Tryz.results181, go_sem, cZ0, cZ1, cZ2, cZ3, cZ4, cZ5]; try rfl) rfl ?_
      refine ⟨⟨_, _, _, _, _, _⟩, rfl, HO13.out.step (B := w.heap.size) (by go_grown) (Nat.le_refl _), (HR13.out.keep (B := w.heap.size) (by go_grown) hlt).mono (by omega)⟩
    · skip
      have cZ0 : w13.cell? ⟨w.heap.size, 0, none⟩ = some (.int .i64 0) := Z_13.c 0 rfl
      have cZ1 : w13.cell? ⟨w.heap.size, 1, none⟩ = some (.int .i64 0) := Z_13.c 1 rfl
      have cZ2 : w13.cell? ⟨w.heap.size, 2, none⟩ = some (.int .i64 0) := Z_13.c 2 rfl
      have cZ3 : w13.cell? ⟨w.heap.size, 3, none⟩ = some (.int .i64 0) := Z_13.c 3 rfl
      have cZ4 : w13.cell? ⟨w.heap.size, 4, none⟩ = some (.int .i64 0) := Z_13.c 4 rfl
      have cZ5 : w13.cell? ⟨w.heap.size, 5, none⟩ = some (.int .i64 0) := Z_13.c 5 rfl
      have fZ0 := Z_13.frozen 0
      have fZ1 := Z_13.frozen 1
      have fZ2 := Z_13.frozen 2
      have fZ3 := Z_13.frozen 3
      have fZ4 := Z_13.frozen 4
      have fZ5 := Z_13.frozen 5
      have cG0 : w13.cell? ⟨w4.heap.size, 0, none⟩ = some (.int .i64 a) := G_13.c 0 rfl
      have cG1 : w13.cell? ⟨w4.heap.size, 1, none⟩ = some (.int .i64 (a + p)) := G_13.c 1 rfl
      have cG2 : w13.cell? ⟨w4.heap.size, 2, none⟩ = some (.int .i64 b) := G_13.c 2 rfl
      have cG3 : w13.cell? ⟨w4.heap.size, 3, none⟩ = some (.int .i64 (b + q)) := G_13.c 3 rfl
      have cG4 : w13.cell? ⟨w4.heap.size, 4, none⟩ = some (.int .i64 c) := G_13.c 4 rfl
      have cG5 : w13.cell? ⟨w4.heap.size, 5, none⟩ = some (.int .i64 (c + r)) := G_13.c 5 rfl
      have fG0 := G_13.frozen 0
      have fG1 := G_13.frozen 1
      have fG2 := G_13.frozen 2
      have fG3 := G_13.frozen 3
      have fG4 := G_13.frozen 4
      have fG5 := G_13.frozen 5
      go_wp2_with fail
      refine bodyPost_ret (by simp [results, Tryz.results181, go_sem, cZ0, cZ1, cZ2, cZ3, cZ4, cZ5]; try rfl) rfl ?_
      refine ⟨⟨_, _, _, _, _, _⟩, rfl, HO13.out.step (B := w.heap.size) (by go_grown) (Nat.le_refl _), (HR13.out.keep (B := w.heap.size) (by go_grown) hlt).mono (by omega)⟩
end Go.Proofs.YtmemgbklgcjobaaGreatDoor
