/-
  The walk over Replay of the program.
-/
import Derived.Test.YtmemgbklgcjobaaGreatDoorX46
import Derived.Test.YtmemgbklgcjobaaGreatDoorX47
import Derived.Test.YtmemgbklgcjobaaGreatDoorX48
namespace Go.Proofs.YtmemgbklgcjobaaGreatDoor
open Go.RowKit

set_option linter.unusedVariables false in
set_option linter.unusedSimpArgs false in
set_option maxRecDepth 10000 in
set_option maxHeartbeats 3200000 in
theorem replay_impl (s p l h : Value) (m : Mi) (t : ByteArray) (nn : Int) (w : World) (H : MillIn 0 w.heap.size w s p l h m) (ht : t.size < 4294967281) (hm : w.cell? ⟨1, 0, none⟩ = some (.int .i64 nn)) (hna : NamesIs w) :
    Calls Tryz.prog 15 #[millV s p l h m, .string t] w (RunGot w.heap.size (replayR m t) w) := by
  obtain ⟨ao1, cap1, rfl, -, -, -, -⟩ := id H.store
  obtain ⟨ao2, cap2, rfl, -, -, -, -⟩ := id H.pieces
  obtain ⟨ao3, cap3, rfl, -, -, -, -⟩ := id H.low
  obtain ⟨ao4, cap4, rfl, -, -, -, -⟩ := id H.high
  have HM := hide H
  have h1lt : 1 < w.heap.size := by
    rcases Nat.lt_or_ge 1 w.heap.size with h | h
    · exact h
    · simp [World.cell?, Array.getElem?_eq_none h] at hm
  have HC := hide hm
  have HN := hide hna
  clear hm hna
  obtain ⟨⟨js, nb⟩, hjs⟩ : ∃ z, rjR t = z := ⟨_, rfl⟩
  have HSML := hide (show ∀ j ∈ js, J.d j ≤ 9223372036854775807 ∧ J.g j ≤ 9223372036854775807 from by have h := rj_small t; rw [hjs] at h; exact h)
  have HGD := hide (show millB m = true → replayR m t = ((runR m js).1, (js.length : Int)) from fun hv => by have h := replay_good hv t; rw [hjs] at h; exact h)
  have HRJ := hide (fun (W : World) (q1 : W.cell? ⟨1, 0, none⟩ = some (.int .i64 nn)) (q2 : NamesIs W) => (by have h := readJournal_impl t nn W ht q1 q2; rw [hjs] at h; exact h : Calls Tryz.prog 21 #[.string t] W _))
  clear hjs
  clear H
  unfold millV
  go_enter Tryz.func15, Tryz.ntmps15
  go_wp2_with fail
  refine calls_at fun wx hwx => ?_
  have A_0 : RowL wx (w.heap.size) 31 [.slice ao1 m.store.length cap1, .int .i64 m.rule.lc, .int .i64 m.rule.hc, .int .i64 m.rule.lm, .int .i64 m.rule.hm, .int .i64 m.rule.ls, .int .i64 m.rule.hs, .int .i64 m.strand, .slice ao2 m.pieces.length cap2, .slice ao3 m.low.length cap3, .slice ao4 m.high.length cap4, .int .i64 m.scrap] := by rw [hwx]; exact (RowL.new _ 31 [.slice ao1 m.store.length cap1, .int .i64 m.rule.lc, .int .i64 m.rule.hc, .int .i64 m.rule.lm, .int .i64 m.rule.hm, .int .i64 m.rule.ls, .int .i64 m.rule.hs, .int .i64 m.strand, .slice ao2 m.pieces.length cap2, .slice ao3 m.low.length cap3, .slice ao4 m.high.length cap4, .int .i64 m.scrap]).alloc _
  have R_0 : RowL wx (w.heap.size + 1) 31 [.slice none 0 0, .int .i64 0, .int .i64 0, .int .i64 0, .int .i64 0, .int .i64 0, .int .i64 0, .int .i64 0, .slice none 0 0, .slice none 0 0, .slice none 0 0, .int .i64 0] := by rw [hwx]; simpa using (RowL.new (World.alloc _ _) 31 [.slice none 0 0, .int .i64 0, .int .i64 0, .int .i64 0, .int .i64 0, .int .i64 0, .int .i64 0, .int .i64 0, .slice none 0 0, .slice none 0 0, .slice none 0 0, .int .i64 0])
  have hb : Below w.heap.size w wx := by rw [hwx]; go_grown
  clear hwx
  have B_0 := hide hb
  have hz0 := R_0.lt
  have V_0 := hide (HM.out.below hb)
  clear hb
  have k1 := mill_impl _ _ _ _ m wx V_0.out.all
  unfold millV at k1
  cases hv : millB m with
  | false =>
    rw [hv] at k1
    have HZ := hide (replay_bad hv t)
    clear hv
    refine k1.mono ?_
    rintro e w1 ⟨rfl, hb⟩
    have A_1 := A_0.below hb A_0.lt
    have R_1 := R_0.below hb R_0.lt
    have B_1 := hide (Below.step B_0.out hb (Nat.le_refl _))
    have V_1 := hide (V_0.out.below hb)
    have hz1 := hb.size
    clear hb
    clear k1
    have cR0 : w1.cell? ⟨w.heap.size + 1, 0, none⟩ = some (.slice none 0 0) := R_1.c 0 rfl
    have fR0 : w1.frozen? ⟨w.heap.size + 1, 0, none⟩ = false := R_1.frozen 0
    have cR1 : w1.cell? ⟨w.heap.size + 1, 1, none⟩ = some (.int .i64 0) := R_1.c 1 rfl
    have fR1 : w1.frozen? ⟨w.heap.size + 1, 1, none⟩ = false := R_1.frozen 1
    have cR2 : w1.cell? ⟨w.heap.size + 1, 2, none⟩ = some (.int .i64 0) := R_1.c 2 rfl
    have fR2 : w1.frozen? ⟨w.heap.size + 1, 2, none⟩ = false := R_1.frozen 2
    have cR3 : w1.cell? ⟨w.heap.size + 1, 3, none⟩ = some (.int .i64 0) := R_1.c 3 rfl
    have fR3 : w1.frozen? ⟨w.heap.size + 1, 3, none⟩ = false := R_1.frozen 3
    have cR4 : w1.cell? ⟨w.heap.size + 1, 4, none⟩ = some (.int .i64 0) := R_1.c 4 rfl
    have fR4 : w1.frozen? ⟨w.heap.size + 1, 4, none⟩ = false := R_1.frozen 4
    have cR5 : w1.cell? ⟨w.heap.size + 1, 5, none⟩ = some (.int .i64 0) := R_1.c 5 rfl
    have fR5 : w1.frozen? ⟨w.heap.size + 1, 5, none⟩ = false := R_1.frozen 5
    have cR6 : w1.cell? ⟨w.heap.size + 1, 6, none⟩ = some (.int .i64 0) := R_1.c 6 rfl
    have fR6 : w1.frozen? ⟨w.heap.size + 1, 6, none⟩ = false := R_1.frozen 6
    have cR7 : w1.cell? ⟨w.heap.size + 1, 7, none⟩ = some (.int .i64 0) := R_1.c 7 rfl
    have fR7 : w1.frozen? ⟨w.heap.size + 1, 7, none⟩ = false := R_1.frozen 7
    have cR8 : w1.cell? ⟨w.heap.size + 1, 8, none⟩ = some (.slice none 0 0) := R_1.c 8 rfl
    have fR8 : w1.frozen? ⟨w.heap.size + 1, 8, none⟩ = false := R_1.frozen 8
    have cR9 : w1.cell? ⟨w.heap.size + 1, 9, none⟩ = some (.slice none 0 0) := R_1.c 9 rfl
    have fR9 : w1.frozen? ⟨w.heap.size + 1, 9, none⟩ = false := R_1.frozen 9
    have cR10 : w1.cell? ⟨w.heap.size + 1, 10, none⟩ = some (.slice none 0 0) := R_1.c 10 rfl
    have fR10 : w1.frozen? ⟨w.heap.size + 1, 10, none⟩ = false := R_1.frozen 10
    have cR11 : w1.cell? ⟨w.heap.size + 1, 11, none⟩ = some (.int .i64 0) := R_1.c 11 rfl
    have fR11 : w1.frozen? ⟨w.heap.size + 1, 11, none⟩ = false := R_1.frozen 11
    go_wp2_with fail
    refine bodyPost_ret (by simp [results, Tryz.results15, go_sem, cR0, cR1, cR2, cR3, cR4, cR5, cR6, cR7, cR8, cR9, cR10, cR11]; try rfl) rfl ?_
    rw [HZ.out]
    exact ⟨_, _, _, _, rfl, zero_got B_1.out (Nat.le_refl _) (by omega) _ _ _ _ _ _ _ _ _ _ _ _⟩
  | true =>
    rw [hv] at k1
    have HZ := hide (HGD.out hv)
    clear hv
    refine k1.mono ?_
    rintro e w1 ⟨rfl, hb⟩
    have A_1 := A_0.below hb A_0.lt
    have R_1 := R_0.below hb R_0.lt
    have B_1 := hide (Below.step B_0.out hb (Nat.le_refl _))
    have V_1 := hide (V_0.out.below hb)
    have hz1 := hb.size
    clear hb
    clear k1
    go_wp2_with fail
    have hm1 : w1.cell? ⟨1, 0, none⟩ = some (.int .i64 nn) := by rw [B_1.out.cell (p := ⟨1, 0, none⟩) h1lt]; exact HC.out
    refine (HRJ.out w1 hm1 (HN.out.stays B_1.out)).mono ?_
    rintro e w2 ⟨v, he, own, hb⟩
    have he : e = .returned (.tuple #[v, .int .i64 nb]) := he
    subst he
    have own := (show World.ownsRow _ _ 48 3 v js.length (flatD js) from own)
    obtain ⟨aoj, cpj, rfl, -, -⟩ := own_slice own
    have J_2 := hide (ownD_at own rfl (by have := hb.size; omega))
    clear own
    have A_2 := A_1.below hb A_1.lt
    have R_2 := R_1.below hb R_1.lt
    have B_2 := hide (Below.step B_1.out hb (Nat.le_refl _))
    have V_2 := hide (V_1.out.below hb)
    have hz2 := hb.size
    clear hb
    have cA0 : w2.cell? ⟨w.heap.size, 0, none⟩ = some (.slice ao1 m.store.length cap1) := A_2.c 0 rfl
    have cA1 : w2.cell? ⟨w.heap.size, 1, none⟩ = some (.int .i64 m.rule.lc) := A_2.c 1 rfl
    have cA2 : w2.cell? ⟨w.heap.size, 2, none⟩ = some (.int .i64 m.rule.hc) := A_2.c 2 rfl
    have cA3 : w2.cell? ⟨w.heap.size, 3, none⟩ = some (.int .i64 m.rule.lm) := A_2.c 3 rfl
    have cA4 : w2.cell? ⟨w.heap.size, 4, none⟩ = some (.int .i64 m.rule.hm) := A_2.c 4 rfl
    have cA5 : w2.cell? ⟨w.heap.size, 5, none⟩ = some (.int .i64 m.rule.ls) := A_2.c 5 rfl
    have cA6 : w2.cell? ⟨w.heap.size, 6, none⟩ = some (.int .i64 m.rule.hs) := A_2.c 6 rfl
    have cA7 : w2.cell? ⟨w.heap.size, 7, none⟩ = some (.int .i64 m.strand) := A_2.c 7 rfl
    have cA8 : w2.cell? ⟨w.heap.size, 8, none⟩ = some (.slice ao2 m.pieces.length cap2) := A_2.c 8 rfl
    have cA9 : w2.cell? ⟨w.heap.size, 9, none⟩ = some (.slice ao3 m.low.length cap3) := A_2.c 9 rfl
    have cA10 : w2.cell? ⟨w.heap.size, 10, none⟩ = some (.slice ao4 m.high.length cap4) := A_2.c 10 rfl
    have cA11 : w2.cell? ⟨w.heap.size, 11, none⟩ = some (.int .i64 m.scrap) := A_2.c 11 rfl
    go_wp2_with fail
    clear cA0 cA1 cA2 cA3 cA4 cA5 cA6 cA7 cA8 cA9 cA10 cA11
    have k2 := run_impl _ _ _ _ _ m js w2 V_2.out.all (J_2.out.mono (Nat.zero_le _) (by omega) (Nat.le_refl _)) HSML.out
    obtain ⟨⟨y, q⟩, hy⟩ : ∃ z, runR m js = z := ⟨_, rfl⟩
    rw [hy] at k2 HZ
    unfold millV at k2
    refine k2.mono ?_
    clear k2 hy
    rintro e w8 ⟨s4, p4, l4, h4, he, G, hb⟩
    have he : e = .returned (.tuple #[millV s4 p4 l4 h4 y, .int .i64 q]) := he
    subst he
    have G : MillGot _ w8 s4 p4 l4 h4 y := G
    obtain ⟨aS4, cs4, rfl, -, -⟩ := G.so.form
    obtain ⟨ap4, cp4, rfl, -, -⟩ := G.po.form
    obtain ⟨al4, cl4, rfl, -, -⟩ := G.lo.form
    obtain ⟨ah4, ch4, rfl, -, -⟩ := G.ho.form
    have R_8 := R_2.below hb R_2.lt
    have B_8 := hide (Below.step B_2.out hb (Nat.le_refl _))
    have hz8 := hb.size
    have G_8 := hide G
    have hlR := R_8.lt
    clear hb G
    unfold millV
    go_upto_region 5 with fail
    obtain ⟨wa, hwa⟩ : ∃ q : World, q = w8.alloc (.cells #[.slice aS4 y.store.length cs4, .int .i64 y.rule.lc, .int .i64 y.rule.hc, .int .i64 y.rule.lm, .int .i64 y.rule.hm, .int .i64 y.rule.ls, .int .i64 y.rule.hs, .int .i64 y.strand, .slice ap4 y.pieces.length cp4, .slice al4 y.low.length cl4, .slice ah4 y.high.length ch4, .int .i64 y.scrap] 31) := ⟨_, rfl⟩
    rw [← hwa]
    have Y_a : RowL wa w8.heap.size 31 [.slice aS4 y.store.length cs4, .int .i64 y.rule.lc, .int .i64 y.rule.hc, .int .i64 y.rule.lm, .int .i64 y.rule.hm, .int .i64 y.rule.ls, .int .i64 y.rule.hs, .int .i64 y.strand, .slice ap4 y.pieces.length cp4, .slice al4 y.low.length cl4, .slice ah4 y.high.length ch4, .int .i64 y.scrap] := by rw [hwa]; exact RowL.new _ _ _
    have hba : Below w8.heap.size w8 wa := by rw [hwa]; exact (Below.refl _ _).alloc (Nat.le_refl _) _
    clear hwa
    have R_a := R_8.below hba R_8.lt
    have G_a := hide (G_8.out.below hba)
    have B_a := hide (Below.step B_8.out hba (Nat.le_refl _))
    have hza := hba.size
    have hlY := Y_a.lt
    clear hba
    have cY0 : wa.cell? ⟨w8.heap.size, 0, none⟩ = some (.slice aS4 y.store.length cs4) := Y_a.c 0 rfl
    have cY1 : wa.cell? ⟨w8.heap.size, 1, none⟩ = some (.int .i64 y.rule.lc) := Y_a.c 1 rfl
    have cY2 : wa.cell? ⟨w8.heap.size, 2, none⟩ = some (.int .i64 y.rule.hc) := Y_a.c 2 rfl
    have cY3 : wa.cell? ⟨w8.heap.size, 3, none⟩ = some (.int .i64 y.rule.lm) := Y_a.c 3 rfl
    have cY4 : wa.cell? ⟨w8.heap.size, 4, none⟩ = some (.int .i64 y.rule.hm) := Y_a.c 4 rfl
    have cY5 : wa.cell? ⟨w8.heap.size, 5, none⟩ = some (.int .i64 y.rule.ls) := Y_a.c 5 rfl
    have cY6 : wa.cell? ⟨w8.heap.size, 6, none⟩ = some (.int .i64 y.rule.hs) := Y_a.c 6 rfl
    have cY7 : wa.cell? ⟨w8.heap.size, 7, none⟩ = some (.int .i64 y.strand) := Y_a.c 7 rfl
    have cY8 : wa.cell? ⟨w8.heap.size, 8, none⟩ = some (.slice ap4 y.pieces.length cp4) := Y_a.c 8 rfl
    have cY9 : wa.cell? ⟨w8.heap.size, 9, none⟩ = some (.slice al4 y.low.length cl4) := Y_a.c 9 rfl
    have cY10 : wa.cell? ⟨w8.heap.size, 10, none⟩ = some (.slice ah4 y.high.length ch4) := Y_a.c 10 rfl
    have cY11 : wa.cell? ⟨w8.heap.size, 11, none⟩ = some (.int .i64 y.scrap) := Y_a.c 11 rfl
    have cR0 : wa.cell? ⟨w.heap.size + 1, 0, none⟩ = some (.slice none 0 0) := R_a.c 0 rfl
    have fR0 : wa.frozen? ⟨w.heap.size + 1, 0, none⟩ = false := R_a.frozen 0
    have cR1 : wa.cell? ⟨w.heap.size + 1, 1, none⟩ = some (.int .i64 0) := R_a.c 1 rfl
    have fR1 : wa.frozen? ⟨w.heap.size + 1, 1, none⟩ = false := R_a.frozen 1
    have cR2 : wa.cell? ⟨w.heap.size + 1, 2, none⟩ = some (.int .i64 0) := R_a.c 2 rfl
    have fR2 : wa.frozen? ⟨w.heap.size + 1, 2, none⟩ = false := R_a.frozen 2
    have cR3 : wa.cell? ⟨w.heap.size + 1, 3, none⟩ = some (.int .i64 0) := R_a.c 3 rfl
    have fR3 : wa.frozen? ⟨w.heap.size + 1, 3, none⟩ = false := R_a.frozen 3
    have cR4 : wa.cell? ⟨w.heap.size + 1, 4, none⟩ = some (.int .i64 0) := R_a.c 4 rfl
    have fR4 : wa.frozen? ⟨w.heap.size + 1, 4, none⟩ = false := R_a.frozen 4
    have cR5 : wa.cell? ⟨w.heap.size + 1, 5, none⟩ = some (.int .i64 0) := R_a.c 5 rfl
    have fR5 : wa.frozen? ⟨w.heap.size + 1, 5, none⟩ = false := R_a.frozen 5
    have cR6 : wa.cell? ⟨w.heap.size + 1, 6, none⟩ = some (.int .i64 0) := R_a.c 6 rfl
    have fR6 : wa.frozen? ⟨w.heap.size + 1, 6, none⟩ = false := R_a.frozen 6
    have cR7 : wa.cell? ⟨w.heap.size + 1, 7, none⟩ = some (.int .i64 0) := R_a.c 7 rfl
    have fR7 : wa.frozen? ⟨w.heap.size + 1, 7, none⟩ = false := R_a.frozen 7
    have cR8 : wa.cell? ⟨w.heap.size + 1, 8, none⟩ = some (.slice none 0 0) := R_a.c 8 rfl
    have fR8 : wa.frozen? ⟨w.heap.size + 1, 8, none⟩ = false := R_a.frozen 8
    have cR9 : wa.cell? ⟨w.heap.size + 1, 9, none⟩ = some (.slice none 0 0) := R_a.c 9 rfl
    have fR9 : wa.frozen? ⟨w.heap.size + 1, 9, none⟩ = false := R_a.frozen 9
    have cR10 : wa.cell? ⟨w.heap.size + 1, 10, none⟩ = some (.slice none 0 0) := R_a.c 10 rfl
    have fR10 : wa.frozen? ⟨w.heap.size + 1, 10, none⟩ = false := R_a.frozen 10
    have cR11 : wa.cell? ⟨w.heap.size + 1, 11, none⟩ = some (.int .i64 0) := R_a.c 11 rfl
    have fR11 : wa.frozen? ⟨w.heap.size + 1, 11, none⟩ = false := R_a.frozen 11
    go_wp2_with fail
    refine bodyPost_ret (by simp [results, Tryz.results15, go_sem, cR0, cR1, cR2, cR3, cR4, cR5, cR6, cR7, cR8, cR9, cR10, cR11]; try rfl) rfl ?_
    rw [HZ.out]
    exact ⟨_, _, _, _, rfl, put_got G_a.out B_a.out (by omega) (by omega) (Nat.le_refl _) _ _ _ _ _ _ _ _ _ _ _ _⟩
end Go.Proofs.YtmemgbklgcjobaaGreatDoor
