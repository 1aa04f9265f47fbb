/-
  Parts of the proofs over mills, of: DoSX, DoAS, DoAI, PlainRep. Conditions: each theorem states its own.
-/
import Derived.Test.YtmemgbklgcjobaaGreatDoorX35
import Derived.Test.YtmemgbklgcjobaaGreatDoorX36
import Derived.Test.YtmemgbklgcjobaaGreatDoorX37
import Derived.Test.YtmemgbklgcjobaaGreatDoorX38
import Derived.Test.YtmemgbklgcjobaaGreatDoorX40
import Derived.Test.YtmemgbklgcjobaaGreatDoorX44
set_option linter.unusedSimpArgs false
set_option linter.unusedVariables false
set_option maxRecDepth 10000
namespace Go.Proofs.YtmemgbklgcjobaaGreatDoor
open Go.RowKit
set_option maxHeartbeats 16000000 in
theorem do_sx (s p l h : Value) (m : Mi) (k a b : Int) (w : World) (H : MillIn 0 w.heap.size w s p l h m) (ha : a ≤ 9223372036854775807) (hb : b ≤ 9223372036854775807) (e0 : (k == 0) = false) (e1 : (k == 1) = false) (e2 : (k == 2) = false) (e3 : (k == 3) = false) (e4 : (k == 4) = false) :
    Calls Tryz.prog 45 #[millV s p l h m, .agg #[.int .i64 k, .int .i64 a, .int .i64 b]] w (DoGot w.heap.size (doR m ⟨k, a, b⟩) w) := by
  obtain ⟨ao1, cap1, rfl, -, -, -, -⟩ := id H.store
  obtain ⟨ao2, cap2, rfl, -, -, -, -⟩ := id H.pieces
  obtain ⟨ao3, cap3, rfl, -, -, -, -⟩ := id H.low
  obtain ⟨ao4, cap4, rfl, -, -, -, -⟩ := id H.high
  have HM := hide H
  have HA := hide (And.intro ha hb)
  clear H ha hb
  unfold millV
  go_enter Tryz.func45, Tryz.ntmps45
  go_wp2_with fail
  refine calls_at fun wx hwx => ?_
  have A_0 : RowL wx (w.heap.size) 31 [.slice ao1 m.store.length cap1, .int .i64 m.rule.lc, .int .i64 m.rule.hc, .int .i64 m.rule.lm, .int .i64 m.rule.hm, .int .i64 m.rule.ls, .int .i64 m.rule.hs, .int .i64 m.strand, .slice ao2 m.pieces.length cap2, .slice ao3 m.low.length cap3, .slice ao4 m.high.length cap4, .int .i64 m.scrap] := by rw [hwx]; exact (((RowL.new _ 31 [.slice ao1 m.store.length cap1, .int .i64 m.rule.lc, .int .i64 m.rule.hc, .int .i64 m.rule.lm, .int .i64 m.rule.hm, .int .i64 m.rule.ls, .int .i64 m.rule.hs, .int .i64 m.strand, .slice ao2 m.pieces.length cap2, .slice ao3 m.low.length cap3, .slice ao4 m.high.length cap4, .int .i64 m.scrap]).alloc _).alloc _)
  have D_0 : RowL wx (w.heap.size + 1) 48 [.int .i64 k, .int .i64 a, .int .i64 b] := by rw [hwx]; simpa using ((RowL.new (World.alloc _ _) 48 [.int .i64 k, .int .i64 a, .int .i64 b]).alloc _)
  have R_0 : RowL wx (w.heap.size + 1 + 1) 31 [.slice none 0 0, .int .i64 0, .int .i64 0, .int .i64 0, .int .i64 0, .int .i64 0, .int .i64 0, .int .i64 0, .slice none 0 0, .slice none 0 0, .slice none 0 0, .int .i64 0] := by rw [hwx]; simpa using (RowL.new (World.alloc (World.alloc _ _) _) 31 [.slice none 0 0, .int .i64 0, .int .i64 0, .int .i64 0, .int .i64 0, .int .i64 0, .int .i64 0, .int .i64 0, .slice none 0 0, .slice none 0 0, .slice none 0 0, .int .i64 0])
  have B_0 : Below w.heap.size w wx := by rw [hwx]; go_grown
  clear hwx
  have hL0 := R_0.lt
  have V_0 := hide (HM.out.below B_0)
  have k1 := mill_spec _ _ _ _ m wx V_0.out.all
  unfold millV at k1
  cases hv : millB m with
  | false =>
    rw [hv] at k1
    have HZ := hide (do_bad hv ⟨k, a, b⟩)
    clear hv
    refine k1.mono ?_
    rintro e w1 ⟨rfl, hb⟩
    have R_1 := R_0.below hb R_0.lt
    have B_1 := hide (Below.step B_0 hb (Nat.le_refl _))
    clear hb k1
    obtain ⟨cR0, cR1, cR2, cR3, cR4, cR5, cR6, cR7, cR8, cR9, cR10, cR11⟩ := row12_c R_1
    obtain ⟨fR0, fR1, fR2, fR3, fR4, fR5, fR6, fR7, fR8, fR9, fR10, fR11⟩ := row12_f R_1
    go_wp2_with fail
    refine bodyPost_ret (by simp [results, Tryz.results45, go_sem, cR0, cR1, cR2, cR3, cR4, cR5, cR6, cR7, cR8, cR9, cR10, cR11]; try rfl) rfl ?_
    rw [HZ.out]
    exact ⟨_, _, _, _, rfl, zero_got B_1.out (Nat.le_refl _) (by omega) _ _ _ _ _ _ _ _ _ _ _ _⟩
  | true =>
    rw [hv] at k1
    obtain ⟨n1, n2, n3, n4⟩ := few_of hv
    have HV := hide hv
    have hD := do_good hv k a b
    rw [step_x e0 e1 e2 e3 e4] at hD
    have HZ := hide (show doR m ⟨k, a, b⟩ = (m, false) from hD)
    clear hD
    clear hv
    refine k1.mono ?_
    rintro e w1 ⟨rfl, hb⟩
    have A_1 := A_0.below hb A_0.lt
    have D_1 := D_0.below hb D_0.lt
    have R_1 := R_0.below hb R_0.lt
    have V_1 := hide (V_0.out.below hb)
    have B_1 := hide (Below.step B_0 hb (Nat.le_refl _))
    have hz1 := hb.size
    clear hb k1
    obtain ⟨cA0, cA1, cA2, cA3, cA4, cA5, cA6, cA7, cA8, cA9, cA10, cA11⟩ := row12_c A_1
    go_wp2_with fail
    clear cA0 cA1 cA2 cA3 cA4 cA5 cA6 cA7 cA8 cA9 cA10 cA11
    have k2 := l8Copy_any _ _ _ _ m w1 V_1.out.all n1 n2 n3 n4
    unfold millV at k2
    refine k2.mono ?_
    clear k2
    rintro e w2 ⟨s2, p2, l2, h2, rfl, G, hb⟩
    have A_2 := A_1.below hb A_1.lt
    have D_2 := D_1.below hb D_1.lt
    have R_2 := R_1.below hb R_1.lt
    have V_2 := hide (V_1.out.below hb)
    have B_2 := hide (Below.step B_1.out hb (Nat.le_refl _))
    have hz2 := hb.size
    have hL2 := R_2.lt
    have hLD := D_2.lt
    have hLA := A_2.lt
    clear hb
    have G_2 := hide G
    obtain ⟨aS, cs, rfl, -, -⟩ := G.so.form
    obtain ⟨ap, cp, rfl, -, -⟩ := G.po.form
    obtain ⟨al, cl, rfl, -, -⟩ := G.lo.form
    obtain ⟨ah, ch, rfl, -, -⟩ := G.ho.form
    clear G
    unfold millV
    have cD0 := D_2.c 0 rfl
    have cD1 := D_2.c 1 rfl
    have cD2 := D_2.c 2 rfl
    obtain ⟨cA0, cA1, cA2, cA3, cA4, cA5, cA6, cA7, cA8, cA9, cA10, cA11⟩ := row12_c A_2
    go_wp2_with fail
    refine calls_at fun wy hwy => ?_
    have hby : Below w2.heap.size w2 wy := by
      rw [hwy]
      first
        | exact (Below.refl _ _).alloc (Nat.le_refl _) _
        | exact ((Below.refl _ _).alloc (Nat.le_refl _) _).trans ((other12 w2.heap.size _ _ _ _ _ _ _ _ _ _ _ _ _).below (Nat.le_refl _) (by simp))
    have A_4 := A_2.below hby A_2.lt
    have R_4 := R_2.below hby R_2.lt
    have V_4 := hide (V_2.out.below hby)
    have B_4 := hide (Below.step B_2.out hby (Nat.le_refl _))
    have hz4 := hby.size
    clear hwy hby cD0 cD1 cD2 cA0 cA1 cA2 cA3 cA4 cA5 cA6 cA7 cA8 cA9 cA10 cA11
    have k5 := l8Copy_any _ _ _ _ m wy V_4.out.all n1 n2 n3 n4
    unfold millV at k5
    refine k5.mono ?_
    clear k5
    rintro e w5 ⟨s5, p5, l5, h5, rfl, G, hb⟩
    have R_5 := R_4.below hb R_4.lt
    have B_5 := hide (Below.step B_4.out hb (Nat.le_refl _))
    clear hb
    have G_5 := hide G
    obtain ⟨aS5, cs5, rfl, -, -⟩ := G.so.form
    obtain ⟨ap5, cp5, rfl, -, -⟩ := G.po.form
    obtain ⟨al5, cl5, rfl, -, -⟩ := G.lo.form
    obtain ⟨ah5, ch5, rfl, -, -⟩ := G.ho.form
    clear G
    unfold millV
    obtain ⟨cR0, cR1, cR2, cR3, cR4, cR5, cR6, cR7, cR8, cR9, cR10, cR11⟩ := row12_c R_5
    obtain ⟨fR0, fR1, fR2, fR3, fR4, fR5, fR6, fR7, fR8, fR9, fR10, fR11⟩ := row12_f R_5
    go_wp2_with fail
    refine bodyPost_ret (by simp [results, Tryz.results45, go_sem, cR0, cR1, cR2, cR3, cR4, cR5, cR6, cR7, cR8, cR9, cR10, cR11]; try rfl) rfl ?_
    rw [HZ.out]
    exact ⟨_, _, _, _, rfl, put_got G_5.out B_5.out (by omega) (by omega) (Nat.le_refl _) _ _ _ _ _ _ _ _ _ _ _ _⟩
theorem do_spec (s p l h : Value) (m : Mi) (d : J) (w : World) (H : MillIn 0 w.heap.size w s p l h m) (ha : d.d ≤ 9223372036854775807) (hb : d.g ≤ 9223372036854775807) :
    Calls Tryz.prog 45 #[millV s p l h m, .agg #[.int .i64 d.s, .int .i64 d.d, .int .i64 d.g]] w (DoGot w.heap.size (doR m d) w) := by
  obtain ⟨k, a, b⟩ := d
  by_cases e0 : k = 0
  · subst e0; exact do_s0 s p l h m a b w H ha hb
  by_cases e1 : k = 1
  · subst e1; exact do_s1 s p l h m a b w H ha hb
  by_cases e2 : k = 2
  · subst e2; exact do_s2 s p l h m a b w H ha hb
  by_cases e3 : k = 3
  · subst e3; exact do_s3 s p l h m a b w H ha hb
  by_cases e4 : k = 4
  · subst e4; exact do_s4 s p l h m a b w H ha hb
  exact do_sx s p l h m k a b w H ha hb (by simpa using e0) (by simpa using e1) (by simpa using e2) (by simpa using e3) (by simpa using e4)
theorem do_impl (s p l h : Value) (m : Mi) (d : J) (w : World) (H : MillIn 0 w.heap.size w s p l h m) (ha : d.d ≤ 9223372036854775807) (hb : d.g ≤ 9223372036854775807) :
    Calls Tryz.prog 44 #[millV s p l h m, .agg #[.int .i64 d.s, .int .i64 d.d, .int .i64 d.g]] w (DoGot w.heap.size (doR m d) w) := by
  obtain ⟨k, a, b⟩ := d
  by_cases e0 : k = 0
  · subst e0; exact do_i0 s p l h m a b w H ha hb
  by_cases e1 : k = 1
  · subst e1; exact do_i1 s p l h m a b w H ha hb
  by_cases e2 : k = 2
  · subst e2; exact do_i2 s p l h m a b w H ha hb
  by_cases e3 : k = 3
  · subst e3; exact do_i3 s p l h m a b w H ha hb
  by_cases e4 : k = 4
  · subst e4; exact do_i4 s p l h m a b w H ha hb
  exact do_ix s p l h m k a b w H ha hb (by simpa using e0) (by simpa using e1) (by simpa using e2) (by simpa using e3) (by simpa using e4)
theorem good_small {j : J} (h : goodJ j = true) : j.d ≤ 9223372036854775807 ∧ j.g ≤ 9223372036854775807 := by
  obtain ⟨-, h1, h2, -⟩ := good_parts (k := j.s) (o := j.d) (t := j.g) (s := dtJ j) (by simpa [goodJ] using h) rfl
  rw [wi_iff] at h1 h2
  omega
theorem rj_small (s : ByteArray) : ∀ j ∈ (rjR s).1, j.d ≤ 9223372036854775807 ∧ j.g ≤ 9223372036854775807 := fun j hj => good_small (rj_good s j hj)
def replayR (m : Mi) (s : ByteArray) : Mi × Int := if millB m then ((runR m (rjR s).1).1, ((rjR s).1.length : Int)) else (mi0, 0)
theorem replay_bad {m : Mi} (h : millB m = false) (s : ByteArray) : replayR m s = (mi0, 0) := by
  unfold replayR
  rw [if_neg (by simp [h])]
theorem replay_good {m : Mi} (h : millB m = true) (s : ByteArray) : replayR m s = ((runR m (rjR s).1).1, ((rjR s).1.length : Int)) := by
  unfold replayR
  rw [if_pos h]
end Go.Proofs.YtmemgbklgcjobaaGreatDoor
