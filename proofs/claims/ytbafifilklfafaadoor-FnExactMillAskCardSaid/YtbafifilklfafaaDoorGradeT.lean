/-
  The walks over GradeText of both.
-/
import Derived.Test.YtbafifilklfafaaDoorAskP
import Derived.Test.YtbafifilklfafaaDoorMillA
import Derived.Test.YtbafifilklfafaaDoorRowL
import Derived.BigQuiet
namespace Go.Proofs.YtbafifilklfafaaDoor
open Go.RowKit

/-- The worlds of a class, one by one. -/
structure KeptG (S : World → Prop) where
  wd : World
  ok : S wd
theorem wp_region_cls {P : Program} {id : Nat} {Q : Exit → Act → World → Prop} {a : Act} {w : World} {l : List Oper} {C : World → Prop} (hm : P.follows .mixedOrders = true) (hB : Region.lexB .any l.toArray = true) (hC : C { w with drawn := w.drawn + 1 })
    (h : wpQuiet P l.toArray C (fun a' => ∀ w', C w' → Q .normal a' w') l a) : (Code.region id l.toArray true).wp P Q a w :=
  wp_region_quiet hm hB hC (by simpa using h)
/-- A grade in a box, and old memory. -/
def BoxG (w : World) (A : Nat) (g : Gr) (W : World) : Prop := RowL W A 48 [.int .i64 g.lc, .int .i64 g.hc, .int .i64 g.lm, .int .i64 g.hm, .int .i64 g.ls, .int .i64 g.hs] ∧ Below w.heap.size w W
theorem boxG_call {w : World} {A : Nat} {g : Gr} {P : Program} {f : FuncId} {args : Array Value} {r : Value}
    (H : ∀ W, Below w.heap.size w W → Calls P f args W fun e w' => e = .returned r ∧ Below W.heap.size W w') (n : KeptG (BoxG w A g)) :
    Calls P f args n.wd fun e w' => e = .returned r ∧ ∃ m : KeptG (BoxG w A g), w' = m.wd :=
  (H n.wd n.ok.2).mono fun _ w' ⟨he, hb⟩ => ⟨he, ⟨w', n.ok.1.below hb n.ok.1.lt, Below.step n.ok.2 hb (Nat.le_refl _)⟩, rfl⟩
theorem num_999 {n : Int} (h0 : 0 ≤ n) (h1 : n ≤ 999) : (numB n).size ≤ 21 := numB_len n (by omega) (by omega)

set_option maxRecDepth 10000 in
theorem range_impl (a b : Int) (ha : 0 ≤ a ∧ a ≤ 999) (hb : 0 ≤ b ∧ b ≤ 999) (w : World) (hp : PowIs w) :
    Calls Tryd.prog 66 #[.int .i64 a, .int .i64 b] w fun e w' => e = .returned (.string (rangeB a b)) ∧ Below w.heap.size w w' := by
  have h1 := num_999 ha.1 ha.2
  have h2 := num_999 hb.1 hb.2
  have hs1 : ¬ 9223372036854775807 < (numB a).size + 1 := by omega
  have hs2 : ¬ 9223372036854775807 < (numB a).size + 1 + (numB b).size := by omega
  clear h1 h2
  go_enter Tryd.func66, Tryd.ntmps66
  go_wp2_with fail
  refine (itoa_any a (by omega) (by omega) w hp).mono ?_
  rintro e w1 ⟨rfl, hb1⟩
  go_wp2_with fail
  refine (itoa_any b (by omega) (by omega) w1 (hp.stays hb1)).mono ?_
  rintro e w2 ⟨rfl, hb2⟩
  go_wp2_with fail
  go_ret
  exact ⟨rfl, Below.step hb1 hb2 (Nat.le_refl _)⟩

set_option linter.unusedSimpArgs false in
set_option maxRecDepth 10000 in
set_option maxHeartbeats 3200000 in
theorem grade_impl (g : Gr) (w : World) (hp : PowIs w) :
    Calls Tryd.prog 34 #[grV g] w fun e w' => e = .returned (.string (gradeB g)) ∧ Below w.heap.size w w' := by
  have HP := hide hp
  have hg := fun W => grv_impl g W
  unfold grV at hg ⊢
  go_enter Tryd.func34, Tryd.ntmps34
  go_wp2_with fail
  refine calls_at fun wx hwx => ?_
  have A_0 : RowL wx (w.heap.size) 48 [.int .i64 g.lc, .int .i64 g.hc, .int .i64 g.lm, .int .i64 g.hm, .int .i64 g.ls, .int .i64 g.hs] := by rw [hwx]; exact (RowL.new _ _ _)
  have B_0 : Below w.heap.size w wx := by rw [hwx]; go_grown
  clear hwx
  have k1 := hg wx
  clear hg hp
  cases hv : grB g with
  | false =>
    rw [hv] at k1
    have HZ := hide (show gradeB g = ⟨#[]⟩ by simp [gradeB, hv])
    clear hv
    refine k1.mono ?_
    rintro e w1 ⟨rfl, hb⟩
    have B_1 := hide (Below.step B_0 hb (Nat.le_refl _))
    clear hb k1
    go_wp2_with fail
    go_ret
    exact ⟨by rw [HZ.out]; rfl, B_1.out⟩
  | true =>
    rw [hv] at k1
    have HZ := hide (show gradeB g = rangeB g.lc g.hc ++ slB ++ rangeB g.lm g.hm ++ slB ++ rangeB g.ls g.hs by simp [gradeB, hv])
    obtain ⟨⟨a1, a2⟩, ⟨b1, b2⟩, ⟨c1, c2⟩, ⟨d1, d2⟩, ⟨e1, e2⟩, f1, f2⟩ := grB_iff.1 hv
    clear hv
    refine k1.mono ?_
    rintro e w1 ⟨rfl, hb⟩
    have A_1 := A_0.below hb A_0.lt
    have B_1 := hide (Below.step B_0 hb (Nat.le_refl _))
    have HP1 := hide (HP.out.stays B_1.out)
    clear hb k1
    have hI : BoxG w1 w.heap.size g w1.drew := ⟨A_1.drew, (Below.refl _ _).drew⟩
    obtain ⟨RR, hRR⟩ : ∃ RR, BoxG w1 w.heap.size g = RR := ⟨_, rfl⟩
    have hK0 : ∀ n : KeptG RR, BoxG w1 w.heap.size g n.wd := by rw [← hRR]; exact fun n => n.ok
    have hc1 := boxG_call (A := w.heap.size) (g := g) fun W (k : Below w1.heap.size w1 W) => range_impl g.lc g.hc ⟨by omega, by omega⟩ ⟨by omega, by omega⟩ W (HP1.out.stays k)
    have hc2 := boxG_call (A := w.heap.size) (g := g) fun W (k : Below w1.heap.size w1 W) => range_impl g.lm g.hm ⟨by omega, by omega⟩ ⟨by omega, by omega⟩ W (HP1.out.stays k)
    have hc3 := boxG_call (A := w.heap.size) (g := g) fun W (k : Below w1.heap.size w1 W) => range_impl g.ls g.hs ⟨by omega, by omega⟩ ⟨by omega, by omega⟩ W (HP1.out.stays k)
    rw [hRR] at hI hc1 hc2 hc3
    have HC1 := hide hc1
    have HC2 := hide hc2
    have HC3 := hide hc3
    have g0 : ∀ n : KeptG RR, n.wd.cell? ⟨w.heap.size, 0, none⟩ = some (.int .i64 g.lc) := fun n => (hK0 n).1.cell 0 (by simp)
    have g1 : ∀ n : KeptG RR, n.wd.cell? ⟨w.heap.size, 1, none⟩ = some (.int .i64 g.hc) := fun n => (hK0 n).1.cell 1 (by simp)
    have g2 : ∀ n : KeptG RR, n.wd.cell? ⟨w.heap.size, 2, none⟩ = some (.int .i64 g.lm) := fun n => (hK0 n).1.cell 2 (by simp)
    have g3 : ∀ n : KeptG RR, n.wd.cell? ⟨w.heap.size, 3, none⟩ = some (.int .i64 g.hm) := fun n => (hK0 n).1.cell 3 (by simp)
    have g4 : ∀ n : KeptG RR, n.wd.cell? ⟨w.heap.size, 4, none⟩ = some (.int .i64 g.ls) := fun n => (hK0 n).1.cell 4 (by simp)
    have g5 : ∀ n : KeptG RR, n.wd.cell? ⟨w.heap.size, 5, none⟩ = some (.int .i64 g.hs) := fun n => (hK0 n).1.cell 5 (by simp)
    have HB := hide (fun n : KeptG RR => (hK0 n).2)
    have hN0 : Nonempty (KeptG RR) := ⟨⟨_, hI⟩⟩
    have rb : ∀ {a b : Int}, 0 ≤ a → a ≤ 999 → 0 ≤ b → b ≤ 999 → (rangeB a b).size ≤ 43 := fun {a b} h1 h2 h3 h4 => by
      have k1 := num_999 h1 h2
      have k2 := num_999 h3 h4
      have : hyB.size = 1 := rfl
      simp only [rangeB, ByteArray.size_append]
      omega
    have n1 := rb a1 a2 (show 0 ≤ g.hc by omega) b2
    have n2 := rb c1 c2 (show 0 ≤ g.hm by omega) d2
    have n3 := rb e1 e2 (show 0 ≤ g.hs by omega) f2
    obtain ⟨r1, hr1⟩ : ∃ r, rangeB g.lc g.hc = r := ⟨_, rfl⟩
    obtain ⟨r2, hr2⟩ : ∃ r, rangeB g.lm g.hm = r := ⟨_, rfl⟩
    obtain ⟨r3, hr3⟩ : ∃ r, rangeB g.ls g.hs = r := ⟨_, rfl⟩
    rw [hr1] at n1 HC1 HZ
    rw [hr2] at n2 HC2 HZ
    rw [hr3] at n3 HC3 HZ
    have s1 : ¬ 9223372036854775807 < r1.size + 1 := by omega
    have s2 : ¬ 9223372036854775807 < r1.size + 1 + r2.size := by omega
    have s3 : ¬ 9223372036854775807 < r1.size + 1 + r2.size + 1 := by omega
    have s4 : ¬ 9223372036854775807 < r1.size + 1 + r2.size + 1 + r3.size := by omega
    clear hRR hK0 hc1 hc2 hc3 rb n1 n2 n3 hr1 hr2 hr3 a1 a2 b1 b2 c1 c2 d1 d2 e1 e2 f1 f2 A_0 A_1 B_0
    go_wp2_with fail
    refine wp_region_cls (C := fun w' => ∃ n : KeptG RR, w' = n.wd) (by kernel_rfl) (by kernel_rfl) ⟨⟨_, hI⟩, rfl⟩ ?_
    repeat (go_big_quiet_step (first
      | (go_at_call 66; with_reducible exact HC1.out _)
      | (go_at_call 66; with_reducible exact HC2.out _)
      | (go_at_call 66; with_reducible exact HC3.out _)))
    refine wpQuiet_nil ?_
    intro _ hw'
    obtain ⟨nq, rfl⟩ := hw'
    have hbw := HB.out nq
    go_wp2_with fail
    go_ret
    exact ⟨by rw [HZ.out]; rfl, B_1.out.trans (hbw.mono B_1.out.size)⟩

set_option linter.unusedSimpArgs false in
set_option maxRecDepth 10000 in
set_option maxHeartbeats 3200000 in
theorem grade_spec (g : Gr) (w : World) :
    Calls Tryd.prog 48 #[grV g] w fun e w' => e = .returned (.string (gradeB g)) ∧ Below w.heap.size w w' := by
  have hg := fun W => grv_spec g W
  unfold grV at hg ⊢
  go_enter Tryd.func48, Tryd.ntmps48
  go_wp2_with fail
  refine calls_at fun wx hwx => ?_
  have A_0 : RowL wx (w.heap.size) 48 [.int .i64 g.lc, .int .i64 g.hc, .int .i64 g.lm, .int .i64 g.hm, .int .i64 g.ls, .int .i64 g.hs] := by rw [hwx]; exact (RowL.new _ _ _)
  have B_0 : Below w.heap.size w wx := by rw [hwx]; go_grown
  clear hwx
  have k1 := hg wx
  clear hg
  cases hv : grB g with
  | false =>
    rw [hv] at k1
    have HZ := hide (show gradeB g = ⟨#[]⟩ by simp [gradeB, hv])
    clear hv
    refine k1.mono ?_
    rintro e w1 ⟨rfl, hb⟩
    have B_1 := hide (Below.step B_0 hb (Nat.le_refl _))
    clear hb k1
    go_wp2_with fail
    go_ret
    exact ⟨by rw [HZ.out]; rfl, B_1.out⟩
  | true =>
    rw [hv] at k1
    have HZ := hide (show gradeB g = rangeB g.lc g.hc ++ slB ++ rangeB g.lm g.hm ++ slB ++ rangeB g.ls g.hs by simp [gradeB, hv])
    obtain ⟨⟨a1, a2⟩, ⟨b1, b2⟩, ⟨c1, c2⟩, ⟨d1, d2⟩, ⟨e1, e2⟩, f1, f2⟩ := grB_iff.1 hv
    clear hv
    refine k1.mono ?_
    rintro e w1 ⟨rfl, hb⟩
    have A_1 := A_0.below hb A_0.lt
    have B_1 := hide (Below.step B_0 hb (Nat.le_refl _))
    clear hb k1
    have hI : BoxG w1 w.heap.size g w1.drew := ⟨A_1.drew, (Below.refl _ _).drew⟩
    obtain ⟨RR, hRR⟩ : ∃ RR, BoxG w1 w.heap.size g = RR := ⟨_, rfl⟩
    have hK0 : ∀ n : KeptG RR, BoxG w1 w.heap.size g n.wd := by rw [← hRR]; exact fun n => n.ok
    have hc1 := boxG_call (A := w.heap.size) (g := g) fun W (_ : Below w1.heap.size w1 W) => l1Number_any g.lc (by omega) (by omega) W
    have hc2 := boxG_call (A := w.heap.size) (g := g) fun W (_ : Below w1.heap.size w1 W) => l1Number_any g.hc (by omega) (by omega) W
    have hc3 := boxG_call (A := w.heap.size) (g := g) fun W (_ : Below w1.heap.size w1 W) => l1Number_any g.lm (by omega) (by omega) W
    have hc4 := boxG_call (A := w.heap.size) (g := g) fun W (_ : Below w1.heap.size w1 W) => l1Number_any g.hm (by omega) (by omega) W
    have hc5 := boxG_call (A := w.heap.size) (g := g) fun W (_ : Below w1.heap.size w1 W) => l1Number_any g.ls (by omega) (by omega) W
    have hc6 := boxG_call (A := w.heap.size) (g := g) fun W (_ : Below w1.heap.size w1 W) => l1Number_any g.hs (by omega) (by omega) W
    rw [hRR] at hI hc1 hc2 hc3 hc4 hc5 hc6
    have HC1 := hide hc1
    have HC2 := hide hc2
    have HC3 := hide hc3
    have HC4 := hide hc4
    have HC5 := hide hc5
    have HC6 := hide hc6
    have g0 : ∀ n : KeptG RR, n.wd.cell? ⟨w.heap.size, 0, none⟩ = some (.int .i64 g.lc) := fun n => (hK0 n).1.cell 0 (by simp)
    have g1 : ∀ n : KeptG RR, n.wd.cell? ⟨w.heap.size, 1, none⟩ = some (.int .i64 g.hc) := fun n => (hK0 n).1.cell 1 (by simp)
    have g2 : ∀ n : KeptG RR, n.wd.cell? ⟨w.heap.size, 2, none⟩ = some (.int .i64 g.lm) := fun n => (hK0 n).1.cell 2 (by simp)
    have g3 : ∀ n : KeptG RR, n.wd.cell? ⟨w.heap.size, 3, none⟩ = some (.int .i64 g.hm) := fun n => (hK0 n).1.cell 3 (by simp)
    have g4 : ∀ n : KeptG RR, n.wd.cell? ⟨w.heap.size, 4, none⟩ = some (.int .i64 g.ls) := fun n => (hK0 n).1.cell 4 (by simp)
    have g5 : ∀ n : KeptG RR, n.wd.cell? ⟨w.heap.size, 5, none⟩ = some (.int .i64 g.hs) := fun n => (hK0 n).1.cell 5 (by simp)
    have HB := hide (fun n : KeptG RR => (hK0 n).2)
    have hN0 : Nonempty (KeptG RR) := ⟨⟨_, hI⟩⟩
    have n1 := num_999 (n := g.lc) (by omega) (by omega)
    have n2 := num_999 (n := g.hc) (by omega) (by omega)
    have n3 := num_999 (n := g.lm) (by omega) (by omega)
    have n4 := num_999 (n := g.hm) (by omega) (by omega)
    have n5 := num_999 (n := g.ls) (by omega) (by omega)
    have n6 := num_999 (n := g.hs) (by omega) (by omega)
    obtain ⟨r1, hr1⟩ : ∃ r, numB g.lc = r := ⟨_, rfl⟩
    rw [hr1] at n1 HC1
    obtain ⟨r2, hr2⟩ : ∃ r, numB g.hc = r := ⟨_, rfl⟩
    rw [hr2] at n2 HC2
    obtain ⟨r3, hr3⟩ : ∃ r, numB g.lm = r := ⟨_, rfl⟩
    rw [hr3] at n3 HC3
    obtain ⟨r4, hr4⟩ : ∃ r, numB g.hm = r := ⟨_, rfl⟩
    rw [hr4] at n4 HC4
    obtain ⟨r5, hr5⟩ : ∃ r, numB g.ls = r := ⟨_, rfl⟩
    rw [hr5] at n5 HC5
    obtain ⟨r6, hr6⟩ : ∃ r, numB g.hs = r := ⟨_, rfl⟩
    rw [hr6] at n6 HC6
    have HZ2 := hide (show gradeB g = r1 ++ hyB ++ r2 ++ slB ++ r3 ++ hyB ++ r4 ++ slB ++ r5 ++ hyB ++ r6 by
      rw [HZ.out]; unfold rangeB; rw [hr1, hr2, hr3, hr4, hr5, hr6]; simp only [ByteArray.append_assoc])
    have s1 : ¬ 9223372036854775807 < r1.size + 1 := by omega
    have s2 : ¬ 9223372036854775807 < r1.size + 1 + r2.size := by omega
    have s3 : ¬ 9223372036854775807 < r1.size + 1 + r2.size + 1 := by omega
    have s4 : ¬ 9223372036854775807 < r1.size + 1 + r2.size + 1 + r3.size := by omega
    have s5 : ¬ 9223372036854775807 < r1.size + 1 + r2.size + 1 + r3.size + 1 := by omega
    have s6 : ¬ 9223372036854775807 < r1.size + 1 + r2.size + 1 + r3.size + 1 + r4.size := by omega
    have s7 : ¬ 9223372036854775807 < r1.size + 1 + r2.size + 1 + r3.size + 1 + r4.size + 1 := by omega
    have s8 : ¬ 9223372036854775807 < r1.size + 1 + r2.size + 1 + r3.size + 1 + r4.size + 1 + r5.size := by omega
    have s9 : ¬ 9223372036854775807 < r1.size + 1 + r2.size + 1 + r3.size + 1 + r4.size + 1 + r5.size + 1 := by omega
    have s10 : ¬ 9223372036854775807 < r1.size + 1 + r2.size + 1 + r3.size + 1 + r4.size + 1 + r5.size + 1 + r6.size := by omega
    clear hRR hK0 hc1 n1 hr1 hc2 n2 hr2 hc3 n3 hr3 hc4 n4 hr4 hc5 n5 hr5 hc6 n6 hr6 a1 a2 b1 b2 c1 c2 d1 d2 e1 e2 f1 f2 A_0 A_1 B_0
    go_wp2_with fail
    refine wp_region_cls (C := fun w' => ∃ n : KeptG RR, w' = n.wd) (by kernel_rfl) (by kernel_rfl) ⟨⟨_, hI⟩, rfl⟩ ?_
    repeat (go_big_quiet_step (first
      | (go_at_call 46; with_reducible exact HC1.out _)
      | (go_at_call 46; with_reducible exact HC2.out _)
      | (go_at_call 46; with_reducible exact HC3.out _)
      | (go_at_call 46; with_reducible exact HC4.out _)
      | (go_at_call 46; with_reducible exact HC5.out _)
      | (go_at_call 46; with_reducible exact HC6.out _)))
    refine wpQuiet_nil ?_
    intro _ hw'
    obtain ⟨nq, rfl⟩ := hw'
    have hbw := HB.out nq
    go_wp2_with fail
    go_ret
    exact ⟨by rw [HZ2.out]; rfl, B_1.out.trans (hbw.mono B_1.out.size)⟩
end Go.Proofs.YtbafifilklfafaaDoor
