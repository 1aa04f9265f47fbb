/-
  The walk over the law FnJobValid: it answers true, whatever the code, and leaves all old memory alone.
-/
import Derived.Test.YtfjemnjdkniibaaDoorDraw
import Derived.Test.YtfjemnjdkniibaaDoorAlive
namespace Go.Proofs.YtfjemnjdkniibaaDoor
open Go.RowKit

theorem Other.cell {lo hi b o : Nat} {w w' : World} (h : Other lo hi w w') (hb : b < w.heap.size) (hd : b < lo ∨ hi ≤ b) : w'.cell? ⟨b, o, none⟩ = w.cell? ⟨b, o, none⟩ :=
  World.cell?_of_block (w := w) (h.block b hb hd)
theorem Other.frozen {lo hi b o : Nat} {w w' : World} (h : Other lo hi w w') (hb : b < w.heap.size) (hd : b < lo ∨ hi ≤ b) : w'.frozen? ⟨b, o, none⟩ = w.frozen? ⟨b, o, none⟩ :=
  World.frozen?_of_block (w := w) (h.block b hb hd)
/-- Three cells of a block written. -/
theorem setCell3 {w : World} {b : Nat} {u1 u2 u3 x y z : Value} (c1 : w.cell? ⟨b, 0, none⟩ = some u1) (c2 : w.cell? ⟨b, 1, none⟩ = some u2) (c3 : w.cell? ⟨b, 2, none⟩ = some u3) :
    (((w.setCell ⟨b, 0, none⟩ x).setCell ⟨b, 1, none⟩ y).setCell ⟨b, 2, none⟩ z).cell? ⟨b, 0, none⟩ = some x ∧ (((w.setCell ⟨b, 0, none⟩ x).setCell ⟨b, 1, none⟩ y).setCell ⟨b, 2, none⟩ z).cell? ⟨b, 1, none⟩ = some y ∧
      (((w.setCell ⟨b, 0, none⟩ x).setCell ⟨b, 1, none⟩ y).setCell ⟨b, 2, none⟩ z).cell? ⟨b, 2, none⟩ = some z := by
  have n01 : (⟨b, 0, none⟩ : Addr) ≠ ⟨b, 1, none⟩ := addr_ne_off (by omega)
  have n02 : (⟨b, 0, none⟩ : Addr) ≠ ⟨b, 2, none⟩ := addr_ne_off (by omega)
  have n12 : (⟨b, 1, none⟩ : Addr) ≠ ⟨b, 2, none⟩ := addr_ne_off (by omega)
  refine ⟨?_, ?_, ?_⟩
  · rw [World.cell?_setCell_other _ _ _ _ n02.symm, World.cell?_setCell_other _ _ _ _ n01.symm, World.cell?_setCell_same _ _ _ c1]
  · rw [World.cell?_setCell_other _ _ _ _ n12.symm, World.cell?_setCell_same _ _ _ (by rw [World.cell?_setCell_other _ _ _ _ n01]; exact c2)]
  · rw [World.cell?_setCell_same _ _ _ (by rw [World.cell?_setCell_other _ _ _ _ n12, World.cell?_setCell_other _ _ _ _ n02]; exact c3)]
/-- A job was drawn. -/
def JobGot (w : World) (e : Ending) (w' : World) : Prop := ∃ s d g : Int, e = .returned (.agg #[.int .i64 s, .int .i64 d, .int .i64 g]) ∧ Below w.heap.size w w'
theorem drawJobValid_any (v : Value) (n : Nat) (w : World) (h : BytesAt 0 w.heap.size w v n) :
    Calls Tryd.prog 19 #[v] w (JobGot w) := by
  have HB := hide h
  clear h
  go_enter Tryd.func19, Tryd.ntmps19
  go_wp2_with fail
  have hb0 := (Below.refl w.heap.size w).alloc (Nat.le_refl _) (.cells #[.int .i64 0, .int .i64 0, .int .i64 0] 24)
  refine (open_any v n _ (HB.out.stay hb0)).mono ?_
  rintro e w1 ⟨R, rfl, hR, hb1, hr1⟩
  have hB1 : Below w.heap.size w w1 := Below.step hb0 hb1 (Nat.le_refl _)
  have hc : w1.cell? ⟨w.heap.size, 0, none⟩ = some (.int .i64 0) ∧ w1.cell? ⟨w.heap.size, 1, none⟩ = some (.int .i64 0) ∧ w1.cell? ⟨w.heap.size, 2, none⟩ = some (.int .i64 0) := by
    refine ⟨?_, ?_, ?_⟩ <;> (rw [hb1.cell (by simp)]; simp [go_sem])
  have hRw : w.heap.size < R := by simp at hR; omega
  go_wp2_with fail
  refine (pick_in R _ 110 _ hr1 (by omega) (by omega) (by omega)).mono ?_
  rintro e w2 ⟨x1, rfl, p1, p2, ho2, hr2⟩
  go_wp2_with fail
  refine (pick_in R _ 40 _ hr2 (by omega) (by omega) (by omega)).mono ?_
  rintro e w3 ⟨x2, rfl, q1, q2, ho3, hr3⟩
  go_wp2_with fail
  refine (pick_in R _ 9 _ hr3 (by omega) (by omega) (by omega)).mono ?_
  rintro e w4 ⟨x3, rfl, r1, r2, ho4, hr4⟩
  go_wp2_with fail
  refine (pick_in R _ 110 _ hr4 (by omega) (by omega) (by omega)).mono ?_
  rintro e w5 ⟨x4, rfl, s1, s2, ho5, hr5⟩
  have ho := ((ho2.trans ho3).trans ho4).trans ho5
  have hlt : w.heap.size < w1.heap.size := by have := hb1.size; simp at this; omega
  have HO := hide ho
  obtain ⟨c1, c2, c3⟩ := hc
  have f : ∀ o, w1.frozen? ⟨w.heap.size, o, none⟩ = false := fun o => by rw [hb1.frozen (by simp)]; simp [go_sem]
  have f1 := f 0
  have f2 := f 1
  have f3 := f 2
  rw [← ho.cell hlt (.inl hRw)] at c1 c2 c3
  rw [← ho.frozen hlt (.inl hRw)] at f1 f2 f3
  have hdiv : x3 / 8 ≤ 1 := by omega
  clear ho ho2 ho3 ho4 ho5 hr1 hr2 hr3 hr4 hr5 f
  go_wp2_with fail
  obtain ⟨W, hW⟩ : ∃ W : World, W = ((w5.setCell ⟨w.heap.size, 0, none⟩ (.int .i64 x1)).setCell ⟨w.heap.size, 1, none⟩ (.int .i64 (x2 * 30 - x3 / 8))).setCell ⟨w.heap.size, 2, none⟩ (.int .i64 x4) := ⟨_, rfl⟩
  rw [← hW]
  obtain ⟨d1, d2, d3⟩ := setCell3 (x := .int .i64 x1) (y := .int .i64 (x2 * 30 - x3 / 8)) (z := .int .i64 x4) c1 c2 c3
  rw [← hW] at d1 d2 d3
  refine bodyPost_ret (v := .agg #[.int .i64 x1, .int .i64 (x2 * 30 - x3 / 8), .int .i64 x4]) (by simp [results, Tryd.results19, go_sem, d1, d2, d3]) rfl ⟨_, _, _, rfl, ?_⟩
  rw [hW]
  exact hB1.trans (((HO.out.below (by omega) hB1.size).setCell (Nat.le_refl _) _).setCell (Nat.le_refl _) _ |>.setCell (Nat.le_refl _) _)

theorem jv_one {s d g : Int} (h : jvB ⟨s, d, g⟩ = true) : jvB ⟨1, d, g⟩ = true := by
  simp only [jvB, Bool.and_eq_true] at h ⊢
  exact ⟨⟨rfl, h.1.2⟩, h.2⟩
theorem jv_none (d g : Int) : jvB ⟨0, d, g⟩ = false := rfl
theorem law_JobValid (v : Value) (n : Nat) (w : World) (h : BytesAt 0 w.heap.size w v n) :
    Calls Tryd.prog 3 #[v] w fun e w' => e = .returned (.bool true) ∧ Below w.heap.size w w' := by
  obtain ⟨ao, cap, rfl, hnc, hcap, -, -⟩ := id h
  have HB := hide h
  clear h
  by_cases hlong : 1048576 < n
  · go_enter Tryd.func3, Tryd.ntmps3
    go_wp2_with fail
    go_ret
    exact ⟨rfl, Below.refl _ _⟩
  · go_enter Tryd.func3, Tryd.ntmps3
    go_wp2_with fail
    refine (drawJobValid_any _ n _ HB.out).mono ?_
    rintro e w1 ⟨s, d, g, rfl, hb1⟩
    have hB1 := hide hb1
    go_wp2_with fail
    refine (jv_impl _ _ _ _).mono ?_
    rintro e w2 ⟨rfl, hb2⟩
    have hB2 := hide (Below.step (hb1.alloc hb1.size (.cells #[.int .i64 s, .int .i64 d, .int .i64 g] 24)) hb2 (Nat.le_refl _))
    have c1 : w2.cell? ⟨w1.heap.size, 0, none⟩ = some (.int .i64 s) ∧ w2.cell? ⟨w1.heap.size, 1, none⟩ = some (.int .i64 d) ∧ w2.cell? ⟨w1.heap.size, 2, none⟩ = some (.int .i64 g) := by
      refine ⟨?_, ?_, ?_⟩ <;> (rw [hb2.cell (by simp)]; simp [go_sem])
    have hz2 : w1.heap.size < w2.heap.size := by have := hb2.size; simp at this; omega
    obtain ⟨c1, c2, c3⟩ := c1
    clear hb1 hb2
    go_wp2_with fail
    refine (jv_spec _ _ _ _).mono ?_
    rintro e w3 ⟨rfl, hb3⟩
    rw [← hb3.cell (p := ⟨w1.heap.size, 0, none⟩) hz2] at c1
    rw [← hb3.cell (p := ⟨w1.heap.size, 1, none⟩) hz2] at c2
    rw [← hb3.cell (p := ⟨w1.heap.size, 2, none⟩) hz2] at c3
    have hB3 := hide (Below.step hB2.out hb3 (Nat.le_refl _))
    have hz3 : w1.heap.size < w3.heap.size := Nat.lt_of_lt_of_le hz2 hb3.size
    clear hb3
    cases hj : jvB ⟨s, d, g⟩ with
    | false =>
      go_wp2_with fail
      refine (jv_impl _ _ _ _).mono ?_
      rw [jv_none]
      rintro e w4 ⟨rfl, hb4⟩
      have hB4 := hide (Below.step hB3.out hb4 (Nat.le_refl _))
      clear hb4
      go_wp2_with fail
      refine (alive_any _).mono ?_
      rintro e w5 ⟨rfl, hb5⟩
      have hB5 := hide (Below.step hB4.out hb5 (Nat.le_refl _))
      clear hb5
      go_wp2_with fail
      go_ret
      exact ⟨rfl, hB5.out⟩
    | true =>
      have hone := jv_one hj
      go_wp2_with fail
      refine (jv_impl _ _ _ _).mono ?_
      rw [hone]
      rintro e w4 ⟨rfl, hb4⟩
      rw [← hb4.cell (p := ⟨w1.heap.size, 1, none⟩) hz3] at c2
      rw [← hb4.cell (p := ⟨w1.heap.size, 2, none⟩) hz3] at c3
      have hB4 := hide (Below.step hB3.out hb4 (Nat.le_refl _))
      clear hb4 c1
      go_wp2_with fail
      refine (jv_impl _ _ _ _).mono ?_
      rw [jv_none]
      rintro e w5 ⟨rfl, hb5⟩
      have hB5 := hide (Below.step hB4.out hb5 (Nat.le_refl _))
      clear hb5
      go_wp2_with fail
      refine (alive_any _).mono ?_
      rintro e w6 ⟨rfl, hb6⟩
      have hB6 := hide (Below.step hB5.out hb6 (Nat.le_refl _))
      clear hb6
      go_wp2_with fail
      go_ret
      exact ⟨rfl, hB6.out⟩
end Go.Proofs.YtfjemnjdkniibaaDoor
