/-
  The walks over validity: stuffs, grades.
-/
import Derived.Test.YtbafifilklfafaaDoorWalkA
import Derived.Test.YtbafifilklfafaaDoorMillV
namespace Go.Proofs.YtbafifilklfafaaDoor
open Go.RowKit

theorem stv_impl (c m s p k : Int) (w : World) :
    Calls Tryd.prog 97 #[.agg #[.int .i64 c, .int .i64 m, .int .i64 s, .int .i64 p, .int .i64 k]] w fun e w' => e = .returned (.bool (stB ⟨c, m, s, p, k⟩)) ∧ Below w.heap.size w w' := by
  go_enter Tryd.func97, Tryd.ntmps97
  go_wp2_with (go_at_call 35; refine (within_any _ _ _ _).mono ?_; rintro e w' ⟨rfl, rfl⟩)
  all_goals
    go_ret
    exact ⟨by simp_all [stB], by go_grown⟩
theorem stv_spec (c m s p k : Int) (w : World) :
    Calls Tryd.prog 93 #[.agg #[.int .i64 c, .int .i64 m, .int .i64 s, .int .i64 p, .int .i64 k]] w fun e w' => e = .returned (.bool (stB ⟨c, m, s, p, k⟩)) ∧ Below w.heap.size w w' := by
  go_enter Tryd.func93, Tryd.ntmps93
  go_wp2_with (go_at_call 62; refine (l1In_any _ _ _ _).mono ?_; rintro e w' ⟨rfl, rfl⟩)
  all_goals
    go_ret
    exact ⟨by simp_all [stB], by go_grown⟩
theorem stsB_else {l : List St} (h : ¬ l.length ≤ 4) : stsB l = false := by simp [stsB, h]

set_option maxHeartbeats 400000 in
theorem stsv_impl (v : Value) (js : List St) (lo hi : Nat) (w : World) (h : StAt lo hi w v js) :
    Calls Tryd.prog 78 #[v] w fun e w' => e = .returned (.bool (stsB js)) ∧ Below w.heap.size w w' := by
  obtain ⟨ao, cap, rfl, hlc, hcap, hhi, hc⟩ := h
  have Hc := hide hc
  clear hc
  by_cases h6 : js.length ≤ 4
  · go_enter Tryd.func78, Tryd.ntmps78
    go_wp2_with fail
    go_loopw [10] (fun i wr => ∃ k : Nat, k ≤ js.length ∧ i = .int .i64 k ∧ Below w.heap.size w wr ∧ (∀ j (_ : j < js.length), j < k → stB js[j] = true)) (fun i _ => js.length - (intOf i).toNat)
    case atStart => exact ⟨0, Nat.zero_le _, rfl, Below.refl _ _, fun _ _ h => absurd h (Nat.not_lt_zero _)⟩
    case round =>
      obtain ⟨k, hk, rfl, hb, hall⟩ := hrel
      have Ha := hide hall
      clear hall
      by_cases hlt : k < js.length
      · obtain ⟨b, o, rfl, hb1, hb2, hcs⟩ := Hc.out (by omega)
        obtain ⟨⟨h1, h2, h3, h4, h5⟩, -⟩ := hcs k hlt
        rw [← hb.cell (p := ⟨b, _, none⟩) (by simpa using by omega)] at h1 h2 h3 h4 h5
        clear hcs
        go_wp2_with (go_at_call 97; refine (stv_impl _ _ _ _ _ _).mono ?_; rintro e w1 ⟨rfl, hb1'⟩)
        · go_ret
          refine ⟨?_, Below.step (hb.alloc hb.size _) hb1' (Nat.le_refl _)⟩
          have hf : stB js[k] = false := by simpa using (by assumption : (!stB { c := js[k].c, m := js[k].m, s := js[k].s, p := js[k].p, k := js[k].k }) = true)
          simp [stsB, all_fell hlt hf]
        · have hf : stB js[k] = true := by simpa using (by assumption : (!stB { c := js[k].c, m := js[k].m, s := js[k].s, p := js[k].p, k := js[k].k }) = false)
          go_roundw
          case rel => exact ⟨k + 1, by omega, by go_num, Below.step (hb.alloc hb.size _) hb1' (Nat.le_refl _), all_snoc hlt Ha.out hf⟩
          case measure => simp [intOf]; omega
      · go_wp2
        go_ret
        exact ⟨by simp [stsB, h6, all_done (by omega) Ha.out], hb⟩
  · go_enter Tryd.func78, Tryd.ntmps78
    go_wp2_with fail
    go_ret
    exact ⟨by simp [stsB, h6], Below.refl _ _⟩

set_option maxHeartbeats 400000 in
theorem stsv_spec (v : Value) (js : List St) (lo hi : Nat) (w : World) (h : StAt lo hi w v js) :
    Calls Tryd.prog 71 #[v] w fun e w' => e = .returned (.bool (stsB js)) ∧ Below w.heap.size w w' := by
  obtain ⟨ao, cap, rfl, hlc, hcap, hhi, hc⟩ := h
  have Hc := hide hc
  clear hc
  go_enter Tryd.func71, Tryd.ntmps71
  go_wp2_with fail
  go_loopw [3] (fun i wr => ∃ k : Nat, k ≤ js.length ∧ i = .int .i64 k ∧ Below w.heap.size w wr ∧ (∀ j (_ : j < js.length), j < k → stB js[j] = true)) (fun i _ => js.length - (intOf i).toNat)
  case atStart => exact ⟨0, Nat.zero_le _, rfl, Below.refl _ _, fun _ _ h => absurd h (Nat.not_lt_zero _)⟩
  case round =>
    obtain ⟨k, hk, rfl, hb, hall⟩ := hrel
    have Ha := hide hall
    clear hall
    by_cases hlt : k < js.length
    · obtain ⟨b, o, rfl, hb1, hb2, hcs⟩ := Hc.out (by omega)
      obtain ⟨⟨h1, h2, h3, h4, h5⟩, -⟩ := hcs k hlt
      rw [← hb.cell (p := ⟨b, _, none⟩) (by simpa using by omega)] at h1 h2 h3 h4 h5
      clear hcs
      go_wp2_with (go_at_call 93; refine (stv_spec _ _ _ _ _ _).mono ?_; rintro e w1 ⟨rfl, hb1'⟩)
      · go_ret
        refine ⟨?_, Below.step hb hb1' (Nat.le_refl _)⟩
        have hf : stB js[k] = false := by simpa using (by assumption : (!stB { c := js[k].c, m := js[k].m, s := js[k].s, p := js[k].p, k := js[k].k }) = true)
        simp [stsB, all_fell hlt hf]
      · have hf : stB js[k] = true := by simpa using (by assumption : (!stB { c := js[k].c, m := js[k].m, s := js[k].s, p := js[k].p, k := js[k].k }) = false)
        go_roundw
        case rel => exact ⟨k + 1, by omega, by go_num, Below.step hb hb1' (Nat.le_refl _), all_snoc hlt Ha.out hf⟩
        case measure => simp [intOf]; omega
    · go_wp2_with fail
      go_ret
      refine ⟨?_, hb⟩
      have hall := all_done (by omega) Ha.out
      by_cases h6 : js.length ≤ 4
      · simp [stsB, hall, h6]; omega
      · simp [stsB, h6]; omega


/-- The value of a grade. -/
def grV (g : Gr) : Value := .agg #[.int .i64 g.lc, .int .i64 g.hc, .int .i64 g.lm, .int .i64 g.hm, .int .i64 g.ls, .int .i64 g.hs]
theorem grv_impl (g : Gr) (w : World) :
    Calls Tryd.prog 65 #[grV g] w fun e w' => e = .returned (.bool (grB g)) ∧ Below w.heap.size w w' := by
  obtain ⟨a, b, c, d, f, h⟩ := g
  unfold grV
  go_enter Tryd.func65, Tryd.ntmps65
  go_wp2_with (go_at_call 35; refine (within_any _ _ _ _).mono ?_; rintro e w' ⟨rfl, rfl⟩)
  all_goals
    go_ret
    exact ⟨by simp_all [grB], by go_grown⟩
theorem l1Range_any (a b : Int) (w : World) :
    Calls Tryd.prog 94 #[.int .i64 a, .int .i64 b] w fun e w' => e = .returned (.bool (wi a 0 999 && wi b a 999)) ∧ w = w' := by
  go_enter Tryd.func94, Tryd.ntmps94
  go_wp2_with (go_at_call 62; refine (l1In_any _ _ _ _).mono ?_; rintro e w' ⟨rfl, rfl⟩)
  all_goals
    go_ret
    exact ⟨by simp_all, rfl⟩
theorem grv_spec (g : Gr) (w : World) :
    Calls Tryd.prog 72 #[grV g] w fun e w' => e = .returned (.bool (grB g)) ∧ Below w.heap.size w w' := by
  obtain ⟨a, b, c, d, f, h⟩ := g
  unfold grV
  have e0 : grB ⟨a, b, c, d, f, h⟩ = ((wi a 0 999 && wi b a 999) && ((wi c 0 999 && wi d c 999) && (wi f 0 999 && wi h f 999))) := by simp [grB, Bool.and_assoc]
  rw [e0]
  rcases h1 : (wi a 0 999 && wi b a 999) <;> rcases h2 : (wi c 0 999 && wi d c 999) <;> rcases h3 : (wi f 0 999 && wi h f 999)
  all_goals
    have c1 := fun w => l1Range_any a b w
    have c2 := fun w => l1Range_any c d w
    have c3 := fun w => l1Range_any f h w
    rw [h1] at c1
    rw [h2] at c2
    rw [h3] at c3
    go_enter Tryd.func72, Tryd.ntmps72
    go_wp2_with fail
    refine (c1 _).mono ?_
    rintro e w1 ⟨rfl, rfl⟩
    go_wp2_with fail
    first
      | (go_ret; exact ⟨rfl, by go_grown⟩)
      | (refine (c2 _).mono ?_
         rintro e w1 ⟨rfl, rfl⟩
         go_wp2_with fail
         first
           | (go_ret; exact ⟨rfl, by go_grown⟩)
           | (refine (c3 _).mono ?_
              rintro e w1 ⟨rfl, rfl⟩
              go_wp2_with fail
              go_ret
              exact ⟨rfl, by go_grown⟩))
end Go.Proofs.YtbafifilklfafaaDoor
