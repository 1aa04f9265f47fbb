/-
  The walks over slices.Delete of one element and slices.Sort of a few ints.
-/
import Derived.Test.YtfjemnjdkniibaaDoorWalkP
import Derived.Deep.RegionLaw
import Derived.Lib.LazyBuf
import Derived.Lib.SliceRun
namespace Go.Proofs.YtfjemnjdkniibaaDoor
open Go.RowKit

/-- An own slice as a row. -/
theorem OwnI.row {base : Nat} {w : World} {g n cap : Nat} {xs : List Int} (h : OwnI base w (.slice (some ⟨g, 0, none⟩) n cap) xs) :
    ∃ f, w.rowIs g 3 cap f ∧ (∀ i (_ : i < xs.length), f i = .int .i64 xs[i]) ∧ base ≤ g ∧ n = xs.length ∧ xs.length ≤ cap ∧ cap ≤ maxLen := by
  obtain ⟨⟨g0, cap0, e0⟩, ho⟩ := h
  simp only [Value.slice.injEq, Option.some.injEq, Addr.mk.injEq] at e0
  obtain ⟨⟨rfl, -⟩, rfl, rfl⟩ := e0
  rcases ho.2 with ⟨e, _⟩ | ⟨g', cap', cur, e, h0, h1, h2, h3, h4, h5⟩
  · cases e
  · simp only [Value.slice.injEq, Option.some.injEq, Addr.mk.injEq] at e
    obtain ⟨⟨rfl, -⟩, -, rfl⟩ := e
    refine ⟨fun i => cur[i]?.getD default, ⟨cur, h1, by omega, fun i hi => ?_⟩, fun i hi => ?_, h0, rfl, h2, h3⟩
    · have : i < cur.size := by omega
      simp [this]
    · have hi2 : i < cur.size := by omega
      have := congrArg (fun l => l[i]?) h5
      simp [hi] at this
      simp [hi2]
      simpa [hi2] using this
theorem OwnI.of_row {base : Nat} {w : World} {g cap : Nat} {xs : List Int} {f : Nat → Value} (h : w.rowIs g 3 cap f) (hf : ∀ i (_ : i < xs.length), f i = .int .i64 xs[i]) (hb : base ≤ g) (hn : xs.length ≤ cap) (hc : cap ≤ maxLen) :
    OwnI base w (.slice (some ⟨g, 0, none⟩) xs.length cap) xs := by
  obtain ⟨cur, h1, h2, h3⟩ := h
  refine ⟨⟨g, cap, rfl⟩, by simp, .inr ⟨g, cap, cur, rfl, hb, h1, hn, hc, by omega, ?_⟩⟩
  apply List.ext_getElem?
  intro i
  by_cases hi : i < xs.length
  · have hi2 : i < cur.size := by omega
    have := h3 i (by omega)
    have e1 : cur[i]? = some (f i) := this
    simp only [Array.getElem?_toList, List.getElem?_take, e1, hf i hi]
    simp [hi]
  · simp [hi]
    omega

theorem other_setCells {lo hi b : Nat} {a : World} (h1 : lo ≤ b) (h2 : b < hi) : ∀ (vs : List Value) (o : Nat) (w : World), Other lo hi a w → Other lo hi a (w.setCells b o vs)
  | [], _, _, h => h
  | v :: r, o, w, h => other_setCells h1 h2 r (o + 1) _ (h.setCell (by exact h1) (by exact h2) v)

set_option maxHeartbeats 1600000 in
set_option maxRecDepth 1000000 in
theorem delete_any (base : Nat) (w : World) (g cap i : Nat) (xs : List Int) (h : OwnI base w (.slice (some ⟨g, 0, none⟩) xs.length cap) xs) (hi : i < xs.length) :
    Calls Tryd.prog 92 #[.slice (some ⟨g, 0, none⟩) xs.length cap, .int .i64 i, .int .i64 ((i : Int) + 1)] w fun e w' =>
      e = .returned (.slice (some ⟨g, 0, none⟩) (xs.length - 1) cap) ∧ Other g (g + 1) w w' ∧ OwnI base w' (.slice (some ⟨g, 0, none⟩) (xs.length - 1) cap) (xs.eraseIdx i) := by
  obtain ⟨f, hr, hf, hbg, -, hl, hm⟩ := h.row
  clear h
  have hm' : cap ≤ 9223372036854775807 := by unfold maxLen at hm; exact hm
  obtain ⟨i0, hi0, hz0, hz1, hz2⟩ := info_parts info_int
  obtain ⟨mv, hmv⟩ : ∃ mv : List Value, mv = (xs.drop (i + 1)).map (Value.int .i64) := ⟨_, rfl⟩
  have hml : mv.length = xs.length - (i + 1) := by rw [hmv]; simp
  have hmg : ∀ j, j < xs.length - (i + 1) → mv[j]? = some (f (i + 1 + j)) := fun j hj => by
    rw [hf (i + 1 + j) (by omega), hmv]
    have : i + 1 + j < xs.length := by omega
    simp [this]
  obtain ⟨A, hA, hnews⟩ : ∃ A : Addr, (if cap = i + 1 then some (⟨g, 0, none⟩ : Addr) else some ⟨g, i + 1, none⟩) = some A ∧ Hid (∀ j u, mv[j]? = some u → w.drew.cell? (A.add j) = some u) := by
    by_cases h : cap = i + 1
    · refine ⟨⟨g, 0, none⟩, by simp [h], fun j u hu => ?_⟩
      have h0 : mv.length = 0 := by omega
      rw [List.length_eq_zero_iff.1 h0] at hu
      simp at hu
    · refine ⟨⟨g, i + 1, none⟩, by simp [h], fun j u hu => ?_⟩
      have hj : j < xs.length - (i + 1) := by
        have := (List.getElem?_eq_some_iff.1 hu).1
        rwa [hml] at this
      rw [hmg j hj] at hu
      rw [Addr.add_lit]
      exact (hr.cell (i := i + 1 + j) (by omega)).trans hu
  have s1 : Hid (mv.length = (xs.length - (i + 1)) * 1) := by rw [Nat.mul_one]; exact hml
  have s2 : Hid (∀ u ∈ mv, u.oneCell' = true) := by
    intro u hu
    rw [hmv] at hu
    obtain ⟨x, _, rfl⟩ := List.mem_map.1 hu
    rfl
  have s3 : Hid (∀ j, j < mv.length → (w.drew.cell? ⟨g, 0 + i * 1 + j, none⟩).isSome = true ∧ w.drew.frozen? ⟨g, 0 + i * 1 + j, none⟩ = false) := by
    intro j hj
    rw [hml] at hj
    rw [Nat.mul_one, Nat.zero_add]
    exact ⟨by show (w.cell? _).isSome = true; rw [hr.cell (i := i + j) (by omega)]; rfl, hr.frozen _⟩
  have hic : i ≤ cap := by omega
  have hp0 : (0 : Int) ≤ (i : Int) + 1 := by omega
  have hp1 : (i : Int) + 1 ≤ (xs.length : Int) := by omega
  have hp2 : ((i : Int) + 1).toNat = i + 1 := by omega
  have hp3 : ((i : Int) == (i : Int) + 1) = false := by simp; omega
  have hr2 : (w.drew.setCells g i mv).rowIs g 3 cap (fun j => if i ≤ j ∧ j < i + mv.length then mv[j - i]?.getD default else f j) := rowIs_setCells mv i w.drew f hr
  obtain ⟨q, hq⟩ : ∃ q, i + (xs.length - (i + 1)) = q := ⟨_, rfl⟩
  have hql : xs.length - q = 1 := by omega
  have hq2 : q < cap := by omega
  have hqI : (q : Int) ≤ (cap : Int) := by omega
  have hqJ : (q : Int) ≤ (xs.length : Int) := by omega
  have hclr := Go.Lib.run_clear_slice (P := Tryd.prog) (w.drew.setCells g i mv) 36 3 0 (.int .i64 0) Tryd.underlying36 (fun w => by kernel_rfl) rfl rfl g q 1 (cap - q) (by omega)
    (fun j hj => by rw [hr2.cell (i := q + j) (by omega)]; rfl) (fun j hj => hr2.frozen (q + j))
  have HR := hide hr2
  have HM := hide hmg
  have HL := hide hml
  have HF := hide hf
  clear hr2 hmg hml hf hmv hr
  go_enter Tryd.func92, Tryd.ntmps92
  go_wp2_with fail
  go_region_law (refine step_append_room rfl (.tmp 22) (.tmp 25) 36 rfl 3 i0 1 Tryd.underlying36 hi0 hz1 g 0 i cap (by simp [Act.eval, Act.put]) A (xs.length - (i + 1)) (cap - (i + 1)) mv (by simp [Act.eval, Act.put]) s1.out hnews.out s2.out (by omega) s3.out ?_)
  go_wp2_with fail
  go_ret
  have hq1 : q = xs.length - 1 := by omega
  have hr3 := rowIs_setCells [Value.int .i64 0] q (w.drew.setCells g i mv) _ HR.out
  have hel : (xs.eraseIdx i).length = xs.length - 1 := by rw [List.length_eraseIdx]; simp [hi]
  refine ⟨by rw [← hq1]; rfl, other_setCells (Nat.le_refl _) (Nat.lt_succ_self _) _ _ _ (other_setCells (Nat.le_refl _) (Nat.lt_succ_self _) _ _ _ (Other.refl _ _ _).drew), ?_⟩
  have := OwnI.of_row (xs := xs.eraseIdx i) hr3 (fun j hj => ?_) hbg (by omega) hm
  · rw [hel] at this; exact this
  · rw [hel] at hj
    have hl := HL.out
    rw [if_neg (by simp; omega), List.getElem_eraseIdx]
    by_cases hji : j < i
    · rw [if_neg (by omega), dif_pos hji, HF.out j (by omega)]
    · rw [if_pos (by omega), dif_neg hji, HM.out (j - i) (by omega), show i + 1 + (j - i) = j + 1 by omega, HF.out (j + 1) (by omega)]
      rfl
end Go.Proofs.YtfjemnjdkniibaaDoor
