/-
  The walks over CoilIds of both.
-/
import Derived.Test.YtbafifilklfafaaDoorPileD
import Derived.Sort.OwnSortedInts
namespace Go.Proofs.YtbafifilklfafaaDoor
open Go.RowKit

/-- The ids up to k that are found. -/
def coilTo (lo hi : List Int) : Nat → List Int
  | 0 => []
  | k + 1 => if (findR lo hi ((k : Int) + 1)).isSome then coilTo lo hi k ++ [(k : Int) + 1] else coilTo lo hi k
theorem coilTo_len (lo hi : List Int) : ∀ k, (coilTo lo hi k).length ≤ k
  | 0 => Nat.le_refl _
  | k + 1 => by
    have := coilTo_len lo hi k
    unfold coilTo
    split
    · simp; omega
    · omega
theorem coilTo_mem {lo hi : List Int} : ∀ {k : Nat} {x : Int}, x ∈ coilTo lo hi k ↔ 1 ≤ x ∧ x ≤ k ∧ (findR lo hi x).isSome = true
  | 0, x => by simp [coilTo]; omega
  | k + 1, x => by
    unfold coilTo
    split
    · rename_i h
      rw [List.mem_append, coilTo_mem, List.mem_singleton]
      constructor
      · rintro (⟨h1, h2, h3⟩ | rfl)
        · exact ⟨h1, by omega, h3⟩
        · exact ⟨by omega, by omega, h⟩
      · rintro ⟨h1, h2, h3⟩
        by_cases e : x = (k : Int) + 1
        · exact .inr e
        · exact .inl ⟨h1, by omega, h3⟩
    · rename_i h
      rw [coilTo_mem]
      constructor
      · rintro ⟨h1, h2, h3⟩; exact ⟨h1, by omega, h3⟩
      · rintro ⟨h1, h2, h3⟩
        refine ⟨h1, ?_, h3⟩
        by_cases e : x = (k : Int) + 1
        · rw [e] at h3; exact absurd h3 h
        · omega
theorem coilTo_lt (lo hi : List Int) : ∀ k, (coilTo lo hi k).Pairwise (· < ·)
  | 0 => List.Pairwise.nil
  | k + 1 => by
    unfold coilTo
    split
    · rw [List.pairwise_append]
      refine ⟨coilTo_lt lo hi k, by simp, fun a ha b hb => ?_⟩
      have := coilTo_mem.1 ha
      simp only [List.mem_singleton] at hb
      omega
    · exact coilTo_lt lo hi k
theorem coilTo_all (lo hi : List Int) : coilTo lo hi 99 = coilR lo hi := by
  refine lt_unique (coilTo_lt _ _ _) (coil_lt _ _) fun x => ?_
  rw [coilTo_mem]
  cases hv : pileB lo hi with
  | false => simp [coilR, hv, find_bad hv]
  | true =>
    have hV := pileB_iff.1 hv
    rw [mem_coil hV]
    constructor
    · rintro ⟨h1, h2, h3⟩
      apply Classical.byContradiction
      intro hn
      have : findR lo hi x = none := by
        cases hf : findR lo hi x with
        | none => rfl
        | some r =>
          obtain ⟨t, p⟩ := r
          obtain ⟨_, _, k, _, hk, e⟩ := find_at hf
          exact absurd (mem_nz.2 ⟨by rw [← e]; exact row_mem (getD_mem hk), by omega⟩) hn
      rw [this] at h3; cases h3
    · intro h
      obtain ⟨t, p, e⟩ := find_some hV h
      have := hV.rng x (mem_nz.1 h).1
      have := (mem_nz.1 h).2
      exact ⟨by omega, by omega, by rw [e]; rfl⟩

set_option linter.unusedSimpArgs false in
set_option maxRecDepth 10000 in
set_option maxHeartbeats 1600000 in
theorem coils_spec (l h : Value) (lo hi : List Int) (w : World) (Hl : IntsAt 0 w.heap.size w l lo) (Hh : IntsAt 0 w.heap.size w h hi) :
    Calls Tryd.prog 74 #[pileV l h] w (IntsNew w.heap.size (coilR lo hi) w) := by
  have HL := hide Hl
  have HH := hide Hh
  have hP := fun id W H1 H2 => find_spec l h lo hi id W H1 H2
  unfold pileV at hP ⊢
  have HP := hide hP
  obtain ⟨i0, hi0, hz0, hi1, hi2⟩ := info_parts info_int
  clear hP Hl Hh
  go_enter Tryd.func74, Tryd.ntmps74
  go_wp2_with fail
  go_loopw [3, 4, 5, 6] (fun o i _ _ wr => ∃ k : Nat, k ≤ 99 ∧ i = .int .i64 ((k : Int) + 1) ∧ Below w.heap.size w wr ∧ RowL wr w.heap.size 50 [l, h] ∧ wr.ownsRow (w.heap.size + 1) 3 1 o (coilTo lo hi k).length (flatI (coilTo lo hi k))) (fun _ i _ _ _ => 100 - (intOf i).toNat)
  case atStart =>
    refine ⟨0, by omega, rfl, by go_grown, (RowL.new _ _ _).alloc _, ?_⟩
    simpa [coilTo, flatI] using World.ownsRow_lit (e := 3) (size := 1) (base := w.heap.size + 1) (w.alloc (.cells #[l, h] 50)) #[] 0 (by simp) (by unfold maxLen; omega) (by simp)
  case round =>
    obtain ⟨k, hk, rfl, hb, hr, hown⟩ := hrel
    have HB := hide hb
    have HR := hide hr
    have HO := hide hown
    have hz := hr.lt
    have hp0 := hr.cell 0 (by simp)
    have hp1 := hr.cell 1 (by simp)
    simp only [List.getD_cons_zero, List.getD_cons_succ] at hp0 hp1
    obtain ⟨aov, capv, rfl, hc1, hc2⟩ := own_slice hown
    clear hb hr hown
    by_cases hlt : k < 99
    · have HLr := hide ((HL.out.below HB.out).mono (Nat.le_refl _) HB.out.size (Nat.le_refl _))
      have HHr := hide ((HH.out.below HB.out).mono (Nat.le_refl _) HB.out.size (Nat.le_refl _))
      have hlen := coilTo_len lo hi k
      have hsz := HB.out.size
      cases hf : findR lo hi ((k : Int) + 1) with
      | none =>
        have HN := hide (show coilTo lo hi (k + 1) = coilTo lo hi k by simp [coilTo, hf])
        go_wp2_with fail
        refine (HP.out ((k : Int) + 1) wr HLr.out HHr.out).mono ?_
        rw [hf]
        unfold findV
        rintro e w1 ⟨rfl, hb1⟩
        have HB2 := hide (Below.step HB.out hb1 (Nat.le_refl _))
        have HR2 := hide (HR.out.below hb1 HR.out.lt)
        have HO2 := hide (ownsRow_below HO.out hb1 (Nat.le_refl _))
        have hz1 := HB2.out.size
        clear hb1 hp0 hp1 hf
        go_wp2_with fail
        go_roundw
        case rel => exact ⟨k + 1, by omega, by go_num, HB2.out.alloc hz1 _, HR2.out.alloc _, by rw [HN.out]; exact HO2.out.alloc _⟩
        case measure => simp [intOf]; omega
      | some r =>
        obtain ⟨t, p⟩ := r
        have HN := hide (show coilTo lo hi (k + 1) = coilTo lo hi k ++ [(k : Int) + 1] by simp [coilTo, hf])
        go_wp2_with fail
        refine (HP.out ((k : Int) + 1) wr HLr.out HHr.out).mono ?_
        rw [hf]
        unfold findV
        rintro e w1 ⟨rfl, hb1⟩
        have HB2 := hide (Below.step HB.out hb1 (Nat.le_refl _))
        have HR2 := hide (HR.out.below hb1 HR.out.lt)
        have HO2 := hide (ownsRow_below HO.out hb1 (Nat.le_refl _))
        have hz1 := HB2.out.size
        clear hb1 hp0 hp1 hf
        go_wp2_with (at_builtin; refine wpList_append_view rfl _ _ 40 rfl (w.heap.size + 1) 3 i0 (.int .i64 0) 1 8 Tryd.underlying40 hi0 hz0 hi1 hi2 rfl (by decide) _ _ _ rfl ((HO2.out.alloc _).alloc _) (.slice (some ⟨w1.heap.size + 1, 0, none⟩) 1 1) 1 [.int .i64 ((k : Int) + 1)] rfl ?c0 ?c1 ?c2 ?c3 ?_)
        case c0 => simpa using Source.lit (World.alloc w1 _) [.int .i64 ((k : Int) + 1)] 1 3 1 rfl (fun u hu => by simp at hu; subst hu; rfl) 1
        case c1 => unfold maxLen; omega
        case c2 => omega
        case c3 => simp; omega
        intro v2 w2 hown2 hgrow2 _
        have hlt2 := HR2.out.lt
        have hgB : Below (w.heap.size + 1) w1 w2 := (((Below.refl _ _).alloc (by omega) _).alloc (by simp; omega) _).trans (Below.grow hgrow2 ((HO2.out.alloc _).alloc _) (Nat.le_refl _) (by simp; omega))
        have HB3 := hide (HB2.out.trans (hgB.mono (by omega)))
        have HR3 := hide (HR2.out.below hgB (Nat.lt_succ_self _))
        have HO3 := hide (show w2.ownsRow (w.heap.size + 1) 3 1 v2 (coilTo lo hi (k + 1)).length (flatI (coilTo lo hi (k + 1))) by rw [HN.out]; simpa [flatI] using hown2)
        clear hown2 hgrow2 hgB
        go_wp2_with fail
        go_roundw
        case rel => exact ⟨k + 1, by omega, by go_num, HB3.out, HR3.out, HO3.out⟩
        case measure => simp [intOf]; omega
    · obtain rfl : k = 99 := by omega
      go_wp2_with fail
      go_ret
      exact ⟨_, rfl, by rw [← coilTo_all]; exact ownsRow_mono HO.out (by omega), HB.out⟩
end Go.Proofs.YtbafifilklfafaaDoor
