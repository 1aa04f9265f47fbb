/-
  Parts of the proofs over mills, of: PileE, PileF, DoP, MethC. Conditions: each theorem states its own.
-/
import Derived.Sort.OwnSortedInts
import Derived.Test.YtmemgbklgcjobaaGreatDoorB18
set_option linter.unusedSimpArgs false
set_option linter.unusedVariables false
set_option maxRecDepth 10000
namespace Go.Proofs.YtmemgbklgcjobaaGreatDoor
open Go.RowKit
def coilTo (lo hi : List Int) : Nat → List Int
  | 0 => []
  | k + 1 => if (findR lo hi ((k : Int) + 1)).isSome then coilTo lo hi k ++ [(k : Int) + 1] else coilTo lo hi k
theorem coilTo_len (lo hi : List Int) : ∀ k, (coilTo lo hi k).length ≤ k
  | 0 => Nat.le_refl _
  | k + 1 => by
    have := coilTo_len lo hi k
    unfold coilTo
    split
    · simp; omega
    · omega
theorem coilTo_mem {lo hi : List Int} : ∀ {k : Nat} {x : Int}, x ∈ coilTo lo hi k ↔ 1 ≤ x ∧ x ≤ k ∧ (findR lo hi x).isSome = true
  | 0, x => by simp [coilTo]; omega
  | k + 1, x => by
    unfold coilTo
    split
    · rename_i h
      rw [List.mem_append, coilTo_mem, List.mem_singleton]
      constructor
      · rintro (⟨h1, h2, h3⟩ | rfl)
        · exact ⟨h1, by omega, h3⟩
        · exact ⟨by omega, by omega, h⟩
      · rintro ⟨h1, h2, h3⟩
        by_cases e : x = (k : Int) + 1
        · exact .inr e
        · exact .inl ⟨h1, by omega, h3⟩
    · rename_i h
      rw [coilTo_mem]
      constructor
      · rintro ⟨h1, h2, h3⟩; exact ⟨h1, by omega, h3⟩
      · rintro ⟨h1, h2, h3⟩
        refine ⟨h1, ?_, h3⟩
        by_cases e : x = (k : Int) + 1
        · rw [e] at h3; exact absurd h3 h
        · omega
theorem coilTo_lt (lo hi : List Int) : ∀ k, (coilTo lo hi k).Pairwise (· < ·)
  | 0 => List.Pairwise.nil
  | k + 1 => by
    unfold coilTo
    split
    · rw [List.pairwise_append]
      refine ⟨coilTo_lt lo hi k, by simp, fun a ha b hb => ?_⟩
      have := coilTo_mem.1 ha
      simp only [List.mem_singleton] at hb
      omega
    · exact coilTo_lt lo hi k
theorem coilTo_all (lo hi : List Int) : coilTo lo hi 99 = coilR lo hi := by
  refine lt_unique (coilTo_lt _ _ _) (coil_lt _ _) fun x => ?_
  rw [coilTo_mem]
  cases hv : pileB lo hi with
  | false => simp [coilR, hv, find_bad hv]
  | true =>
    have hV := pileB_iff.1 hv
    rw [mem_coil hV]
    constructor
    · rintro ⟨h1, h2, h3⟩
      apply Classical.byContradiction
      intro hn
      have : findR lo hi x = none := by
        cases hf : findR lo hi x with
        | none => rfl
        | some r =>
          obtain ⟨t, p⟩ := r
          obtain ⟨_, _, k, _, hk, e⟩ := find_at hf
          exact absurd (mem_nz.2 ⟨by rw [← e]; exact row_mem (getD_mem hk), by omega⟩) hn
      rw [this] at h3; cases h3
    · intro h
      obtain ⟨t, p, e⟩ := find_some hV h
      have := hV.rng x (mem_nz.1 h).1
      have := (mem_nz.1 h).2
      exact ⟨by omega, by omega, by rw [e]; rfl⟩
set_option maxHeartbeats 1600000 in
theorem coils_spec (l h : Value) (lo hi : List Int) (w : World) (Hl : IntsAt 0 w.heap.size w l lo) (Hh : IntsAt 0 w.heap.size w h hi) :
    Calls Tryz.prog 70 #[pileV l h] w (IntsNew w.heap.size (coilR lo hi) w) := by
  have HL := hide Hl
  have HH := hide Hh
  have hP := fun id W H1 H2 => find_spec l h lo hi id W H1 H2
  unfold pileV at hP ⊢
  have HP := hide hP
  obtain ⟨i0, hi0, hz0, hi1, hi2⟩ := info_parts info_int
  clear hP Hl Hh
  go_enter Tryz.func70, Tryz.ntmps70
  go_wp2_with fail
  go_loopw [3, 4, 5, 6] (fun o i _ _ wr => ∃ k : Nat, k ≤ 99 ∧ i = .int .i64 ((k : Int) + 1) ∧ Below w.heap.size w wr ∧ RowL wr w.heap.size 29 [l, h] ∧ wr.ownsRow (w.heap.size + 1) 3 1 o (coilTo lo hi k).length (flatI (coilTo lo hi k))) (fun _ i _ _ _ => 100 - (intOf i).toNat)
  case atStart =>
    refine ⟨0, by omega, rfl, by go_grown, (RowL.new _ _ _).alloc _, ?_⟩
    simpa [coilTo, flatI] using World.ownsRow_lit (e := 3) (size := 1) (base := w.heap.size + 1) (w.alloc (.cells #[l, h] 29)) #[] 0 (by simp) (by unfold maxLen; omega) (by simp)
  case round =>
    obtain ⟨k, hk, rfl, hb, hr, hown⟩ := hrel
    have HB := hide hb
    have HR := hide hr
    have HO := hide hown
    have hz := hr.lt
    have hp0 := hr.cell 0 (by simp)
    have hp1 := hr.cell 1 (by simp)
    simp only [List.getD_cons_zero, List.getD_cons_succ] at hp0 hp1
    obtain ⟨aov, capv, rfl, hc1, hc2⟩ := own_slice hown
    clear hb hr hown
    by_cases hlt : k < 99
    · have HLr := hide ((HL.out.below HB.out).mono (Nat.le_refl _) HB.out.size (Nat.le_refl _))
      have HHr := hide ((HH.out.below HB.out).mono (Nat.le_refl _) HB.out.size (Nat.le_refl _))
      have hlen := coilTo_len lo hi k
      have hsz := HB.out.size
      cases hf : findR lo hi ((k : Int) + 1) with
      | none =>
        have HN := hide (show coilTo lo hi (k + 1) = coilTo lo hi k by simp [coilTo, hf])
        go_wp2_with fail
        refine (HP.out ((k : Int) + 1) wr HLr.out HHr.out).mono ?_
        rw [hf]
        unfold findV
        rintro e w1 ⟨rfl, hb1⟩
        have HB2 := hide (Below.step HB.out hb1 (Nat.le_refl _))
        have HR2 := hide (HR.out.below hb1 HR.out.lt)
        have HO2 := hide (ownsRow_below HO.out hb1 (Nat.le_refl _))
        have hz1 := HB2.out.size
        clear hb1 hp0 hp1 hf
        go_wp2_with fail
        go_roundw
        case rel => exact ⟨k + 1, by omega, by go_num, HB2.out.alloc hz1 _, HR2.out.alloc _, by rw [HN.out]; exact HO2.out.alloc _⟩
        case measure => simp [intOf]; omega
      | some r =>
        obtain ⟨t, p⟩ := r
        have HN := hide (show coilTo lo hi (k + 1) = coilTo lo hi k ++ [(k : Int) + 1] by simp [coilTo, hf])
        go_wp2_with fail
        refine (HP.out ((k : Int) + 1) wr HLr.out HHr.out).mono ?_
        rw [hf]
        unfold findV
        rintro e w1 ⟨rfl, hb1⟩
        have HB2 := hide (Below.step HB.out hb1 (Nat.le_refl _))
        have HR2 := hide (HR.out.below hb1 HR.out.lt)
        have HO2 := hide (ownsRow_below HO.out hb1 (Nat.le_refl _))
        have hz1 := HB2.out.size
        clear hb1 hp0 hp1 hf
        go_wp2_with (at_builtin; refine wpList_append_view rfl _ _ 27 rfl (w.heap.size + 1) 3 i0 (.int .i64 0) 1 8 Tryz.underlying27 hi0 hz0 hi1 hi2 rfl (by decide) _ _ _ rfl ((HO2.out.alloc _).alloc _) (.slice (some ⟨w1.heap.size + 1, 0, none⟩) 1 1) 1 [.int .i64 ((k : Int) + 1)] rfl ?c0 ?c1 ?c2 ?c3 ?_)
        case c0 => simpa using Source.lit (World.alloc w1 _) [.int .i64 ((k : Int) + 1)] 1 3 1 rfl (fun u hu => by simp at hu; subst hu; rfl) 1
        case c1 => unfold maxLen; omega
        case c2 => omega
        case c3 => simp; omega
        intro v2 w2 hown2 hgrow2 _
        have hlt2 := HR2.out.lt
        have hgB : Below (w.heap.size + 1) w1 w2 := (((Below.refl _ _).alloc (by omega) _).alloc (by simp; omega) _).trans (Below.grow hgrow2 ((HO2.out.alloc _).alloc _) (Nat.le_refl _) (by simp; omega))
        have HB3 := hide (HB2.out.trans (hgB.mono (by omega)))
        have HR3 := hide (HR2.out.below hgB (Nat.lt_succ_self _))
        have HO3 := hide (show w2.ownsRow (w.heap.size + 1) 3 1 v2 (coilTo lo hi (k + 1)).length (flatI (coilTo lo hi (k + 1))) by rw [HN.out]; simpa [flatI] using hown2)
        clear hown2 hgrow2 hgB
        go_wp2_with fail
        go_roundw
        case rel => exact ⟨k + 1, by omega, by go_num, HB3.out, HR3.out, HO3.out⟩
        case measure => simp [intOf]; omega
    · obtain rfl : k = 99 := by omega
      go_wp2_with fail
      go_ret
      exact ⟨_, rfl, by rw [← coilTo_all]; exact ownsRow_mono HO.out (by omega), HB.out⟩
theorem sort_any (base : Nat) (v : Value) (xs : List Int) (w : World) (h : w.ownsRow base 3 1 v xs.length (flatI xs)) (hl : xs.length ≤ 1000) (hb : base ≤ w.heap.size) :
    Calls Tryz.prog 105 #[v] w fun e w' => e = .returned (.tuple #[]) ∧ ∃ ys : List Int, ys.Perm xs ∧ ys.Pairwise (· ≤ ·) ∧ ys.length = xs.length ∧ w'.ownsRow base 3 1 v ys.length (flatI ys) ∧ Below base w w' := by
  rcases id h.2 with ⟨rfl, h0⟩ | ⟨g, cap, cur, rfl, hbg, hg, h1, h2, h3, h4⟩
  · obtain rfl : xs = [] := List.eq_nil_of_length_eq_zero h0
    exact (Tryz.slices_Sort_int_none none 0 w).mono fun e w' ⟨he, hw⟩ => ⟨he, [], List.Perm.refl _, List.Pairwise.nil, rfl, by rw [hw]; exact h, by rw [hw]; exact Below.refl _ _⟩
  · have hlt := (Array.getElem?_eq_some_iff.1 hg).1
    refine (Tryz.slices_Sort_int g 0 cap xs w (holds_of_blockI hg (by rw [Nat.mul_one] at h4; exact h4)) hlt (by omega)).mono ?_
    rintro e w' ⟨he, n, os, rfl⟩
    have hp := List.mergeSort_perm xs fun x y => decide (x ≤ y)
    have hlen := hp.length_eq
    refine ⟨he, _, hp, ?_, hlen, ?_, ?_⟩
    · have := List.pairwise_mergeSort (le := fun x y : Int => decide (x ≤ y)) (fun a b c h1 h2 => by simp at *; omega) (fun a b => by simp; omega) xs
      exact this.imp fun h => by simpa using h
    · rw [hlen]
      have := ownsRow_sortedI (os := os) (n := n) (w := w) hlen hbg hg h1 h2 h3
      exact this
    · exact (Below.refl _ _).grown (grownBy_sortedI _) hb fun k hk => by simp at hk; omega
theorem nz_take {xs : List Int} {k : Nat} (hk : k < xs.length) : nz (xs.take (k + 1)) = if xs[k] = 0 then nz (xs.take k) else nz (xs.take k) ++ [xs[k]] := by
  rw [List.take_succ_eq_append_getElem hk, nz_app]
  split
  · rename_i h; simp [nz, h]
  · rename_i h; simp [nz, h]
theorem nz_len (l : List Int) : (nz l).length ≤ l.length := List.length_filter_le _ _
set_option maxHeartbeats 1600000 in
theorem coils_impl (l h : Value) (lo hi : List Int) (w : World) (Hl : IntsAt 0 w.heap.size w l lo) (Hh : IntsAt 0 w.heap.size w h hi) :
    Calls Tryz.prog 37 #[pileV l h] w (IntsNew w.heap.size (coilR lo hi) w) := by
  have HL := hide Hl
  have HH := hide Hh
  obtain ⟨ao1, cap1, rfl, -, -, -, -⟩ := Hl
  obtain ⟨ao2, cap2, rfl, -, -, -, -⟩ := Hh
  have hP := fun W H1 H2 => pile_impl (.slice ao1 lo.length cap1) (.slice ao2 hi.length cap2) lo hi W H1 H2
  unfold pileV at hP ⊢
  have HP := hide hP
  obtain ⟨i0, hi0, hz0, hi1, hi2⟩ := info_parts info_int
  clear hP
  go_enter Tryz.func37, Tryz.ntmps37
  go_wp2_with fail
  refine calls_at fun wx hwx => ?_
  have R0 : RowL wx w.heap.size 29 [.slice ao1 lo.length cap1, .slice ao2 hi.length cap2] := by rw [hwx]; exact RowL.new _ _ _
  have hb0 : Below w.heap.size w wx := by rw [hwx]; go_grown
  clear hwx
  refine (HP.out wx ((HL.out.below hb0).mono (Nat.le_refl _) hb0.size (Nat.le_refl _)) ((HH.out.below hb0).mono (Nat.le_refl _) hb0.size (Nat.le_refl _))).mono ?_
  cases hv : pileB lo hi with
  | false =>
    rintro e w1 ⟨rfl, hb1⟩
    have HB1 := hide (Below.step hb0 hb1 (Nat.le_refl _))
    have HF := hide (show coilR lo hi = [] by simp [coilR, hv])
    clear hb1 hv
    go_wp2_with fail
    go_ret
    exact ⟨_, rfl, by rw [HF.out]; exact World.ownsRow_nil _ _ _ _, HB1.out⟩
  | true =>
    rintro e w1 ⟨rfl, hb1⟩
    have HV := hide (pileB_iff.1 hv)
    have HB1 := hide (Below.step hb0 hb1 (Nat.le_refl _))
    have R1 := R0.below hb1 R0.lt
    have hp0 := R1.cell 0 (by simp)
    have hp1 := R1.cell 1 (by simp)
    simp only [List.getD_cons_zero, List.getD_cons_succ] at hp0 hp1
    have q1 := HV.out.l1
    have q2 := HV.out.l6
    have q3 := HV.out.lh
    have hz0' := R1.lt
    clear hb1 hv
    go_wp2_with fail
    refine calls_at fun wy hwy => ?_
    have R2 : RowL wy w1.heap.size 27 [.slice ao1 lo.length cap1, .slice ao2 hi.length cap2] := by rw [hwy]; exact RowL.new _ _ _
    have hby : Below w1.heap.size w1 wy := by rw [hwy]; go_grown
    clear hwy hp0 hp1
    have hBy := Below.step HB1.out hby (Nat.le_refl _)
    refine (concat_any _ _ _ _ lo hi _ R2 ((HL.out.below hBy).mono (Nat.le_refl _) hBy.size (Nat.le_refl _)) ((HH.out.below hBy).mono (Nat.le_refl _) hBy.size (Nat.le_refl _)) (by omega) (by omega)).mono ?_
    rintro e w2 ⟨v, rfl, hown, hb2⟩
    have hat := ownI_at hown rfl hb2.size
    obtain ⟨ids, hids⟩ : ∃ ids, lo ++ hi = ids := ⟨_, rfl⟩
    have hil : ids.length = lo.length + hi.length := by rw [← hids]; simp
    rw [hids] at hat hown
    have HIDS := hide hids
    have HAT := hide hat
    have HB2 := hide (Below.step hBy hb2 (Nat.le_refl _))
    obtain ⟨aov, capv, rfl, -, -⟩ := own_slice hown
    have hl3 : ids.length ≤ 20 := by omega
    clear hown hb2 hids hat hil
    obtain ⟨aov', capv', e', -, -, -, hcv⟩ := HAT.out
    simp only [Value.slice.injEq] at e'
    obtain ⟨rfl, -, rfl⟩ := e'
    have HCV := hide hcv
    have hsz2 := HB2.out.size
    clear hcv
    go_wp2_with fail
    go_loopw [3, 5, 16] (fun o _ i wr => ∃ k : Nat, k ≤ ids.length ∧ i = .int .i64 k ∧ Below w2.heap.size w2 wr ∧ wr.ownsRow w2.heap.size 3 1 o (nz (ids.take k)).length (flatI (nz (ids.take k)))) (fun _ _ i _ => ids.length - (intOf i).toNat)
    case atStart => exact ⟨0, Nat.zero_le _, rfl, Below.refl _ _, World.ownsRow_nil _ _ _ _⟩
    case round =>
      obtain ⟨k, hk, rfl, hb, hown⟩ := hrel
      have HB := hide hb
      have HO := hide hown
      have hnl := nz_len (ids.take k)
      have htk : (ids.take k).length ≤ k := List.length_take_le _ _
      have hszr := hb.size
      obtain ⟨aow, capw, rfl, -, -⟩ := own_slice hown
      clear hown
      by_cases hlt : k < ids.length
      · obtain ⟨b, o, rfl, hx1, hx2, hcs⟩ := HCV.out (by omega)
        obtain ⟨r1, -⟩ := hcs k hlt
        rw [← hb.cell (p := ⟨b, _, none⟩) (by simpa using by omega)] at r1
        have HN := hide (nz_take hlt)
        obtain ⟨x, hx⟩ : ∃ x, ids[k] = x := ⟨_, rfl⟩
        rw [hx] at r1 HN
        have hkI : (k : Int) < (ids.length : Int) := by omega
        clear hcs hx hb
        by_cases hq : x = 0
        · have hqB : (x != 0) = false := by simp [hq]
          have HN2 := hide (show nz (ids.take (k + 1)) = nz (ids.take k) by rw [HN.out, if_pos hq])
          clear hq
          go_wp2_with fail
          go_roundw
          case rel => exact ⟨k + 1, by omega, by go_num, HB.out, by rw [HN2.out]; exact HO.out⟩
          case measure => simp [intOf]; omega
        · have hqB : (x != 0) = true := by simp [hq]
          have HN2 := hide (show nz (ids.take (k + 1)) = nz (ids.take k) ++ [x] by rw [HN.out, if_neg hq])
          clear hq
          go_wp2_with (at_builtin; refine wpList_append_view rfl _ _ 27 rfl w2.heap.size 3 i0 (.int .i64 0) 1 8 Tryz.underlying27 hi0 hz0 hi1 hi2 rfl (by decide) _ _ _ rfl (HO.out.alloc _) (.slice (some ⟨wr.heap.size, 0, none⟩) 1 1) 1 [.int .i64 x] rfl ?c0 ?c1 ?c2 ?c3 ?_)
          case c0 => exact Source.lit wr [.int .i64 x] 1 3 1 rfl (fun u hu => by simp at hu; subst hu; rfl) 1
          case c1 => unfold maxLen; omega
          case c2 => omega
          case c3 => simp; omega
          intro v2 w3 hown2 hgrow2 _
          have hB3 := (HB.out.alloc hszr (.cells #[.int .i64 x] 3)).trans (Below.grow hgrow2 (HO.out.alloc _) (Nat.le_refl _) (by simp; omega))
          have HB3 := hide hB3
          have HO3 := hide (show w3.ownsRow w2.heap.size 3 1 v2 (nz (ids.take (k + 1))).length (flatI (nz (ids.take (k + 1)))) by rw [HN2.out]; simpa [flatI] using hown2)
          clear hown2 hgrow2 hB3
          go_wp2_with fail
          go_roundw
          case rel => exact ⟨k + 1, by omega, by go_num, HB3.out, HO3.out⟩
          case measure => simp [intOf]; omega
      · obtain rfl : k = ids.length := by omega
        rw [List.take_of_length_le (Nat.le_refl _)] at HO ⊢
        have HBr := hide (HB2.out.trans (HB.out.mono hsz2))
        clear hb
        go_wp2_with fail
        refine (sort_any w2.heap.size _ (nz ids) _ HO.out (by have := nz_len ids; omega) hszr).mono ?_
        rintro e w4 ⟨rfl, ys, hp, hs, hly, hown, hb4⟩
        have hc := coil_sorted HV.out (l := ys) (by rw [HIDS.out]; exact hp) hs
        rw [hly] at hown
        have HO4 := hide (show w4.ownsRow w.heap.size 3 1 (.slice aow (nz ids).length capw) (coilR lo hi).length (flatI (coilR lo hi)) by rw [← hc, hly]; exact ownsRow_mono hown hsz2)
        have HB4 := hide (HBr.out.trans (hb4.mono hsz2))
        clear hp hs hly hown hb4 hc
        go_wp2_with fail
        go_ret
        exact ⟨_, rfl, HO4.out, HB4.out⟩
theorem do_good {m : Mi} (h : millB m = true) (k a b : Int) : doR m ⟨k, a, b⟩ = orOld m (stepD m k a b) := by
  unfold doR
  rw [if_pos h]
  rfl
theorem step_0 (m : Mi) (a b : Int) : stepD m 0 a b = meltD m a := rfl
theorem step_1 (m : Mi) (a b : Int) : stepD m 1 a b = cutD m a b := rfl
theorem step_2 (m : Mi) (a b : Int) : stepD m 2 a b = rollD m a b := rfl
theorem step_3 (m : Mi) (a b : Int) : stepD m 3 a b = liftD m a b := rfl
theorem step_4 (m : Mi) (a b : Int) : stepD m 4 a b = shipD m a := rfl
theorem step_x {m : Mi} {k a b : Int} (h0 : (k == 0) = false) (h1 : (k == 1) = false) (h2 : (k == 2) = false) (h3 : (k == 3) = false) (h4 : (k == 4) = false) : stepD m k a b = none := by
  simp [stepD, h0, h1, h2, h3, h4]
theorem found_take {lo hi : List Int} {id p x : Int} {t : Bool} {q : List Int × List Int} (h : findR lo hi id = some (t, p)) (h2 : takeR lo hi t p = (q, x)) : 1 ≤ id ∧ (x = 0 ∨ x = id) := by
  obtain ⟨f1, f2, kk, rfl, f3, f4⟩ := find_at h
  refine ⟨f2, ?_⟩
  by_cases h0 : x = 0
  · exact .inl h0
  · obtain ⟨p1, p2, p3, p4, p5, -, k', e', p6, p7⟩ := take_ok h2 h0
    have hkk : kk = k' := by omega
    subst hkk
    exact .inr (by rw [← p7, f4])
theorem OwnE.past {base T T' sz n C : Nat} {w w' : World} {v : Value} {cs vs : List Value} (h : OwnE base T sz w v n cs) (r : RowL w C T' vs) (hT : T ≠ T') (k : Other C (C + 1) w w') : OwnE base T sz w' v n cs := by
  rcases h with h | ⟨g, h1, h2, h3, h4, h5⟩
  · exact .inl (ownsRow_other h k fun g hg => by
      have := own_ne_row h r hT g hg
      omega)
  · exact .inr ⟨g, h1, h2, Nat.lt_of_lt_of_le h3 k.size, h4, h5⟩
theorem MillGot.past {base C : Nat} {w w' : World} {s p l h : Value} {m : Mi} {vs : List Value} (H : MillGot base w s p l h m) (r : RowL w C 31 vs) (k : Other C (C + 1) w w') : MillGot base w' s p l h m :=
  ⟨Nat.le_trans H.hb k.size, H.so.past r (by decide) k, H.po.past r (by decide) k, H.lo.past r (by decide) k, H.ho.past r (by decide) k, H.sp, H.sl, H.sh, H.pl, H.ph, H.lh⟩
theorem heldD_call {w W W' : World} {A D : Nat} {l h x y : Value} (hA : A < w.heap.size) (hD : D < w.heap.size) (k : Below W.heap.size W W') (H : ((W.cell? ⟨A, 9, none⟩ = some l ∧ W.cell? ⟨A, 10, none⟩ = some h) ∧ (W.cell? ⟨D, 1, none⟩ = some x ∧ W.cell? ⟨D, 2, none⟩ = some y)) ∧ Below w.heap.size w W) :
    ((W'.cell? ⟨A, 9, none⟩ = some l ∧ W'.cell? ⟨A, 10, none⟩ = some h) ∧ (W'.cell? ⟨D, 1, none⟩ = some x ∧ W'.cell? ⟨D, 2, none⟩ = some y)) ∧ Below w.heap.size w W' := by
  have hz := H.2.size
  exact ⟨⟨⟨(k.cell (p := ⟨A, 9, none⟩) (show A < W.heap.size by omega)).trans H.1.1.1, (k.cell (p := ⟨A, 10, none⟩) (show A < W.heap.size by omega)).trans H.1.1.2⟩, (k.cell (p := ⟨D, 1, none⟩) (show D < W.heap.size by omega)).trans H.1.2.1, (k.cell (p := ⟨D, 2, none⟩) (show D < W.heap.size by omega)).trans H.1.2.2⟩, H.2.trans (k.mono hz)⟩
theorem heldD_alloc {w W : World} {A D : Nat} {l h x y : Value} {o : Obj} (hA : A < w.heap.size) (hD : D < w.heap.size) (H : ((W.cell? ⟨A, 9, none⟩ = some l ∧ W.cell? ⟨A, 10, none⟩ = some h) ∧ (W.cell? ⟨D, 1, none⟩ = some x ∧ W.cell? ⟨D, 2, none⟩ = some y)) ∧ Below w.heap.size w W) :
    (((W.alloc o).cell? ⟨A, 9, none⟩ = some l ∧ (W.alloc o).cell? ⟨A, 10, none⟩ = some h) ∧ ((W.alloc o).cell? ⟨D, 1, none⟩ = some x ∧ (W.alloc o).cell? ⟨D, 2, none⟩ = some y)) ∧ Below w.heap.size w (W.alloc o) :=
  heldD_call hA hD ((Below.refl _ _).alloc (Nat.le_refl _) o) H
theorem heldD_store {w W : World} {A D G : Nat} {l h x y u v : Value} (hA : A < w.heap.size) (hD : D < w.heap.size) (hG : w.heap.size ≤ G) (H : ((W.cell? ⟨A, 9, none⟩ = some l ∧ W.cell? ⟨A, 10, none⟩ = some h) ∧ (W.cell? ⟨D, 1, none⟩ = some x ∧ W.cell? ⟨D, 2, none⟩ = some y)) ∧ Below w.heap.size w W) :
    ((((W.setCell ⟨G, 0, none⟩ u).setCell ⟨G, 1, none⟩ v).cell? ⟨A, 9, none⟩ = some l ∧ ((W.setCell ⟨G, 0, none⟩ u).setCell ⟨G, 1, none⟩ v).cell? ⟨A, 10, none⟩ = some h) ∧ (((W.setCell ⟨G, 0, none⟩ u).setCell ⟨G, 1, none⟩ v).cell? ⟨D, 1, none⟩ = some x ∧ ((W.setCell ⟨G, 0, none⟩ u).setCell ⟨G, 1, none⟩ v).cell? ⟨D, 2, none⟩ = some y)) ∧ Below w.heap.size w ((W.setCell ⟨G, 0, none⟩ u).setCell ⟨G, 1, none⟩ v) := by
  have k : Below w.heap.size W ((W.setCell ⟨G, 0, none⟩ u).setCell ⟨G, 1, none⟩ v) := ((Below.refl _ _).setCell (p := ⟨G, 0, none⟩) hG _).setCell (p := ⟨G, 1, none⟩) hG _
  exact ⟨⟨⟨(k.cell (p := ⟨A, 9, none⟩) hA).trans H.1.1.1, (k.cell (p := ⟨A, 10, none⟩) hA).trans H.1.1.2⟩, (k.cell (p := ⟨D, 1, none⟩) hD).trans H.1.2.1, (k.cell (p := ⟨D, 2, none⟩) hD).trans H.1.2.2⟩, H.2.trans k⟩
theorem below_other {B : Nat} {w w' : World} (h : Below B w w') : Other B w.heap.size w w' :=
  ⟨h.os, h.tape, h.output, h.size, fun k h1 h2 => h.block k (by omega)⟩
theorem MillIn.low_keep {hi B : Nat} {w w' : World} {s p l h : Value} {m : Mi} (H : MillIn 0 hi w s p l h m) (k : Below B w w') (hB : hi ≤ B) : MillIn 0 hi w' s p l h m :=
  H.other (below_other k) (.inl hB)
theorem few_of {m : Mi} (h : millB m = true) : m.store.length ≤ 1000000 ∧ m.pieces.length ≤ 1000000 ∧ m.low.length ≤ 1000000 ∧ m.high.length ≤ 1000000 := by
  have hv := millB_iff.1 h
  have h1 := stsB_len hv.store
  have h2 := hv.len
  have h3 := hv.pile.l6
  have h4 := hv.pile.lh
  omega
theorem two_lit {g : Nat} (W : World) (a b : Int) (T : Nat) (hg : W.heap.size = g) : IntsAt g (W.alloc (.cells #[.int .i64 a, .int .i64 b] T)).heap.size (W.alloc (.cells #[.int .i64 a, .int .i64 b] T)) (.slice (some ⟨g, 0, none⟩) 2 2) [a, b] := by
  subst hg
  exact IntsAt.of_row (xs := [a, b]) (RowL.new W T [.int .i64 a, .int .i64 b]) (Nat.le_refl _) (by simp) (fun i hi => by
    have : i = 0 ∨ i = 1 := by simp at hi; omega
    rcases this with rfl | rfl <;> simp) (Nat.le_refl _)
theorem other12 (g : Nat) (w : World) (v0 v1 v2 v3 v4 v5 v6 v7 v8 v9 v10 v11 : Value) : Other g (g + 1) w (((((((((((((w).setCell ⟨g, 0, none⟩ v0).setCell ⟨g, 1, none⟩ v1).setCell ⟨g, 2, none⟩ v2).setCell ⟨g, 3, none⟩ v3).setCell ⟨g, 4, none⟩ v4).setCell ⟨g, 5, none⟩ v5).setCell ⟨g, 6, none⟩ v6).setCell ⟨g, 7, none⟩ v7).setCell ⟨g, 8, none⟩ v8).setCell ⟨g, 9, none⟩ v9).setCell ⟨g, 10, none⟩ v10).setCell ⟨g, 11, none⟩ v11) :=
  Other.setCell (p := ⟨g, 11, none⟩) (Other.setCell (p := ⟨g, 10, none⟩) (Other.setCell (p := ⟨g, 9, none⟩) (Other.setCell (p := ⟨g, 8, none⟩) (Other.setCell (p := ⟨g, 7, none⟩) (Other.setCell (p := ⟨g, 6, none⟩) (Other.setCell (p := ⟨g, 5, none⟩) (Other.setCell (p := ⟨g, 4, none⟩) (Other.setCell (p := ⟨g, 3, none⟩) (Other.setCell (p := ⟨g, 2, none⟩) (Other.setCell (p := ⟨g, 1, none⟩) (Other.setCell (p := ⟨g, 0, none⟩) (Other.refl _ _ _) (Nat.le_refl _) (Nat.lt_succ_self _) _) (Nat.le_refl _) (Nat.lt_succ_self _) _) (Nat.le_refl _) (Nat.lt_succ_self _) _) (Nat.le_refl _) (Nat.lt_succ_self _) _) (Nat.le_refl _) (Nat.lt_succ_self _) _) (Nat.le_refl _) (Nat.lt_succ_self _) _) (Nat.le_refl _) (Nat.lt_succ_self _) _) (Nat.le_refl _) (Nat.lt_succ_self _) _) (Nat.le_refl _) (Nat.lt_succ_self _) _) (Nat.le_refl _) (Nat.lt_succ_self _) _) (Nat.le_refl _) (Nat.lt_succ_self _) _) (Nat.le_refl _) (Nat.lt_succ_self _) _
theorem row12 {w : World} {g T : Nat} {us : List Value} (h : RowL w g T us) (hl : us.length = 12) (v0 v1 v2 v3 v4 v5 v6 v7 v8 v9 v10 v11 : Value) : RowL (((((((((((((w).setCell ⟨g, 0, none⟩ v0).setCell ⟨g, 1, none⟩ v1).setCell ⟨g, 2, none⟩ v2).setCell ⟨g, 3, none⟩ v3).setCell ⟨g, 4, none⟩ v4).setCell ⟨g, 5, none⟩ v5).setCell ⟨g, 6, none⟩ v6).setCell ⟨g, 7, none⟩ v7).setCell ⟨g, 8, none⟩ v8).setCell ⟨g, 9, none⟩ v9).setCell ⟨g, 10, none⟩ v10).setCell ⟨g, 11, none⟩ v11) g T [v0, v1, v2, v3, v4, v5, v6, v7, v8, v9, v10, v11] := by
  obtain ⟨u0, u1, u2, u3, u4, u5, u6, u7, u8, u9, u10, u11, rfl⟩ : ∃ u0 u1 u2 u3 u4 u5 u6 u7 u8 u9 u10 u11, us = [u0, u1, u2, u3, u4, u5, u6, u7, u8, u9, u10, u11] := by
    match us, hl with
    | [u0, u1, u2, u3, u4, u5, u6, u7, u8, u9, u10, u11], _ => exact ⟨_, _, _, _, _, _, _, _, _, _, _, _, rfl⟩
  exact ((((((((((((h).set 0 v0 (by simp)).set 1 v1 (by simp)).set 2 v2 (by simp)).set 3 v3 (by simp)).set 4 v4 (by simp)).set 5 v5 (by simp)).set 6 v6 (by simp)).set 7 v7 (by simp)).set 8 v8 (by simp)).set 9 v9 (by simp)).set 10 v10 (by simp)).set 11 v11 (by simp)
theorem zero_got {base g : Nat} {w0 w : World} (h : Below base w0 w) (hb : base ≤ w0.heap.size) (hg : base ≤ g) (v0 v1 v2 v3 v4 v5 v6 v7 v8 v9 v10 v11 : Value) :
    MillGot base (((((((((((((w).setCell ⟨g, 0, none⟩ v0).setCell ⟨g, 1, none⟩ v1).setCell ⟨g, 2, none⟩ v2).setCell ⟨g, 3, none⟩ v3).setCell ⟨g, 4, none⟩ v4).setCell ⟨g, 5, none⟩ v5).setCell ⟨g, 6, none⟩ v6).setCell ⟨g, 7, none⟩ v7).setCell ⟨g, 8, none⟩ v8).setCell ⟨g, 9, none⟩ v9).setCell ⟨g, 10, none⟩ v10).setCell ⟨g, 11, none⟩ v11) (.slice none 0 0) (.slice none 0 0) (.slice none 0 0) (.slice none 0 0) mi0 ∧ Below base w0 (((((((((((((w).setCell ⟨g, 0, none⟩ v0).setCell ⟨g, 1, none⟩ v1).setCell ⟨g, 2, none⟩ v2).setCell ⟨g, 3, none⟩ v3).setCell ⟨g, 4, none⟩ v4).setCell ⟨g, 5, none⟩ v5).setCell ⟨g, 6, none⟩ v6).setCell ⟨g, 7, none⟩ v7).setCell ⟨g, 8, none⟩ v8).setCell ⟨g, 9, none⟩ v9).setCell ⟨g, 10, none⟩ v10).setCell ⟨g, 11, none⟩ v11) := by
  have k := h.trans ((other12 g w v0 v1 v2 v3 v4 v5 v6 v7 v8 v9 v10 v11).below (B := base) hg (Nat.le_trans hb h.size))
  exact ⟨millGot_zero (Nat.le_trans hb k.size) mi0 rfl rfl rfl rfl, k⟩
theorem put_got {base b g : Nat} {w0 wk : World} {s p l h : Value} {m : Mi} (H : MillGot b wk s p l h m) (hB : Below base w0 wk) (h1 : g + 1 ≤ b) (h2 : base ≤ g) (h4 : base ≤ w0.heap.size) (v0 v1 v2 v3 v4 v5 v6 v7 v8 v9 v10 v11 : Value) :
    MillGot base (((((((((((((wk).setCell ⟨g, 0, none⟩ v0).setCell ⟨g, 1, none⟩ v1).setCell ⟨g, 2, none⟩ v2).setCell ⟨g, 3, none⟩ v3).setCell ⟨g, 4, none⟩ v4).setCell ⟨g, 5, none⟩ v5).setCell ⟨g, 6, none⟩ v6).setCell ⟨g, 7, none⟩ v7).setCell ⟨g, 8, none⟩ v8).setCell ⟨g, 9, none⟩ v9).setCell ⟨g, 10, none⟩ v10).setCell ⟨g, 11, none⟩ v11) s p l h m ∧ Below base w0 (((((((((((((wk).setCell ⟨g, 0, none⟩ v0).setCell ⟨g, 1, none⟩ v1).setCell ⟨g, 2, none⟩ v2).setCell ⟨g, 3, none⟩ v3).setCell ⟨g, 4, none⟩ v4).setCell ⟨g, 5, none⟩ v5).setCell ⟨g, 6, none⟩ v6).setCell ⟨g, 7, none⟩ v7).setCell ⟨g, 8, none⟩ v8).setCell ⟨g, 9, none⟩ v9).setCell ⟨g, 10, none⟩ v10).setCell ⟨g, 11, none⟩ v11) :=
  got_put H hB (other12 g wk v0 v1 v2 v3 v4 v5 v6 v7 v8 v9 v10 v11) h1 h2 (by omega) h4
theorem Other.alloc {lo hi : Nat} {a w : World} (h : Other lo hi a w) (o : Obj) : Other lo hi a (w.alloc o) :=
  h.trans (Other.of_below ((Below.refl w.heap.size w).alloc (Nat.le_refl _) o))
theorem grown_other {w w' : World} {g : Nat} (h : w.grownBy w' (some g)) : Other g (g + 1) w w' :=
  ⟨h.os, h.tape, h.output, h.size, fun k hk hd => h.block k hk (fun e => by have := Option.some.inj e; omega)⟩
theorem grown_none {w w' : World} {lo hi : Nat} (h : w.grownBy w' none) : Other lo hi w w' :=
  ⟨h.os, h.tape, h.output, h.size, fun k hk _ => h.block k hk (fun e => by cases e)⟩
theorem grown_any {w w' : World} {p : Value} (h : w.grownBy w' p.ownBlock) (X : Nat) : ∃ a z, Other a z w w' ∧ ((z = a + 1 ∧ p.ownBlock = some a) ∨ (a = X ∧ z = X)) := by
  cases hp : p.ownBlock with
  | none => rw [hp] at h; exact ⟨X, X, grown_none h, .inr ⟨rfl, rfl⟩⟩
  | some g => rw [hp] at h; exact ⟨g, g + 1, grown_other h, .inl ⟨rfl, rfl⟩⟩
structure CutInv (base B lo z : Nat) (w0 : World) (s l h : Value) (m : Mi) (v mv : Value) (xs ys : List Int) (W : World) (p : Value) (ps : List Pc) : Prop where
  row : RowL W B 31 (millC s p l h m)
  got : MillGot base W s p l h { m with pieces := ps }
  off : NotIn B s p l h
  bel : Below base w0 W
  len : IntsAt lo z W v xs
  man : IntsAt lo z W mv ys
  apz : ∀ g, p.ownBlock = some g → g < lo ∨ z ≤ g
  hB : base ≤ B ∧ B < lo
theorem CutInv.drew {base B lo z : Nat} {w0 W : World} {s l h v mv p : Value} {m : Mi} {xs ys : List Int} {ps : List Pc} (H : CutInv base B lo z w0 s l h m v mv xs ys W p ps) : CutInv base B lo z w0 s l h m v mv xs ys W.drew p ps :=
  ⟨H.row.drew, H.got.below (Below.refl _ _).drew, H.off, H.bel.drew, H.len.below (Below.refl _ _).drew, H.man.below (Below.refl _ _).drew, H.apz, H.hB⟩
theorem CutInv.alloc {base B lo z : Nat} {w0 W : World} {s l h v mv p : Value} {m : Mi} {xs ys : List Int} {ps : List Pc} (H : CutInv base B lo z w0 s l h m v mv xs ys W p ps) (o : Obj) : CutInv base B lo z w0 s l h m v mv xs ys (W.alloc o) p ps := by
  have k : Below W.heap.size W (W.alloc o) := (Below.refl _ _).alloc (Nat.le_refl _) o
  exact ⟨H.row.below k H.row.lt, H.got.below k, H.off, H.bel.trans (k.mono H.got.hb), H.len.below k, H.man.below k, H.apz, H.hB⟩
theorem CutInv.below {base B lo z : Nat} {w0 W W' : World} {s l h v mv p : Value} {m : Mi} {xs ys : List Int} {ps : List Pc} (H : CutInv base B lo z w0 s l h m v mv xs ys W p ps) (k : Below W.heap.size W W') : CutInv base B lo z w0 s l h m v mv xs ys W' p ps :=
  ⟨H.row.below k H.row.lt, H.got.below k, H.off, H.bel.trans (k.mono H.got.hb), H.len.below k, H.man.below k, H.apz, H.hB⟩
theorem CutInv.app {base B lo z : Nat} {w0 W W2 : World} {s l h v mv p p' : Value} {m : Mi} {xs ys : List Int} {ps : List Pc} (H : CutInv base B lo z w0 s l h m v mv xs ys W p ps) {x : Int} {n : Nat} {cs : List Value}
    (ho : OwnE base 73 2 W2 p' n cs) (hn : n = (ps ++ [(⟨x, 0⟩ : Pc)]).length) (hc : cs = flatP (ps ++ [(⟨x, 0⟩ : Pc)])) (hg : W.grownBy W2 p.ownBlock) (hb : ∀ g, p'.ownBlock = some g → p.ownBlock = some g ∨ W.heap.size ≤ g) :
    CutInv base B lo z w0 s l h m v mv xs ys (W2.setCell ⟨B, 8, none⟩ p') p' (ps ++ [(⟨x, 0⟩ : Pc)]) := by
  subst hn hc
  obtain ⟨a, y, hO, hay⟩ := grown_any hg W.heap.size
  have hBlt := H.row.lt
  have hpl := H.got.po.lt
  have hlz := H.len.lt
  have hpB := H.off.2.1
  have nB : B < a ∨ y ≤ B := by
    rcases hay with ⟨h1, h2⟩ | ⟨h1, h2⟩
    · have : a ≠ B := fun e => hpB (e ▸ h2)
      omega
    · omega
  have hd : ∀ {u : Value} {T sz k : Nat} {cs : List Value}, OwnE base T sz W u k cs → Apart u p → ∀ g, u.ownBlock = some g → g < a ∨ y ≤ g := fun hu ha g hgu => by
    have := (hu.lt g hgu).2
    rcases hay with ⟨h1, h2⟩ | ⟨h1, h2⟩
    · have : g ≠ a := fun e => ha g hgu (e ▸ h2)
      omega
    · omega
  have hzz : z ≤ a ∨ y ≤ lo := by
    rcases hay with ⟨h1, h2⟩ | ⟨h1, h2⟩
    · have := H.apz a h2; omega
    · omega
  have nO : base ≤ a := by
    rcases hay with ⟨h1, h2⟩ | ⟨h1, h2⟩
    · exact (hpl a h2).1
    · have := H.got.hb; omega
  have pB : p'.ownBlock ≠ some B := fun e => by
    rcases hb B e with h1 | h1
    · exact hpB h1
    · omega
  have ap : ∀ {u : Value} {T sz k : Nat} {cs : List Value}, OwnE base T sz W u k cs → Apart u p → Apart u p' := fun hu ha g h1 h2 => by
    rcases hb g h2 with h3 | h3
    · exact ha g h1 h3
    · have := (hu.lt g h1).2; omega
  have G2 : MillGot base W2 s p' l h { m with pieces := ps ++ [(⟨x, 0⟩ : Pc)] } :=
    ⟨Nat.le_trans H.got.hb hO.size, H.got.so.other hO (hd H.got.so H.got.sp), ho, H.got.lo.other hO (hd H.got.lo H.got.pl.symm), H.got.ho.other hO (hd H.got.ho H.got.ph.symm),
      ap H.got.so H.got.sp, H.got.sl, H.got.sh, (ap H.got.lo H.got.pl.symm).symm, (ap H.got.ho H.got.ph.symm).symm, H.got.lh⟩
  have O2 : NotIn B s p' l h := ⟨H.off.1, pB, H.off.2.2⟩
  obtain ⟨r, g, b⟩ := box_set (H.row.other hO nB) G2 O2 H.hB.1 (j := 8) (by simp [millC]) p'
  have kB : Other B (B + 1) W2 (W2.setCell ⟨B, 8, none⟩ p') := (Other.refl _ _ _).setCell (p := ⟨B, 8, none⟩) (Nat.le_refl _) (Nat.lt_succ_self _) _
  have hBB := H.hB
  exact ⟨r, g, O2, (H.bel.trans (hO.below (B := base) nO H.got.hb)).trans b, (H.len.other hO hzz).other kB (by omega), (H.man.other hO hzz).other kB (by omega), fun g hg => by
    rcases hb g hg with h1 | h1
    · exact H.apz g h1
    · exact .inr (by omega), H.hB⟩
structure CutK (B z : Nat) (w1 : World) (p0 : Value) (W : World) (p : Value) : Prop where
  blk : ∀ g, p.ownBlock = some g → p0.ownBlock = some g ∨ z ≤ g
  keep : ∀ G, G < z → G ≠ B → p0.ownBlock ≠ some G → W.heap[G]? = w1.heap[G]?
  size : z ≤ W.heap.size
theorem CutK.below {B z : Nat} {w1 W W' : World} {p0 p : Value} (H : CutK B z w1 p0 W p) (k : Below W.heap.size W W') : CutK B z w1 p0 W' p :=
  ⟨H.blk, fun G h1 h2 h3 => (k.block G (Nat.lt_of_lt_of_le h1 H.size)).trans (H.keep G h1 h2 h3), Nat.le_trans H.size k.size⟩
theorem CutK.app {B z : Nat} {w1 W W2 : World} {p0 p p' : Value} (H : CutK B z w1 p0 W p) (hg : W.grownBy W2 p.ownBlock) (hb : ∀ g, p'.ownBlock = some g → p.ownBlock = some g ∨ W.heap.size ≤ g) (x : Value) : CutK B z w1 p0 (W2.setCell ⟨B, 8, none⟩ x) p' := by
  refine ⟨fun g e => ?_, fun G h1 h2 h3 => ?_, ?_⟩
  · rcases hb g e with h | h
    · exact H.blk g h
    · exact .inr (Nat.le_trans H.size h)
  · rw [Below.heap_setCell _ _ _ _ h2]
    refine (hg.block G (Nat.lt_of_lt_of_le h1 H.size) fun e => ?_).trans (H.keep G h1 h2 h3)
    rcases H.blk G e.symm with h | h
    · exact h3 h
    · omega
  · simp only [World.setCell]
    have := hg.size
    have := H.size
    simp
    omega
theorem flatP_one1 (ps : List Pc) (x : Int) : flatP ps ++ [.int .i64 x, .int .i64 0] = flatP (ps ++ [(⟨x, 0⟩ : Pc)]) := by simp [flatP, pcL]
theorem rep_snoc (ps : List Pc) (c : Nat) (x : Pc) : ps ++ List.replicate (c + 1) x = (ps ++ List.replicate c x) ++ [x] := by
  rw [List.replicate_succ', List.append_assoc]
theorem cutD_no1 {m : Mi} {a b : Int} (h : m.strand = 0) : cutD m a b = none := by simp [cutD, h]
theorem cutD_no2 {m : Mi} {a b : Int} (h : lensB a b = false) : cutD m a b = none := by simp [cutD, h]
theorem cutD_no3 {m : Mi} {a b : Int} (h : ¬ m.pieces.length + many0 m.strand a b + many1 m.strand a b ≤ 30) : cutD m a b = none := by simp [cutD, h]
theorem cutD_no4 {m : Mi} {a b : Int} (h : ¬ m.scrap + wasteR m.strand a b ≤ 999) : cutD m a b = none := by simp [cutD, h]
theorem cutD_yes {m : Mi} {a b : Int} (h1 : m.strand ≠ 0) (h2 : lensB a b = true) (h3 : m.pieces.length + many0 m.strand a b + many1 m.strand a b ≤ 30) (h4 : m.scrap + wasteR m.strand a b ≤ 999) :
    cutD m a b = some { m with pieces := m.pieces ++ newPcs m.strand a b, strand := 0, scrap := m.scrap + wasteR m.strand a b } := by simp [cutD, h1, h2, h3, h4]
end Go.Proofs.YtmemgbklgcjobaaGreatDoor
