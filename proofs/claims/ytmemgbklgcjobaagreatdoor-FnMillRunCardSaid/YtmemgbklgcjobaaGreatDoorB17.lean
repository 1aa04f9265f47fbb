/-
  Parts of the proofs over mills, of: AllS. Conditions: each theorem states its own.
-/
import Derived.Lib.SmallJoins
import Derived.Test.YtmemgbklgcjobaaGreatDoorB14
set_option linter.unusedSimpArgs false
set_option linter.unusedVariables false
set_option maxRecDepth 10000
namespace Go.Proofs.YtmemgbklgcjobaaGreatDoor
open Go.RowKit
theorem own_source {w : World} {base T n : Nat} {v : Value} {cs : List Value} (h : w.ownsRow base T 1 v n cs) (h1 : ∀ u ∈ cs, u.oneCell' = true) : Source w 1 v n cs := by
  obtain ⟨hl, ⟨rfl, rfl⟩ | ⟨g, cap, cur, rfl, -, hb, -, -, -, h4⟩⟩ := h
  · exact ⟨⟨none, 0, rfl, fun _ => rfl, fun ad ha => by cases ha⟩, hl, h1⟩
  · refine ⟨⟨_, cap, rfl, (fun e => by cases e), fun ad ha j u hu => ?_⟩, hl, h1⟩
    obtain rfl := Option.some.inj ha
    rw [adds, Go.Joins.cell_of_block hb]
    have hj : j < n * 1 := by rw [← hl]; exact (List.getElem?_eq_some_iff.1 hu).1
    rw [← h4, List.getElem?_take_of_lt hj] at hu
    simpa using hu
theorem lists_one {lo : Nat} {w : World} {v : Value} {us : List Value} {xss : List (List Int)} (h : Lists lo w v us xss) : ∀ u ∈ us, u.oneCell' = true := by
  intro u hu
  obtain ⟨i, hi, rfl⟩ := List.getElem_of_mem hu
  obtain ⟨u', a, z, h1, -, h3, -⟩ := h.2 i (by rw [← h.1]; exact hi)
  rw [List.getElem?_eq_getElem hi] at h1
  rw [Option.some.inj h1]
  obtain ⟨ao, cap, e⟩ := ints_form h3
  rw [e]; rfl
theorem info_slI : (Tryz.prog.info? 27).map (fun i => (i.zero, i.size, i.bytes)) = some (some (.slice none 0 0), 1, 24) := by kernel_rfl
def AllGot (lo base : Nat) (xss : List (List Int)) (w : World) (e : Ending) (w' : World) : Prop :=
  ∃ v us, e = .returned v ∧ w'.ownsRow base 27 1 v us.length us ∧ Lists lo w' v us xss ∧ Below base w w'
theorem all_len {sts : List St} (hv : stsB sts = true) (pre : List Int) (k : Nat) (t : Int) : (withP pre (allM (stocks sts k) t)).length ≤ 10000 := by
  rw [withP_len]
  have h := allM_len (stocks sts k) (fun s hs => by
    have hs2 := List.mem_of_mem_drop hs
    obtain ⟨x, hx, rfl⟩ := List.mem_map.1 hs2
    obtain ⟨i, hi, rfl⟩ := List.getElem_of_mem hx
    have := stB_k (stsB_at hv hi)
    omega) t
  have hl : (stocks sts k).length ≤ 4 := by
    have := stsB_len hv
    simp [stocks]; omega
  have : 10 ^ (stocks sts k).length ≤ 10 ^ 4 := Nat.pow_le_pow_right (by omega) hl
  omega
theorem part_len2 {sts : List St} (hv : stsB sts = true) (pre : List Int) (k : Nat) (t : Int) (n : Nat) : (withP pre (part (stocks sts k) t n)).length ≤ n * 10000 := by
  rw [withP_len]
  exact part_len _ _ _ (fun t => by have := all_len hv [] k t; rwa [withP_len] at this) n
set_option maxHeartbeats 1600000 in
theorem all_any (sv : Value) {sts : List St} (hv : stsB sts = true) : ∀ (n k : Nat), k + n = sts.length → ∀ (w : World) (lo : Nat) (mv : Value) (mix : List Int) (tons : Int), lo ≤ w.heap.size → StAt 0 w.heap.size w sv sts → IntsAt lo w.heap.size w mv mix → mix.length = k → 0 ≤ tons → tons ≤ 12 →
    Calls Tryz.prog 203 #[sv, mv, .int .i64 tons] w (AllGot lo w.heap.size (withP mix (allM (stocks sts k) tons)) w) := by
  obtain ⟨i0, hi0, hz0, hi1, hi2⟩ := info_parts info_slI
  obtain ⟨j0, hj0, hy0, hj1, hj2⟩ := info_parts info_int
  intro n
  induction n with
  | zero =>
    intro k hn w lo mv mix tons hlo Hs Hm hl ht0 ht1
    obtain rfl : k = sts.length := by omega
    have HE := hide (show withP mix (allM (stocks sts sts.length) tons) = if tons = 0 then [mix] else [] by
      rw [stocks_end, allM_end])
    have HM := hide Hm
    obtain ⟨aos, cps, rfl, -, -, -, -⟩ := Hs
    obtain ⟨aom, cpm, rfl, -, -, -, -⟩ := Hm
    have hlI : (mix.length : Int) = (sts.length : Int) := by omega
    have HO := hide (show (w.alloc (.cells #[] 27)).ownsRow w.heap.size 27 1 (.slice (some ⟨w.heap.size, 0, none⟩) 0 0) 0 [] by
      simpa using World.ownsRow_lit (e := 27) (size := 1) (base := w.heap.size) w #[] 0 (Nat.le_refl _) (by unfold maxLen; omega) (by simp))
    clear hn hl
    go_enter Tryz.func203, Tryz.ntmps203
    by_cases hz : tons = 0
    · subst hz
      have HE0 := hide (HE.out.trans (if_pos rfl))
      go_wp2_with (at_builtin; refine wpList_append_view rfl _ _ 165 rfl w.heap.size 27 i0 (.slice none 0 0) 1 24 Tryz.underlying165 hi0 hz0 hi1 hi2 rfl (by decide) _ _ _ rfl (HO.out.alloc _) (.slice (some ⟨w.heap.size + 1, 0, none⟩) 1 1) 1 [.slice aom mix.length cpm] rfl ?cc0 ?cc1 ?cc2 ?cc3 ?_)
      case cc0 => simpa using Source.lit (w.alloc (.cells #[] 27)) [.slice aom mix.length cpm] 1 27 1 rfl (fun u hu => by simp at hu; subst hu; rfl) 1
      case cc1 => unfold maxLen; omega

      case cc3 => first | omega | (simp; omega) | simp
      intro v2 w2 hown2 hgrow2 _
      go_wp2_with fail
      go_ret
      have hb : Below w.heap.size w w2 := (((Below.refl _ _).alloc (Nat.le_refl _) _).alloc (by simp) _).trans (Below.grow hgrow2 (HO.out.alloc _) (Nat.le_refl _) (by simp; omega))
      refine ⟨v2, [.slice aom mix.length cpm], rfl, by simpa using hown2, ?_, hb⟩
      rw [HE0.out]
      exact Lists.one (HM.out.below hb) (Nat.le_refl _) fun g hg => .inr (hown2.lt g hg).1
    · go_wp2_with fail
      go_ret
      refine ⟨_, [], rfl, by simpa using HO.out, ?_, by go_grown⟩
      rw [HE.out, if_neg hz]
      exact Lists.none _ _ _
  | succ n ih =>
    intro k hn w lo mv mix tons hlo Hs Hm hl ht0 ht1
    have IH := hide ih
    clear ih
    have hk : k < sts.length := by omega
    have hL4 := stsB_len hv
    have HV := hide hv
    clear hv
    have HN := hide hn
    have HL := hide hl
    have HS := hide Hs
    have HM := hide Hm
    obtain ⟨s, hs⟩ : ∃ s, (sts.getD k st0).k = s := ⟨_, rfl⟩
    have hs9 : 0 ≤ s ∧ s ≤ 9 := by rw [← hs]; exact stB_k (stsB_getD HV.out hk)
    have HSS := hide hs
    obtain ⟨m, hm⟩ : ∃ m : Nat, min tons s + 1 = (m : Int) := ⟨(min tons s + 1).toNat, by omega⟩
    have HE := hide (show allM (stocks sts k) tons = part (stocks sts (k + 1)) tons m by
      rw [allM_at hk, hs, hm]; rfl)
    have hm10 : m ≤ 10 := by omega
    obtain ⟨b0, o0, cps, rfl, -, -, -⟩ := st_at Hs hk
    obtain ⟨aom, cpm, rfl, -, -, -, -⟩ := Hm
    have hkI : ((mix.length : Int) == (sts.length : Int)) = false := by rw [beq_eq_false_iff_ne]; omega
    have hiI : (mix.length : Int) < (sts.length : Int) := by omega
    have hi0' : (0 : Int) ≤ (mix.length : Int) := by omega
    have HO := hide (show (w.alloc (.cells #[] 27)).ownsRow w.heap.size 27 1 (.slice (some ⟨w.heap.size, 0, none⟩) 0 0) 0 [] by
      simpa using World.ownsRow_lit (e := 27) (size := 1) (base := w.heap.size) w #[] 0 (Nat.le_refl _) (by unfold maxLen; omega) (by simp))
    clear hn hl hs
    go_enter Tryz.func203, Tryz.ntmps203
    go_wp2_with fail
    go_loopw [7, 9] (fun o i wr => ∃ (t : Nat) (us : List Value), t ≤ m ∧ i = .int .i64 (t : Int) ∧ wr.ownsRow w.heap.size 27 1 o us.length us ∧ Lists lo wr o us (withP mix (part (stocks sts (k + 1)) tons t)) ∧ Below w.heap.size w wr) (fun _ i _ => m - (intOf i).toNat)
    case atStart =>
      exact ⟨0, [], by omega, rfl, by simpa using HO.out, by rw [part_zero]; exact Lists.none _ _ _, by go_grown⟩
    case round =>
      obtain ⟨t, us, ht, rfl, hown, hls, hb⟩ := hrel
      have HSr := HS.out.below hb
      have HMr := hide (HM.out.below hb)
      obtain ⟨b1, o1, cap1, e1, -, -, -, -, -, -, d4⟩ := st_at HSr hk
      cases e1
      rw [HSS.out] at d4
      rw [← HL.out] at d4
      have HSr2 := hide HSr
      have HB := hide hb
      have HLs := hide hls
      have HOr := hide hown
      obtain ⟨aoo, cpo, rfl, -, -⟩ := own_slice hown
      have hz := hb.size
      have hul : us.length ≤ 100000 := by
        rw [hls.1]
        have := part_len2 HV.out mix (k + 1) tons t
        have : t * 10000 ≤ 10 * 10000 := Nat.mul_le_mul_right _ (by omega)
        omega
      clear hb hls hown HSr
      have hmin : (if s < tons then s else tons) = (m : Int) - 1 := by split <;> omega
      by_cases hlt : t < m
      · have hle : (t : Int) ≤ min tons s := by omega
        have hlt1 : IntKind.i64.wrap (tons - (t : Int)) = tons - (t : Int) := IntWalk.i64_in _ (by omega)
        have hL0 := hide (show (wr.alloc (.cells #[] 3)).ownsRow wr.heap.size 3 1 (.slice (some ⟨wr.heap.size, 0, none⟩) 0 0) 0 [] by
          simpa using World.ownsRow_lit (e := 3) (size := 1) (base := wr.heap.size) wr #[] 0 (Nat.le_refl _) (by unfold maxLen; omega) (by simp))
        have HM0 := hide (HMr.out.below ((Below.refl wr.heap.size wr).alloc (Nat.le_refl _) (.cells #[] 3)))
        have hmlen : mix.length ≤ 4 := by have := HL.out; omega
        go_wp2_with (at_builtin; refine wpList_append_view rfl _ _ 27 rfl wr.heap.size 3 j0 (.int .i64 0) 1 8 Tryz.underlying27 hj0 hy0 hj1 hj2 rfl (by decide) _ _ _ rfl hL0.out (.slice aom mix.length cpm) mix.length (flatI mix) rfl ?dd0 ?dd1 ?dd2 ?dd3 ?_)
        case dd0 => exact HM0.out.source
        case dd1 => unfold maxLen; omega
        case dd2 => omega
        case dd3 => simp
        intro v2 w2 hown2 hgrow2 _
        have hb2 : Below wr.heap.size wr w2 := ((Below.refl _ _).alloc (Nat.le_refl _) _).trans (Below.grow hgrow2 hL0.out (Nat.le_refl _) (by simp))
        have HO2 := hide (show w2.ownsRow wr.heap.size 3 1 v2 mix.length (flatI mix) by simpa using hown2)
        have HB2 := hide hb2
        have hz2 := hb2.size
        clear hown2 hgrow2 hb2
        go_wp2_with (at_builtin; refine wpList_append_view rfl _ _ 27 rfl wr.heap.size 3 j0 (.int .i64 0) 1 8 Tryz.underlying27 hj0 hy0 hj1 hj2 rfl (by decide) _ _ _ rfl (HO2.out.alloc _) (.slice (some ⟨w2.heap.size, 0, none⟩) 1 1) 1 [.int .i64 (t : Int)] rfl ?ee0 ?ee1 ?ee2 ?ee3 ?_)
        case ee0 => simpa using Source.lit w2 [.int .i64 (t : Int)] 1 3 1 rfl (fun u hu => by simp at hu; subst hu; rfl) 1
        case ee1 => unfold maxLen; omega
        case ee2 => omega
        case ee3 => simp; omega
        intro v3 w3 hown3 hgrow3 _
        have hb3 : Below wr.heap.size w2 w3 := ((Below.refl _ _).alloc hz2 _).trans (Below.grow hgrow3 (HO2.out.alloc _) (Nat.le_refl _) (by simp; omega))
        have HO3 := hide (show w3.ownsRow wr.heap.size 3 1 v3 (mix ++ [(t : Int)]).length (flatI (mix ++ [(t : Int)])) by simpa [flatI] using hown3)
        have HB3 := hide (HB2.out.trans hb3)
        have hz3 := HB3.out.size
        clear hown3 hgrow3 hb3
        go_wp2_with fail
        refine (IH.out (k + 1) (by have := HN.out; omega) w3 wr.heap.size v3 (mix ++ [(t : Int)]) (tons - (t : Int)) hz3 ?i1 ?i2 (by rw [List.length_append, HL.out]; rfl) (by omega) (by omega)).mono ?_
        case i1 => exact (HSr2.out.below HB3.out).mono (Nat.le_refl _) (by omega) (Nat.le_refl _)
        case i2 => exact ownI_at HO3.out rfl hz3
        rintro e w4 ⟨v4, us4, rfl, hown4, hls4, hb4⟩
        have HB4 := hide (Below.step HB3.out hb4 (Nat.le_refl _))
        have hz4 := HB4.out.size
        have HO4 := hide (ownsRow_below HOr.out HB4.out (Nat.le_refl _))
        have HL4 := hide (HLs.out.below HB4.out)
        have HS4 := hide (own_source hown4 (lists_one hls4))
        have HLn4 := hide hls4
        have hu4 : us4.length ≤ 10000 := by
          rw [hls4.1]; exact all_len HV.out _ _ _
        obtain ⟨ao4, cp4, rfl, -, -⟩ := own_slice hown4
        clear hown4 hls4 hb4
        go_wp2_with (at_builtin; refine wpList_append_view rfl _ _ 165 rfl w.heap.size 27 i0 (.slice none 0 0) 1 24 Tryz.underlying165 hi0 hz0 hi1 hi2 rfl (by decide) _ _ _ rfl HO4.out (.slice ao4 us4.length cp4) us4.length us4 rfl ?ff0 ?ff1 ?ff2 ?ff3 ?_)
        case ff0 => exact HS4.out
        case ff1 => unfold maxLen; omega
        case ff2 => omega
        case ff3 => omega
        intro v5 w5 hown5 hgrow5 hv5
        have HO5 := hide (show w5.ownsRow w.heap.size 27 1 v5 (us ++ us4).length (us ++ us4) by simpa using hown5)
        have hb5 : Below w.heap.size w4 w5 := Below.grow hgrow5 HO4.out (Nat.le_refl _) (by omega)
        have HB5 := hide ((HB.out.trans (HB4.out.mono (by omega))).trans hb5)
        have HL5 := hide (show Lists lo w5 v5 (us ++ us4) (withP mix (part (stocks sts (k + 1)) tons (t + 1))) by
          rw [withP_succ]
          refine (HL4.out.grow hgrow5 hv5).append ?_
          exact (HLn4.out.off (by omega) fun g hg => (HOr.out.lt g hg).2).grow hgrow5 hv5)
        clear hown5 hgrow5 hv5 hb5
        go_wp2_with fail
        go_roundw
        case rel => exact ⟨t + 1, us ++ us4, by omega, by go_num, HO5.out, HL5.out, HB5.out⟩
        case measure => simp [intOf]; omega
      · obtain rfl : t = m := by omega
        have hle : ¬ (t : Int) ≤ (t : Int) - 1 := by omega
        go_wp2_with fail
        go_ret
        refine ⟨_, us, rfl, HOr.out, ?_, HB.out⟩
        rw [HE.out]
        exact HLs.out
end Go.Proofs.YtmemgbklgcjobaaGreatDoor
