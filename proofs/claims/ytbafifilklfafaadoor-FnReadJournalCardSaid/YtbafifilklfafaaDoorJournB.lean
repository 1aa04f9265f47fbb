/-
  spec.ReadJournal: the walk.
-/
import Derived.Test.YtbafifilklfafaaDoorJournA
namespace Go.Proofs.YtbafifilklfafaaDoor
open Go.RowKit

theorem line_at {l : List UInt8} {n i : Nat} (hni : n ≤ i) (h10 : 10 ∉ (l.drop n).take (i - n)) {r : List UInt8} (hd : l.drop i = 10 :: r) :
    10 ∈ l.drop n ∧ (l.drop n).takeWhile (· != 10) = (l.drop n).take (i - n) ∧ ((l.drop n).takeWhile (· != 10)).length = i - n := by
  have e : l.drop n = (l.drop n).take (i - n) ++ 10 :: r := by
    conv => lhs; rw [← List.take_append_drop (i - n) (l.drop n)]
    rw [List.drop_drop, show n + (i - n) = i by omega, hd]
  have h2 : (l.drop n).takeWhile (· != 10) = (l.drop n).take (i - n) := by
    conv => lhs; rw [e]
    exact tw_app h10
  refine ⟨?_, h2, ?_⟩
  · rw [e]; simp
  · have hl := congrArg List.length hd
    simp only [List.length_drop, List.length_cons] at hl
    rw [h2, List.length_take, List.length_drop]
    omega
theorem no10_step {l : List UInt8} {n i : Nat} (hni : n ≤ i) (h10 : 10 ∉ (l.drop n).take (i - n)) {u : UInt8} {r : List UInt8} (hd : l.drop i = u :: r) (hu : u ≠ 10) : 10 ∉ (l.drop n).take (i + 1 - n) := by
  have e : (l.drop n)[i - n]? = some u := by
    rw [List.getElem?_drop, show n + (i - n) = i + 0 by omega, ← List.getElem?_drop, hd]; rfl
  rw [show i + 1 - n = (i - n) + 1 by omega, List.take_add_one, e]
  simp only [Option.toList_some, List.mem_append, List.mem_singleton, not_or]
  exact ⟨h10, fun e => hu e.symm⟩

set_option maxRecDepth 10000 in
set_option maxHeartbeats 1600000 in
theorem readJournal_spec (s : ByteArray) (w : World) (hs : s.size < 4294967281) :
    Calls Tryd.prog 13 #[.string s] w fun e w' => ∃ v, e = .returned (.tuple #[v, .int .i64 ((rjR s).2 : Int)]) ∧ w'.ownsRow w.heap.size 25 3 v (rjR s).1.length (flatD (rjR s).1) ∧ Below w.heap.size w w' := by
  obtain ⟨j0, hj0, hzj, hj1, hj2⟩ := info_parts info_J
  go_enter Tryd.func13, Tryd.ntmps13
  go_wp2_with fail
  go_loopw [4, 5, 6, 7, 8] (fun o n i _ _ wr => ∃ (D : List J) (a k f : Nat), RjSt s D a f ∧ a ≤ k ∧ k ≤ s.size ∧ (10 : UInt8) ∉ (s.data.toList.drop a).take (k - a) ∧ n = .int .i64 a ∧ i = .int .i64 k ∧ Below w.heap.size w wr ∧ wr.ownsRow w.heap.size 25 3 o D.length (flatD D)) (fun _ _ i _ _ _ => s.size - (intOf i).toNat)
  case atStart => exact ⟨[], 0, 0, 99, .start s, Nat.le_refl _, Nat.zero_le _, by simp, rfl, rfl, by go_grown, by simpa [flatD] using World.ownsRow_lit (e := 25) (size := 3) (base := w.heap.size) w #[] 0 (Nat.le_refl _) (by unfold maxLen; omega) (by simp)⟩
  case round =>
    obtain ⟨D, a, k, f, hst, hak, hk, h10, rfl, rfl, hb, hown⟩ := hrel
    have HB := hide hb
    have HO := hide hown
    have HST := hide hst
    have H10 := hide h10
    have hDf := hst.len
    have hszr := hb.size
    obtain ⟨aow, capw, rfl, -, -⟩ := own_slice hown
    clear hown hst hb h10
    by_cases hlt : k < s.size
    · have hkI : (k : Int) < (s.size : Int) := by omega
      by_cases hD : D.length < 99
      · have hlI : (D.length : Int) < 99 := by omega
        obtain ⟨f, rfl⟩ : ∃ g, f = g + 1 := ⟨f - 1, by omega⟩
        have HD := hide (drop_byte s k hlt)
        obtain ⟨u, hu⟩ : ∃ u, s[k]'hlt = u := ⟨_, rfl⟩
        rw [hu] at HD
        obtain ⟨b, hb⟩ : ∃ b : Nat, u.toNat = b := ⟨_, rfl⟩
        have hk0 : (0 : Int) ≤ (k : Int) := by omega
        by_cases h1 : b = 10
        · subst h1
          have hu10 : u = 10 := by
            apply UInt8.toNat_inj.1
            rw [hb]; rfl
          have hL := line_at hak H10.out (hu10 ▸ HD.out)
          obtain ⟨B, hB⟩ : ∃ B : ByteArray, s.extract a k = B := ⟨_, rfl⟩
          have hBd : B.data.toList = (s.data.toList.drop a).takeWhile (· != 10) := by rw [← hB, ext_data, hL.2.1]
          have hBs : B.size = k - a := by rw [← size_len, hBd, hL.2.2]
          have HSTEP := hide (fun d hd => HST.out.step (d := d) hL.1 hd)
          have HBAD := hide (fun hd => HST.out.over (rjGo_bad hd))
          rw [hL.2.2] at HSTEP
          simp only [rdL_of hBd] at HSTEP HBAD
          have ha0 : (0 : Int) ≤ (a : Int) := by omega
          have haki : (a : Int) ≤ (k : Int) := by omega
          have hksi : (k : Int) ≤ (s.size : Int) := by omega
          have hrd := readDeed_spec B wr (by omega)
          clear hu10 hL hBd
          go_wp2_with fail
          refine hrd.mono ?_
          rintro e w2 ⟨⟨xs, hx, rfl⟩, hb2⟩
          rw [rd_parts hx]
          have HB2 := hide (Below.step HB.out hb2 (Nat.le_refl _))
          have HO2 := hide (ownsRow_below HO.out hb2 (Nat.le_refl _))
          have hz2 := HB2.out.size
          clear hb2 hrd hx hB
          rcases hr : rdI (partsB B) with _ | ⟨x, y, z⟩
          · rw [hr] at HBAD
            have HR := hide (HBAD.out rfl)
            clear HBAD HSTEP hr
            simp only [deedV]
            go_wp2_with fail
            go_ret2
            rw [HR.out]
            exact ⟨_, rfl, HO2.out.alloc _, HB2.out.alloc hz2 _⟩
          · rw [hr] at HSTEP
            have HR := hide (HSTEP.out ⟨x, y, z⟩ rfl)
            clear HBAD HSTEP hr
            simp only [deedV]
            go_wp2_with (at_builtin; refine wpList_append_view rfl _ _ 31 rfl w.heap.size 25 j0 _ 3 24 Tryd.underlying31 hj0 hzj hj1 hj2 rfl (by decide) _ _ _ rfl ((HO2.out.alloc _).alloc _) (.slice (some ⟨w2.heap.size + 1, 0, none⟩) 1 1) 1 [.int .i64 x, .int .i64 y, .int .i64 z] rfl ?c0 ?c1 ?c2 ?c3 ?_)
            case c0 => simpa using Source.lit (World.alloc w2 _) [.int .i64 x, .int .i64 y, .int .i64 z] 3 25 1 rfl (fun u hu => by simp at hu; rcases hu with rfl | rfl | rfl <;> rfl) 1
            case c1 => unfold maxLen; omega
            case c2 => omega
            case c3 => simp; omega
            intro v2 w3 hown2 hgrow2 _
            have hB3 := ((HB2.out.alloc hz2 (.cells #[.int .i64 x, .int .i64 y, .int .i64 z] 25)).alloc (by simp; omega) (.cells #[.int .i64 x, .int .i64 y, .int .i64 z] 25)).trans (Below.grow hgrow2 ((HO2.out.alloc _).alloc _) (Nat.le_refl _) (by simp; omega))
            have HB3 := hide hB3
            have HO3 := hide (show w3.ownsRow w.heap.size 25 3 v2 (D ++ [(⟨x, y, z⟩ : J)]).length (flatD (D ++ [⟨x, y, z⟩])) by rw [flatD_append, List.length_append]; exact hown2)
            have hR := HR.out
            rw [show a + (k - a + 1) = k + 1 by omega] at hR
            have HR2 := hide hR
            clear hown2 hgrow2 hB3 hR
            go_wp2_with fail
            go_roundw
            case rel => exact ⟨D ++ [⟨x, y, z⟩], k + 1, k + 1, f, HR2.out, Nat.le_refl _, by omega, by simp, by go_num, by go_num, HB3.out, HO3.out⟩
            case measure => simp [intOf]; omega
        · have hbB : ((b : Int) == 10) = false := by simp; omega
          have hu10 : u ≠ 10 := fun e => h1 (by rw [← hb, e]; rfl)
          have HN := hide (no10_step hak H10.out HD.out hu10)
          clear hu10
          go_wp2_with fail
          go_roundw
          case rel => exact ⟨D, a, k + 1, f + 1, HST.out, by omega, by omega, HN.out, rfl, by go_num, HB.out, HO.out⟩
          case measure => simp [intOf]; omega
      · have hlI : ¬ (D.length : Int) < 99 := by omega
        obtain rfl : f = 0 := by omega
        have HR := hide (HST.out.over rfl)
        go_wp2_with fail
        go_ret2
        rw [HR.out]
        exact ⟨_, rfl, HO.out, HB.out⟩
    · obtain rfl : k = s.size := by omega
      have HR := hide (HST.out.over (rjGo_no (by
        have := H10.out
        rwa [List.take_of_length_le (by rw [List.length_drop, size_len]; exact Nat.le_refl _)] at this)))
      have hkI : ¬ (s.size : Int) < (s.size : Int) := by omega
      go_wp2_with fail
      go_ret2
      rw [HR.out]
      exact ⟨_, rfl, HO.out, HB.out⟩
end Go.Proofs.YtbafifilklfafaaDoor
