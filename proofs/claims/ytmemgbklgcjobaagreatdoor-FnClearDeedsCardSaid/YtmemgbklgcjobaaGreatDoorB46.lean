/-
  Parts of the proofs over mills, of: DrawML, ClearB. Conditions: each theorem states its own.
-/
import Derived.Test.YtmemgbklgcjobaaGreatDoorB32
import Derived.Test.YtmemgbklgcjobaaGreatDoorB45
set_option linter.unusedSimpArgs false
set_option linter.unusedVariables false
set_option maxRecDepth 10000
namespace Go.Proofs.YtmemgbklgcjobaaGreatDoor
open Go.RowKit
set_option maxHeartbeats 1600000 in
theorem drawClearDeeds (v : Value) (n : Nat) (w : World) (hv : BytesAt 0 w.heap.size w v n) :
    Calls Tryz.prog 46 #[v] w fun e w' => ∃ s p l h m, e = .returned (millV s p l h m) ∧ MillGot w.heap.size w' s p l h m ∧ Few m ∧ Below w.heap.size w w' := by
  have HB0 := hide hv
  clear hv
  go_enter Tryz.func46, Tryz.ntmps46
  go_wp2_with fail
  refine calls_at fun wx hwx => ?_
  have Z_0 : RowL wx w.heap.size 31 [.slice none 0 0, .int .i64 0, .int .i64 0, .int .i64 0, .int .i64 0, .int .i64 0, .int .i64 0, .int .i64 0, .slice none 0 0, .slice none 0 0, .slice none 0 0, .int .i64 0] := by rw [hwx]; exact RowL.new _ _ _
  have hb : Below w.heap.size w wx := by rw [hwx]; exact (Below.refl _ _).alloc (Nat.le_refl _) _
  have HBx := hide ((HB0.out.below hb (Nat.le_refl _)).mono hb.size (Nat.le_refl _))
  have B_0 := hide hb
  have hz0 := Z_0.lt
  clear hwx hb
  refine (open_any v n wx HBx.out).mono ?_
  rintro e w1 ⟨R, rfl, hR, hb, hr⟩
  have Z_1 := Z_0.below hb Z_0.lt
  have B_1 := hide (Below.step B_0.out hb (Nat.le_refl _))
  have HR1 := hide hr
  have hRl := hr.lt
  have hz1 := hb.size
  clear hb hr
  go_wp2_with fail
  refine (l20Mill_any R _ 9 w1 HR1.out (by omega) (by omega) (by omega)).mono ?_
  rintro e w2 ⟨s, p, l, h, m, rfl, G, hf, ho, hr⟩
  obtain ⟨ao1, cap1, rfl, -, -⟩ := G.so.form
  obtain ⟨ao2, cap2, rfl, -, -⟩ := G.po.form
  obtain ⟨ao3, cap3, rfl, -, -⟩ := G.lo.form
  obtain ⟨ao4, cap4, rfl, -, -⟩ := G.ho.form
  have G_2 := hide G
  have Z_2 := Z_1.other ho (by omega)
  have B_2 := hide (B_1.out.trans (ho.below (by omega) B_1.out.size))
  have HR2 := hide hr
  have hz2 := ho.size
  clear ho hr G
  unfold millV
  have cZ0 : w2.cell? ⟨w.heap.size, 0, none⟩ = some (.slice none 0 0) := Z_2.c 0 rfl
  have fZ0 := Z_2.frozen 0
  have cZ1 : w2.cell? ⟨w.heap.size, 1, none⟩ = some (.int .i64 0) := Z_2.c 1 rfl
  have fZ1 := Z_2.frozen 1
  have cZ2 : w2.cell? ⟨w.heap.size, 2, none⟩ = some (.int .i64 0) := Z_2.c 2 rfl
  have fZ2 := Z_2.frozen 2
  have cZ3 : w2.cell? ⟨w.heap.size, 3, none⟩ = some (.int .i64 0) := Z_2.c 3 rfl
  have fZ3 := Z_2.frozen 3
  have cZ4 : w2.cell? ⟨w.heap.size, 4, none⟩ = some (.int .i64 0) := Z_2.c 4 rfl
  have fZ4 := Z_2.frozen 4
  have cZ5 : w2.cell? ⟨w.heap.size, 5, none⟩ = some (.int .i64 0) := Z_2.c 5 rfl
  have fZ5 := Z_2.frozen 5
  have cZ6 : w2.cell? ⟨w.heap.size, 6, none⟩ = some (.int .i64 0) := Z_2.c 6 rfl
  have fZ6 := Z_2.frozen 6
  have cZ7 : w2.cell? ⟨w.heap.size, 7, none⟩ = some (.int .i64 0) := Z_2.c 7 rfl
  have fZ7 := Z_2.frozen 7
  have cZ8 : w2.cell? ⟨w.heap.size, 8, none⟩ = some (.slice none 0 0) := Z_2.c 8 rfl
  have fZ8 := Z_2.frozen 8
  have cZ9 : w2.cell? ⟨w.heap.size, 9, none⟩ = some (.slice none 0 0) := Z_2.c 9 rfl
  have fZ9 := Z_2.frozen 9
  have cZ10 : w2.cell? ⟨w.heap.size, 10, none⟩ = some (.slice none 0 0) := Z_2.c 10 rfl
  have fZ10 := Z_2.frozen 10
  have cZ11 : w2.cell? ⟨w.heap.size, 11, none⟩ = some (.int .i64 0) := Z_2.c 11 rfl
  have fZ11 := Z_2.frozen 11
  go_wp2_with fail
  refine bodyPost_ret (by simp [results, Tryz.results46, go_sem, cZ0, cZ1, cZ2, cZ3, cZ4, cZ5, cZ6, cZ7, cZ8, cZ9, cZ10, cZ11]; try rfl) rfl ?_
  have T := other12 w.heap.size w2 (.slice ao1 m.store.length cap1) (.int .i64 m.rule.lc) (.int .i64 m.rule.hc) (.int .i64 m.rule.lm) (.int .i64 m.rule.hm) (.int .i64 m.rule.ls) (.int .i64 m.rule.hs) (.int .i64 m.strand) (.slice ao2 m.pieces.length cap2) (.slice ao3 m.low.length cap3) (.slice ao4 m.high.length cap4) (.int .i64 m.scrap)
  exact ⟨_, _, _, _, m, rfl, (G_2.out.past Z_2 T).mono (by omega), hf, B_2.out.trans (T.below (Nat.le_refl _) B_2.out.size)⟩
set_option maxHeartbeats 3200000 in
theorem clear_spec (s p l h : Value) (m : Mi) (w : World) (H : MillIn 0 w.heap.size w s p l h m) :
    Calls Tryz.prog 49 #[millV s p l h m] w (DeedsNew w.heap.size (clearR m) w) := by
  obtain ⟨ao1, cap1, rfl, -, -, -, -⟩ := id H.store
  obtain ⟨ao2, cap2, rfl, -, -, -, -⟩ := id H.pieces
  obtain ⟨ao3, cap3, rfl, -, -, -, -⟩ := id H.low
  obtain ⟨ao4, cap4, rfl, -, -, -, -⟩ := id H.high
  have hpl := H.pieces.len
  obtain ⟨j0, hj0, hzj, hj1, hj2⟩ := info_parts info_J
  obtain ⟨i0, hi0, hz0, hi1, hi2⟩ := info_parts info_int
  unfold millV
  go_enter Tryz.func49, Tryz.ntmps49
  go_wp2_with fail
  refine calls_at fun wx hwx => ?_
  have A_0 : RowL wx w.heap.size 31 [.slice ao1 m.store.length cap1, .int .i64 m.rule.lc, .int .i64 m.rule.hc, .int .i64 m.rule.lm, .int .i64 m.rule.hm, .int .i64 m.rule.ls, .int .i64 m.rule.hs, .int .i64 m.strand, .slice ao2 m.pieces.length cap2, .slice ao3 m.low.length cap3, .slice ao4 m.high.length cap4, .int .i64 m.scrap] := by rw [hwx]; exact (RowL.new _ _ _).alloc _
  have O_0 : wx.ownsRow (w.heap.size + 1) 48 3 (.slice (some ⟨w.heap.size + 1, 0, none⟩) 0 0) 0 [] := by rw [hwx]; simpa using World.ownsRow_lit (e := 48) (size := 3) (base := w.heap.size + 1) (w.alloc (.cells #[.slice ao1 m.store.length cap1, .int .i64 m.rule.lc, .int .i64 m.rule.hc, .int .i64 m.rule.lm, .int .i64 m.rule.hm, .int .i64 m.rule.ls, .int .i64 m.rule.hs, .int .i64 m.strand, .slice ao2 m.pieces.length cap2, .slice ao3 m.low.length cap3, .slice ao4 m.high.length cap4, .int .i64 m.scrap] 31)) #[] 0 (by simp) (by unfold maxLen; omega) (by simp)
  have B_0 : Below w.heap.size w wx := by rw [hwx]; go_grown
  clear hwx
  have hL0 := A_0.lt
  have VV_0 := hide (H.below B_0)
  have KV := mill_spec _ _ _ _ m wx VV_0.out.all
  cases hv : millB m with
  | false =>
    rw [hv] at KV
    refine KV.mono ?_
    rintro e w1 ⟨rfl, hb⟩
    have HB := hide (Below.step B_0 hb (Nat.le_refl _))
    have HF := hide (show clearR m = [] by simp [clearR, hv])
    have HO := hide (ownsRow_mono (ownsRow_below O_0 hb (Nat.le_refl _)) (Nat.le_succ _))
    clear hb KV hv O_0
    go_wp2_with fail
    go_ret
    exact ⟨_, rfl, by rw [HF.out]; exact HO.out, HB.out⟩
  | true =>
    rw [hv] at KV
    have HV := hide hv
    have HF := hide (show clearR m = (nz (m.high ++ m.low)).map shipJ ++ (idsIn m.pieces 0).flatMap slabJ by simp [clearR, hv])
    have HP := hide (show piecesR m 0 = idsIn m.pieces 0 by simp [piecesR, hv])
    have MV := millB_iff.1 hv
    have h5 := MV.len
    have q1 := MV.pile.l1
    have q2 := MV.pile.l6
    have q3 := MV.pile.lh
    have HR := hide (show ∀ x ∈ m.high ++ m.low, 0 ≤ x from fun x hx => (MV.pile.rng x (by simp only [List.mem_append] at hx ⊢; exact hx.symm)).1)
    clear MV hv
    refine KV.mono ?_
    rintro e w1 ⟨rfl, hb⟩
    have A_1 := A_0.below hb hL0
    have VV_1 := hide (VV_0.out.below hb)
    have O_1 := hide (ownsRow_below O_0 hb (Nat.le_refl _))
    have B_1 := hide (Below.step B_0 hb (Nat.le_refl _))
    have hL1 := A_1.lt
    have hzw := B_1.out.size
    clear hb KV O_0
    have cA9 := A_1.c 9 rfl
    have cA10 := A_1.c 10 rfl
    go_wp2_with fail
    have o1 : (w1.alloc (.cells #[] 3)).ownsRow w1.heap.size 3 1 (.slice (some ⟨w1.heap.size, 0, none⟩) 0 0) 0 [] := by simpa using World.ownsRow_lit (e := 3) (size := 1) w1 #[] 0 (Nat.le_refl _) (by unfold maxLen; omega) (by simp)
    have O1 := hide (show (w1.alloc (.cells #[] 3)).drew.ownsRow w1.heap.size 3 1 (.slice (some ⟨w1.heap.size, 0, none⟩) 0 0) 0 [] from o1)
    have HB0 := hide (show Below w1.heap.size w1 (w1.alloc (.cells #[] 3)).drew from ((Below.refl _ _).alloc (Nat.le_refl _) _).drew)
    have S1 := hide (show Source (w1.alloc (.cells #[] 3)).drew 1 (.slice ao4 m.high.length cap4) m.high.length (flatI m.high) from (VV_1.out.below HB0.out).high.source)
    have HSZ := hide (show w1.heap.size ≤ (w1.alloc (.cells #[] 3)).drew.heap.size by simp)
    clear o1
    go_cut [4] from 13 to 21 (fun v wr => wr.ownsRow w1.heap.size 3 1 v (m.high ++ m.low).length (flatI (m.high ++ m.low)) ∧ Below w1.heap.size w1 wr)
    case first =>
      go_region_law (first
        | (refine step_append_view rfl (.tmp 13) (.tmp 16) 27 rfl w1.heap.size 3 i0 (.int .i64 0) 1 8 Tryz.underlying27 hi0 hz0 hi1 hi2 rfl (by decide) _ _ _ (by simp [Act.eval]) O1.out _ _ _ (by simp [Act.eval]) S1.out (by unfold maxLen; omega) (by omega) HSZ.out ?_; intro v2 w2 hown2 hgrow2 _; have hb2 := HB0.out.trans (Below.grow hgrow2 O1.out (Nat.le_refl _) HSZ.out); have c2 : w2.cell? ⟨w.heap.size, 9, none⟩ = some (.slice ao3 m.low.length cap3) := (A_1.below hb2 hL1).cell 9 (by simp); have S2 := hide ((VV_1.out.below hb2).low.source))
        | (refine step_append_view rfl (.tmp 17) (.tmp 20) 27 rfl w1.heap.size 3 i0 (.int .i64 0) 1 8 Tryz.underlying27 hi0 hz0 hi1 hi2 rfl (by decide) _ _ _ (by simp [Act.eval]) hown2 _ _ _ (by simp [Act.eval]) S2.out (by unfold maxLen; omega) (by omega) hb2.size ?_; intro v3 w3 hown3 hgrow3 _))
      all_goals
        have hb3 := hb2.trans (Below.grow hgrow3 hown2 (Nat.le_refl _) hb2.size)
        have HO3 := hide (show w3.ownsRow w1.heap.size 3 1 v3 (m.high ++ m.low).length (flatI (m.high ++ m.low)) by simpa [flatI] using hown3)
        have HB3 := hide hb3
        clear hown3 hgrow3 hown2 hgrow2 hb3
        go_wp2_with fail
        go_meet
        exact ⟨HO3.out, HB3.out⟩
    case rest =>
      obtain ⟨hown, hb1⟩ := hcut
      obtain ⟨ids, hids⟩ : ∃ ids, m.high ++ m.low = ids := ⟨_, rfl⟩
      have hil : ids.length = m.high.length + m.low.length := by rw [← hids]; simp
      rw [hids] at hown HF HR
      have hl3 : ids.length ≤ 20 := by omega
      have A_2 := A_1.below hb1 hL1
      have VV_2 := hide (VV_1.out.below hb1)
      have O_2 := hide (ownsRow_below O_1.out hb1 (Nat.le_refl _))
      have B_2 := hide (Below.step B_1.out hb1 (Nat.le_refl _))
      have I_2 := hide hown
      have P_2 := hide (apart_new O_1.out hown (Nat.le_refl _))
      have hL2 := A_2.lt
      have hz2 := hb1.size
      obtain ⟨aov, capv, rfl, -, -⟩ := own_slice hown
      clear hown hb1 hids hil O1 S1 HB0 HSZ cA9 cA10
      go_wp2_with fail
      go_loopw [3, 5] (fun o i wr => ∃ k : Nat, k ≤ ids.length ∧ i = .int .i64 k ∧ Below w.heap.size w wr ∧ RowL wr w.heap.size 31 [.slice ao1 m.store.length cap1, .int .i64 m.rule.lc, .int .i64 m.rule.hc, .int .i64 m.rule.lm, .int .i64 m.rule.hm, .int .i64 m.rule.ls, .int .i64 m.rule.hs, .int .i64 m.strand, .slice ao2 m.pieces.length cap2, .slice ao3 m.low.length cap3, .slice ao4 m.high.length cap4, .int .i64 m.scrap] ∧ w1.heap.size ≤ wr.heap.size ∧ wr.ownsRow (w.heap.size + 1) 48 3 o ((nz (ids.take k)).map shipJ).length (flatD ((nz (ids.take k)).map shipJ)) ∧ wr.ownsRow w1.heap.size 3 1 (.slice aov ids.length capv) ids.length (flatI ids) ∧ Apart o (.slice aov ids.length capv)) (fun _ i _ => ids.length - (intOf i).toNat)
      case atStart => exact ⟨0, Nat.zero_le _, rfl, B_2.out, A_2, hz2, O_2.out, I_2.out, P_2.out⟩
      case round =>
        obtain ⟨k, hk, rfl, hb, hA, hsz, hown, hids, hap⟩ := hrel
        have HB := hide hb
        have HAr := hide hA
        have HO := hide hown
        have HI := hide hids
        have HP2 := hide hap
        have hnl := nz_len (ids.take k)
        have htk : (ids.take k).length ≤ k := List.length_take_le _ _
        obtain ⟨aow, capw, rfl, -, -⟩ := own_slice hown
        obtain ⟨_, _, e1, -, -, -, hcl⟩ := ownI_at hids rfl hsz
        simp only [Value.slice.injEq] at e1
        obtain ⟨rfl, -, rfl⟩ := e1
        have VR := hide (H.below hb)
        have hLr := hA.lt
        clear hown hap hids hA hb
        obtain ⟨D, hD⟩ : ∃ D, (nz (ids.take k)).map shipJ = D := ⟨_, rfl⟩
        have hDl : D.length ≤ 20 := by rw [← hD]; simp; omega
        rw [hD] at HO HP2 ⊢
        by_cases hlt : k < ids.length
        · obtain ⟨b, o, rfl, hx1, hx2, hcs⟩ := hcl (by omega)
          obtain ⟨r1, -⟩ := hcs k hlt
          have HN := hide (nz_take hlt)
          have hx0 := HR.out ids[k] (List.getElem_mem _)
          obtain ⟨x, hx⟩ : ∃ x, ids[k] = x := ⟨_, rfl⟩
          rw [hx] at r1 HN hx0
          have hkI : (k : Int) < (ids.length : Int) := by omega
          clear hcs hx hcl
          by_cases hq : x = 0
          · have hqB : ¬ (0 < x) := by omega
            have HN2 := hide (show (nz (ids.take (k + 1))).map shipJ = D by rw [HN.out, if_pos hq, hD])
            clear hq hD
            go_wp2_with fail
            go_roundw
            case rel => exact ⟨k + 1, by omega, by go_num, HB.out, HAr.out, hsz, by rw [HN2.out]; exact HO.out, HI.out, HP2.out⟩
            case measure => simp [intOf]; omega
          · have hqB : 0 < x := by omega
            have HN2 := hide (show (nz (ids.take (k + 1))).map shipJ = D ++ [shipJ x] by rw [HN.out, if_neg hq, List.map_append, hD]; rfl)
            clear hq hD
            go_wp2_with (at_builtin; refine wpList_append_view rfl _ _ 39 rfl (w.heap.size + 1) 48 j0 _ 3 24 Tryz.underlying39 hj0 hzj hj1 hj2 rfl (by decide) _ _ _ rfl (HO.out.alloc _) (.slice (some ⟨wr.heap.size, 0, none⟩) 1 1) 1 [.int .i64 4, .int .i64 x, .int .i64 0] rfl ?c0 ?c1 ?c2 ?c3 ?_)
            case c0 => exact Source.lit wr [.int .i64 4, .int .i64 x, .int .i64 0] 3 48 1 rfl (fun u hu => by simp at hu; rcases hu with rfl | rfl | rfl <;> rfl) 1
            case c1 => unfold maxLen; omega
            case c2 => omega
            case c3 => simp; omega
            intro v2 w3 hown2 hgrow2 h4
            have hB3 : Below (w.heap.size + 1) wr w3 := ((Below.refl _ wr).alloc (by omega) (.cells #[.int .i64 4, .int .i64 x, .int .i64 0] 48)).trans (Below.grow hgrow2 (HO.out.alloc _) (Nat.le_refl _) (by simp; omega))
            have HB3 := hide (HB.out.trans (hB3.mono (Nat.le_succ _)))
            have HA3 := hide (HAr.out.below hB3 (Nat.lt_succ_self _))
            have HI3 := hide (ownsRow_apart (HI.out.alloc _) hgrow2 HP2.out)
            have HP3 := hide (HP2.out.grow (HI.out.alloc (.cells #[.int .i64 4, .int .i64 x, .int .i64 0] 48)) (by simpa using h4))
            have hsz3 : w1.heap.size ≤ w3.heap.size := Nat.le_trans hsz hB3.size
            have HO3 := hide (show w3.ownsRow (w.heap.size + 1) 48 3 v2 ((nz (ids.take (k + 1))).map shipJ).length (flatD ((nz (ids.take (k + 1))).map shipJ)) by rw [HN2.out, flatD_append, List.length_append]; exact hown2)
            clear hown2 hgrow2 hB3 h4
            go_wp2_with fail
            go_roundw
            case rel => exact ⟨k + 1, by omega, by go_num, HB3.out, HA3.out, hsz3, HO3.out, HI3.out, HP3.out⟩
            case measure => simp [intOf]; omega
        · obtain rfl : k = ids.length := by omega
          rw [List.take_of_length_le (Nat.le_refl _)] at hD
          rw [hD] at HF
          clear hD hcl
          obtain ⟨wo, rfl⟩ : ∃ wo : World, wo = wr := ⟨_, rfl⟩
          have cA0 : wo.cell? ⟨w.heap.size, 0, none⟩ = some (.slice ao1 m.store.length cap1) := HAr.out.cell 0 (by simp)
          have cA1 : wo.cell? ⟨w.heap.size, 1, none⟩ = some (.int .i64 m.rule.lc) := HAr.out.cell 1 (by simp)
          have cA2 : wo.cell? ⟨w.heap.size, 2, none⟩ = some (.int .i64 m.rule.hc) := HAr.out.cell 2 (by simp)
          have cA3 : wo.cell? ⟨w.heap.size, 3, none⟩ = some (.int .i64 m.rule.lm) := HAr.out.cell 3 (by simp)
          have cA4 : wo.cell? ⟨w.heap.size, 4, none⟩ = some (.int .i64 m.rule.hm) := HAr.out.cell 4 (by simp)
          have cA5 : wo.cell? ⟨w.heap.size, 5, none⟩ = some (.int .i64 m.rule.ls) := HAr.out.cell 5 (by simp)
          have cA6 : wo.cell? ⟨w.heap.size, 6, none⟩ = some (.int .i64 m.rule.hs) := HAr.out.cell 6 (by simp)
          have cA7 : wo.cell? ⟨w.heap.size, 7, none⟩ = some (.int .i64 m.strand) := HAr.out.cell 7 (by simp)
          have cA8 : wo.cell? ⟨w.heap.size, 8, none⟩ = some (.slice ao2 m.pieces.length cap2) := HAr.out.cell 8 (by simp)
          have cA9 : wo.cell? ⟨w.heap.size, 9, none⟩ = some (.slice ao3 m.low.length cap3) := HAr.out.cell 9 (by simp)
          have cA10 : wo.cell? ⟨w.heap.size, 10, none⟩ = some (.slice ao4 m.high.length cap4) := HAr.out.cell 10 (by simp)
          have cA11 : wo.cell? ⟨w.heap.size, 11, none⟩ = some (.int .i64 m.scrap) := HAr.out.cell 11 (by simp)
          go_wp2_with fail
          refine (pieces_spec _ _ _ _ m 0 wo VR.out.all).mono ?_
          rw [HP.out]
          rintro e w5 ⟨v5, rfl, hown5, hb5⟩
          obtain ⟨zs, hzs⟩ : ∃ zs, idsIn m.pieces 0 = zs := ⟨_, rfl⟩
          have hzl : zs.length ≤ 30 := by rw [← hzs]; exact Nat.le_trans (idsTo_len m.pieces 0 m.pieces.length) h5
          rw [hzs] at hown5 HF
          have HI5 := hide hown5
          have HO5 := hide (ownsRow_below HO.out hb5 (Nat.le_refl _))
          have HP5 := hide (apart_new HO.out hown5 (Nat.le_refl _))
          have HB5 := hide (Below.step HB.out hb5 (Nat.le_refl _))
          have hz5 := hb5.size
          obtain ⟨ao5, cap5, rfl, -, -⟩ := own_slice hown5
          clear hown5 hb5 hzs
          clear cA0 cA1 cA2 cA3 cA4 cA5 cA6 cA7 cA8 cA9 cA10 cA11
          go_wp2_with fail
          go_loopw [3, 7] (fun o i wr => ∃ k : Nat, k ≤ zs.length ∧ i = .int .i64 k ∧ Below w.heap.size w wr ∧ wo.heap.size ≤ wr.heap.size ∧ wr.ownsRow (w.heap.size + 1) 48 3 o (D ++ (zs.take k).flatMap slabJ).length (flatD (D ++ (zs.take k).flatMap slabJ)) ∧ wr.ownsRow wo.heap.size 3 1 (.slice ao5 zs.length cap5) zs.length (flatI zs) ∧ Apart o (.slice ao5 zs.length cap5)) (fun _ i _ => zs.length - (intOf i).toNat)
          case atStart => exact ⟨0, Nat.zero_le _, rfl, HB5.out, hz5, by simpa using HO5.out, HI5.out, HP5.out⟩
          case round =>
            obtain ⟨k, hk, rfl, hb, hsz, hown, hids, hap⟩ := hrel
            have HB := hide hb
            have HO := hide hown
            have HI := hide hids
            have HP2 := hide hap
            obtain ⟨aow, capw, rfl, -, -⟩ := own_slice hown
            clear hown hap hb
            obtain ⟨_, _, e1, -, -, -, hcl⟩ := ownI_at hids rfl hsz
            simp only [Value.slice.injEq] at e1
            obtain ⟨rfl, -, rfl⟩ := e1
            clear hids
            obtain ⟨E, hE⟩ : ∃ E, D ++ (zs.take k).flatMap slabJ = E := ⟨_, rfl⟩
            have hEl : E.length ≤ 80 := by
              rw [← hE, List.length_append, flat_len]
              have := List.length_take_le k zs
              omega
            rw [hE] at HO HP2 ⊢
            by_cases hlt : k < zs.length
            · obtain ⟨b, o, rfl, hx1, hx2, hcs⟩ := hcl (by omega)
              obtain ⟨r1, -⟩ := hcs k hlt
              obtain ⟨x, hx⟩ : ∃ x, zs[k] = x := ⟨_, rfl⟩
              rw [hx] at r1
              have hkI : (k : Int) < (zs.length : Int) := by omega
              have HN2 := hide (show D ++ (zs.take (k + 1)).flatMap slabJ = E ++ slabJ x by rw [slab_take hlt, hx, ← List.append_assoc, hE])
              have HOd := hide (show wr.drew.ownsRow (w.heap.size + 1) 48 3 (.slice aow E.length capw) E.length (flatD E) from HO.out)
              have HId := hide (show wr.drew.ownsRow wo.heap.size 3 1 (.slice (some ⟨b, o, none⟩) zs.length cap5) zs.length (flatI zs) from HI.out)
              have hszd : wo.heap.size ≤ wr.drew.heap.size := hsz
              have hLd : w.heap.size + 1 ≤ wr.drew.heap.size := by omega
              clear hcs hx hE hcl
              have HBd := hide (HB.out.drew)
              have S1 := hide (show Source (wr.drew.alloc (.cells #[.int .i64 2, .int .i64 x, .int .i64 0, .int .i64 4, .int .i64 x, .int .i64 0] 48)) 3 (.slice (some ⟨wr.heap.size, 0, none⟩) 2 2) 2 [.int .i64 2, .int .i64 x, .int .i64 0, .int .i64 4, .int .i64 x, .int .i64 0] from Source.lit wr.drew [.int .i64 2, .int .i64 x, .int .i64 0, .int .i64 4, .int .i64 x, .int .i64 0] 3 48 2 rfl (fun u hu => by simp at hu; rcases hu with rfl | rfl | rfl | rfl | rfl | rfl <;> rfl) 2)
              have O1 := hide (show (wr.drew.alloc (.cells #[.int .i64 2, .int .i64 x, .int .i64 0, .int .i64 4, .int .i64 x, .int .i64 0] 48)).ownsRow (w.heap.size + 1) 48 3 (.slice aow E.length capw) E.length (flatD E) from HOd.out.alloc _)
              have HSZ := hide (show w.heap.size + 1 ≤ (wr.drew.alloc (.cells #[.int .i64 2, .int .i64 x, .int .i64 0, .int .i64 4, .int .i64 x, .int .i64 0] 48)).heap.size by simp; omega)
              clear HO HI HB
              go_wp2_with fail
              go_region_law (first
                | (refine step_append_view rfl (.tmp 49) (.tmp 60) 39 rfl (w.heap.size + 1) 48 j0 _ 3 24 Tryz.underlying39 hj0 hzj hj1 hj2 rfl (by decide) _ _ _ (by simp [Act.eval]) O1.out (.slice (some ⟨wr.heap.size, 0, none⟩) 2 2) 2 [.int .i64 2, .int .i64 x, .int .i64 0, .int .i64 4, .int .i64 x, .int .i64 0] (by simp [Act.eval]) S1.out (by unfold maxLen; omega) (by omega) HSZ.out ?_; intro v2 w3 hown2 hgrow2 h4))
              all_goals
                have hB3 : Below (w.heap.size + 1) wr.drew w3 := ((Below.refl _ wr.drew).alloc (by omega) (.cells #[.int .i64 2, .int .i64 x, .int .i64 0, .int .i64 4, .int .i64 x, .int .i64 0] 48)).trans (Below.grow hgrow2 (HOd.out.alloc _) (Nat.le_refl _) (by simp; omega))
                have HB3 := hide (HBd.out.trans (hB3.mono (Nat.le_succ _)))
                have HI3 := hide (ownsRow_apart (HId.out.alloc _) hgrow2 HP2.out)
                have HP3 := hide (HP2.out.grow (HId.out.alloc (.cells #[.int .i64 2, .int .i64 x, .int .i64 0, .int .i64 4, .int .i64 x, .int .i64 0] 48)) (by simpa using h4))
                have hsz3 : wo.heap.size ≤ w3.heap.size := Nat.le_trans hszd hB3.size
                have HO3 := hide (show w3.ownsRow (w.heap.size + 1) 48 3 v2 (D ++ (zs.take (k + 1)).flatMap slabJ).length (flatD (D ++ (zs.take (k + 1)).flatMap slabJ)) by rw [HN2.out, flatD_append, List.length_append]; exact hown2)
                clear hown2 hgrow2 hB3 h4
                go_wp2_with fail
                go_roundw
                case rel => exact ⟨k + 1, by omega, by go_num, HB3.out, hsz3, HO3.out, HI3.out, HP3.out⟩
                case measure => simp [intOf]; omega
            · obtain rfl : k = zs.length := by omega
              have HZ := hide (show clearR m = E by rw [HF.out, ← hE, List.take_of_length_le (Nat.le_refl _)])
              have HO4 := hide (ownsRow_mono HO.out (Nat.le_succ _))
              clear hcl hE
              go_wp2_with fail
              go_ret
              exact ⟨_, rfl, by rw [HZ.out]; exact HO4.out, HB.out⟩
end Go.Proofs.YtmemgbklgcjobaaGreatDoor
