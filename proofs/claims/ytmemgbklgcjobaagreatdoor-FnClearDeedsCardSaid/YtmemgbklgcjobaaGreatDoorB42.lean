/-
  Parts of the proofs over mills, of: PlainMill, PiecesA, PiecesB. Conditions: each theorem states its own.
-/
import Derived.Test.YtmemgbklgcjobaaGreatDoorB19
import Derived.Test.YtmemgbklgcjobaaGreatDoorB24
set_option linter.unusedSimpArgs false
set_option linter.unusedVariables false
set_option maxRecDepth 10000
namespace Go.Proofs.YtmemgbklgcjobaaGreatDoor
open Go.RowKit
def piecesR (m : Mi) (s : Int) : List Int := if millB m then idsIn m.pieces s else []
set_option maxHeartbeats 1600000 in
theorem pieces_impl (s p l h : Value) (m : Mi) (st : Int) (w : World) (H : MillIn 0 w.heap.size w s p l h m) :
    Calls Tryz.prog 29 #[millV s p l h m, .int .i64 st] w (IntsNew w.heap.size (piecesR m st) w) := by
  obtain ⟨ao1, cap1, rfl, -, -, -, -⟩ := id H.store
  obtain ⟨ao2, cap2, rfl, -, -, -, -⟩ := id H.pieces
  obtain ⟨ao3, cap3, rfl, -, -, -, -⟩ := id H.low
  obtain ⟨ao4, cap4, rfl, -, -, -, -⟩ := id H.high
  have hpl := H.pieces.len
  unfold millV
  go_enter Tryz.func29, Tryz.ntmps29
  go_wp2_with fail
  refine calls_at fun wx hwx => ?_
  have A_0 : RowL wx (w.heap.size) 31 [.slice ao1 m.store.length cap1, .int .i64 m.rule.lc, .int .i64 m.rule.hc, .int .i64 m.rule.lm, .int .i64 m.rule.hm, .int .i64 m.rule.ls, .int .i64 m.rule.hs, .int .i64 m.strand, .slice ao2 m.pieces.length cap2, .slice ao3 m.low.length cap3, .slice ao4 m.high.length cap4, .int .i64 m.scrap] := by rw [hwx]; exact (RowL.new _ 31 [.slice ao1 m.store.length cap1, .int .i64 m.rule.lc, .int .i64 m.rule.hc, .int .i64 m.rule.lm, .int .i64 m.rule.hm, .int .i64 m.rule.ls, .int .i64 m.rule.hs, .int .i64 m.strand, .slice ao2 m.pieces.length cap2, .slice ao3 m.low.length cap3, .slice ao4 m.high.length cap4, .int .i64 m.scrap])
  have B_0 : Below w.heap.size w wx := by rw [hwx]; go_grown
  clear hwx
  have hL0 := A_0.lt
  have VV_0 := hide (H.below B_0)
  have KV := mill_impl _ _ _ _ m wx VV_0.out.all
  cases hv : millB m with
  | false =>
    rw [hv] at KV
    refine KV.mono ?_
    rintro e w1 ⟨rfl, hb⟩
    have HB := hide (Below.step B_0 hb (Nat.le_refl _))
    have HF := hide (show piecesR m st = [] by simp [piecesR, hv])
    clear hb KV hv
    go_wp2_with fail
    go_ret
    exact ⟨_, rfl, by rw [HF.out]; exact World.ownsRow_nil _ _ _ _, HB.out⟩
  | true =>
    rw [hv] at KV
    have HF := hide (show piecesR m st = idsIn m.pieces st by simp [piecesR, hv])
    have h5 := (millB_iff.1 hv).len
    clear hv
    refine (KV).mono ?_
    rintro e w1 ⟨rfl, hb⟩
    have A_1 := A_0.below hb A_0.lt
    have VV_1 := hide (VV_0.out.below hb)
    have B_1 := hide (Below.step B_0 hb (Nat.le_refl _))
    have hz1 := hb.size
    clear hb
    have cA8 := A_1.c 8 rfl
    clear KV
    have hzw := B_1.out.size
    go_wp2_with fail
    refine (idsIn_any _ m.pieces st _ _ w1 VV_1.out.pieces (by omega)).mono ?_
    rintro e w2 ⟨v, rfl, hown, hb⟩
    have HB := hide (Below.step B_1.out hb (Nat.le_refl _))
    have HO := hide (ownsRow_mono hown hzw)
    clear hown hb
    go_wp2_with fail
    go_ret
    exact ⟨_, rfl, by rw [HF.out]; exact HO.out, HB.out⟩
set_option maxHeartbeats 1600000 in
theorem pieces_spec (s p l h : Value) (m : Mi) (st : Int) (w : World) (H : MillIn 0 w.heap.size w s p l h m) :
    Calls Tryz.prog 41 #[millV s p l h m, .int .i64 st] w (IntsNew w.heap.size (piecesR m st) w) := by
  obtain ⟨ao1, cap1, rfl, -, -, -, -⟩ := id H.store
  obtain ⟨ao2, cap2, rfl, -, -, -, -⟩ := id H.pieces
  obtain ⟨ao3, cap3, rfl, -, -, -, -⟩ := id H.low
  obtain ⟨ao4, cap4, rfl, -, -, -, -⟩ := id H.high
  have hpl := H.pieces.len
  obtain ⟨i0, hi0, hz0, hi1, hi2⟩ := info_parts info_int
  have HV := hide H
  clear H
  unfold millV
  go_enter Tryz.func41, Tryz.ntmps41
  go_wp2_with fail
  go_loopw [5, 6] (fun o i wr => ∃ k : Nat, k ≤ m.pieces.length ∧ i = .int .i64 k ∧ Below w.heap.size w wr ∧ RowL wr w.heap.size 31 [.slice ao1 m.store.length cap1, .int .i64 m.rule.lc, .int .i64 m.rule.hc, .int .i64 m.rule.lm, .int .i64 m.rule.hm, .int .i64 m.rule.ls, .int .i64 m.rule.hs, .int .i64 m.strand, .slice ao2 m.pieces.length cap2, .slice ao3 m.low.length cap3, .slice ao4 m.high.length cap4, .int .i64 m.scrap] ∧ wr.ownsRow (w.heap.size + 1) 3 1 o (idsTo m.pieces st k).length (flatI (idsTo m.pieces st k)) ∧ (millB m = false → k = 0)) (fun _ i _ => m.pieces.length - (intOf i).toNat)
  case atStart => exact ⟨0, Nat.zero_le _, rfl, by go_grown, (RowL.new _ _ _).alloc _, by simpa [idsTo, flatI] using World.ownsRow_lit (e := 3) (size := 1) (base := w.heap.size + 1) (w.alloc (.cells #[.slice ao1 m.store.length cap1, .int .i64 m.rule.lc, .int .i64 m.rule.hc, .int .i64 m.rule.lm, .int .i64 m.rule.hm, .int .i64 m.rule.ls, .int .i64 m.rule.hs, .int .i64 m.strand, .slice ao2 m.pieces.length cap2, .slice ao3 m.low.length cap3, .slice ao4 m.high.length cap4, .int .i64 m.scrap] 31)) #[] 0 (by simp) (by unfold maxLen; omega) (by simp), fun _ => rfl⟩
  case round =>
    obtain ⟨k, hk, rfl, hb, hA, hown, hv0⟩ := hrel
    have HB := hide hb
    have HO := hide hown
    have HV0 := hide hv0
    have HA := hide hA
    have hz := hb.size
    have hzA := hA.lt
    have hnl := idsTo_len m.pieces st k
    obtain ⟨aow, capw, rfl, -, -⟩ := own_slice hown
    have VR := hide (HV.out.below hb)
    have cA0 : wr.cell? ⟨w.heap.size, 0, none⟩ = some (.slice ao1 m.store.length cap1) := HA.out.cell 0 (by simp)
    have cA1 : wr.cell? ⟨w.heap.size, 1, none⟩ = some (.int .i64 m.rule.lc) := HA.out.cell 1 (by simp)
    have cA2 : wr.cell? ⟨w.heap.size, 2, none⟩ = some (.int .i64 m.rule.hc) := HA.out.cell 2 (by simp)
    have cA3 : wr.cell? ⟨w.heap.size, 3, none⟩ = some (.int .i64 m.rule.lm) := HA.out.cell 3 (by simp)
    have cA4 : wr.cell? ⟨w.heap.size, 4, none⟩ = some (.int .i64 m.rule.hm) := HA.out.cell 4 (by simp)
    have cA5 : wr.cell? ⟨w.heap.size, 5, none⟩ = some (.int .i64 m.rule.ls) := HA.out.cell 5 (by simp)
    have cA6 : wr.cell? ⟨w.heap.size, 6, none⟩ = some (.int .i64 m.rule.hs) := HA.out.cell 6 (by simp)
    have cA7 : wr.cell? ⟨w.heap.size, 7, none⟩ = some (.int .i64 m.strand) := HA.out.cell 7 (by simp)
    have cA8 : wr.cell? ⟨w.heap.size, 8, none⟩ = some (.slice ao2 m.pieces.length cap2) := HA.out.cell 8 (by simp)
    have cA9 : wr.cell? ⟨w.heap.size, 9, none⟩ = some (.slice ao3 m.low.length cap3) := HA.out.cell 9 (by simp)
    have cA10 : wr.cell? ⟨w.heap.size, 10, none⟩ = some (.slice ao4 m.high.length cap4) := HA.out.cell 10 (by simp)
    have cA11 : wr.cell? ⟨w.heap.size, 11, none⟩ = some (.int .i64 m.scrap) := HA.out.cell 11 (by simp)
    clear hown hv0 hA hb
    by_cases hlt : k < m.pieces.length
    · have hkI : (k : Int) < (m.pieces.length : Int) := by omega
      go_wp2_with fail
      have KV := mill_spec _ _ _ _ m wr VR.out.all
      clear cA0 cA1 cA2 cA3 cA4 cA5 cA6 cA7 cA8 cA9 cA10 cA11
      cases hv : millB m with
      | false =>
        rw [hv] at KV
        refine KV.mono ?_
        rintro e wq ⟨rfl, hbq⟩
        have HBq := hide (Below.step HB.out hbq (Nat.le_refl _))
        have hk0 : k = 0 := HV0.out hv
        subst hk0
        have HOq := hide (ownsRow_mono (ownsRow_below HO.out hbq (Nat.le_refl _)) (Nat.le_succ _))
        have HF := hide (show piecesR m st = idsTo m.pieces st 0 by simp [piecesR, hv, idsTo])
        clear hbq KV hv
        go_wp2_with fail
        go_ret
        exact ⟨_, rfl, by rw [HF.out]; exact HOq.out, HBq.out⟩
      | true =>
        rw [hv] at KV
        refine KV.mono ?_
        rintro e wq ⟨rfl, hbq⟩
        have HBq := hide (Below.step HB.out hbq (Nat.le_refl _))
        have HAq := hide (HA.out.below hbq hzA)
        have HOq := hide (ownsRow_below HO.out hbq (Nat.le_refl _))
        have VQ := hide (VR.out.below hbq)
        have h5 := (millB_iff.1 hv).len
        have HV1 := hide (show ∀ n : Nat, millB m = false → n = 0 by intro n h; rw [hv] at h; exact absurd h (by simp))
        have hzq := hbq.size
        have cA8 : wq.cell? ⟨w.heap.size, 8, none⟩ = some (.slice ao2 m.pieces.length cap2) := HAq.out.cell 8 (by simp)
        obtain ⟨_, _, e1, -, -, -, hcl⟩ := VQ.out.pieces
        simp only [Value.slice.injEq] at e1
        obtain ⟨rfl, -, rfl⟩ := e1
        obtain ⟨b, o, rfl, -, hbl, hcs⟩ := hcl (by omega)
        obtain ⟨⟨r0, r1⟩, -⟩ := hcs k hlt
        have hg : m.pieces.getD k pc0 = m.pieces[k] := by simp [hlt]
        have hN : idsTo m.pieces st (k + 1) = if m.pieces[k].s == st then idsTo m.pieces st k ++ [(k : Int) + 1] else idsTo m.pieces st k := by rw [idsTo, hg]
        have HN := hide hN
        obtain ⟨x, hx⟩ : ∃ x, m.pieces[k].s = x := ⟨_, rfl⟩
        obtain ⟨y, hy⟩ : ∃ y, m.pieces[k].l = y := ⟨_, rfl⟩
        rw [hx] at r1 HN
        rw [hy] at r0
        clear hcs hx hy hg hN hbq KV hv hcl
        cases hq : (x == st) with
        | false =>
          have HN2 := hide (show idsTo m.pieces st (k + 1) = idsTo m.pieces st k by rw [HN.out, hq]; rfl)
          go_wp2_with fail
          go_roundw
          case rel => exact ⟨k + 1, by omega, by go_num, HBq.out, HAq.out, by rw [HN2.out]; exact HOq.out, HV1.out _⟩
          case measure => simp [intOf]; omega
        | true =>
          have HN2 := hide (show idsTo m.pieces st (k + 1) = idsTo m.pieces st k ++ [(k : Int) + 1] by rw [HN.out, hq]; rfl)
          go_wp2_with (at_builtin; refine wpList_append_view rfl _ _ 27 rfl (w.heap.size + 1) 3 i0 (.int .i64 0) 1 8 Tryz.underlying27 hi0 hz0 hi1 hi2 rfl (by decide) _ _ _ rfl (HOq.out.alloc _) (.slice (some ⟨wq.heap.size, 0, none⟩) 1 1) 1 [.int .i64 ((k : Int) + 1)] rfl ?c0 ?c1 ?c2 ?c3 ?_)
          case c0 => exact Source.lit wq [.int .i64 ((k : Int) + 1)] 1 3 1 rfl (fun u hu => by simp at hu; subst hu; rfl) 1
          case c1 => unfold maxLen; omega
          case c2 => omega
          case c3 => simp; omega
          intro v2 w3 hown2 hgrow2 _
          have hB3 : Below (w.heap.size + 1) wq w3 := ((Below.refl _ wq).alloc (by omega) (.cells #[.int .i64 ((k : Int) + 1)] 3)).trans (Below.grow hgrow2 (HOq.out.alloc _) (Nat.le_refl _) (by simp; omega))
          have HB3 := hide (HBq.out.trans (hB3.mono (Nat.le_succ _)))
          have HA3 := hide (HAq.out.below hB3 (Nat.lt_succ_self _))
          have HO3 := hide (show w3.ownsRow (w.heap.size + 1) 3 1 v2 (idsTo m.pieces st (k + 1)).length (flatI (idsTo m.pieces st (k + 1))) by rw [HN2.out]; simpa [flatI] using hown2)
          clear hown2 hgrow2 hB3
          go_wp2_with fail
          go_roundw
          case rel => exact ⟨k + 1, by omega, by go_num, HB3.out, HA3.out, HO3.out, HV1.out _⟩
          case measure => simp [intOf]; omega
    · obtain rfl : k = m.pieces.length := by omega
      have HF := hide (show piecesR m st = idsTo m.pieces st m.pieces.length by
        unfold piecesR
        split
        · rfl
        · rename_i h; rw [HV0.out (by simpa using h)]; rfl)
      have HOq := hide (ownsRow_mono HO.out (Nat.le_succ _))
      go_wp2_with fail
      go_ret
      exact ⟨_, rfl, by rw [HF.out]; exact HOq.out, HB.out⟩
end Go.Proofs.YtmemgbklgcjobaaGreatDoor
