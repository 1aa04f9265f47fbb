/-
  The walk over MillAsk of the program.
-/
import Derived.Test.YtbafifilklfafaaDoorIdsT
import Derived.Test.YtbafifilklfafaaDoorTextB
import Derived.Test.YtbafifilklfafaaDoorPiecesA
import Derived.Test.YtbafifilklfafaaDoorPiecesB
import Derived.Test.YtbafifilklfafaaDoorMassA
import Derived.Test.YtbafifilklfafaaDoorMassB
import Derived.Test.YtbafifilklfafaaDoorPlainLaw
namespace Go.Proofs.YtbafifilklfafaaDoor
open Go.RowKit

theorem mem_pieces {m : Mi} {s : Int} (n : Int) (h : n ∈ piecesR m s) : 0 ≤ n ∧ n ≤ 999 := by
  unfold piecesR at h
  split at h
  · rename_i hv
    obtain ⟨j, h1, rfl, -⟩ := mem_idsIn.1 h
    have := (millB_iff.1 hv).len
    omega
  · cases h
theorem mass_bd {m : Mi} (h : millB m = true) : 0 ≤ massR m ∧ massR m ≤ 10000 := by
  unfold massR
  rw [if_pos h]
  have := mass_ge (millB_iff.1 h)
  omega
theorem ne_q {q a : ByteArray} (h : ¬ q = a) : (q.toList == a.toList) = false := by rw [beqL]; exact decide_eq_false h
theorem eq_q (a : ByteArray) : (a.toList == a.toList) = true := by rw [beqL]; simp

set_option linter.unusedSimpArgs false in
set_option maxRecDepth 10000 in
set_option maxHeartbeats 6400000 in
theorem ask_impl (s p l h : Value) (m : Mi) (q : ByteArray) (w : World) (H : MillIn 0 w.heap.size w s p l h m) (hp : PowIs w) :
    Calls Tryd.prog 19 #[millV s p l h m, .string q] w fun e w' => e = .returned (.string (askB m q)) ∧ Below w.heap.size w w' := by
  obtain ⟨ao1, cap1, rfl, -, -, -, -⟩ := id H.store
  obtain ⟨ao2, cap2, rfl, -, -, -, -⟩ := id H.pieces
  obtain ⟨ao3, cap3, rfl, -, -, -, -⟩ := id H.low
  obtain ⟨ao4, cap4, rfl, -, -, -, -⟩ := id H.high
  have HM := hide H
  have HP := hide hp
  clear H hp
  unfold millV
  go_enter Tryd.func19, Tryd.ntmps19
  go_wp2_with fail
  refine calls_at fun wx hwx => ?_
  have A_0 : RowL wx (w.heap.size) 52 [.slice ao1 m.store.length cap1, .int .i64 m.rule.lc, .int .i64 m.rule.hc, .int .i64 m.rule.lm, .int .i64 m.rule.hm, .int .i64 m.rule.ls, .int .i64 m.rule.hs, .int .i64 m.strand, .slice ao2 m.pieces.length cap2, .slice ao3 m.low.length cap3, .slice ao4 m.high.length cap4, .int .i64 m.scrap] := by rw [hwx]; exact (RowL.new _ 52 [.slice ao1 m.store.length cap1, .int .i64 m.rule.lc, .int .i64 m.rule.hc, .int .i64 m.rule.lm, .int .i64 m.rule.hm, .int .i64 m.rule.ls, .int .i64 m.rule.hs, .int .i64 m.strand, .slice ao2 m.pieces.length cap2, .slice ao3 m.low.length cap3, .slice ao4 m.high.length cap4, .int .i64 m.scrap])
  have B_0 : Below w.heap.size w wx := by rw [hwx]; go_grown
  clear hwx
  have V_0 := hide (HM.out.below B_0)
  have k1 := mill_impl _ _ _ _ m wx V_0.out.all
  unfold millV at k1
  cases hv : millB m with
  | false =>
    rw [hv] at k1
    have HZ := hide (show askB m q = ⟨#[]⟩ by simp [askB, hv])
    clear hv
    refine k1.mono ?_
    rintro e w1 ⟨rfl, hb⟩
    have B_1 := hide (Below.step B_0 hb (Nat.le_refl _))
    clear hb k1
    go_wp2_with fail
    go_ret
    exact ⟨by rw [HZ.out]; rfl, B_1.out⟩
  | true =>
    rw [hv] at k1
    have HVL := hide hv
    have HV := hide (millB_iff.1 hv)
    clear hv
    refine k1.mono ?_
    rintro e w1 ⟨rfl, hb⟩
    have A_1 := A_0.below hb A_0.lt
    have V_1 := hide (V_0.out.below hb)
    have B_1 := hide (Below.step B_0 hb (Nat.le_refl _))
    have HP1 := hide (HP.out.stays B_1.out)
    clear hb k1
    by_cases q0 : q = (⟨#[115, 116, 114, 97, 110, 100]⟩ : ByteArray)
    · subst q0
      have t0 : ((⟨#[115, 116, 114, 97, 110, 100]⟩ : ByteArray).toList == (⟨#[115, 116, 114, 97, 110, 100]⟩ : ByteArray).toList) = true := eq_q _
      have HZ := hide (show askB m (⟨#[115, 116, 114, 97, 110, 100]⟩ : ByteArray) = numB m.strand by simp [askB, HVL.out, qB])
      have h0 := HV.out.st0
      have h1 := HV.out.st1
      have cA7 : w1.cell? ⟨w.heap.size, 7, none⟩ = some (.int .i64 m.strand) := A_1.cell 7 (by simp)
      go_wp2_with fail
      refine (itoa_any m.strand (by omega) (by omega) w1 HP1.out).mono ?_
      rintro e w2 ⟨rfl, hb⟩
      have B_2 := hide (Below.step B_1.out hb (Nat.le_refl _))
      clear hb
      go_wp2_with fail
      go_ret
      exact ⟨by rw [HZ.out]; rfl, B_2.out⟩
    by_cases q1 : q = (⟨#[115, 99, 114, 97, 112]⟩ : ByteArray)
    · subst q1
      have t0 : ((⟨#[115, 99, 114, 97, 112]⟩ : ByteArray).toList == (⟨#[115, 116, 114, 97, 110, 100]⟩ : ByteArray).toList) = false := by rw [beqL]; decide
      have t1 : ((⟨#[115, 99, 114, 97, 112]⟩ : ByteArray).toList == (⟨#[115, 99, 114, 97, 112]⟩ : ByteArray).toList) = true := eq_q _
      have HZ := hide (show askB m (⟨#[115, 99, 114, 97, 112]⟩ : ByteArray) = numB m.scrap by simp [askB, HVL.out, qB])
      have h0 := HV.out.sc0
      have h1 := HV.out.sc1
      have cA11 : w1.cell? ⟨w.heap.size, 11, none⟩ = some (.int .i64 m.scrap) := A_1.cell 11 (by simp)
      go_wp2_with fail
      refine (itoa_any m.scrap (by omega) (by omega) w1 HP1.out).mono ?_
      rintro e w2 ⟨rfl, hb⟩
      have B_2 := hide (Below.step B_1.out hb (Nat.le_refl _))
      clear hb
      go_wp2_with fail
      go_ret
      exact ⟨by rw [HZ.out]; rfl, B_2.out⟩
    by_cases q2 : q = (⟨#[109, 97, 115, 115]⟩ : ByteArray)
    · subst q2
      have t0 : ((⟨#[109, 97, 115, 115]⟩ : ByteArray).toList == (⟨#[115, 116, 114, 97, 110, 100]⟩ : ByteArray).toList) = false := by rw [beqL]; decide
      have t1 : ((⟨#[109, 97, 115, 115]⟩ : ByteArray).toList == (⟨#[115, 99, 114, 97, 112]⟩ : ByteArray).toList) = false := by rw [beqL]; decide
      have t2 : ((⟨#[109, 97, 115, 115]⟩ : ByteArray).toList == (⟨#[109, 97, 115, 115]⟩ : ByteArray).toList) = true := eq_q _
      have HZ := hide (show askB m (⟨#[109, 97, 115, 115]⟩ : ByteArray) = numB (massR m) by simp [askB, HVL.out, qB])
      have hmb := mass_bd HVL.out
      have cA0 : w1.cell? ⟨w.heap.size, 0, none⟩ = some (.slice ao1 m.store.length cap1) := A_1.cell 0 (by simp)
      have cA1 : w1.cell? ⟨w.heap.size, 1, none⟩ = some (.int .i64 m.rule.lc) := A_1.cell 1 (by simp)
      have cA2 : w1.cell? ⟨w.heap.size, 2, none⟩ = some (.int .i64 m.rule.hc) := A_1.cell 2 (by simp)
      have cA3 : w1.cell? ⟨w.heap.size, 3, none⟩ = some (.int .i64 m.rule.lm) := A_1.cell 3 (by simp)
      have cA4 : w1.cell? ⟨w.heap.size, 4, none⟩ = some (.int .i64 m.rule.hm) := A_1.cell 4 (by simp)
      have cA5 : w1.cell? ⟨w.heap.size, 5, none⟩ = some (.int .i64 m.rule.ls) := A_1.cell 5 (by simp)
      have cA6 : w1.cell? ⟨w.heap.size, 6, none⟩ = some (.int .i64 m.rule.hs) := A_1.cell 6 (by simp)
      have cA7 : w1.cell? ⟨w.heap.size, 7, none⟩ = some (.int .i64 m.strand) := A_1.cell 7 (by simp)
      have cA8 : w1.cell? ⟨w.heap.size, 8, none⟩ = some (.slice ao2 m.pieces.length cap2) := A_1.cell 8 (by simp)
      have cA9 : w1.cell? ⟨w.heap.size, 9, none⟩ = some (.slice ao3 m.low.length cap3) := A_1.cell 9 (by simp)
      have cA10 : w1.cell? ⟨w.heap.size, 10, none⟩ = some (.slice ao4 m.high.length cap4) := A_1.cell 10 (by simp)
      have cA11 : w1.cell? ⟨w.heap.size, 11, none⟩ = some (.int .i64 m.scrap) := A_1.cell 11 (by simp)
      go_wp2_with fail
      have k2 := mass_impl _ _ _ _ m w1 V_1.out.all
      unfold millV at k2
      refine k2.mono ?_
      rintro e w2 ⟨rfl, hb⟩
      have B_2 := hide (Below.step B_1.out hb (Nat.le_refl _))
      have HP2 := hide (HP.out.stays B_2.out)
      clear hb k2
      go_wp2_with fail
      refine (itoa_any (massR m) (by omega) (by omega) w2 HP2.out).mono ?_
      rintro e w3 ⟨rfl, hb⟩
      have B_3 := hide (Below.step B_2.out hb (Nat.le_refl _))
      clear hb
      go_wp2_with fail
      go_ret
      exact ⟨by rw [HZ.out]; rfl, B_3.out⟩
    by_cases q3 : q = (⟨#[115, 108, 97, 98, 115]⟩ : ByteArray)
    · subst q3
      have t0 : ((⟨#[115, 108, 97, 98, 115]⟩ : ByteArray).toList == (⟨#[115, 116, 114, 97, 110, 100]⟩ : ByteArray).toList) = false := by rw [beqL]; decide
      have t1 : ((⟨#[115, 108, 97, 98, 115]⟩ : ByteArray).toList == (⟨#[115, 99, 114, 97, 112]⟩ : ByteArray).toList) = false := by rw [beqL]; decide
      have t2 : ((⟨#[115, 108, 97, 98, 115]⟩ : ByteArray).toList == (⟨#[109, 97, 115, 115]⟩ : ByteArray).toList) = false := by rw [beqL]; decide
      have t3 : ((⟨#[115, 108, 97, 98, 115]⟩ : ByteArray).toList == (⟨#[115, 108, 97, 98, 115]⟩ : ByteArray).toList) = true := eq_q _
      have HZ := hide (show askB m (⟨#[115, 108, 97, 98, 115]⟩ : ByteArray) = idsB (piecesR m 0) by simp [askB, HVL.out, qB])
      have hpl := pieces_few (m := m) 0
      have HMB := hide (fun n h => mem_pieces (m := m) (s := 0) n h)
      have cA0 : w1.cell? ⟨w.heap.size, 0, none⟩ = some (.slice ao1 m.store.length cap1) := A_1.cell 0 (by simp)
      have cA1 : w1.cell? ⟨w.heap.size, 1, none⟩ = some (.int .i64 m.rule.lc) := A_1.cell 1 (by simp)
      have cA2 : w1.cell? ⟨w.heap.size, 2, none⟩ = some (.int .i64 m.rule.hc) := A_1.cell 2 (by simp)
      have cA3 : w1.cell? ⟨w.heap.size, 3, none⟩ = some (.int .i64 m.rule.lm) := A_1.cell 3 (by simp)
      have cA4 : w1.cell? ⟨w.heap.size, 4, none⟩ = some (.int .i64 m.rule.hm) := A_1.cell 4 (by simp)
      have cA5 : w1.cell? ⟨w.heap.size, 5, none⟩ = some (.int .i64 m.rule.ls) := A_1.cell 5 (by simp)
      have cA6 : w1.cell? ⟨w.heap.size, 6, none⟩ = some (.int .i64 m.rule.hs) := A_1.cell 6 (by simp)
      have cA7 : w1.cell? ⟨w.heap.size, 7, none⟩ = some (.int .i64 m.strand) := A_1.cell 7 (by simp)
      have cA8 : w1.cell? ⟨w.heap.size, 8, none⟩ = some (.slice ao2 m.pieces.length cap2) := A_1.cell 8 (by simp)
      have cA9 : w1.cell? ⟨w.heap.size, 9, none⟩ = some (.slice ao3 m.low.length cap3) := A_1.cell 9 (by simp)
      have cA10 : w1.cell? ⟨w.heap.size, 10, none⟩ = some (.slice ao4 m.high.length cap4) := A_1.cell 10 (by simp)
      have cA11 : w1.cell? ⟨w.heap.size, 11, none⟩ = some (.int .i64 m.scrap) := A_1.cell 11 (by simp)
      go_wp2_with fail
      have k2 := pieces_impl _ _ _ _ m 0 w1 V_1.out.all
      unfold millV at k2
      refine k2.mono ?_
      rintro e w2 ⟨v, rfl, own, hb⟩
      have hz2 := hb.size
      have B_2 := hide (Below.step B_1.out hb (Nat.le_refl _))
      have HP2 := hide (HP.out.stays B_2.out)
      have hat := ownI_at own rfl hz2
      obtain ⟨ids, hids⟩ : ∃ ids, piecesR m 0 = ids := ⟨_, rfl⟩
      rw [hids] at hat hpl HMB HZ own
      obtain ⟨aov, capv, rfl, -, -⟩ := own_slice own
      have HAT := hide hat
      clear hb k2 hat own hids cA0 cA1 cA2 cA3 cA4 cA5 cA6 cA7 cA8 cA9 cA10 cA11
      go_wp2_with fail
      refine (ids_text _ ids _ _ w2 HAT.out hpl HMB.out HP2.out).mono ?_
      rintro e w3 ⟨rfl, hb⟩
      have B_3 := hide (Below.step B_2.out hb (Nat.le_refl _))
      clear hb
      go_wp2_with fail
      go_ret
      exact ⟨by rw [HZ.out]; rfl, B_3.out⟩
    by_cases q4 : q = (⟨#[99, 111, 105, 108, 115]⟩ : ByteArray)
    · subst q4
      have t0 : ((⟨#[99, 111, 105, 108, 115]⟩ : ByteArray).toList == (⟨#[115, 116, 114, 97, 110, 100]⟩ : ByteArray).toList) = false := by rw [beqL]; decide
      have t1 : ((⟨#[99, 111, 105, 108, 115]⟩ : ByteArray).toList == (⟨#[115, 99, 114, 97, 112]⟩ : ByteArray).toList) = false := by rw [beqL]; decide
      have t2 : ((⟨#[99, 111, 105, 108, 115]⟩ : ByteArray).toList == (⟨#[109, 97, 115, 115]⟩ : ByteArray).toList) = false := by rw [beqL]; decide
      have t3 : ((⟨#[99, 111, 105, 108, 115]⟩ : ByteArray).toList == (⟨#[115, 108, 97, 98, 115]⟩ : ByteArray).toList) = false := by rw [beqL]; decide
      have t4 : ((⟨#[99, 111, 105, 108, 115]⟩ : ByteArray).toList == (⟨#[99, 111, 105, 108, 115]⟩ : ByteArray).toList) = true := eq_q _
      have HZ := hide (show askB m (⟨#[99, 111, 105, 108, 115]⟩ : ByteArray) = idsB (piecesR m 1) by simp [askB, HVL.out, qB])
      have hpl := pieces_few (m := m) 1
      have HMB := hide (fun n h => mem_pieces (m := m) (s := 1) n h)
      have cA0 : w1.cell? ⟨w.heap.size, 0, none⟩ = some (.slice ao1 m.store.length cap1) := A_1.cell 0 (by simp)
      have cA1 : w1.cell? ⟨w.heap.size, 1, none⟩ = some (.int .i64 m.rule.lc) := A_1.cell 1 (by simp)
      have cA2 : w1.cell? ⟨w.heap.size, 2, none⟩ = some (.int .i64 m.rule.hc) := A_1.cell 2 (by simp)
      have cA3 : w1.cell? ⟨w.heap.size, 3, none⟩ = some (.int .i64 m.rule.lm) := A_1.cell 3 (by simp)
      have cA4 : w1.cell? ⟨w.heap.size, 4, none⟩ = some (.int .i64 m.rule.hm) := A_1.cell 4 (by simp)
      have cA5 : w1.cell? ⟨w.heap.size, 5, none⟩ = some (.int .i64 m.rule.ls) := A_1.cell 5 (by simp)
      have cA6 : w1.cell? ⟨w.heap.size, 6, none⟩ = some (.int .i64 m.rule.hs) := A_1.cell 6 (by simp)
      have cA7 : w1.cell? ⟨w.heap.size, 7, none⟩ = some (.int .i64 m.strand) := A_1.cell 7 (by simp)
      have cA8 : w1.cell? ⟨w.heap.size, 8, none⟩ = some (.slice ao2 m.pieces.length cap2) := A_1.cell 8 (by simp)
      have cA9 : w1.cell? ⟨w.heap.size, 9, none⟩ = some (.slice ao3 m.low.length cap3) := A_1.cell 9 (by simp)
      have cA10 : w1.cell? ⟨w.heap.size, 10, none⟩ = some (.slice ao4 m.high.length cap4) := A_1.cell 10 (by simp)
      have cA11 : w1.cell? ⟨w.heap.size, 11, none⟩ = some (.int .i64 m.scrap) := A_1.cell 11 (by simp)
      go_wp2_with fail
      have k2 := pieces_impl _ _ _ _ m 1 w1 V_1.out.all
      unfold millV at k2
      refine k2.mono ?_
      rintro e w2 ⟨v, rfl, own, hb⟩
      have hz2 := hb.size
      have B_2 := hide (Below.step B_1.out hb (Nat.le_refl _))
      have HP2 := hide (HP.out.stays B_2.out)
      have hat := ownI_at own rfl hz2
      obtain ⟨ids, hids⟩ : ∃ ids, piecesR m 1 = ids := ⟨_, rfl⟩
      rw [hids] at hat hpl HMB HZ own
      obtain ⟨aov, capv, rfl, -, -⟩ := own_slice own
      have HAT := hide hat
      clear hb k2 hat own hids cA0 cA1 cA2 cA3 cA4 cA5 cA6 cA7 cA8 cA9 cA10 cA11
      go_wp2_with fail
      refine (ids_text _ ids _ _ w2 HAT.out hpl HMB.out HP2.out).mono ?_
      rintro e w3 ⟨rfl, hb⟩
      have B_3 := hide (Below.step B_2.out hb (Nat.le_refl _))
      clear hb
      go_wp2_with fail
      go_ret
      exact ⟨by rw [HZ.out]; rfl, B_3.out⟩
    by_cases q5 : q = (⟨#[103, 111, 110, 101]⟩ : ByteArray)
    · subst q5
      have t0 : ((⟨#[103, 111, 110, 101]⟩ : ByteArray).toList == (⟨#[115, 116, 114, 97, 110, 100]⟩ : ByteArray).toList) = false := by rw [beqL]; decide
      have t1 : ((⟨#[103, 111, 110, 101]⟩ : ByteArray).toList == (⟨#[115, 99, 114, 97, 112]⟩ : ByteArray).toList) = false := by rw [beqL]; decide
      have t2 : ((⟨#[103, 111, 110, 101]⟩ : ByteArray).toList == (⟨#[109, 97, 115, 115]⟩ : ByteArray).toList) = false := by rw [beqL]; decide
      have t3 : ((⟨#[103, 111, 110, 101]⟩ : ByteArray).toList == (⟨#[115, 108, 97, 98, 115]⟩ : ByteArray).toList) = false := by rw [beqL]; decide
      have t4 : ((⟨#[103, 111, 110, 101]⟩ : ByteArray).toList == (⟨#[99, 111, 105, 108, 115]⟩ : ByteArray).toList) = false := by rw [beqL]; decide
      have t5 : ((⟨#[103, 111, 110, 101]⟩ : ByteArray).toList == (⟨#[103, 111, 110, 101]⟩ : ByteArray).toList) = true := eq_q _
      have HZ := hide (show askB m (⟨#[103, 111, 110, 101]⟩ : ByteArray) = idsB (piecesR m 2) by simp [askB, HVL.out, qB])
      have hpl := pieces_few (m := m) 2
      have HMB := hide (fun n h => mem_pieces (m := m) (s := 2) n h)
      have cA0 : w1.cell? ⟨w.heap.size, 0, none⟩ = some (.slice ao1 m.store.length cap1) := A_1.cell 0 (by simp)
      have cA1 : w1.cell? ⟨w.heap.size, 1, none⟩ = some (.int .i64 m.rule.lc) := A_1.cell 1 (by simp)
      have cA2 : w1.cell? ⟨w.heap.size, 2, none⟩ = some (.int .i64 m.rule.hc) := A_1.cell 2 (by simp)
      have cA3 : w1.cell? ⟨w.heap.size, 3, none⟩ = some (.int .i64 m.rule.lm) := A_1.cell 3 (by simp)
      have cA4 : w1.cell? ⟨w.heap.size, 4, none⟩ = some (.int .i64 m.rule.hm) := A_1.cell 4 (by simp)
      have cA5 : w1.cell? ⟨w.heap.size, 5, none⟩ = some (.int .i64 m.rule.ls) := A_1.cell 5 (by simp)
      have cA6 : w1.cell? ⟨w.heap.size, 6, none⟩ = some (.int .i64 m.rule.hs) := A_1.cell 6 (by simp)
      have cA7 : w1.cell? ⟨w.heap.size, 7, none⟩ = some (.int .i64 m.strand) := A_1.cell 7 (by simp)
      have cA8 : w1.cell? ⟨w.heap.size, 8, none⟩ = some (.slice ao2 m.pieces.length cap2) := A_1.cell 8 (by simp)
      have cA9 : w1.cell? ⟨w.heap.size, 9, none⟩ = some (.slice ao3 m.low.length cap3) := A_1.cell 9 (by simp)
      have cA10 : w1.cell? ⟨w.heap.size, 10, none⟩ = some (.slice ao4 m.high.length cap4) := A_1.cell 10 (by simp)
      have cA11 : w1.cell? ⟨w.heap.size, 11, none⟩ = some (.int .i64 m.scrap) := A_1.cell 11 (by simp)
      go_wp2_with fail
      have k2 := pieces_impl _ _ _ _ m 2 w1 V_1.out.all
      unfold millV at k2
      refine k2.mono ?_
      rintro e w2 ⟨v, rfl, own, hb⟩
      have hz2 := hb.size
      have B_2 := hide (Below.step B_1.out hb (Nat.le_refl _))
      have HP2 := hide (HP.out.stays B_2.out)
      have hat := ownI_at own rfl hz2
      obtain ⟨ids, hids⟩ : ∃ ids, piecesR m 2 = ids := ⟨_, rfl⟩
      rw [hids] at hat hpl HMB HZ own
      obtain ⟨aov, capv, rfl, -, -⟩ := own_slice own
      have HAT := hide hat
      clear hb k2 hat own hids cA0 cA1 cA2 cA3 cA4 cA5 cA6 cA7 cA8 cA9 cA10 cA11
      go_wp2_with fail
      refine (ids_text _ ids _ _ w2 HAT.out hpl HMB.out HP2.out).mono ?_
      rintro e w3 ⟨rfl, hb⟩
      have B_3 := hide (Below.step B_2.out hb (Nat.le_refl _))
      clear hb
      go_wp2_with fail
      go_ret
      exact ⟨by rw [HZ.out]; rfl, B_3.out⟩
    by_cases q6 : q = (⟨#[103, 114, 97, 100, 101]⟩ : ByteArray)
    · subst q6
      have t0 : ((⟨#[103, 114, 97, 100, 101]⟩ : ByteArray).toList == (⟨#[115, 116, 114, 97, 110, 100]⟩ : ByteArray).toList) = false := by rw [beqL]; decide
      have t1 : ((⟨#[103, 114, 97, 100, 101]⟩ : ByteArray).toList == (⟨#[115, 99, 114, 97, 112]⟩ : ByteArray).toList) = false := by rw [beqL]; decide
      have t2 : ((⟨#[103, 114, 97, 100, 101]⟩ : ByteArray).toList == (⟨#[109, 97, 115, 115]⟩ : ByteArray).toList) = false := by rw [beqL]; decide
      have t3 : ((⟨#[103, 114, 97, 100, 101]⟩ : ByteArray).toList == (⟨#[115, 108, 97, 98, 115]⟩ : ByteArray).toList) = false := by rw [beqL]; decide
      have t4 : ((⟨#[103, 114, 97, 100, 101]⟩ : ByteArray).toList == (⟨#[99, 111, 105, 108, 115]⟩ : ByteArray).toList) = false := by rw [beqL]; decide
      have t5 : ((⟨#[103, 114, 97, 100, 101]⟩ : ByteArray).toList == (⟨#[103, 111, 110, 101]⟩ : ByteArray).toList) = false := by rw [beqL]; decide
      have t6 : ((⟨#[103, 114, 97, 100, 101]⟩ : ByteArray).toList == (⟨#[103, 114, 97, 100, 101]⟩ : ByteArray).toList) = true := eq_q _
      have HZ := hide (show askB m (⟨#[103, 114, 97, 100, 101]⟩ : ByteArray) = gradeB m.rule by simp [askB, HVL.out, qB])
      have k2 := grade_impl m.rule w1 HP1.out
      unfold grV at k2
      have cA1 : w1.cell? ⟨w.heap.size, 1, none⟩ = some (.int .i64 m.rule.lc) := A_1.cell 1 (by simp)
      have cA2 : w1.cell? ⟨w.heap.size, 2, none⟩ = some (.int .i64 m.rule.hc) := A_1.cell 2 (by simp)
      have cA3 : w1.cell? ⟨w.heap.size, 3, none⟩ = some (.int .i64 m.rule.lm) := A_1.cell 3 (by simp)
      have cA4 : w1.cell? ⟨w.heap.size, 4, none⟩ = some (.int .i64 m.rule.hm) := A_1.cell 4 (by simp)
      have cA5 : w1.cell? ⟨w.heap.size, 5, none⟩ = some (.int .i64 m.rule.ls) := A_1.cell 5 (by simp)
      have cA6 : w1.cell? ⟨w.heap.size, 6, none⟩ = some (.int .i64 m.rule.hs) := A_1.cell 6 (by simp)
      go_wp2_with fail
      refine k2.mono ?_
      rintro e w2 ⟨rfl, hb⟩
      have B_2 := hide (Below.step B_1.out hb (Nat.le_refl _))
      clear hb k2
      go_wp2_with fail
      go_ret
      exact ⟨by rw [HZ.out]; rfl, B_2.out⟩
    have t0 : (q.toList == [115, 116, 114, 97, 110, 100]) = false := by
      have h := ne_q q0
      rw [ByteArray.toList_eq (⟨#[115, 116, 114, 97, 110, 100]⟩ : ByteArray)] at h
      simpa using h
    have t1 : (q.toList == [115, 99, 114, 97, 112]) = false := by
      have h := ne_q q1
      rw [ByteArray.toList_eq (⟨#[115, 99, 114, 97, 112]⟩ : ByteArray)] at h
      simpa using h
    have t2 : (q.toList == [109, 97, 115, 115]) = false := by
      have h := ne_q q2
      rw [ByteArray.toList_eq (⟨#[109, 97, 115, 115]⟩ : ByteArray)] at h
      simpa using h
    have t3 : (q.toList == [115, 108, 97, 98, 115]) = false := by
      have h := ne_q q3
      rw [ByteArray.toList_eq (⟨#[115, 108, 97, 98, 115]⟩ : ByteArray)] at h
      simpa using h
    have t4 : (q.toList == [99, 111, 105, 108, 115]) = false := by
      have h := ne_q q4
      rw [ByteArray.toList_eq (⟨#[99, 111, 105, 108, 115]⟩ : ByteArray)] at h
      simpa using h
    have t5 : (q.toList == [103, 111, 110, 101]) = false := by
      have h := ne_q q5
      rw [ByteArray.toList_eq (⟨#[103, 111, 110, 101]⟩ : ByteArray)] at h
      simpa using h
    have t6 : (q.toList == [103, 114, 97, 100, 101]) = false := by
      have h := ne_q q6
      rw [ByteArray.toList_eq (⟨#[103, 114, 97, 100, 101]⟩ : ByteArray)] at h
      simpa using h
    have HZ := hide (show askB m q = whatB by simp [askB, HVL.out, qB, q0, q1, q2, q3, q4, q5, q6])
    clear q0 q1 q2 q3 q4 q5 q6
    go_wp2_with fail
    go_ret
    exact ⟨by rw [HZ.out]; rfl, B_1.out⟩
end Go.Proofs.YtbafifilklfafaaDoor
