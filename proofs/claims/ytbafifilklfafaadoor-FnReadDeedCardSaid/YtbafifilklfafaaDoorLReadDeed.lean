/-
  The walk over the law FnReadDeed: it answers true, whatever the code.
-/
import Derived.Test.YtbafifilklfafaaDoorDrawRD
import Derived.Test.YtbafifilklfafaaDoorPlainSp
import Derived.Test.YtbafifilklfafaaDoorLExactReadDeed
import Derived.Test.YtbafifilklfafaaDoorAlive
namespace Go.Proofs.YtbafifilklfafaaDoor
open Go.RowKit

set_option maxRecDepth 10000 in
set_option maxHeartbeats 1600000 in
theorem law_ReadDeed (v : Value) (n : Nat) (m : Int) (w : World) (h : BytesAt 0 w.heap.size w v n) (hm : w.cell? ⟨1, 0, none⟩ = some (.int .i64 m)) (hna : NamesIs w) (hpo : PowIs w) :
    Calls Tryd.prog 3 #[v] w fun e w' => e = .returned (.bool true) ∧ Below w.heap.size w w' := by
  have h1lt : 1 < w.heap.size := by
    rcases Nat.lt_or_ge 1 w.heap.size with h | h
    · exact h
    · simp [World.cell?, Array.getElem?_eq_none h] at hm
  obtain ⟨ao, cap, rfl, hnc, hcap, -, -⟩ := id h
  have HB := hide h
  clear h
  by_cases hlong : 1048576 < n
  · go_enter Tryd.func3, Tryd.ntmps3
    go_wp2_with fail
    go_ret
    exact ⟨rfl, by go_grown⟩
  go_enter Tryd.func3, Tryd.ntmps3
  go_wp2_with fail
  refine (drawReadDeed _ n _ HB.out).mono ?_
  rintro e w1 ⟨t, rfl, htl, hb1⟩
  have B_1 := hide hb1
  clear hb1
  go_wp2_with fail
  have hsp := fun W => readDeed_spec t W (by omega)
  refine (readDeed_impl t m w1 (by omega) (by rw [B_1.out.cell h1lt]; exact hm) (hna.stays B_1.out)).mono ?_
  rintro e w2 ⟨rfl, hb⟩
  have B_2 := hide (Below.step B_1.out hb (Nat.le_refl _))
  have hz2 := B_2.out.size
  have HT := hide (fun k o z => (rdI_iff (parts_cut t) k o z).1)
  clear hb
  obtain ⟨k, o, z, b, hd⟩ := deedV_form (rdI (partsB t))
  have hk : b = true → rdI (partsB t) = some (k, o, z) := by
    intro hb
    subst hb
    rcases hr : rdI (partsB t) with _ | ⟨k', o', z'⟩
    · rw [hr] at hd; simp [deedV] at hd
    · rw [hr] at hd; simp [deedV] at hd; obtain ⟨rfl, rfl, rfl⟩ := hd; rfl
  have hk0 : b = false → k = 0 ∧ o = 0 ∧ z = 0 := by
    intro hb
    subst hb
    rcases hr : rdI (partsB t) with _ | ⟨k', o', z'⟩
    · rw [hr] at hd; simp [deedV] at hd; exact ⟨hd.1.symm, hd.2.1.symm, hd.2.2.symm⟩
    · rw [hr] at hd; simp [deedV] at hd
  have HD := hide hd
  have HK := hide hk
  have HK0 := hide hk0
  rw [hd]
  clear hd hk hk0
  go_wp2_with fail
  refine calls_at fun y hwy => ?_
  have D_y : RowL y w2.heap.size 25 [.int .i64 k, .int .i64 o, .int .i64 z] := by rw [hwy]; exact RowL.new _ _ _
  have hby : Below w2.heap.size w2 y := by rw [hwy]; exact (Below.refl _ _).alloc (Nat.le_refl _) _
  clear hwy
  have B_y := hide (Below.step B_2.out hby (Nat.le_refl _))
  have hDy := D_y.lt
  clear hby
  refine (hsp y).mono ?_
  rintro e w3 ⟨⟨xs, hx, rfl⟩, hb⟩
  rw [rd_parts hx, HD.out]
  have B_3 := hide (Below.step B_y.out hb (Nat.le_refl _))
  have D_3 := D_y.below hb hDy
  have hz3 := B_3.out.size
  have hz32 : w2.heap.size < w3.heap.size := D_3.lt
  have c0 : w3.cell? ⟨w2.heap.size, 0, none⟩ = some (.int .i64 k) := D_3.cell 0 (by simp)
  have c1 : w3.cell? ⟨w2.heap.size, 1, none⟩ = some (.int .i64 o) := D_3.cell 1 (by simp)
  have c2 : w3.cell? ⟨w2.heap.size, 2, none⟩ = some (.int .i64 z) := D_3.cell 2 (by simp)
  clear hb hx hsp
  cases b with
  | false =>
    obtain ⟨rfl, rfl, rfl⟩ := HK0.out rfl
    go_wp2_with fail
    refine (alive_any _).mono ?_
    rintro e w9 ⟨rfl, hb9⟩
    have HB9 := hide (Below.step (B_3.out.alloc hz3 (.cells #[.int .i64 0, .int .i64 0, .int .i64 0] 25)) hb9 (Nat.le_refl _))
    clear hb9
    go_wp2_with fail
    go_ret
    exact ⟨rfl, HB9.out⟩
  | true =>
    obtain ⟨ht0, htt⟩ := HT.out k o z (HK.out rfl)
    have HTT := hide htt
    have hsum : ¬ 9223372036854775807 < t.size + (⟨#[32]⟩ : ByteArray).size := by rw [show (⟨#[32]⟩ : ByteArray).size = 1 from rfl]; omega
    clear ht0 htt
    go_wp2_with fail
    refine calls_at fun y2 hwy => ?_
    have D_4 : RowL y2 w2.heap.size 25 [.int .i64 k, .int .i64 o, .int .i64 z] := by rw [hwy]; exact D_3.alloc _
    have hby : Below w3.heap.size w3 y2 := by rw [hwy]; exact (Below.refl _ _).alloc (Nat.le_refl _) _
    clear hwy c0 c1 c2
    have B_4 := hide (Below.step B_3.out hby (Nat.le_refl _))
    have hD4 := D_4.lt
    clear hby
    with_reducible refine (readDeed_impl (t ++ ⟨#[32]⟩) m y2 (by rw [ByteArray.size_append, show (⟨#[32]⟩ : ByteArray).size = 1 from rfl]; omega) (by rw [B_4.out.cell h1lt]; exact hm) (hna.stays B_4.out)).mono ?_
    rw [rd_space]
    rintro e w5 ⟨rfl, hb⟩
    have B_5 := hide (Below.step B_4.out hb (Nat.le_refl _))
    have hz5 := B_5.out.size
    have D_5 := D_4.below hb hD4
    have hD5 := D_5.lt
    have c0 : w5.cell? ⟨w2.heap.size, 0, none⟩ = some (.int .i64 k) := D_5.cell 0 (by simp)
    have c1 : w5.cell? ⟨w2.heap.size, 1, none⟩ = some (.int .i64 o) := D_5.cell 1 (by simp)
    have c2 : w5.cell? ⟨w2.heap.size, 2, none⟩ = some (.int .i64 z) := D_5.cell 2 (by simp)
    clear hb hsum
    simp only [deedV]
    go_wp2_with fail
    have HW := hide (B_5.out.alloc hz5 (.cells #[.int .i64 0, .int .i64 0, .int .i64 0] 25))
    refine (dt_impl k o z _ (hna.stays HW.out) (hpo.stays HW.out)).mono ?_
    rw [HTT.out]
    rintro e w6 ⟨rfl, hb⟩
    have B_6 := hide (Below.step HW.out hb (Nat.le_refl _))
    clear hb
    go_wp2_with fail
    go_ret
    exact ⟨by simp, B_6.out⟩
end Go.Proofs.YtbafifilklfafaaDoor
