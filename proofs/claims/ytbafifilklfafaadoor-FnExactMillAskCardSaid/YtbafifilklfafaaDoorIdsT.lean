/-
  The walk over idsText of the program.
-/
import Derived.Test.YtbafifilklfafaaDoorGradeT
namespace Go.Proofs.YtbafifilklfafaaDoor
open Go.RowKit

theorem joinN_len {ids : List Int} (h : ∀ n ∈ ids, 0 ≤ n ∧ n ≤ 999) (hl : ids.length ≤ 30) : (joinN ids).size ≤ 660 := by
  have := joinN_size (B := 21) ids (fun n hn => num_999 (h n hn).1 (h n hn).2)
  have : ids.length * 22 ≤ 30 * 22 := Nat.mul_le_mul_right _ hl
  omega
theorem joinN_data (ids : List Int) : (⟨(Lib.join ((ids.map numB).map (·.data.toList)) (⟨#[44]⟩ : ByteArray).data.toList).toArray⟩ : ByteArray) = joinN ids := by
  simp [joinN, Function.comp_def]
theorem info_str : (Tryd.prog.info? 9).map (fun i => (i.zero, i.size, i.bytes)) = some (some (.string ⟨#[]⟩), 1, 16) := by kernel_rfl
theorem rowL_strs (w : World) (n : Nat) : RowL (w.alloc (.cells (madeCells #[.string ⟨#[]⟩] n) 9)) w.heap.size 9 (List.replicate n (.string ⟨#[]⟩)) := by
  have h := World.rowIs_made w (.string ⟨#[]⟩) n 9
  unfold RowL
  rw [List.length_replicate]
  exact h.congr fun i hi => by simp [hi]
theorem take_all_of {α : Type} {l : List α} {k : Nat} (h : k = l.length) : l.take k = l := by subst h; simp

set_option linter.unusedSimpArgs false in
set_option maxRecDepth 10000 in
set_option maxHeartbeats 1600000 in
theorem ids_text (v : Value) (ids : List Int) (lo hi : Nat) (w : World) (H : IntsAt lo hi w v ids) (hl : ids.length ≤ 30) (hb : ∀ n ∈ ids, 0 ≤ n ∧ n ≤ 999) (hp : PowIs w) :
    Calls Tryd.prog 56 #[v] w fun e w' => e = .returned (.string (idsB ids)) ∧ Below w.heap.size w w' := by
  have HI := hide H
  have HB := hide hb
  have HP := hide hp
  obtain ⟨ao, cap, rfl, -, -, -, -⟩ := H
  clear hb hp
  by_cases h0 : ids = []
  · subst h0
    go_enter Tryd.func56, Tryd.ntmps56
    go_wp2_with fail
    go_ret
    exact ⟨by simp [idsB]; rfl, Below.refl _ _⟩
  have hlB : ((ids.length : Int) == 0) = false := by
    rw [beq_eq_false_iff_ne]
    have : ids.length ≠ 0 := fun e => h0 (List.length_eq_zero_iff.1 e)
    omega
  have HZ := hide (show idsB ids = joinN ids by simp [idsB, h0])
  clear h0
  have hmk := fun W => make_rowN (P := Tryd.prog) 61 9 _ _ _ Tryd.underlying61 info_str .i64 .i64 ids.length (by omega) (by omega) W
  go_enter Tryd.func56, Tryd.ntmps56
  go_wp2_with fail
  clear hmk
  go_loopw [14] (fun i wr => ∃ (k : Nat) (vs : List Value), k ≤ ids.length ∧ i = .int .i64 (k : Int) ∧ Below w.heap.size w wr ∧ RowL wr w.heap.size 9 vs ∧ vs.length = ids.length ∧ ∀ j, j < k → vs[j]? = some (.string (numB (ids.getD j 0)))) (fun i _ => ids.length - (intOf i).toNat)
  case atStart => exact ⟨0, _, Nat.zero_le _, rfl, (Below.refl _ _).alloc (Nat.le_refl _) _, rowL_strs w _, by simp, fun j h => absurd h (Nat.not_lt_zero _)⟩
  case round =>
    obtain ⟨k, vs, hk, rfl, hbw, hrow, hvl, hvs⟩ := hrel
    have HVS := hide hvs
    have HR := hide hrow
    have HW := hide hbw
    have hGl := hrow.lt
    clear hvs
    by_cases hlt : k < ids.length
    · obtain ⟨ao2, cap2, e1, -, -, -, hc⟩ := HI.out.below hbw
      obtain ⟨b1, o1, rfl, -, -, hcs⟩ := hc (by omega)
      cases e1
      have c0 := (hcs k hlt).1
      rw [show ids[k] = ids.getD k 0 by simp [hlt]] at c0
      clear hc hcs
      obtain ⟨x, hx⟩ : ∃ x, ids.getD k 0 = x := ⟨_, rfl⟩
      have hxb := HB.out x (by rw [← hx, List.getD_eq_getElem?_getD, List.getElem?_eq_getElem hlt]; exact List.getElem_mem _)
      rw [hx] at c0
      have HX := hide hx
      have hkI : (k : Int) < (ids.length : Int) := by omega
      have hk0 : (0 : Int) ≤ (k : Int) := by omega
      have hw1 : IntKind.i64.wrap ((k : Int) + 1) = ((k + 1 : Nat) : Int) := by rw [show (k : Int) + 1 = ((k + 1 : Nat) : Int) by omega]; exact IntWalk.i64_in _ (by omega)
      clear hx hbw hrow
      go_wp2_with fail
      refine (itoa_any x (by omega) (by omega) wr (HP.out.stays HW.out)).mono ?_
      rintro e w1 ⟨rfl, hb1⟩
      have R1 := HR.out.below hb1 hGl
      have cG := R1.cell k (by omega)
      have fG := R1.frozen k
      have HR1 := hide R1
      have HB1 := hide (Below.step HW.out hb1 (Nat.le_refl _))
      clear R1 hb1
      go_wp2_with fail
      go_roundw
      case rel =>
        refine ⟨k + 1, vs.set k (.string (numB x)), by omega, by go_num, HB1.out.setCell (Nat.le_refl _) _, HR1.out.set k _ (by omega), by simpa using hvl, fun j hj => ?_⟩
        by_cases e : j = k
        · subst e
          rw [List.getElem?_set, if_pos rfl, if_pos (by omega), HX.out]
        · rw [List.getElem?_set, if_neg (fun h => e h.symm)]
          exact HVS.out j (by omega)
      case measure => simp [intOf]; omega
    · obtain rfl : k = ids.length := by omega
      have hkI : ¬ (ids.length : Int) < (ids.length : Int) := by omega
      have hjl := joinN_len HB.out hl
      have hJ := Tryd.strings_Join w.heap.size 0 ids.length (ids.map numB) ⟨#[44]⟩ wr (fun j y hy => by
        obtain ⟨n, hn, rfl⟩ : ∃ n, ids[j]? = some n ∧ numB n = y := by simpa using hy
        have hj : j < ids.length := (List.getElem?_eq_some_iff.1 hn).1
        rw [Nat.zero_add, HR.out.cell j (by omega)]
        have := HVS.out j hj
        rw [List.getD_eq_getElem?_getD, this]
        simp [hn]) hGl (by simp; omega) (by simp) (by
        have e := congrArg ByteArray.size (joinN_data ids)
        have e2 : (Lib.join ((ids.map numB).map (·.data.toList)) (⟨#[44]⟩ : ByteArray).data.toList).length = (joinN ids).size := by rw [← e]; simp [ByteArray.size]
        rw [e2]; omega)
      rw [joinN_data, List.length_map] at hJ
      have HJ := hide hJ
      clear hJ hjl hbw hrow
      go_wp2_with fail
      refine HJ.out.mono ?_
      rintro e w1 ⟨rfl, hb1⟩
      have HB1 := hide (Below.step HW.out hb1 (Nat.le_refl _))
      clear hb1
      go_wp2_with fail
      go_ret
      exact ⟨by rw [HZ.out]; rfl, HB1.out⟩
end Go.Proofs.YtbafifilklfafaaDoor
