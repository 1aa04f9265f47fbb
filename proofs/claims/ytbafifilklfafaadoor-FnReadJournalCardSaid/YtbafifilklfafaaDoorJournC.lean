/-
  JournalText of both: the walks.
-/
import Derived.Test.YtbafifilklfafaaDoorPlainJ
import Derived.Test.YtbafifilklfafaaDoorBuild
import Derived.Test.YtbafifilklfafaaDoorMillOwn
import Derived.Test.YtbafifilklfafaaDoorMore
namespace Go.Proofs.YtbafifilklfafaaDoor
open Go.RowKit

theorem dtJ_len (d : J) : (dtJ d).size ≤ 60 := by
  unfold dtJ dtB
  split
  · rename_i h
    simp only [Bool.and_eq_true, wi_iff] at h
    obtain ⟨-, h2, h3, -⟩ := h
    have n1 := name_len d.s
    have n2 := numB_len d.d (by omega) (by omega)
    have n3 := numB_len d.g (by omega) (by omega)
    have n4 : spB.size = 1 := rfl
    split
    · simp only [ByteArray.size_append]; omega
    · simp only [ByteArray.size_append]; omega
  · exact Nat.zero_le _
theorem textTo_len (l : List J) : ∀ k, (textTo l k).size ≤ 61 * k
  | 0 => by show (⟨#[]⟩ : ByteArray).size ≤ 0; decide
  | k + 1 => by
    have h1 := textTo_len l k
    have h2 := dtJ_len (l.getD k ⟨0, 0, 0⟩)
    have h3 : nlB.size = 1 := rfl
    simp only [textTo, ByteArray.size_append]; omega
theorem jt_of {l : List J} (h1 : l.length ≤ 99) (h2 : ∀ k, k < l.length → goodJ (l.getD k ⟨0, 0, 0⟩) = true) : jtR l = textTo l l.length := by
  unfold jtR
  rw [if_pos]
  rw [Bool.and_eq_true, decide_eq_true_iff, List.all_eq_true]
  refine ⟨h1, fun d hd => ?_⟩
  obtain ⟨k, hk, rfl⟩ := List.getElem_of_mem hd
  have := h2 k hk
  rwa [List.getD_eq_getElem?_getD, List.getElem?_eq_getElem hk] at this
theorem jt_bad {l : List J} {k : Nat} (hk : k < l.length) (h2 : goodJ (l.getD k ⟨0, 0, 0⟩) = false) : jtR l = ⟨#[]⟩ := by
  unfold jtR
  rw [if_neg]
  rw [Bool.and_eq_true, List.all_eq_true]
  rintro ⟨-, h⟩
  have := h _ (List.getElem_mem hk)
  rw [List.getD_eq_getElem?_getD, List.getElem?_eq_getElem hk] at h2
  rw [show goodJ l[k] = false from h2] at this
  cases this
theorem jt_long {l : List J} (h : 99 < l.length) : jtR l = ⟨#[]⟩ := by
  unfold jtR
  rw [if_neg]
  rw [Bool.and_eq_true, decide_eq_true_iff]
  omega
theorem good_size {d : J} : (dtJ d).toList.isEmpty = !goodJ d := by
  unfold goodJ
  rw [ByteArray.toList_eq]
  cases h : (dtJ d).data.toList with
  | nil =>
    have : (dtJ d).size = 0 := by rw [← size_len, h]; rfl
    simp [this]
  | cons a l =>
    have : (dtJ d).size ≠ 0 := by rw [← size_len, h]; simp
    simp [this]
theorem Bld_below {B b : Nat} {bs : List Value} {w w' : World} {T e : TypeId} (h : Lib.IsBuilder T e B b bs w) (k : Below w.heap.size w w') : Lib.IsBuilder T e B b bs w' := by
  have go : ∀ p, Lib.BuilderAt T e B b p bs w → Lib.BuilderAt T e B b p bs w' := fun p h => by
    have hlt := h.lt
    obtain ⟨hB, v, hb, ho, hn⟩ := h
    exact ⟨hB, v, by rw [k.block b hlt]; exact hb, ownsRow_below ho k (Nat.le_refl _), hn⟩
  exact h.imp (go _) (go _)
theorem bytes_app (a : ByteArray) (s : ByteArray) : Lib.byteCells a.data.toList ++ Lib.strCells s = Lib.byteCells (a ++ s).data.toList := by
  rw [ByteArray.data_append, Array.toList_append]
  show _ = List.map _ _
  rw [List.map_append]; rfl

set_option maxRecDepth 10000 in
set_option maxHeartbeats 1600000 in
theorem journalText_impl (v : Value) (js : List J) (lo hi : Nat) (w : World) (H : JobsAt lo hi w v js) (hna : NamesIs w) (hpo : PowIs w) :
    Calls Tryd.prog 15 #[v] w fun e w' => e = .returned (.string (jtR js)) ∧ Below w.heap.size w w' := by
  have hjl := H.len
  obtain ⟨ao, cap, rfl, hlc, hcap, hhi, hc⟩ := H
  have HC := hide hc
  clear hc
  go_enter Tryd.func15, Tryd.ntmps15
  by_cases hlong : 99 < js.length
  · have hlI : (99 : Int) < (js.length : Int) := by omega
    go_wp2_with fail
    go_ret
    exact ⟨by rw [jt_long hlong]; rfl, by go_grown⟩
  have hlI : ¬ (99 : Int) < (js.length : Int) := by omega
  go_wp2_with fail
  go_loopw [5, 6, 12] (fun _ _ i wr => ∃ k : Nat, k ≤ js.length ∧ i = .int .i64 k ∧ Below w.heap.size w wr ∧ (∀ j, j < k → goodJ (js.getD j ⟨0, 0, 0⟩) = true) ∧ Lib.IsBuilder 77 5 w.heap.size w.heap.size (Lib.byteCells (textTo js k).data.toList) wr) (fun _ _ i _ => js.length - (intOf i).toNat)
  case atStart => exact ⟨0, Nat.zero_le _, rfl, by go_grown, fun _ h => absurd h (Nat.not_lt_zero _), Lib.fresh_isBuilder _ _ w⟩
  case round =>
    obtain ⟨k, hk, rfl, hb, hall, hbl⟩ := hrel
    have HB := hide hb
    have HA := hide hall
    have HL := hide hbl
    have hz := hb.size
    clear hall hbl
    by_cases hlt : k < js.length
    · obtain ⟨b, o, rfl, -, hblt, hcs⟩ := HC.out (by omega)
      obtain ⟨⟨r1, r2, r3⟩, -⟩ := hcs k hlt
      rw [← hb.cell (p := ⟨b, _, none⟩) (Nat.lt_of_lt_of_le hblt hhi)] at r1 r2 r3
      have hg : js.getD k ⟨0, 0, 0⟩ = js[k] := by simp [hlt]
      obtain ⟨x, hx⟩ : ∃ x, js[k].s = x := ⟨_, rfl⟩
      obtain ⟨y, hy⟩ : ∃ y, js[k].d = y := ⟨_, rfl⟩
      obtain ⟨z, hz'⟩ : ∃ z, js[k].g = z := ⟨_, rfl⟩
      have hd : js.getD k ⟨0, 0, 0⟩ = ⟨x, y, z⟩ := by rw [hg, ← hx, ← hy, ← hz']
      rw [hx] at r1
      rw [hy] at r2
      rw [hz'] at r3
      have hkI : (k : Int) < (js.length : Int) := by omega
      have HD := hide hd
      have HN := hide (hna.stays (HB.out.alloc hz (.cells #[.int .i64 x, .int .i64 y, .int .i64 z] 25)))
      have HP := hide (hpo.stays (HB.out.alloc hz (.cells #[.int .i64 x, .int .i64 y, .int .i64 z] 25)))
      clear hcs hx hy hz' hg hd hb
      go_wp2_with fail
      refine (dt_impl x y z _ HN.out HP.out).mono ?_
      rintro e w1 ⟨rfl, hb1⟩
      have hba : Below wr.heap.size wr w1 := Below.step ((Below.refl _ wr).alloc (Nat.le_refl _) (.cells #[.int .i64 x, .int .i64 y, .int .i64 z] 25)) hb1 (Nat.le_refl _)
      have HB1 := hide (Below.step HB.out hba (Nat.le_refl _))
      have HL1 := hide (Bld_below HL.out hba)
      have hz1 := HB1.out.size
      have he := good_size (d := ⟨x, y, z⟩)
      obtain ⟨D, hD⟩ : ∃ D : ByteArray, dtB x y z = D := ⟨_, rfl⟩
      have hDj : dtJ ⟨x, y, z⟩ = D := hD
      rw [hDj] at he
      rw [hD]
      have hDl : D.size ≤ 60 := by rw [← hDj]; exact dtJ_len _
      have htl := textTo_len js k
      have HT := hide (show textTo js (k + 1) = textTo js k ++ D ++ nlB by rw [textTo, HD.out, hDj])
      clear hb1 hba HN HP r1 r2 r3 hD
      cases hgd : goodJ ⟨x, y, z⟩ with
      | false =>
        rw [hgd] at he
        have HJ := hide (jt_bad hlt (by rw [HD.out]; exact hgd))
        clear hDj hgd
        go_wp2_with fail
        go_ret
        exact ⟨by rw [HJ.out]; rfl, HB1.out⟩
      | true =>
        rw [hgd] at he
        have HA2 := hide (upTo_snoc HA.out (by rw [HD.out]; exact hgd))
        clear hDj hgd
        go_wp2_with fail
        refine (writeString_any _ _ _ D w1 HL1.out (by rw [Lib.byteCells, List.length_map, size_len]; omega) hz1).mono ?_
        rintro e w2 ⟨rfl, hbu, hb2⟩
        have HB2 := hide (HB1.out.trans hb2)
        have hz2 := HB2.out.size
        rw [bytes_app] at hbu
        have HU := hide hbu
        clear hbu hb2
        go_wp2_with fail
        refine (writeByte_any _ _ _ 10 w2 (.inr HU.out) (by rw [Lib.byteCells, List.length_map, size_len, ByteArray.size_append]; omega) hz2).mono ?_
        rintro e w3 ⟨rfl, hbu, hb3⟩
        have HB3 := hide (HB2.out.trans hb3)
        have HU3 := hide (show Lib.IsBuilder 77 5 w.heap.size w.heap.size (Lib.byteCells (textTo js (k + 1)).data.toList) w3 by
          rw [HT.out, ← bytes_app _ nlB]
          exact .inr hbu)
        clear hbu hb3
        go_wp2_with fail
        go_roundw
        case rel => exact ⟨k + 1, by omega, by go_num, HB3.out, HA2.out, HU3.out⟩
        case measure => simp [intOf]; omega
    · obtain rfl : k = js.length := by omega
      have HJ := hide (jt_of (by omega) HA.out)
      clear hb
      go_wp2_with fail
      refine (Tryd.Builder_String_any _ _ _ wr HL.out hz).mono ?_
      rintro e w1 ⟨rfl, hb1⟩
      have HB1 := hide (HB.out.trans hb1)
      clear hb1
      go_wp2_with fail
      go_ret
      exact ⟨by rw [HJ.out]; rfl, HB1.out⟩

set_option maxRecDepth 10000 in
set_option maxHeartbeats 1600000 in
theorem journalText_spec (v : Value) (js : List J) (lo hi : Nat) (w : World) (H : JobsAt lo hi w v js) :
    Calls Tryd.prog 37 #[v] w fun e w' => e = .returned (.string (jtR js)) ∧ Below w.heap.size w w' := by
  have hjl := H.len
  obtain ⟨ao, cap, rfl, hlc, hcap, hhi, hc⟩ := H
  have HC := hide hc
  clear hc
  go_enter Tryd.func37, Tryd.ntmps37
  go_wp2_with fail
  go_loopw [3, 4] (fun s i wr => ∃ k : Nat, k ≤ js.length ∧ i = .int .i64 k ∧ s = .string (textTo js k) ∧ Below w.heap.size w wr ∧ (∀ j, j < k → goodJ (js.getD j ⟨0, 0, 0⟩) = true) ∧ (k = 0 ∨ js.length ≤ 99)) (fun _ i _ => js.length - (intOf i).toNat)
  case atStart => exact ⟨0, Nat.zero_le _, rfl, rfl, Below.refl _ _, fun _ h => absurd h (Nat.not_lt_zero _), .inl rfl⟩
  case round =>
    obtain ⟨k, hk, rfl, rfl, hb, hall, hko⟩ := hrel
    have HB := hide hb
    have HA := hide hall
    have HK := hide hko
    clear hall hko
    by_cases hlt : k < js.length
    · obtain ⟨b, o, rfl, -, hblt, hcs⟩ := HC.out (by omega)
      obtain ⟨⟨r1, r2, r3⟩, -⟩ := hcs k hlt
      rw [← hb.cell (p := ⟨b, _, none⟩) (Nat.lt_of_lt_of_le hblt hhi)] at r1 r2 r3
      have hg : js.getD k ⟨0, 0, 0⟩ = js[k] := by simp [hlt]
      obtain ⟨x, hx⟩ : ∃ x, js[k].s = x := ⟨_, rfl⟩
      obtain ⟨y, hy⟩ : ∃ y, js[k].d = y := ⟨_, rfl⟩
      obtain ⟨z, hz'⟩ : ∃ z, js[k].g = z := ⟨_, rfl⟩
      have hd : js.getD k ⟨0, 0, 0⟩ = ⟨x, y, z⟩ := by rw [hg, ← hx, ← hy, ← hz']
      rw [hx] at r1
      rw [hy] at r2
      rw [hz'] at r3
      have hkI : (k : Int) < (js.length : Int) := by omega
      have HD := hide hd
      have hbb : b < wr.heap.size := Nat.lt_of_lt_of_le (Nat.lt_of_lt_of_le hblt hhi) hb.size
      clear hcs hx hy hz' hg hd hb
      go_wp2_with fail
      refine (dt_spec x y z _).mono ?_
      rintro e w1 ⟨rfl, hb1⟩
      rw [← hb1.cell (p := ⟨b, _, none⟩) hbb] at r1 r2 r3
      have HB1 := hide (Below.step HB.out hb1 (Nat.le_refl _))
      have hds := dt_spec x y z w1
      have he := good_size (d := ⟨x, y, z⟩)
      obtain ⟨D, hD⟩ : ∃ D : ByteArray, dtB x y z = D := ⟨_, rfl⟩
      have hDj : dtJ ⟨x, y, z⟩ = D := hD
      rw [hDj] at he
      rw [hD] at hds ⊢
      have hDl : D.size ≤ 60 := by rw [← hDj]; exact dtJ_len _
      have htl := textTo_len js k
      have HT := hide (show textTo js (k + 1) = textTo js k ++ D ++ nlB by rw [textTo, HD.out, hDj])
      clear hb1 hD
      cases hgd : goodJ ⟨x, y, z⟩ with
      | false =>
        rw [hgd] at he
        have HJ := hide (jt_bad hlt (by rw [HD.out]; exact hgd))
        clear hDj hgd
        go_wp2_with fail
        go_ret
        exact ⟨by rw [HJ.out]; rfl, HB1.out⟩
      | true =>
        rw [hgd] at he
        have HA2 := hide (upTo_snoc HA.out (by rw [HD.out]; exact hgd))
        clear hDj hgd
        by_cases hlong : 99 < js.length
        · have hlI : (99 : Int) < (js.length : Int) := by omega
          have HJ := hide (jt_long hlong)
          go_wp2_with fail
          go_ret
          exact ⟨by rw [HJ.out]; rfl, HB1.out⟩
        have hlI : ¬ (99 : Int) < (js.length : Int) := by omega
        go_wp2_with fail
        refine hds.mono ?_
        rintro e w2 ⟨rfl, hb2⟩
        have HB2 := hide (Below.step HB1.out hb2 (Nat.le_refl _))
        have hs1 : ¬ 9223372036854775807 < (textTo js k).size + D.size := by omega
        have hs2 : ¬ 9223372036854775807 < (textTo js k ++ D).size + (⟨#[10]⟩ : ByteArray).size := by
          rw [ByteArray.size_append, show (⟨#[10]⟩ : ByteArray).size = 1 from rfl]; omega
        clear hb2 hds r1 r2 r3
        go_wp2_with fail
        go_roundw
        case rel => exact ⟨k + 1, by omega, by go_num, by rw [HT.out]; rfl, HB2.out, HA2.out, .inr (by omega)⟩
        case measure => simp [intOf]; omega
    · obtain rfl : k = js.length := by omega
      have HJ := hide (show jtR js = textTo js js.length from jt_of (by rcases HK.out with h | h <;> omega) HA.out)
      clear hb
      go_wp2_with fail
      go_ret
      exact ⟨by rw [HJ.out]; rfl, HB.out⟩
end Go.Proofs.YtbafifilklfafaaDoor
