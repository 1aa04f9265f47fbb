/-
  impl.ReadDeed: the walk.
-/
import Derived.Test.YtbafifilklfafaaDoorTextB
import Derived.Lib.SplitLaws
namespace Go.Proofs.YtbafifilklfafaaDoor
open Go.RowKit

/-- What stands between the spaces of a text. -/
def partsB (s : ByteArray) : List ByteArray := Lib.splitB spB 0 (Lib.countB s spB) s
theorem parts_len (s : ByteArray) : (partsB s).length = Lib.countB s spB + 1 := Lib.splitB_all spB (by decide) 0 _ s rfl
theorem splitB_le (sep : ByteArray) (save : Nat) : ∀ (k : Nat) (s : ByteArray), ∀ p ∈ Lib.splitB sep save k s, p.size ≤ s.size
  | 0, s => by intro p hp; rw [Lib.splitB_zero] at hp; simp at hp; rw [hp]; exact Nat.le_refl _
  | k + 1, s => by
    intro p hp
    unfold Lib.splitB at hp
    split at hp
    · simp at hp; rw [hp]; exact Nat.le_refl _
    · rcases List.mem_cons.1 hp with h | h
      · rw [h, ByteArray.size_extract]; omega
      · have := splitB_le sep save k _ p h
        rw [ByteArray.size_extract] at this
        omega
theorem parts_le (s : ByteArray) : ∀ p ∈ partsB s, p.size ≤ s.size := splitB_le spB 0 _ s

/-- A deed, or none, with the report. -/
def deedV : Option (Int × Int × Int) → Value
  | none => .tuple #[.agg #[.int .i64 0, .int .i64 0, .int .i64 0], .bool false]
  | some (k, o, t) => .tuple #[.agg #[.int .i64 k, .int .i64 o, .int .i64 t], .bool true]
/-- What impl.ReadDeed makes of the parts. -/
def rdI (L : List ByteArray) : Option (Int × Int × Int) :=
  let k := kindB (L.getD 0 ⟨#[]⟩)
  if k < 0 then none else if L.length ≠ (if twoB k then 3 else 2) then none else
    match rdNum (L.getD 1 ⟨#[]⟩) with
    | none => none
    | some n => if twoB k then (match rdNum (L.getD 2 ⟨#[]⟩) with | none => none | some m => some (k, n, m)) else some (k, n, 0)

/-- A row of strings. -/
def StrsAt (w : World) (b : Nat) (L : List ByteArray) : Prop := b < w.heap.size ∧ ∀ i (h : i < L.length), w.cell? ⟨b, i, none⟩ = some (.string L[i])

theorem split_any (s : ByteArray) (m : Int) (w : World) (hs : s.size < 4294967281) (hm : w.cell? ⟨1, 0, none⟩ = some (.int .i64 m)) :
    Calls Tryd.prog 26 #[.string s, .string ⟨#[32]⟩] w fun e w' => e = .returned (.slice (some ⟨w.heap.size, 0, none⟩) (partsB s).length (partsB s).length) ∧ StrsAt w' w.heap.size (partsB s) ∧ Below w.heap.size w w' := by
  refine (Tryd.strings_Split s spB m w hs hm (by decide)).mono ?_
  rintro e w' ⟨rfl, rfl⟩
  rw [parts_len]
  refine ⟨rfl, ⟨by simp, fun i hi => ?_⟩, (Below.refl _ _).alloc (Nat.le_refl _) _⟩
  rw [Go.Joins.cell_alloc_mark_at _ _ _ _ _ _ rfl]
  simp [partsB] at hi ⊢
  first | (rw [List.getElem?_eq_getElem hi]; done) | (rw [List.getElem?_eq_getElem hi]; rfl) | skip

theorem kindB_range (s : ByteArray) : -1 ≤ kindB s ∧ kindB s ≤ 4 := by
  unfold kindB
  repeat' split
  all_goals omega

theorem old_alloc {r : Nat} (W : World) (o : Obj) (i : Nat) (h : r < W.heap.size) : (W.alloc o).cell? ⟨r, i, none⟩ = W.cell? ⟨r, i, none⟩ := by
  simp only [World.cell?, World.alloc, Array.getElem?_push, Nat.ne_of_lt h, if_false]
set_option linter.unusedSimpArgs false in
set_option maxRecDepth 10000 in
set_option maxHeartbeats 800000 in
theorem readDeed_impl (s : ByteArray) (m : Int) (w : World) (hs : s.size < 4294967281) (hm : w.cell? ⟨1, 0, none⟩ = some (.int .i64 m)) (hna : NamesIs w) :
    Calls Tryd.prog 7 #[.string s] w fun e w' => e = .returned (deedV (rdI (partsB s))) ∧ Below w.heap.size w w' := by
  have h1lt : 1 < w.heap.size := by
    rcases Nat.lt_or_ge 1 w.heap.size with h | h
    · exact h
    · simp [World.cell?, Array.getElem?_eq_none h] at hm
  have hpl := parts_len s
  obtain ⟨L, hL⟩ : ∃ L, partsB s = L := ⟨_, rfl⟩
  have hle := parts_le s
  have hsp := fun W h => split_any s m W hs h
  rw [hL] at hpl hle
  simp only [hL] at hsp
  rw [hL]
  clear hL
  have hl1 : 1 ≤ L.length := by omega
  clear hpl
  obtain ⟨a0, ha0⟩ : ∃ a, L.getD 0 ⟨#[]⟩ = a := ⟨_, rfl⟩
  have ha0' : L[0]'hl1 = a0 := by rw [← ha0]; simp [List.getD, List.getElem?_eq_getElem hl1]
  obtain ⟨k, hk⟩ : ∃ k, kindB a0 = k := ⟨_, rfl⟩
  have hkr := kindB_range a0
  rw [hk] at hkr
  have hK := fun W h => kindNamed_any a0 W h
  rw [hk] at hK
  have HL := hide hle
  have HS := hide hsp
  have HK := hide hK
  have HA0 := hide ha0
  have HA0' := hide ha0'
  have HKK := hide hk
  clear hle hsp hK ha0 ha0' hk
  go_enter Tryd.func7, Tryd.ntmps7
  go_wp2_with fail
  obtain ⟨wx, hwx⟩ : ∃ wx, wx = w.alloc (Obj.cells #[Value.int IntKind.i64 0, Value.int IntKind.i64 0, Value.int IntKind.i64 0] 25) := ⟨_, rfl⟩
  rw [← hwx]
  have hdb : Below w.heap.size w wx := by rw [hwx]; exact (Below.refl _ _).alloc (Nat.le_refl _) _
  have hd0 : wx.cell? ⟨w.heap.size, 0, none⟩ = some (.int .i64 0) := by rw [hwx]; simp [go_sem]
  have hd1 : wx.cell? ⟨w.heap.size, 1, none⟩ = some (.int .i64 0) := by rw [hwx]; simp [go_sem]
  have hd2 : wx.cell? ⟨w.heap.size, 2, none⟩ = some (.int .i64 0) := by rw [hwx]; simp [go_sem]
  have hf0 : wx.frozen? ⟨w.heap.size, 0, none⟩ = false := by rw [hwx]; simp [go_sem]
  have hf1 : wx.frozen? ⟨w.heap.size, 1, none⟩ = false := by rw [hwx]; simp [go_sem]
  have hf2 : wx.frozen? ⟨w.heap.size, 2, none⟩ = false := by rw [hwx]; simp [go_sem]
  have hdl : w.heap.size < wx.heap.size := by rw [hwx]; simp
  clear hwx
  refine (HS.out _ (by rw [hdb.cell h1lt]; exact hm)).mono ?_
  rintro e w2 ⟨rfl, ⟨hP, hst⟩, hb2⟩
  have c0 : w2.cell? ⟨w.heap.size, 0, none⟩ = some (.int .i64 0) := by rw [hb2.cell hdl]; exact hd0
  have c1 : w2.cell? ⟨w.heap.size, 1, none⟩ = some (.int .i64 0) := by rw [hb2.cell hdl]; exact hd1
  have c2 : w2.cell? ⟨w.heap.size, 2, none⟩ = some (.int .i64 0) := by rw [hb2.cell hdl]; exact hd2
  have f0 : w2.frozen? ⟨w.heap.size, 0, none⟩ = false := by rw [hb2.frozen hdl]; exact hf0
  have f1 : w2.frozen? ⟨w.heap.size, 1, none⟩ = false := by rw [hb2.frozen hdl]; exact hf1
  have f2 : w2.frozen? ⟨w.heap.size, 2, none⟩ = false := by rw [hb2.frozen hdl]; exact hf2
  have hr2 : w.heap.size < w2.heap.size := by have := hb2.size; omega
  have hB2 : Below w.heap.size w w2 := Below.step hdb hb2 (Nat.le_refl _)
  have hna2 := hna.stays hB2
  have hal := fun W o i => old_alloc (r := w.heap.size) W o i
  obtain ⟨P, hPe⟩ : ∃ P, wx.heap.size = P := ⟨_, rfl⟩
  rw [hPe] at hP hst
  rw [hPe]
  have hrP : w.heap.size ≠ P := by omega
  clear hb2 hd0 hd1 hd2 hf0 hf1 hf2 hdb hdl hPe
  have p0 := hst 0 hl1
  rw [HA0'.out] at p0
  have HST := hide hst
  clear hst
  have hL0 : (0 : Int) < (L.length : Int) := by omega
  go_wp2_with fail
  refine (HK.out _ hna2).mono ?_
  rintro e w3 ⟨rfl, rfl⟩
  by_cases hneg : k < 0
  · have hnB : decide (k < 0) = true := decide_eq_true hneg
    have HF := hide (show rdI L = none by unfold rdI; simp only [HA0.out, HKK.out, if_pos hneg])
    go_wp2_with fail
    refine bodyPost_ret (by simp [results, Tryd.results7, go_sem, hal, hr2, c0, c1, c2]; try rfl) rfl ?_
    exact ⟨by rw [HF.out]; rfl, by go_grown⟩
  have hnB : decide (k < 0) = false := decide_eq_false hneg
  have hT := fun w => hasTwo_any k w
  rcases htw : twoB k
  · rw [htw] at hT
    by_cases hlen : L.length = 2
    · have hlB : ((L.length : Int) != 2) = false := by rw [hlen]; rfl
      have hl2 : (1 : Int) < (L.length : Int) := by omega
      obtain ⟨a1, ha1⟩ : ∃ a, L[1]'(by omega) = a := ⟨_, rfl⟩
      have p1 := HST.out 1 (by omega)
      rw [ha1] at p1
      have hsz1 : a1.size ≤ 9223372036854775807 := by
        have := HL.out a1 (by rw [← ha1]; exact List.getElem_mem _)
        omega
      have hR := fun w => readNumber_any a1 w hsz1
      have hg1 : L.getD 1 ⟨#[]⟩ = a1 := by rw [← ha1]; simp [List.getD, List.getElem?_eq_getElem (show 1 < L.length by omega)]
      rcases hrn : rdNum a1 with _ | n
      · rw [hrn] at hR
        simp only [optV] at hR
        have HF := hide (show rdI L = none by unfold rdI; simp only [HA0.out, HKK.out, if_neg hneg, htw, hlen, hg1, hrn]; rfl)
        have HLEN := hide hlen
        clear hlen hg1 ha1 hsz1 hrn
        go_wp2_with fail
        refine (hT _).mono ?_
        rintro e w3 ⟨rfl, rfl⟩
        go_wp2_with fail
        refine (hR _).mono ?_
        rintro e w3 ⟨rfl, rfl⟩
        go_wp2_with fail
        refine bodyPost_ret (by simp [results, Tryd.results7, go_sem, hal, hr2, c0, c1, c2]; try rfl) rfl ?_
        exact ⟨by rw [HF.out]; rfl, by go_grown⟩
      · rw [hrn] at hR
        simp only [optV] at hR
        have HF := hide (show rdI L = some (k, n, 0) by unfold rdI; simp only [HA0.out, HKK.out, if_neg hneg, htw, hlen, hg1, hrn]; rfl)
        have HLEN := hide hlen
        clear hlen hg1 ha1 hsz1 hrn
        go_wp2_with fail
        refine (hT _).mono ?_
        rintro e w3 ⟨rfl, rfl⟩
        go_wp2_with fail
        refine (hR _).mono ?_
        rintro e w3 ⟨rfl, rfl⟩
        go_wp2_with fail
        refine (hT _).mono ?_
        rintro e w3 ⟨rfl, rfl⟩
        go_wp2_with fail
        refine bodyPost_ret (by simp [results, Tryd.results7, go_sem, hal, hr2, c0, c1, c2]; try rfl) rfl ?_
        exact ⟨by rw [HF.out]; rfl, by go_grown⟩
    · have hlB : ((L.length : Int) != 2) = true := by simp; omega
      have HF := hide (show rdI L = none by unfold rdI; simp only [HA0.out, HKK.out, if_neg hneg, htw]; simp [hlen])
      have HLEN := hide hlen
      clear hlen
      go_wp2_with fail
      refine (hT _).mono ?_
      rintro e w3 ⟨rfl, rfl⟩
      go_wp2_with fail
      refine bodyPost_ret (by simp [results, Tryd.results7, go_sem, hal, hr2, c0, c1, c2]; try rfl) rfl ?_
      exact ⟨by rw [HF.out]; rfl, by go_grown⟩
  · rw [htw] at hT
    by_cases hlen : L.length = 3
    · have hlB : ((L.length : Int) != 3) = false := by rw [hlen]; rfl
      have hl2 : (1 : Int) < (L.length : Int) := by omega
      have hl3 : (2 : Int) < (L.length : Int) := by omega
      obtain ⟨a1, ha1⟩ : ∃ a, L[1]'(by omega) = a := ⟨_, rfl⟩
      obtain ⟨a2, ha2⟩ : ∃ a, L[2]'(by omega) = a := ⟨_, rfl⟩
      have p1 := HST.out 1 (by omega)
      rw [ha1] at p1
      have p2 := HST.out 2 (by omega)
      rw [ha2] at p2
      have hsz1 : a1.size ≤ 9223372036854775807 := by
        have := HL.out a1 (by rw [← ha1]; exact List.getElem_mem _)
        omega
      have hsz2 : a2.size ≤ 9223372036854775807 := by
        have := HL.out a2 (by rw [← ha2]; exact List.getElem_mem _)
        omega
      have hR := fun w => readNumber_any a1 w hsz1
      have hR2 := fun w => readNumber_any a2 w hsz2
      have hg1 : L.getD 1 ⟨#[]⟩ = a1 := by rw [← ha1]; simp [List.getD, List.getElem?_eq_getElem (show 1 < L.length by omega)]
      have hg2 : L.getD 2 ⟨#[]⟩ = a2 := by rw [← ha2]; simp [List.getD, List.getElem?_eq_getElem (show 2 < L.length by omega)]
      rcases hrn : rdNum a1 with _ | n
      · rw [hrn] at hR
        simp only [optV] at hR
        have HF := hide (show rdI L = none by unfold rdI; simp only [HA0.out, HKK.out, if_neg hneg, htw, hlen, hg1, hrn]; rfl)
        have HLEN := hide hlen
        clear hlen hg1 ha1 hsz1 hrn hg2 ha2 hsz2 hR2
        go_wp2_with fail
        refine (hT _).mono ?_
        rintro e w3 ⟨rfl, rfl⟩
        go_wp2_with fail
        refine (hR _).mono ?_
        rintro e w3 ⟨rfl, rfl⟩
        go_wp2_with fail
        refine bodyPost_ret (by simp [results, Tryd.results7, go_sem, hal, hr2, c0, c1, c2]; try rfl) rfl ?_
        exact ⟨by rw [HF.out]; rfl, by go_grown⟩
      · rw [hrn] at hR
        simp only [optV] at hR
        rcases hrn2 : rdNum a2 with _ | n2
        · rw [hrn2] at hR2
          simp only [optV] at hR2
          have HF := hide (show rdI L = none by unfold rdI; simp only [HA0.out, HKK.out, if_neg hneg, htw, hlen, hg1, hrn, hg2, hrn2]; rfl)
          have HLEN := hide hlen
          clear hlen hg1 ha1 hsz1 hrn hg2 ha2 hsz2 hrn2
          go_wp2_with fail
          refine (hT _).mono ?_
          rintro e w3 ⟨rfl, rfl⟩
          go_wp2_with fail
          refine (hR _).mono ?_
          rintro e w3 ⟨rfl, rfl⟩
          go_wp2_with fail
          refine (hT _).mono ?_
          rintro e w3 ⟨rfl, rfl⟩
          go_wp2_with fail
          refine (hR2 _).mono ?_
          rintro e w3 ⟨rfl, rfl⟩
          go_wp2_with fail
          refine bodyPost_ret (by simp [results, Tryd.results7, go_sem, hal, hr2, c0, c1, c2]; try rfl) rfl ?_
          exact ⟨by rw [HF.out]; rfl, by go_grown⟩
        · rw [hrn2] at hR2
          simp only [optV] at hR2
          have HF := hide (show rdI L = some (k, n, n2) by unfold rdI; simp only [HA0.out, HKK.out, if_neg hneg, htw, hlen, hg1, hrn, hg2, hrn2]; rfl)
          have HLEN := hide hlen
          clear hlen hg1 ha1 hsz1 hrn hg2 ha2 hsz2 hrn2
          go_wp2_with fail
          refine (hT _).mono ?_
          rintro e w3 ⟨rfl, rfl⟩
          go_wp2_with fail
          refine (hR _).mono ?_
          rintro e w3 ⟨rfl, rfl⟩
          go_wp2_with fail
          refine (hT _).mono ?_
          rintro e w3 ⟨rfl, rfl⟩
          go_wp2_with fail
          refine (hR2 _).mono ?_
          rintro e w3 ⟨rfl, rfl⟩
          go_wp2_with fail
          refine bodyPost_ret (by simp [results, Tryd.results7, go_sem, hal, hr2, c0, c1, c2]; try rfl) rfl ?_
          exact ⟨by rw [HF.out]; rfl, by go_grown⟩
    · have hlB : ((L.length : Int) != 3) = true := by simp; omega
      have HF := hide (show rdI L = none by unfold rdI; simp only [HA0.out, HKK.out, if_neg hneg, htw]; simp [hlen])
      have HLEN := hide hlen
      clear hlen
      go_wp2_with fail
      refine (hT _).mono ?_
      rintro e w3 ⟨rfl, rfl⟩
      go_wp2_with fail
      refine bodyPost_ret (by simp [results, Tryd.results7, go_sem, hal, hr2, c0, c1, c2]; try rfl) rfl ?_
      exact ⟨by rw [HF.out]; rfl, by go_grown⟩
end Go.Proofs.YtbafifilklfafaaDoor
