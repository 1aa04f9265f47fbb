/-
  impl.ReadJournal: the walk.
-/
import Derived.Test.YtbafifilklfafaaDoorPlainJ
import Derived.Test.YtbafifilklfafaaDoorDeedOwn
import Derived.Test.YtbafifilklfafaaDoorApp
import Derived.Test.YtbafifilklfafaaDoorShelf
namespace Go.Proofs.YtbafifilklfafaaDoor
open Go.RowKit

theorem index10 : ∀ l : List UInt8, Lib.index l [10] = if 10 ∈ l then ((l.takeWhile (· != 10)).length : Int) else -1
  | [] => by simp [Lib.index]
  | b :: l => by
    have ih := index10 l
    by_cases hb : b = 10
    · subst hb; simp [Lib.index, List.isPrefixOf]
    · have h1 : ([10] : List UInt8).isPrefixOf (b :: l) = false := by simp [List.isPrefixOf, Ne.symm hb]
      have h2 : (10 ∈ b :: l) ↔ 10 ∈ l := ⟨fun h => (List.mem_cons.1 h).resolve_left fun e => hb e.symm, fun h => List.mem_cons_of_mem _ h⟩
      have h3 : (b != 10) = true := by simp [hb]
      unfold Lib.index
      rw [h1, ih]
      simp only [h2, List.takeWhile_cons, h3, if_true]
      by_cases hm : 10 ∈ l
      · rw [if_pos hm, if_pos hm]
        have : (((l.takeWhile (· != 10)).length : Int) == -1) = false := by rw [beq_eq_false_iff_ne]; omega
        simp [this]
      · rw [if_neg hm, if_neg hm]; simp
theorem tw_take (l : List UInt8) : l.take (l.takeWhile (· != 10)).length = l.takeWhile (· != 10) := by
  conv => lhs; arg 2; rw [← List.takeWhile_append_dropWhile (p := fun x => x != 10) (l := l)]
  rw [List.take_append_of_le_length (Nat.le_refl _), List.take_length]
theorem cut10 (l : List UInt8) : Lib.cut l [10] = if 10 ∈ l then (l.takeWhile (· != 10), l.drop ((l.takeWhile (· != 10)).length + 1), true) else (l, [], false) := by
  unfold Lib.cut
  rw [index10]
  by_cases h : 10 ∈ l
  · rw [if_pos h, if_pos (by omega), if_pos h, Int.toNat_natCast, tw_take]; rfl
  · rw [if_neg h, if_neg (by omega), if_neg h]
theorem tw_len {l : List UInt8} (h : 10 ∈ l) : (l.takeWhile (· != 10)).length + 1 ≤ l.length := by
  obtain ⟨a, r, rfl, hn⟩ := split10 h
  rw [tw_app hn]; simp
theorem rest_data (s : ByteArray) (n : Nat) : (s.extract n s.size).data.toList = s.data.toList.drop n := by
  rw [ext_data, List.take_of_length_le (by rw [List.length_drop, size_len]; exact Nat.le_refl _)]
theorem rjGo_no {f : Nat} {l : List UInt8} (h : 10 ∉ l) : rjGo f l = ([], 0) := by
  cases f with
  | zero => rfl
  | succ f => rw [rjGo, if_neg h]
theorem rjGo_bad {f : Nat} {l : List UInt8} (h : rdL (l.takeWhile (· != 10)) = none) : rjGo f l = ([], 0) := by
  cases f with
  | zero => rfl
  | succ f =>
    rw [rjGo]
    split
    · rw [h]
    · rfl
theorem rjGo_one {f : Nat} {l : List UInt8} {d : J} (hm : 10 ∈ l) (h : rdL (l.takeWhile (· != 10)) = some d) :
    rjGo (f + 1) l = (d :: (rjGo f (l.drop ((l.takeWhile (· != 10)).length + 1))).1, (l.takeWhile (· != 10)).length + 1 + (rjGo f (l.drop ((l.takeWhile (· != 10)).length + 1))).2) := by
  rw [rjGo, if_pos hm, h]
/-- Where a reader of a journal stands. -/
structure RjSt (s : ByteArray) (D : List J) (n f : Nat) : Prop where
  len : D.length + f = 99
  le : n ≤ s.size
  eq : rjR s = (D ++ (rjGo f (s.data.toList.drop n)).1, n + (rjGo f (s.data.toList.drop n)).2)
theorem RjSt.start (s : ByteArray) : RjSt s [] 0 99 := ⟨rfl, Nat.zero_le _, by simp [rjR]⟩
theorem RjSt.over {s : ByteArray} {D : List J} {n f : Nat} (h : RjSt s D n f) (hz : rjGo f (s.data.toList.drop n) = ([], 0)) : rjR s = (D, n) := by
  rw [h.eq, hz]; simp
theorem RjSt.step {s : ByteArray} {D : List J} {n f : Nat} {d : J} (h : RjSt s D n (f + 1)) (hm : 10 ∈ s.data.toList.drop n) (hd : rdL ((s.data.toList.drop n).takeWhile (· != 10)) = some d) :
    RjSt s (D ++ [d]) (n + (((s.data.toList.drop n).takeWhile (· != 10)).length + 1)) f := by
  refine ⟨?_, ?_, ?_⟩
  · have := h.len; simp; omega
  · have h1 := tw_len hm
    have h2 := h.le
    rw [List.length_drop, size_len] at h1
    omega
  · rw [h.eq, rjGo_one hm hd, List.drop_drop]
    simp [Nat.add_assoc]
theorem rdL_of {l : List UInt8} {B : ByteArray} (h : B.data.toList = l) : rdL l = (rdI (partsB B)).map fun (k, o, t) => ⟨k, o, t⟩ := by
  unfold rdL
  rw [show (⟨l.toArray⟩ : ByteArray) = B from ext_list (by simp [h])]
def lenOf : Value → Nat
  | .slice _ n _ => n
  | _ => 0

set_option maxRecDepth 10000 in
set_option maxHeartbeats 1600000 in
theorem readJournal_impl (s : ByteArray) (m : Int) (w : World) (hs : s.size < 4294967281) (hm : w.cell? ⟨1, 0, none⟩ = some (.int .i64 m)) (hna : NamesIs w) :
    Calls Tryd.prog 12 #[.string s] w fun e w' => ∃ v, e = .returned (.tuple #[v, .int .i64 ((rjR s).2 : Int)]) ∧ w'.ownsRow w.heap.size 25 3 v (rjR s).1.length (flatD (rjR s).1) ∧ Below w.heap.size w w' := by
  have h1lt : 1 < w.heap.size := by
    rcases Nat.lt_or_ge 1 w.heap.size with h | h
    · exact h
    · simp [World.cell?, Array.getElem?_eq_none h] at hm
  obtain ⟨j0, hj0, hzj, hj1, hj2⟩ := info_parts info_J
  go_enter Tryd.func12, Tryd.ntmps12
  go_wp2_with fail
  go_loopw [4, 5, 6, 7, 8, 9, 10] (fun o i _ _ _ _ _ wr => ∃ (D : List J) (n f : Nat), RjSt s D n f ∧ i = .int .i64 n ∧ Below w.heap.size w wr ∧ wr.ownsRow w.heap.size 25 3 o D.length (flatD D)) (fun o _ _ _ _ _ _ _ => 99 - lenOf o)
  case atStart => exact ⟨[], 0, 99, .start s, rfl, Below.refl _ _, World.ownsRow_nil _ _ _ _⟩
  case round =>
    obtain ⟨D, n, f, hst, rfl, hb, hown⟩ := hrel
    have HB := hide hb
    have HO := hide hown
    have HST := hide hst
    have hDf := hst.len
    have hns := hst.le
    have hszr := hb.size
    obtain ⟨aow, capw, rfl, -, -⟩ := own_slice hown
    have hmr := hide (show wr.cell? ⟨1, 0, none⟩ = some (.int .i64 m) by rw [hb.cell h1lt]; exact hm)
    have hnr := hide (hna.stays hb)
    clear hown hst hb
    by_cases hlt : D.length < 99
    · obtain ⟨f, rfl⟩ : ∃ g, f = g + 1 := ⟨f - 1, by omega⟩
      have hlI : (D.length : Int) < 99 := by omega
      have hn0 : (0 : Int) ≤ (n : Int) := by omega
      have hnI : (n : Int) ≤ (s.size : Int) := by omega
      have HT := hide (rest_data s n)
      have hTs : (s.extract n s.size).size < 4294967281 := by rw [ByteArray.size_extract]; omega
      have hcut := Tryd.strings_Cut (s.extract n s.size) ⟨#[10]⟩ m wr hTs hmr.out
      rw [show (⟨#[10]⟩ : ByteArray).data.toList = [10] from rfl, HT.out, cut10] at hcut
      by_cases hmem : 10 ∈ s.data.toList.drop n
      · rw [if_pos hmem] at hcut
        obtain ⟨B, hB⟩ : ∃ B : ByteArray, ⟨((s.data.toList.drop n).takeWhile (· != 10)).toArray⟩ = B := ⟨_, rfl⟩
        obtain ⟨C, hC⟩ : ∃ C : ByteArray, ⟨((s.data.toList.drop n).drop (((s.data.toList.drop n).takeWhile (· != 10)).length + 1)).toArray⟩ = C := ⟨_, rfl⟩
        have hBd : B.data.toList = (s.data.toList.drop n).takeWhile (· != 10) := by rw [← hB]
        have hBs : B.size = ((s.data.toList.drop n).takeWhile (· != 10)).length := by rw [← size_len, hBd]
        have hBl : B.size + 1 ≤ s.size - n := by
          have := tw_len hmem
          rw [List.length_drop, size_len] at this
          omega
        have HSTEP := hide (fun d hd => HST.out.step (d := d) hmem hd)
        have HBAD := hide (fun hd => HST.out.over (rjGo_bad hd))
        rw [← hBs] at HSTEP
        simp only [rdL_of hBd] at HSTEP HBAD
        dsimp only at hcut
        rw [hB, hC] at hcut
        clear hB hC hBd hBs hmem
        go_wp2_with fail
        refine hcut.mono ?_
        rintro e w1 ⟨rfl, q, hw⟩
        have hb1 : Below wr.heap.size wr w1 := by rw [hw]; exact below_drewN (Below.refl _ _) _
        have HB1 := hide (Below.step HB.out hb1 (Nat.le_refl _))
        have HO1 := hide (ownsRow_below HO.out hb1 (Nat.le_refl _))
        have hm1 := hide (show w1.cell? ⟨1, 0, none⟩ = some (.int .i64 m) by rw [hb1.cell (by show 1 < wr.heap.size; omega)]; exact hmr.out)
        have hn1 := hide (hnr.out.stays hb1)
        have hz1 := hb1.size
        clear hw hb1 hcut HT hTs
        go_wp2_with fail
        have hrd := readDeed_impl B m w1 (by omega) hm1.out hn1.out
        rcases hr : rdI (partsB B) with _ | ⟨k, o, t⟩
        · rw [hr] at hrd HBAD
          have HR := hide (HBAD.out rfl)
          refine hrd.mono ?_
          rintro e w2 ⟨rfl, hb2⟩
          have HB2 := hide (Below.step HB1.out hb2 (Nat.le_refl _))
          have HO2 := hide (ownsRow_below HO1.out hb2 (Nat.le_refl _))
          have hz2 := HB2.out.size
          clear hb2 hrd HBAD HSTEP hr
          simp only [deedV]
          go_wp2_with fail
          go_ret2
          rw [HR.out]
          exact ⟨_, rfl, HO2.out.alloc _, HB2.out.alloc hz2 _⟩
        · rw [hr] at hrd HSTEP
          have HR := hide (HSTEP.out ⟨k, o, t⟩ rfl)
          refine hrd.mono ?_
          rintro e w2 ⟨rfl, hb2⟩
          have HB2 := hide (Below.step HB1.out hb2 (Nat.le_refl _))
          have HO2 := hide (ownsRow_below HO1.out hb2 (Nat.le_refl _))
          have hz2 := HB2.out.size
          clear hb2 hrd HBAD HSTEP hr
          simp only [deedV]
          go_wp2_with (at_builtin; refine wpList_append_view rfl _ _ 31 rfl w.heap.size 25 j0 _ 3 24 Tryd.underlying31 hj0 hzj hj1 hj2 rfl (by decide) _ _ _ rfl ((HO2.out.alloc _).alloc _) (.slice (some ⟨w2.heap.size + 1, 0, none⟩) 1 1) 1 [.int .i64 k, .int .i64 o, .int .i64 t] rfl ?c0 ?c1 ?c2 ?c3 ?_)
          case c0 => simpa using Source.lit (World.alloc w2 _) [.int .i64 k, .int .i64 o, .int .i64 t] 3 25 1 rfl (fun u hu => by simp at hu; rcases hu with rfl | rfl | rfl <;> rfl) 1
          case c1 => unfold maxLen; omega
          case c2 => omega
          case c3 => simp; omega
          intro v2 w3 hown2 hgrow2 _
          have hB3 := ((HB2.out.alloc hz2 (.cells #[.int .i64 k, .int .i64 o, .int .i64 t] 25)).alloc (by simp; omega) (.cells #[.int .i64 k, .int .i64 o, .int .i64 t] 25)).trans (Below.grow hgrow2 ((HO2.out.alloc _).alloc _) (Nat.le_refl _) (by simp; omega))
          have HB3 := hide hB3
          have HO3 := hide (show w3.ownsRow w.heap.size 25 3 v2 (D ++ [(⟨k, o, t⟩ : J)]).length (flatD (D ++ [⟨k, o, t⟩])) by rw [flatD_append, List.length_append]; exact hown2)
          obtain ⟨ao3, cap3, rfl, -, -⟩ := own_slice hown2
          clear hown2 hgrow2 hB3
          go_wp2_with fail
          go_roundw
          case rel => exact ⟨D ++ [⟨k, o, t⟩], n + (B.size + 1), f, HR.out, by go_num, HB3.out, by simpa using HO3.out⟩
          case measure => simp [lenOf]; omega
      · rw [if_neg hmem] at hcut
        have HR := hide (HST.out.over (rjGo_no hmem))
        obtain ⟨B, hB⟩ : ∃ B : ByteArray, ⟨(s.data.toList.drop n).toArray⟩ = B := ⟨_, rfl⟩
        dsimp only at hcut
        rw [hB] at hcut
        clear hB
        go_wp2_with fail
        refine hcut.mono ?_
        rintro e w1 ⟨rfl, q, hw⟩
        have hb1 : Below wr.heap.size wr w1 := by rw [hw]; exact below_drewN (Below.refl _ _) _
        have HB1 := hide (Below.step HB.out hb1 (Nat.le_refl _))
        have HO1 := hide (ownsRow_below HO.out hb1 (Nat.le_refl _))
        clear hw hb1 hcut HT hTs
        go_wp2_with fail
        go_ret2
        rw [HR.out]
        exact ⟨_, rfl, HO1.out, HB1.out⟩
    · have hlI : ¬ (D.length : Int) < 99 := by omega
      obtain rfl : f = 0 := by omega
      have HR := hide (HST.out.over rfl)
      go_wp2_with fail
      go_ret2
      rw [HR.out]
      exact ⟨_, rfl, HO.out, HB.out⟩
end Go.Proofs.YtbafifilklfafaaDoor
