/-
  Parts of the proofs over mills, of: JournA, JournB, RepI, RepS. Conditions: each theorem states its own.
-/
import Derived.Test.YtmemgbklgcjobaaGreatDoorY51
set_option linter.unusedSimpArgs false
set_option linter.unusedVariables false
set_option maxRecDepth 10000
set_option maxHeartbeats 64000000
namespace Go.Proofs.YtmemgbklgcjobaaGreatDoor
open Go.RowKit
theorem index10 : ∀ l : List UInt8, Lib.index l [10] = if 10 ∈ l then ((l.takeWhile (· != 10)).length : Int) else -1
 | [] => by simp [Lib.index]
 | b :: l => by
  have ih := index10 l;by_cases hb : b = 10
  ·subst hb; simp [Lib.index, List.isPrefixOf]
  ·have h1 : ([10] : List UInt8).isPrefixOf (b :: l) = false := by simp [List.isPrefixOf, Ne.symm hb]
   have h2 : (10 ∈ b :: l) ↔ 10 ∈ l := ⟨fun h => (List.mem_cons.1 h).resolve_left fun e => hb e.symm, fun h => List.mem_cons_of_mem _ h⟩;have h3 : (b != 10) = true := by simp [hb]
   unfold Lib.index;rw [h1, ih];simp only [h2, List.takeWhile_cons, h3, if_true];by_cases hm : 10 ∈ l
   ·rw [if_pos hm, if_pos hm]
    have : (((l.takeWhile (· != 10)).length : Int) == -1) = false := by rw [beq_eq_false_iff_ne]; omega
    simp [this]
   ·rw [if_neg hm, if_neg hm]; simp
theorem tw_take (l : List UInt8) : l.take (l.takeWhile (· != 10)).length = l.takeWhile (· != 10) := by
 conv => lhs; arg 2; rw [← List.takeWhile_append_dropWhile (p := fun x => x != 10) (l := l)]
 rw [List.take_append_of_le_length nl, List.take_length]
theorem cut10 (l : List UInt8) : Lib.cut l [10] = if 10 ∈ l then (l.takeWhile (· != 10), l.drop ((l.takeWhile (· != 10)).length + 1), true) else (l, [], false) := by
 unfold Lib.cut;rw [index10];by_cases h : 10 ∈ l
 ·rw [if_pos h, if_pos (by omega), if_pos h, Int.toNat_natCast, tw_take]; rfl
 ·rw [if_neg h, if_neg (by omega), if_neg h]
theorem rest_data (s : ByteArray) (n : Nat) : (s.extract n s.size).data.toList = s.data.toList.drop n := by
 rw [ext_data, List.take_of_length_le (by rw [List.length_drop, size_len]; exact Nat.le_refl _)]
theorem rjGo_no {f : Nat} {l : List UInt8} (h : 10 ∉ l) : rjGo f l = ([], 0) := by
 cases f with
 | zero => rfl
 | succ f => rw [rjGo, if_neg h]
theorem rjGo_bad {f : Nat} {l : List UInt8} (h : rdL (l.takeWhile (· != 10)) = none) : rjGo f l = ([], 0) := by
 cases f with
 | zero => rfl
 | succ f =>
  rw [rjGo];split
  ·rw [h]
  ·rfl
theorem RjSt.start (s : ByteArray) : RjSt s [] 0 99 := ⟨rfl, Nat.zero_le _, by simp [rjR]⟩
theorem RjSt.over {s : ByteArray} {D : List J} {n f : Nat} (h : RjSt s D n f) (hz : rjGo f (s.data.toList.drop n) = ([], 0)) : rjR s = (D, n) := by
 rw [h.eq, hz]; simp
theorem rdL_of {l : List UInt8} {B : ByteArray} (h : B.data.toList = l) : rdL l = (rdI (partsB B)).map fun (k, o, t) => ⟨k, o, t⟩ := by
 unfold rdL;rw [show (⟨l.toArray⟩ : ByteArray) = B from ext_list (by simp [h])]
def lenOf : Value → Nat
 | .slice _ n _ => n
 | _ => 0
theorem readJournal_impl (s : ByteArray) (m : Int) (w : World) (hs : s.size < 4294967281) (hm : w.cell? ⟨1, 0, none⟩ = some (.int .i64 m)) (hna : NamesIs w) :
 Calls Tryz.prog 21 #[.string s] w fun e w' => ∃ v, e = .returned (.tuple #[v, .int .i64 ((rjR s).2 : Int)]) ∧ w'.ownsRow w.heap.size 48 3 v (rjR s).1.length (flatD (rjR s).1) ∧ Below w.heap.size w w' := by
 have h1lt : 1 < w.heap.size := by
  rcases Nat.lt_or_ge 1 w.heap.size with h | h
  ·exact h
  ·simp [World.cell?, Array.getElem?_eq_none h] at hm
 obtain ⟨j0, hj0, hzj, hj1, hj2⟩ := info_parts info_J;go_enter Tryz.func21, Tryz.ntmps21;go_wp2_with fail
 go_loopw [4, 5, 6, 7, 8, 9, 10] (fun o i _ _ _ _ _ wr => ∃ (D : List J) (n f : Nat), RjSt s D n f ∧ i = .int .i64 n ∧ Below w.heap.size w wr ∧ wr.ownsRow w.heap.size 48 3 o D.length (flatD D)) (fun o _ _ _ _ _ _ _ => 99 - lenOf o)
 case atStart => exact ⟨[], 0, 99, .start s, rfl, Below.refl _ _, World.ownsRow_nil _ _ _ _⟩
 case round =>
  obtain ⟨D, n, f, hst, rfl, hb, hown⟩ := hrel;have HB := hide hb;have HO := hide hown;have HST := hide hst;have hDf := hst.len;have hns := hst.le;have hszr := hb.size;obtain ⟨aow, capw, rfl, -, -⟩ := own_slice hown;have hmr := hide (show wr.cell? ⟨1, 0, none⟩ = some (.int .i64 m) by rw [hb.cell h1lt]; exact hm);have hnr := hide (hna.stays hb);clear hown hst hb;by_cases hlt : D.length < 99
  ·obtain ⟨f, rfl⟩ : ∃ g, f = g + 1 := ⟨f - 1, by omega⟩
   have hlI : (D.length : Int) < 99 := by omega
   have hn0 : (0 : Int) ≤ (n : Int) := by omega
   have hnI : (n : Int) ≤ (s.size : Int) := by omega
   have HT := hide (rest_data s n);have hTs : (s.extract n s.size).size < 4294967281 := by rw [ByteArray.size_extract]; omega
   have hcut := Tryz.strings_Cut (s.extract n s.size) ⟨#[10]⟩ m wr hTs hmr.out;rw [show (⟨#[10]⟩ : ByteArray).data.toList = [10] from rfl, HT.out, cut10] at hcut;by_cases hmem : 10 ∈ s.data.toList.drop n
   ·rw [if_pos hmem] at hcut
    obtain ⟨B, hB⟩ : ∃ B : ByteArray, ⟨((s.data.toList.drop n).takeWhile (· != 10)).toArray⟩ = B := ⟨_, rfl⟩
    obtain ⟨C, hC⟩ : ∃ C : ByteArray, ⟨((s.data.toList.drop n).drop (((s.data.toList.drop n).takeWhile (· != 10)).length + 1)).toArray⟩ = C := ⟨_, rfl⟩
    have hBd : B.data.toList = (s.data.toList.drop n).takeWhile (· != 10) := by rw [← hB]
    have hBs : B.size = ((s.data.toList.drop n).takeWhile (· != 10)).length := by rw [← size_len, hBd]
    have hBl : B.size + 1 ≤ s.size - n := by
     have := tw_len hmem;rw [List.length_drop, size_len] at this;omega
    have HSTEP := hide (fun d hd => HST.out.step (d := d) hmem hd);have HBAD := hide (fun hd => HST.out.over (rjGo_bad hd));rw [← hBs] at HSTEP;simp only [rdL_of hBd] at HSTEP HBAD;dsimp only at hcut;rw [hB, hC] at hcut;clear hB hC hBd hBs hmem;go_wp2_with fail
    refine hcut.mono ?_;rintro e w1 ⟨rfl, q, hw⟩;have hb1 : Below wr.heap.size wr w1 := by rw [hw]; exact below_drewN (Below.refl _ _) _
    have HB1 := hide (Below.step HB.out hb1 nl);have HO1 := hide (ownsRow_below HO.out hb1 nl);have hm1 := hide (show w1.cell? ⟨1, 0, none⟩ = some (.int .i64 m) by rw [hb1.cell (by show 1 < wr.heap.size; omega)]; exact hmr.out);have hn1 := hide (hnr.out.stays hb1);have hz1 := hb1.size;clear hw hb1 hcut HT hTs;go_wp2_with fail
    have hrd := readDeed_impl B m w1 (by omega) hm1.out hn1.out;rcases hr : rdI (partsB B) with _ | ⟨k, o, t⟩
    ·rw [hr] at hrd HBAD
     have HR := hide (HBAD.out rfl);refine hrd.mono ?_;rintro e w2 ⟨rfl, hb2⟩;have HB2 := hide (Below.step HB1.out hb2 nl);have HO2 := hide (ownsRow_below HO1.out hb2 nl);have hz2 := HB2.out.size;clear hb2 hrd HBAD HSTEP hr;simp only [deedV];go_wp2_with fail
     go_ret2
     rw [HR.out];exact ⟨_, rfl, HO2.out.alloc _, HB2.out.alloc hz2 _⟩
    ·rw [hr] at hrd HSTEP
     have HR := hide (HSTEP.out ⟨k, o, t⟩ rfl);refine hrd.mono ?_;rintro e w2 ⟨rfl, hb2⟩;have HB2 := hide (Below.step HB1.out hb2 nl);have HO2 := hide (ownsRow_below HO1.out hb2 nl);have hz2 := HB2.out.size;clear hb2 hrd HBAD HSTEP hr;simp only [deedV];go_wp2_with (at_builtin; refine wpList_append_view rfl _ _ 39 rfl w.heap.size 48 j0 _ 3 24 Tryz.underlying39 hj0 hzj hj1 hj2 rfl (by decide) _ _ _ rfl ((HO2.out.alloc _).alloc _) (.slice (some ⟨w2.heap.size + 1, 0, none⟩) 1 1) 1 [.int .i64 k, .int .i64 o, .int .i64 t] rfl ?c0 ?c1 ?c2 ?c3 ?_)
     case c0 => simpa using Source.lit (World.alloc w2 _) [.int .i64 k, .int .i64 o, .int .i64 t] 3 48 1 rfl (fun u hu => by simp at hu; rcases hu with rfl | rfl | rfl <;> rfl) 1
     case c1 => unfold maxLen; omega
     case c2 => omega
     case c3 => simp; omega
     intro v2 w3 hown2 hgrow2 _;have hB3 := ((HB2.out.alloc hz2 (.cells #[.int .i64 k, .int .i64 o, .int .i64 t] 48)).alloc (by simp; omega) (.cells #[.int .i64 k, .int .i64 o, .int .i64 t] 48)).trans (Below.grow hgrow2 ((HO2.out.alloc _).alloc _) nl (by simp; omega));have HB3 := hide hB3;have HO3 := hide (show w3.ownsRow w.heap.size 48 3 v2 (D ++ [(⟨k, o, t⟩ : J)]).length (flatD (D ++ [⟨k, o, t⟩])) by rw [flatD_append, List.length_append]; exact hown2);obtain ⟨ao3, cap3, rfl, -, -⟩ := own_slice hown2;clear hown2 hgrow2 hB3;go_wp2_with fail
     go_roundw
     case rel => exact ⟨D ++ [⟨k, o, t⟩], n + (B.size + 1), f, HR.out, by go_num, HB3.out, by simpa using HO3.out⟩
     case measure => simp [lenOf]; omega
   ·rw [if_neg hmem] at hcut
    have HR := hide (HST.out.over (rjGo_no hmem));obtain ⟨B, hB⟩ : ∃ B : ByteArray, ⟨(s.data.toList.drop n).toArray⟩ = B := ⟨_, rfl⟩;dsimp only at hcut;rw [hB] at hcut;clear hB;go_wp2_with fail
    refine hcut.mono ?_;rintro e w1 ⟨rfl, q, hw⟩;have hb1 : Below wr.heap.size wr w1 := by rw [hw]; exact below_drewN (Below.refl _ _) _
    have HB1 := hide (Below.step HB.out hb1 nl);have HO1 := hide (ownsRow_below HO.out hb1 nl);clear hw hb1 hcut HT hTs;go_wp2_with fail
    go_ret2
    rw [HR.out];exact ⟨_, rfl, HO1.out, HB1.out⟩
  ·have hlI : ¬ (D.length : Int) < 99 := by omega
   obtain rfl : f = 0 := by omega
   have HR := hide (HST.out.over rfl);go_wp2_with fail
   go_ret2
   rw [HR.out];exact ⟨_, rfl, HO.out, HB.out⟩
theorem line_at {l : List UInt8} {n i : Nat} (hni : n ≤ i) (h10 : 10 ∉ (l.drop n).take (i - n)) {r : List UInt8} (hd : l.drop i = 10 :: r) :
 10 ∈ l.drop n ∧ (l.drop n).takeWhile (· != 10) = (l.drop n).take (i - n) ∧ ((l.drop n).takeWhile (· != 10)).length = i - n := by
 have e : l.drop n = (l.drop n).take (i - n) ++ 10 :: r := by
  conv => lhs; rw [← List.take_append_drop (i - n) (l.drop n)]
  rw [List.drop_drop, show n + (i - n) = i by omega, hd]
 have h2 : (l.drop n).takeWhile (· != 10) = (l.drop n).take (i - n) := by
  conv => lhs; rw [e]
  exact tw_app h10
 refine ⟨?_, h2, ?_⟩
 ·rw [e]; simp
 ·have hl := congrArg List.length hd
  simp only [List.length_drop, List.length_cons] at hl;rw [h2, List.length_take, List.length_drop];omega
theorem no10_step {l : List UInt8} {n i : Nat} (hni : n ≤ i) (h10 : 10 ∉ (l.drop n).take (i - n)) {u : UInt8} {r : List UInt8} (hd : l.drop i = u :: r) (hu : u ≠ 10) : 10 ∉ (l.drop n).take (i + 1 - n) := by
 have e : (l.drop n)[i - n]? = some u := by
  rw [List.getElem?_drop, show n + (i - n) = i + 0 by omega, ← List.getElem?_drop, hd]; rfl
 rw [show i + 1 - n = (i - n) + 1 by omega, List.take_add_one, e];simp only [Option.toList_some, List.mem_append, List.mem_singleton, not_or];exact ⟨h10, fun e => hu e.symm⟩
theorem readJournal_spec (s : ByteArray) (w : World) (hs : s.size < 4294967281) :
 Calls Tryz.prog 63 #[.string s] w fun e w' => ∃ v, e = .returned (.tuple #[v, .int .i64 ((rjR s).2 : Int)]) ∧ w'.ownsRow w.heap.size 48 3 v (rjR s).1.length (flatD (rjR s).1) ∧ Below w.heap.size w w' := by
 obtain ⟨j0, hj0, hzj, hj1, hj2⟩ := info_parts info_J;go_enter Tryz.func63, Tryz.ntmps63;go_wp2_with fail
 go_loopw [4, 5, 6, 7, 8] (fun o n i _ _ wr => ∃ (D : List J) (a k f : Nat), RjSt s D a f ∧ a ≤ k ∧ k ≤ s.size ∧ (10 : UInt8) ∉ (s.data.toList.drop a).take (k - a) ∧ n = .int .i64 a ∧ i = .int .i64 k ∧ Below w.heap.size w wr ∧ wr.ownsRow w.heap.size 48 3 o D.length (flatD D)) (fun _ _ i _ _ _ => s.size - (intOf i).toNat)
 case atStart => exact ⟨[], 0, 0, 99, .start s, Nat.le_refl _, Nat.zero_le _, by simp, rfl, rfl, by go_grown, by simpa [flatD] using World.ownsRow_lit (e := 48) (size := 3) (base := w.heap.size) w #[] 0 nl (by unfold maxLen; omega) (by simp)⟩
 case round =>
  obtain ⟨D, a, k, f, hst, hak, hk, h10, rfl, rfl, hb, hown⟩ := hrel;have HB := hide hb;have HO := hide hown;have HST := hide hst;have H10 := hide h10;have hDf := hst.len;have hszr := hb.size;obtain ⟨aow, capw, rfl, -, -⟩ := own_slice hown;clear hown hst hb h10;by_cases hlt : k < s.size
  ·have hkI : (k : Int) < (s.size : Int) := by omega
   by_cases hD : D.length < 99
   ·have hlI : (D.length : Int) < 99 := by omega
    obtain ⟨f, rfl⟩ : ∃ g, f = g + 1 := ⟨f - 1, by omega⟩;have HD := hide (drop_byte s k hlt);obtain ⟨u, hu⟩ : ∃ u, s[k]'hlt = u := ⟨_, rfl⟩;rw [hu] at HD;obtain ⟨b, hb⟩ : ∃ b : Nat, u.toNat = b := ⟨_, rfl⟩;have hk0 : (0 : Int) ≤ (k : Int) := by omega
    by_cases h1 : b = 10
    ·subst h1
     have hu10 : u = 10 := by
      apply UInt8.toNat_inj.1;rw [hb]; rfl
     have hL := line_at hak H10.out (hu10 ▸ HD.out);obtain ⟨B, hB⟩ : ∃ B : ByteArray, s.extract a k = B := ⟨_, rfl⟩;have hBd : B.data.toList = (s.data.toList.drop a).takeWhile (· != 10) := by rw [← hB, ext_data, hL.2.1]
     have hBs : B.size = k - a := by rw [← size_len, hBd, hL.2.2]
     have HSTEP := hide (fun d hd => HST.out.step (d := d) hL.1 hd);have HBAD := hide (fun hd => HST.out.over (rjGo_bad hd));rw [hL.2.2] at HSTEP;simp only [rdL_of hBd] at HSTEP HBAD;have ha0 : (0 : Int) ≤ (a : Int) := by omega
     have haki : (a : Int) ≤ (k : Int) := by omega
     have hksi : (k : Int) ≤ (s.size : Int) := by omega
     have hrd := readDeed_spec B wr (by omega);clear hu10 hL hBd;go_wp2_with fail
     refine hrd.mono ?_;rintro e w2 ⟨⟨xs, hx, rfl⟩, hb2⟩;rw [rd_parts hx];have HB2 := hide (Below.step HB.out hb2 nl);have HO2 := hide (ownsRow_below HO.out hb2 nl);have hz2 := HB2.out.size;clear hb2 hrd hx hB;rcases hr : rdI (partsB B) with _ | ⟨x, y, z⟩
     ·rw [hr] at HBAD
      have HR := hide (HBAD.out rfl);clear HBAD HSTEP hr;simp only [deedV];go_wp2_with fail
      go_ret2
      rw [HR.out];exact ⟨_, rfl, HO2.out.alloc _, HB2.out.alloc hz2 _⟩
     ·rw [hr] at HSTEP
      have HR := hide (HSTEP.out ⟨x, y, z⟩ rfl);clear HBAD HSTEP hr;simp only [deedV];go_wp2_with (at_builtin; refine wpList_append_view rfl _ _ 39 rfl w.heap.size 48 j0 _ 3 24 Tryz.underlying39 hj0 hzj hj1 hj2 rfl (by decide) _ _ _ rfl ((HO2.out.alloc _).alloc _) (.slice (some ⟨w2.heap.size + 1, 0, none⟩) 1 1) 1 [.int .i64 x, .int .i64 y, .int .i64 z] rfl ?c0 ?c1 ?c2 ?c3 ?_)
      case c0 => simpa using Source.lit (World.alloc w2 _) [.int .i64 x, .int .i64 y, .int .i64 z] 3 48 1 rfl (fun u hu => by simp at hu; rcases hu with rfl | rfl | rfl <;> rfl) 1
      case c1 => unfold maxLen; omega
      case c2 => omega
      case c3 => simp; omega
      intro v2 w3 hown2 hgrow2 _;have hB3 := ((HB2.out.alloc hz2 (.cells #[.int .i64 x, .int .i64 y, .int .i64 z] 48)).alloc (by simp; omega) (.cells #[.int .i64 x, .int .i64 y, .int .i64 z] 48)).trans (Below.grow hgrow2 ((HO2.out.alloc _).alloc _) nl (by simp; omega));have HB3 := hide hB3;have HO3 := hide (show w3.ownsRow w.heap.size 48 3 v2 (D ++ [(⟨x, y, z⟩ : J)]).length (flatD (D ++ [⟨x, y, z⟩])) by rw [flatD_append, List.length_append]; exact hown2);have hR := HR.out;rw [show a + (k - a + 1) = k + 1 by omega] at hR;have HR2 := hide hR;clear hown2 hgrow2 hB3 hR;go_wp2_with fail
      go_roundw
      case rel => exact ⟨D ++ [⟨x, y, z⟩], k + 1, k + 1, f, HR2.out, Nat.le_refl _, by omega, by simp, by go_num, by go_num, HB3.out, HO3.out⟩
      case measure => simp [intOf]; omega
    ·have hbB : ((b : Int) == 10) = false := by simp; omega
     have hu10 : u ≠ 10 := fun e => h1 (by rw [← hb, e]; rfl);have HN := hide (no10_step hak H10.out HD.out hu10);clear hu10;go_wp2_with fail
     go_roundw
     case rel => exact ⟨D, a, k + 1, f + 1, HST.out, by omega, by omega, HN.out, rfl, by go_num, HB.out, HO.out⟩
     case measure => simp [intOf]; omega
   ·have hlI : ¬ (D.length : Int) < 99 := by omega
    obtain rfl : f = 0 := by omega
    have HR := hide (HST.out.over rfl);go_wp2_with fail
    go_ret2
    rw [HR.out];exact ⟨_, rfl, HO.out, HB.out⟩
  ·obtain rfl : k = s.size := by omega
   have HR := hide (HST.out.over (rjGo_no (by
    have := H10.out
    rwa [List.take_of_length_le (by rw [List.length_drop, size_len]; exact Nat.le_refl _)] at this)))
   have hkI : ¬ (s.size : Int) < (s.size : Int) := by omega
   go_wp2_with fail
   go_ret2
   rw [HR.out];exact ⟨_, rfl, HO.out, HB.out⟩
theorem replay_impl (s p l h : Value) (m : Mi) (t : ByteArray) (nn : Int) (w : World) (H : MillIn 0 w.heap.size w s p l h m) (ht : t.size < 4294967281) (hm : w.cell? ⟨1, 0, none⟩ = some (.int .i64 nn)) (hna : NamesIs w) :
 Calls Tryz.prog 15 #[millV s p l h m, .string t] w (RunGot w.heap.size (replayR m t) w) := by
 obtain ⟨ao1, cap1, rfl, -, -, -, -⟩ := id H.store;obtain ⟨ao2, cap2, rfl, -, -, -, -⟩ := id H.pieces;obtain ⟨ao3, cap3, rfl, -, -, -, -⟩ := id H.low;obtain ⟨ao4, cap4, rfl, -, -, -, -⟩ := id H.high;have HM := hide H;have h1lt : 1 < w.heap.size := by
  rcases Nat.lt_or_ge 1 w.heap.size with h | h
  ·exact h
  ·simp [World.cell?, Array.getElem?_eq_none h] at hm
 have HC := hide hm;have HN := hide hna;clear hm hna;obtain ⟨⟨js, nb⟩, hjs⟩ : ∃ z, rjR t = z := ⟨_, rfl⟩;have HSML := hide (show ∀ j ∈ js, J.d j ≤ 9223372036854775807 ∧ J.g j ≤ 9223372036854775807 from by have h := rj_small t; rw [hjs] at h; exact h);have HGD := hide (show millB m = true → replayR m t = ((runR m js).1, (js.length : Int)) from fun hv => by have h := replay_good hv t; rw [hjs] at h; exact h);have HRJ := hide (fun (W : World) (q1 : W.cell? ⟨1, 0, none⟩ = some (.int .i64 nn)) (q2 : NamesIs W) => (by have h := readJournal_impl t nn W ht q1 q2; rw [hjs] at h; exact h : Calls Tryz.prog 21 #[.string t] W _));clear hjs;clear H;unfold millV;go_enter Tryz.func15, Tryz.ntmps15;go_wp2_with fail
 refine calls_at fun wx hwx => ?_;have A_0 : RowL wx (w.heap.size) 31 [.slice ao1 m.store.length cap1, .int .i64 m.rule.lc, .int .i64 m.rule.hc, .int .i64 m.rule.lm, .int .i64 m.rule.hm, .int .i64 m.rule.ls, .int .i64 m.rule.hs, .int .i64 m.strand, .slice ao2 m.pieces.length cap2, .slice ao3 m.low.length cap3, .slice ao4 m.high.length cap4, .int .i64 m.scrap] := by rw [hwx]; exact (RowL.new _ _ _).alloc _
 have R_0 : RowL wx (w.heap.size + 1) 31 [.slice none 0 0, .int .i64 0, .int .i64 0, .int .i64 0, .int .i64 0, .int .i64 0, .int .i64 0, .int .i64 0, .slice none 0 0, .slice none 0 0, .slice none 0 0, .int .i64 0] := by rw [hwx]; simpa using (RowL.new (World.alloc _ _) 31 [.slice none 0 0, .int .i64 0, .int .i64 0, .int .i64 0, .int .i64 0, .int .i64 0, .int .i64 0, .int .i64 0, .slice none 0 0, .slice none 0 0, .slice none 0 0, .int .i64 0])
 have hb : Below w.heap.size w wx := by rw [hwx]; go_grown
 clear hwx;have B_0 := hide hb;have hz0 := R_0.lt;have V_0 := hide (HM.out.below hb);clear hb;have k1 := mill_impl _ _ _ _ m wx V_0.out.all;unfold millV at k1;cases hv : millB m with
 | false =>
  rw [hv] at k1;have HZ := hide (replay_bad hv t);clear hv;refine k1.mono ?_;rintro e w1 ⟨rfl, hb⟩;have A_1 := A_0.below hb A_0.lt;have R_1 := R_0.below hb R_0.lt;have B_1 := hide (Below.step B_0.out hb nl);have V_1 := hide (V_0.out.below hb);have hz1 := hb.size;clear hb;clear k1;obtain ⟨cR0, cR1, cR2, cR3, cR4, cR5, cR6, cR7, cR8, cR9, cR10, cR11⟩ := row12_c R_1;obtain ⟨fR0, fR1, fR2, fR3, fR4, fR5, fR6, fR7, fR8, fR9, fR10, fR11⟩ := row12_f R_1;go_wp2_with fail
  refine bodyPost_ret (by simp [results, Tryz.results15, go_sem, cR0, cR1, cR2, cR3, cR4, cR5, cR6, cR7, cR8, cR9, cR10, cR11]; try rfl) rfl ?_;rw [HZ.out];exact ⟨_, _, _, _, rfl, zero_got B_1.out nl (by omega) _ _ _ _ _ _ _ _ _ _ _ _⟩
 | true =>
  rw [hv] at k1;have HZ := hide (HGD.out hv);clear hv;refine k1.mono ?_;rintro e w1 ⟨rfl, hb⟩;have A_1 := A_0.below hb A_0.lt;have R_1 := R_0.below hb R_0.lt;have B_1 := hide (Below.step B_0.out hb nl);have V_1 := hide (V_0.out.below hb);have hz1 := hb.size;clear hb;clear k1;go_wp2_with fail
  have hm1 : w1.cell? ⟨1, 0, none⟩ = some (.int .i64 nn) := by rw [B_1.out.cell (p := ⟨1, 0, none⟩) h1lt]; exact HC.out
  refine (HRJ.out w1 hm1 (HN.out.stays B_1.out)).mono ?_;rintro e w2 ⟨v, he, own, hb⟩;have he : e = .returned (.tuple #[v, .int .i64 nb]) := he;subst he;have own := (show World.ownsRow _ _ 48 3 v js.length (flatD js) from own);obtain ⟨aoj, cpj, rfl, -, -⟩ := own_slice own;have J_2 := hide (ownD_at own rfl (by have := hb.size; omega));clear own;have A_2 := A_1.below hb A_1.lt;have R_2 := R_1.below hb R_1.lt;have B_2 := hide (Below.step B_1.out hb nl);have V_2 := hide (V_1.out.below hb);have hz2 := hb.size;clear hb;obtain ⟨cA0, cA1, cA2, cA3, cA4, cA5, cA6, cA7, cA8, cA9, cA10, cA11⟩ := row12_c A_2;go_wp2_with fail
  clear cA0 cA1 cA2 cA3 cA4 cA5 cA6 cA7 cA8 cA9 cA10 cA11;have k2 := run_impl _ _ _ _ _ m js w2 V_2.out.all (J_2.out.mono (Nat.zero_le _) (by omega) nl) HSML.out;obtain ⟨⟨y, q⟩, hy⟩ : ∃ z, runR m js = z := ⟨_, rfl⟩;rw [hy] at k2 HZ;unfold millV at k2;refine k2.mono ?_;clear k2 hy;rintro e w8 ⟨s4, p4, l4, h4, he, G, hb⟩;have he : e = .returned (.tuple #[millV s4 p4 l4 h4 y, .int .i64 q]) := he;subst he;have G : MillGot _ w8 s4 p4 l4 h4 y := G;obtain ⟨aS4, cs4, rfl, -, -⟩ := G.so.form;obtain ⟨ap4, cp4, rfl, -, -⟩ := G.po.form;obtain ⟨al4, cl4, rfl, -, -⟩ := G.lo.form;obtain ⟨ah4, ch4, rfl, -, -⟩ := G.ho.form;have R_8 := R_2.below hb R_2.lt;have B_8 := hide (Below.step B_2.out hb nl);have hz8 := hb.size;have G_8 := hide G;have hlR := R_8.lt;clear hb G;unfold millV
  go_upto_region 5 with fail
  obtain ⟨wa, hwa⟩ : ∃ q : World, q = w8.alloc (.cells #[.slice aS4 y.store.length cs4, .int .i64 y.rule.lc, .int .i64 y.rule.hc, .int .i64 y.rule.lm, .int .i64 y.rule.hm, .int .i64 y.rule.ls, .int .i64 y.rule.hs, .int .i64 y.strand, .slice ap4 y.pieces.length cp4, .slice al4 y.low.length cl4, .slice ah4 y.high.length ch4, .int .i64 y.scrap] 31) := ⟨_, rfl⟩;rw [← hwa];have Y_a : RowL wa w8.heap.size 31 [.slice aS4 y.store.length cs4, .int .i64 y.rule.lc, .int .i64 y.rule.hc, .int .i64 y.rule.lm, .int .i64 y.rule.hm, .int .i64 y.rule.ls, .int .i64 y.rule.hs, .int .i64 y.strand, .slice ap4 y.pieces.length cp4, .slice al4 y.low.length cl4, .slice ah4 y.high.length ch4, .int .i64 y.scrap] := by rw [hwa]; exact RowL.new _ _ _
  have hba : Below w8.heap.size w8 wa := by rw [hwa]; exact (Below.refl _ _).alloc nl _
  clear hwa;have R_a := R_8.below hba R_8.lt;have G_a := hide (G_8.out.below hba);have B_a := hide (Below.step B_8.out hba nl);have hza := hba.size;have hlY := Y_a.lt;clear hba;obtain ⟨cY0, cY1, cY2, cY3, cY4, cY5, cY6, cY7, cY8, cY9, cY10, cY11⟩ := row12_c Y_a;obtain ⟨cR0, cR1, cR2, cR3, cR4, cR5, cR6, cR7, cR8, cR9, cR10, cR11⟩ := row12_c R_a;obtain ⟨fR0, fR1, fR2, fR3, fR4, fR5, fR6, fR7, fR8, fR9, fR10, fR11⟩ := row12_f R_a;go_wp2_with fail
  refine bodyPost_ret (by simp [results, Tryz.results15, go_sem, cR0, cR1, cR2, cR3, cR4, cR5, cR6, cR7, cR8, cR9, cR10, cR11]; try rfl) rfl ?_;rw [HZ.out];exact ⟨_, _, _, _, rfl, put_got G_a.out B_a.out (by omega) (by omega) nl _ _ _ _ _ _ _ _ _ _ _ _⟩
theorem replay_spec (s p l h : Value) (m : Mi) (t : ByteArray) (w : World) (H : MillIn 0 w.heap.size w s p l h m) (ht : t.size < 4294967281) :
 Calls Tryz.prog 16 #[millV s p l h m, .string t] w (RunGot w.heap.size (replayR m t) w) := by
 obtain ⟨ao1, cap1, rfl, -, -, -, -⟩ := id H.store;obtain ⟨ao2, cap2, rfl, -, -, -, -⟩ := id H.pieces;obtain ⟨ao3, cap3, rfl, -, -, -, -⟩ := id H.low;obtain ⟨ao4, cap4, rfl, -, -, -, -⟩ := id H.high;have HM := hide H;obtain ⟨⟨js, nb⟩, hjs⟩ : ∃ z, rjR t = z := ⟨_, rfl⟩;have HSML := hide (show ∀ j ∈ js, J.d j ≤ 9223372036854775807 ∧ J.g j ≤ 9223372036854775807 from by have h := rj_small t; rw [hjs] at h; exact h);have HGD := hide (show millB m = true → replayR m t = ((runR m js).1, (js.length : Int)) from fun hv => by have h := replay_good hv t; rw [hjs] at h; exact h);have HRJ := hide (fun (W : World) => (by have h := readJournal_spec t W ht; rw [hjs] at h; exact h : Calls Tryz.prog 63 #[.string t] W _));clear hjs;clear H;unfold millV;go_enter Tryz.func16, Tryz.ntmps16;go_wp2_with fail
 refine calls_at fun wx hwx => ?_;have A_0 : RowL wx (w.heap.size) 31 [.slice ao1 m.store.length cap1, .int .i64 m.rule.lc, .int .i64 m.rule.hc, .int .i64 m.rule.lm, .int .i64 m.rule.hm, .int .i64 m.rule.ls, .int .i64 m.rule.hs, .int .i64 m.strand, .slice ao2 m.pieces.length cap2, .slice ao3 m.low.length cap3, .slice ao4 m.high.length cap4, .int .i64 m.scrap] := by rw [hwx]; exact (RowL.new _ _ _).alloc _
 have R_0 : RowL wx (w.heap.size + 1) 31 [.slice none 0 0, .int .i64 0, .int .i64 0, .int .i64 0, .int .i64 0, .int .i64 0, .int .i64 0, .int .i64 0, .slice none 0 0, .slice none 0 0, .slice none 0 0, .int .i64 0] := by rw [hwx]; simpa using (RowL.new (World.alloc _ _) 31 [.slice none 0 0, .int .i64 0, .int .i64 0, .int .i64 0, .int .i64 0, .int .i64 0, .int .i64 0, .int .i64 0, .slice none 0 0, .slice none 0 0, .slice none 0 0, .int .i64 0])
 have hb : Below w.heap.size w wx := by rw [hwx]; go_grown
 clear hwx;have B_0 := hide hb;have hz0 := R_0.lt;have V_0 := hide (HM.out.below hb);clear hb;refine (HRJ.out wx).mono ?_;rintro e w1 ⟨v, he, own, hb⟩;have he : e = .returned (.tuple #[v, .int .i64 nb]) := he;subst he;have own := (show World.ownsRow _ _ 48 3 v js.length (flatD js) from own);obtain ⟨aoj, cpj, rfl, -, -⟩ := own_slice own;have J_1 := hide (ownD_at own rfl (by have := hb.size; omega));clear own;have A_1 := A_0.below hb A_0.lt;have R_1 := R_0.below hb R_0.lt;have B_1 := hide (Below.step B_0.out hb nl);have V_1 := hide (V_0.out.below hb);have hz1 := hb.size;clear hb;obtain ⟨cA0, cA1, cA2, cA3, cA4, cA5, cA6, cA7, cA8, cA9, cA10, cA11⟩ := row12_c A_1;go_wp2_with fail
 clear cA0 cA1 cA2 cA3 cA4 cA5 cA6 cA7 cA8 cA9 cA10 cA11;have k1 := mill_spec _ _ _ _ m w1 V_1.out.all;unfold millV at k1;cases hv : millB m with
 | false =>
  rw [hv] at k1;have HZ := hide (replay_bad hv t);clear hv;refine k1.mono ?_;rintro e w2 ⟨rfl, hb⟩;have A_2 := A_1.below hb A_1.lt;have R_2 := R_1.below hb R_1.lt;have B_2 := hide (Below.step B_1.out hb nl);have V_2 := hide (V_1.out.below hb);have hz2 := hb.size;clear hb;clear k1;obtain ⟨cR0, cR1, cR2, cR3, cR4, cR5, cR6, cR7, cR8, cR9, cR10, cR11⟩ := row12_c R_2;obtain ⟨fR0, fR1, fR2, fR3, fR4, fR5, fR6, fR7, fR8, fR9, fR10, fR11⟩ := row12_f R_2;go_wp2_with fail
  refine bodyPost_ret (by simp [results, Tryz.results16, go_sem, cR0, cR1, cR2, cR3, cR4, cR5, cR6, cR7, cR8, cR9, cR10, cR11]; try rfl) rfl ?_;rw [HZ.out];exact ⟨_, _, _, _, rfl, zero_got B_2.out nl (by omega) _ _ _ _ _ _ _ _ _ _ _ _⟩
 | true =>
  rw [hv] at k1;have HZ := hide (HGD.out hv);clear hv;refine k1.mono ?_;rintro e w2 ⟨rfl, hb⟩;have A_2 := A_1.below hb A_1.lt;have R_2 := R_1.below hb R_1.lt;have B_2 := hide (Below.step B_1.out hb nl);have V_2 := hide (V_1.out.below hb);have hz2 := hb.size;have J_2 := hide (J_1.out.below hb);clear hb;clear k1;obtain ⟨cA0, cA1, cA2, cA3, cA4, cA5, cA6, cA7, cA8, cA9, cA10, cA11⟩ := row12_c A_2;go_wp2_with fail
  clear cA0 cA1 cA2 cA3 cA4 cA5 cA6 cA7 cA8 cA9 cA10 cA11;have k2 := run_spec _ _ _ _ _ m js w2 V_2.out.all (J_2.out.mono (Nat.zero_le _) (by omega) nl) HSML.out;obtain ⟨⟨y, q⟩, hy⟩ : ∃ z, runR m js = z := ⟨_, rfl⟩;rw [hy] at k2 HZ;unfold millV at k2;refine k2.mono ?_;clear k2 hy;rintro e w8 ⟨s4, p4, l4, h4, he, G, hb⟩;have he : e = .returned (.tuple #[millV s4 p4 l4 h4 y, .int .i64 q]) := he;subst he;have G : MillGot _ w8 s4 p4 l4 h4 y := G;obtain ⟨aS4, cs4, rfl, -, -⟩ := G.so.form;obtain ⟨ap4, cp4, rfl, -, -⟩ := G.po.form;obtain ⟨al4, cl4, rfl, -, -⟩ := G.lo.form;obtain ⟨ah4, ch4, rfl, -, -⟩ := G.ho.form;have R_8 := R_2.below hb R_2.lt;have B_8 := hide (Below.step B_2.out hb nl);have hz8 := hb.size;have G_8 := hide G;have hlR := R_8.lt;clear hb G;unfold millV
  go_upto_region 5 with fail
  obtain ⟨wa, hwa⟩ : ∃ q : World, q = w8.alloc (.cells #[.slice aS4 y.store.length cs4, .int .i64 y.rule.lc, .int .i64 y.rule.hc, .int .i64 y.rule.lm, .int .i64 y.rule.hm, .int .i64 y.rule.ls, .int .i64 y.rule.hs, .int .i64 y.strand, .slice ap4 y.pieces.length cp4, .slice al4 y.low.length cl4, .slice ah4 y.high.length ch4, .int .i64 y.scrap] 31) := ⟨_, rfl⟩;rw [← hwa];have Y_a : RowL wa w8.heap.size 31 [.slice aS4 y.store.length cs4, .int .i64 y.rule.lc, .int .i64 y.rule.hc, .int .i64 y.rule.lm, .int .i64 y.rule.hm, .int .i64 y.rule.ls, .int .i64 y.rule.hs, .int .i64 y.strand, .slice ap4 y.pieces.length cp4, .slice al4 y.low.length cl4, .slice ah4 y.high.length ch4, .int .i64 y.scrap] := by rw [hwa]; exact RowL.new _ _ _
  have hba : Below w8.heap.size w8 wa := by rw [hwa]; exact (Below.refl _ _).alloc nl _
  clear hwa;have R_a := R_8.below hba R_8.lt;have G_a := hide (G_8.out.below hba);have B_a := hide (Below.step B_8.out hba nl);have hza := hba.size;have hlY := Y_a.lt;clear hba;obtain ⟨cY0, cY1, cY2, cY3, cY4, cY5, cY6, cY7, cY8, cY9, cY10, cY11⟩ := row12_c Y_a;obtain ⟨cR0, cR1, cR2, cR3, cR4, cR5, cR6, cR7, cR8, cR9, cR10, cR11⟩ := row12_c R_a;obtain ⟨fR0, fR1, fR2, fR3, fR4, fR5, fR6, fR7, fR8, fR9, fR10, fR11⟩ := row12_f R_a;go_wp2_with fail
  refine bodyPost_ret (by simp [results, Tryz.results16, go_sem, cR0, cR1, cR2, cR3, cR4, cR5, cR6, cR7, cR8, cR9, cR10, cR11]; try rfl) rfl ?_;rw [HZ.out];exact ⟨_, _, _, _, rfl, put_got G_a.out B_a.out (by omega) (by omega) nl _ _ _ _ _ _ _ _ _ _ _ _⟩
end Go.Proofs.YtmemgbklgcjobaaGreatDoor
