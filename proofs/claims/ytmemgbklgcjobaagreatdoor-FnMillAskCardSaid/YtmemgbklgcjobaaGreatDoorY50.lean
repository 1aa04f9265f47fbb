/-
  Parts of the proofs over mills, of: GradeI, LMillAsk. Conditions: each theorem states its own.
-/
import Derived.Test.YtmemgbklgcjobaaGreatDoorY36
import Derived.Test.YtmemgbklgcjobaaGreatDoorY49
set_option linter.unusedSimpArgs false
set_option linter.unusedVariables false
set_option maxRecDepth 10000
set_option maxHeartbeats 64000000
namespace Go.Proofs.YtmemgbklgcjobaaGreatDoor
open Go.RowKit
theorem range_size {a b : Int} (ha : 0 ≤ a ∧ a ≤ 999) (hb : 0 ≤ b ∧ b ≤ 999) : (rangeB a b).size ≤ 43 := by
 have h1 := numB_len a (by omega) (by omega);have h2 := numB_len b (by omega) (by omega);have h3 : hyB.size = 1 := rfl;unfold rangeB;simp only [ByteArray.size_append];omega
theorem back_toArray (s : ByteArray) : (⟨s.data.toList.toArray⟩ : ByteArray) = s := by
 apply ext_list;simp
theorem cut_range_any {a b : Int} (ha : 0 ≤ a ∧ a ≤ 999) (hb : 0 ≤ b ∧ b ≤ 999) (m : Int) (w : World) (hm : w.cell? ⟨1, 0, none⟩ = some (.int .i64 m)) :
 Calls Tryz.prog 73 #[.string (rangeB a b), .string ⟨#[45]⟩] w fun e w' => e = .returned (.tuple #[.string (numB a), .string (numB b), .bool true]) ∧ Below w.heap.size w w' := by
 have h := Tryz.strings_Cut (rangeB a b) ⟨#[45]⟩ m w (by have := range_size ha hb; omega) hm;rw [show (⟨#[45]⟩ : ByteArray).data.toList = [45] from rfl, range_cut ha.1] at h;dsimp only at h;rw [back_toArray, back_toArray] at h;refine h.mono ?_;rintro e w' ⟨rfl, q, hw⟩;exact ⟨rfl, by rw [hw]; exact below_drewN (Below.refl _ _) _⟩
theorem readNumq_num {n : Int} (h : 0 ≤ n ∧ n ≤ 999) (w : World) :
 Calls Tryz.prog 125 #[.string (numB n), .int .i64 999] w fun e w' => e = .returned (.tuple #[.int .i64 n, .bool true]) ∧ w = w' := by
 have k := readNumq_any (numB n) w (by have := numB_len n (by omega) (by omega); omega);rw [rdNq_num h.1 h.2] at k;exact k
def gradeRow (g : Gr) : Nat → List Value
 | 0 => [.int .i64 0, .int .i64 0, .int .i64 0, .int .i64 0, .int .i64 0, .int .i64 0]
 | 1 => [.int .i64 g.lc, .int .i64 g.hc, .int .i64 0, .int .i64 0, .int .i64 0, .int .i64 0]
 | 2 => [.int .i64 g.lc, .int .i64 g.hc, .int .i64 g.lm, .int .i64 g.hm, .int .i64 0, .int .i64 0]
 | _ => [.int .i64 g.lc, .int .i64 g.hc, .int .i64 g.lm, .int .i64 g.hm, .int .i64 g.ls, .int .i64 g.hs]
theorem grade_size {g : Gr} (b1 : 0 ≤ g.lc ∧ g.lc ≤ 999) (b2 : 0 ≤ g.hc ∧ g.hc ≤ 999) (b3 : 0 ≤ g.lm ∧ g.lm ≤ 999) (b4 : 0 ≤ g.hm ∧ g.hm ≤ 999) (b5 : 0 ≤ g.ls ∧ g.ls ≤ 999) (b6 : 0 ≤ g.hs ∧ g.hs ≤ 999) : (gradeB g).size < 4294967281 := by
 have h1 := range_size b1 b2;have h2 := range_size b3 b4;have h3 := range_size b5 b6;have h4 : slB.size = 1 := rfl;unfold gradeB;split
 ·simp only [ByteArray.size_append]; omega
 ·exact Nat.lt_of_lt_of_le (show (⟨#[]⟩ : ByteArray).size < 1 by decide) (by omega)
theorem readGrade_of (g : Gr) (hg : grB g = true) (nn : Int) (w : World) (hm : w.cell? ⟨1, 0, none⟩ = some (.int .i64 nn)) :
 Calls Tryz.prog 55 #[.string (gradeB g)] w fun e w' => e = .returned (.tuple #[grV g, .bool true]) ∧ Below w.heap.size w w' := by
 have h1lt : 1 < w.heap.size := by
  rcases Nat.lt_or_ge 1 w.heap.size with h | h
  ·exact h
  ·simp [World.cell?, Array.getElem?_eq_none h] at hm
 have hb := grB_iff.1 hg;have b1 : 0 ≤ g.lc ∧ g.lc ≤ 999 := by omega
 have b2 : 0 ≤ g.hc ∧ g.hc ≤ 999 := by omega
 have b3 : 0 ≤ g.lm ∧ g.lm ≤ 999 := by omega
 have b4 : 0 ≤ g.hm ∧ g.hm ≤ 999 := by omega
 have b5 : 0 ≤ g.ls ∧ g.ls ≤ 999 := by omega
 have b6 : 0 ≤ g.hs ∧ g.hs ≤ 999 := by omega
 have hsz := grade_size b1 b2 b3 b4 b5 b6;have hsp := fun W h => splitS_any (gradeB g) nn W hsz h;rw [grade_parts hg ⟨b1.1, b2.1⟩ ⟨b3.1, b4.1⟩ ⟨b5.1, b6.1⟩] at hsp;have hc1 := fun W h => cut_range_any b1 b2 nn W h;have hc2 := fun W h => cut_range_any b3 b4 nn W h;have hc3 := fun W h => cut_range_any b5 b6 nn W h;have hn1 := fun W => readNumq_num b1 W;have hn2 := fun W => readNumq_num b2 W;have hn3 := fun W => readNumq_num b3 W;have hn4 := fun W => readNumq_num b4 W;have hn5 := fun W => readNumq_num b5 W;have hn6 := fun W => readNumq_num b6 W;obtain ⟨s, hs⟩ : ∃ s, gradeB g = s := ⟨_, rfl⟩;obtain ⟨r1, hr1⟩ : ∃ s, rangeB g.lc g.hc = s := ⟨_, rfl⟩;obtain ⟨r2, hr2⟩ : ∃ s, rangeB g.lm g.hm = s := ⟨_, rfl⟩;obtain ⟨r3, hr3⟩ : ∃ s, rangeB g.ls g.hs = s := ⟨_, rfl⟩;obtain ⟨n1, he1⟩ : ∃ s, numB g.lc = s := ⟨_, rfl⟩;obtain ⟨n2, he2⟩ : ∃ s, numB g.hc = s := ⟨_, rfl⟩;obtain ⟨n3, he3⟩ : ∃ s, numB g.lm = s := ⟨_, rfl⟩;obtain ⟨n4, he4⟩ : ∃ s, numB g.hm = s := ⟨_, rfl⟩;obtain ⟨n5, he5⟩ : ∃ s, numB g.ls = s := ⟨_, rfl⟩;obtain ⟨n6, he6⟩ : ∃ s, numB g.hs = s := ⟨_, rfl⟩;rw [hs];simp only [hs, hr1, hr2, hr3] at hsp;simp only [hr1, he1, he2] at hc1;simp only [hr2, he3, he4] at hc2;simp only [hr3, he5, he6] at hc3;simp only [he1] at hn1;simp only [he2] at hn2;simp only [he3] at hn3;simp only [he4] at hn4;simp only [he5] at hn5;simp only [he6] at hn6;have HM := hide hm;have HS := hide hsp;have HC1 := hide hc1;have HC2 := hide hc2;have HC3 := hide hc3;have HN1 := hide hn1;have HN2 := hide hn2;have HN3 := hide hn3;have HN4 := hide hn4;have HN5 := hide hn5;have HN6 := hide hn6;have HG := hide hg;clear hsp hc1 hc2 hc3 hn1 hn2 hn3 hn4 hn5 hn6 hs hr1 hr2 hr3 he1 he2 he3 he4 he5 he6 hg hm hb hsz b1 b2 b3 b4 b5 b6;go_enter Tryz.func55, Tryz.ntmps55;go_wp2_with fail
 refine calls_at fun wx hwx => ?_;have G_0 : RowL wx w.heap.size 25 [.int .i64 0, .int .i64 0, .int .i64 0, .int .i64 0, .int .i64 0, .int .i64 0] := by rw [hwx]; exact RowL.new _ _ _
 have hb : Below w.heap.size w wx := by rw [hwx]; exact (Below.refl _ _).alloc nl _
 clear hwx;have B_0 := hide hb;clear hb;refine (HS.out wx (by rw [B_0.out.cell (p := ⟨1, 0, none⟩) h1lt]; exact HM.out)).mono ?_;rintro e w1 ⟨rfl, hstr, hb⟩;have G_1 := G_0.below hb G_0.lt;have B_1 := hide (Below.step B_0.out hb nl);have HST := hide hstr;have hz1 := hb.size;have hl1 := hstr.1;clear hb hstr;go_wp2_with fail
 obtain ⟨wa, hwa⟩ : ∃ q : World, q = w1.alloc (.cells #[.int .i64 0, .int .i64 0, .int .i64 0, .int .i64 0, .int .i64 0, .int .i64 0] 140) := ⟨_, rfl⟩;rw [← hwa];have A_a : RowL wa w1.heap.size 140 (gradeRow g 0) := by rw [hwa]; exact RowL.new _ _ _
 have hba : Below w1.heap.size w1 wa := by rw [hwa]; exact (Below.refl _ _).alloc nl _
 clear hwa;have HBA := hide hba;clear hba
 go_loopw [22] (fun i wr => ∃ k : Nat, k ≤ 3 ∧ i = .int .i64 (k : Int) ∧ Below w1.heap.size w1 wr ∧ RowL wr w1.heap.size 140 (gradeRow g k)) (fun i _ => 3 - (intOf i).toNat)
 case atStart => exact ⟨0, by omega, rfl, HBA.out, A_a⟩
 case round =>
  obtain ⟨k, hk, rfl, hb, A_⟩ := hrel;have HB := hide hb;have hzr := hb.size;clear hb A_a;obtain rfl | rfl | rfl | rfl : k = 0 ∨ k = 1 ∨ k = 2 ∨ k = 3 := by omega
  ·have A_r : RowL wr w1.heap.size 140 [.int .i64 0, .int .i64 0, .int .i64 0, .int .i64 0, .int .i64 0, .int .i64 0] := A_
   have hlA := A_r.lt;have cS : wr.cell? ⟨wx.heap.size, 0, none⟩ = some (.string r1) := by rw [HB.out.cell (p := ⟨wx.heap.size, 0, none⟩) hl1]; exact HST.out.2 0 (by simp)
   go_wp2_with fail
   refine (HC1.out wr (by rw [HB.out.cell (p := ⟨1, 0, none⟩) (show 1 < w1.heap.size by have := B_1.out.size; omega), B_1.out.cell (p := ⟨1, 0, none⟩) h1lt]; exact HM.out)).mono ?_;rintro e w2 ⟨rfl, hb2⟩;have A_2 := A_r.below hb2 hlA;have HB2 := hide (HB.out.trans (hb2.mono (by omega)));have hz2 := hb2.size;have hlA2 := A_2.lt;clear hb2 A_r cS;have a0 := A_2.c 0 rfl;have f0 := A_2.frozen 0;have a1 := A_2.c 1 rfl;have f1 := A_2.frozen 1;have a2 := A_2.c 2 rfl;have f2 := A_2.frozen 2;have a3 := A_2.c 3 rfl;have f3 := A_2.frozen 3;have a4 := A_2.c 4 rfl;have f4 := A_2.frozen 4;have a5 := A_2.c 5 rfl;have f5 := A_2.frozen 5;go_wp2_with fail
   refine (HN1.out w2).mono ?_;rintro e w3 ⟨rfl, rfl⟩;go_wp2_with fail
   refine (HN2.out _).mono ?_;rintro e w3 ⟨rfl, rfl⟩;go_wp2_with fail
   go_roundw
   case rel =>
    refine ⟨1, by omega, rfl, ?_, ?_⟩
    ·exact HB2.out.trans ((Other.setCell (p := ⟨w1.heap.size, 1, none⟩) (Other.setCell (p := ⟨w1.heap.size, 0, none⟩) (Other.refl _ _ _) nl (Nat.lt_succ_self _) _) nl (Nat.lt_succ_self _) _).below nl (by omega))
    ·exact (A_2.set 0 _ (by simp)).set 1 _ (by simp)
   case measure => simp [intOf] <;> omega
  ·have A_r : RowL wr w1.heap.size 140 [.int .i64 g.lc, .int .i64 g.hc, .int .i64 0, .int .i64 0, .int .i64 0, .int .i64 0] := A_
   have hlA := A_r.lt;have cS : wr.cell? ⟨wx.heap.size, 1, none⟩ = some (.string r2) := by rw [HB.out.cell (p := ⟨wx.heap.size, 1, none⟩) hl1]; exact HST.out.2 1 (by simp)
   go_wp2_with fail
   refine (HC2.out wr (by rw [HB.out.cell (p := ⟨1, 0, none⟩) (show 1 < w1.heap.size by have := B_1.out.size; omega), B_1.out.cell (p := ⟨1, 0, none⟩) h1lt]; exact HM.out)).mono ?_;rintro e w2 ⟨rfl, hb2⟩;have A_2 := A_r.below hb2 hlA;have HB2 := hide (HB.out.trans (hb2.mono (by omega)));have hz2 := hb2.size;have hlA2 := A_2.lt;clear hb2 A_r cS;have a0 := A_2.c 0 rfl;have f0 := A_2.frozen 0;have a1 := A_2.c 1 rfl;have f1 := A_2.frozen 1;have a2 := A_2.c 2 rfl;have f2 := A_2.frozen 2;have a3 := A_2.c 3 rfl;have f3 := A_2.frozen 3;have a4 := A_2.c 4 rfl;have f4 := A_2.frozen 4;have a5 := A_2.c 5 rfl;have f5 := A_2.frozen 5;go_wp2_with fail
   refine (HN3.out w2).mono ?_;rintro e w3 ⟨rfl, rfl⟩;go_wp2_with fail
   refine (HN4.out _).mono ?_;rintro e w3 ⟨rfl, rfl⟩;go_wp2_with fail
   go_roundw
   case rel =>
    refine ⟨2, by omega, rfl, ?_, ?_⟩
    ·exact HB2.out.trans ((Other.setCell (p := ⟨w1.heap.size, 3, none⟩) (Other.setCell (p := ⟨w1.heap.size, 2, none⟩) (Other.refl _ _ _) nl (Nat.lt_succ_self _) _) nl (Nat.lt_succ_self _) _).below nl (by omega))
    ·exact (A_2.set 2 _ (by simp)).set 3 _ (by simp)
   case measure => simp [intOf] <;> omega
  ·have A_r : RowL wr w1.heap.size 140 [.int .i64 g.lc, .int .i64 g.hc, .int .i64 g.lm, .int .i64 g.hm, .int .i64 0, .int .i64 0] := A_
   have hlA := A_r.lt;have cS : wr.cell? ⟨wx.heap.size, 2, none⟩ = some (.string r3) := by rw [HB.out.cell (p := ⟨wx.heap.size, 2, none⟩) hl1]; exact HST.out.2 2 (by simp)
   go_wp2_with fail
   refine (HC3.out wr (by rw [HB.out.cell (p := ⟨1, 0, none⟩) (show 1 < w1.heap.size by have := B_1.out.size; omega), B_1.out.cell (p := ⟨1, 0, none⟩) h1lt]; exact HM.out)).mono ?_;rintro e w2 ⟨rfl, hb2⟩;have A_2 := A_r.below hb2 hlA;have HB2 := hide (HB.out.trans (hb2.mono (by omega)));have hz2 := hb2.size;have hlA2 := A_2.lt;clear hb2 A_r cS;have a0 := A_2.c 0 rfl;have f0 := A_2.frozen 0;have a1 := A_2.c 1 rfl;have f1 := A_2.frozen 1;have a2 := A_2.c 2 rfl;have f2 := A_2.frozen 2;have a3 := A_2.c 3 rfl;have f3 := A_2.frozen 3;have a4 := A_2.c 4 rfl;have f4 := A_2.frozen 4;have a5 := A_2.c 5 rfl;have f5 := A_2.frozen 5;go_wp2_with fail
   refine (HN5.out w2).mono ?_;rintro e w3 ⟨rfl, rfl⟩;go_wp2_with fail
   refine (HN6.out _).mono ?_;rintro e w3 ⟨rfl, rfl⟩;go_wp2_with fail
   go_roundw
   case rel =>
    refine ⟨3, by omega, rfl, ?_, ?_⟩
    ·exact HB2.out.trans ((Other.setCell (p := ⟨w1.heap.size, 5, none⟩) (Other.setCell (p := ⟨w1.heap.size, 4, none⟩) (Other.refl _ _ _) nl (Nat.lt_succ_self _) _) nl (Nat.lt_succ_self _) _).below nl (by omega))
    ·exact (A_2.set 4 _ (by simp)).set 5 _ (by simp)
   case measure => simp [intOf] <;> omega
  ·have A_r : RowL wr w1.heap.size 140 [.int .i64 g.lc, .int .i64 g.hc, .int .i64 g.lm, .int .i64 g.hm, .int .i64 g.ls, .int .i64 g.hs] := A_
   have hlA := A_r.lt;have G_r := G_1.below HB.out G_1.lt;have hlG := G_r.lt;have B_r := hide (Below.step B_1.out HB.out nl);have a0 := A_r.c 0 rfl;have a1 := A_r.c 1 rfl;have a2 := A_r.c 2 rfl;have a3 := A_r.c 3 rfl;have a4 := A_r.c 4 rfl;have a5 := A_r.c 5 rfl;go_wp2_with fail
   refine calls_at fun wy hwy => ?_;have Q_y : RowL wy wr.heap.size 25 [.int .i64 g.lc, .int .i64 g.hc, .int .i64 g.lm, .int .i64 g.hm, .int .i64 g.ls, .int .i64 g.hs] := by rw [hwy]; exact RowL.new _ _ _
   have hby : Below wr.heap.size wr wy := by rw [hwy]; exact (Below.refl _ _).alloc nl _
   clear hwy;have G_y := G_r.below hby hlG;have B_y := hide (Below.step B_r.out hby nl);have hzy := hby.size;clear hby;have kv := grv_impl g wy;rw [HG.out] at kv;unfold grV at kv;refine kv.mono ?_;clear kv;rintro e w5 ⟨rfl, hb5⟩;have G_5 := G_y.below hb5 G_y.lt;have Q_5 := Q_y.below hb5 Q_y.lt;have B_5 := hide (Below.step B_y.out hb5 nl);have hz5 := hb5.size;clear hb5;have q0 := Q_5.c 0 rfl;have q1 := Q_5.c 1 rfl;have q2 := Q_5.c 2 rfl;have q3 := Q_5.c 3 rfl;have q4 := Q_5.c 4 rfl;have q5 := Q_5.c 5 rfl;have z0 := G_5.c 0 rfl;have y0 := G_5.frozen 0;have z1 := G_5.c 1 rfl;have y1 := G_5.frozen 1;have z2 := G_5.c 2 rfl;have y2 := G_5.frozen 2;have z3 := G_5.c 3 rfl;have y3 := G_5.frozen 3;have z4 := G_5.c 4 rfl;have y4 := G_5.frozen 4;have z5 := G_5.c 5 rfl;have y5 := G_5.frozen 5;go_wp2_with fail
   refine bodyPost_ret (by simp [results, Tryz.results55, go_sem, z0, z1, z2, z3, z4, z5]; try rfl) rfl ?_;exact ⟨rfl, B_5.out.trans ((Other.setCell (p := ⟨w.heap.size, 5, none⟩) (Other.setCell (p := ⟨w.heap.size, 4, none⟩) (Other.setCell (p := ⟨w.heap.size, 3, none⟩) (Other.setCell (p := ⟨w.heap.size, 2, none⟩) (Other.setCell (p := ⟨w.heap.size, 1, none⟩) (Other.setCell (p := ⟨w.heap.size, 0, none⟩) (Other.refl _ _ _) nl (Nat.lt_succ_self _) _) nl (Nat.lt_succ_self _) _) nl (Nat.lt_succ_self _) _) nl (Nat.lt_succ_self _) _) nl (Nat.lt_succ_self _) _) nl (Nat.lt_succ_self _) _).below nl B_5.out.size)⟩
theorem askB_pos {m : Mi} (h : millB m = true) (q : ByteArray) : (askB m q).size ≠ 0 := by
 have hv := millB_iff.1 h;have hid : ∀ s, (idsB (piecesR m s)).size ≠ 0 := fun s => by
  unfold idsB;split
  ·decide
  ·rename_i hne
   exact Nat.ne_of_gt (joinN_pos _ hne (fun n hn => (mem_pieces n hn).1))
 have hgr : (gradeB m.rule).size ≠ 0 := by
  have h1 := grB_iff.1 hv.rule;have h2 := numB_pos (n := m.rule.lc) h1.1.1;unfold gradeB;rw [if_pos hv.rule];unfold rangeB;simp only [ByteArray.size_append];omega
 have hms := mass_bd h;have n1 := numB_pos (n := m.strand) hv.st0;have n2 := numB_pos (n := m.scrap) hv.sc0;have n3 := numB_pos (n := massR m) hms.1;unfold askB;rw [if_pos h];split
 ·omega
 ·split
  ·omega
  ·split
   ·omega
   ·split
    ·exact hid 0
    ·split
     ·exact hid 1
     ·split
      ·exact hid 2
      ·split
       ·exact hgr
       ·decide
theorem askB_bad {m : Mi} (h : millB m = false) (q : ByteArray) : askB m q = ⟨#[]⟩ := by
 unfold askB;rw [if_neg (by simp [h])]
theorem askB_grade {m : Mi} (h : millB m = true) : askB m ⟨#[103, 114, 97, 100, 101]⟩ = gradeB m.rule := by
 unfold askB;rw [if_pos h];simp [qB]
theorem law_MillAsk (v : Value) (n : Nat) (nn : Int) (w : World) (h : BytesAt 0 w.heap.size w v n) (hm : w.cell? ⟨1, 0, none⟩ = some (.int .i64 nn)) (hpo : PowIs w) :
 Calls Tryz.prog 12 #[v] w fun e w' => e = .returned (.bool true) ∧ Below w.heap.size w w' := by
 have h1lt : 1 < w.heap.size := by
  rcases Nat.lt_or_ge 1 w.heap.size with h | h
  ·exact h
  ·simp [World.cell?, Array.getElem?_eq_none h] at hm
 have HNC := hide (show ∀ W : World, Below w.heap.size w W → W.cell? ⟨1, 0, none⟩ = some (.int .i64 nn) from fun W q => by rw [q.cell (p := ⟨1, 0, none⟩) h1lt]; exact hm);clear hm;have HPO := hide (fun (W : World) (q : Below w.heap.size w W) => hpo.stays q);clear hpo;obtain ⟨ao, cap, rfl, hnc, hcap, -, -⟩ := id h;have HB := hide h;clear h;by_cases hlong : 1048576 < n
 ·go_enter Tryz.func12, Tryz.ntmps12
  go_wp2_with fail
  go_ret;exact ⟨rfl, by go_grown⟩
 go_enter Tryz.func12, Tryz.ntmps12;go_wp2_with fail
 refine (drawMillAsk _ n _ HB.out).mono ?_;rintro e w1 ⟨s, p, l, h, m, t, rfl, htl, hG, hf, hb⟩;obtain ⟨ao1, cap1, rfl, -, -, -, -⟩ := id hG.all.store;obtain ⟨ao2, cap2, rfl, -, -, -, -⟩ := id hG.all.pieces;obtain ⟨ao3, cap3, rfl, -, -, -, -⟩ := id hG.all.low;obtain ⟨ao4, cap4, rfl, -, -, -, -⟩ := id hG.all.high;have B_1 := hide hb;have VV_1 := hide hG;have hz1 := hb.size;clear hb hG;unfold millV;go_wp2_with fail
 refine calls_at fun wx hwx => ?_;have M_wx : RowL wx (w1.heap.size) 31 [.slice ao1 m.store.length cap1, .int .i64 m.rule.lc, .int .i64 m.rule.hc, .int .i64 m.rule.lm, .int .i64 m.rule.hm, .int .i64 m.rule.ls, .int .i64 m.rule.hs, .int .i64 m.strand, .slice ao2 m.pieces.length cap2, .slice ao3 m.low.length cap3, .slice ao4 m.high.length cap4, .int .i64 m.scrap] := by rw [hwx]; exact (RowL.new _ _ _)
 have hb : Below w1.heap.size w1 wx := by rw [hwx]; exact ((Below.refl _ _).alloc nl _)
 clear hwx;have VV_wx := hide (VV_1.out.below hb);have B_wx := hide (Below.step B_1.out hb nl);have hzwx := hb.size;have hLwx := M_wx.lt;clear hb;obtain ⟨u, hu⟩ : ∃ q, askB m t = q := ⟨_, rfl⟩;have HU := hide hu;have hqq : (u.toList != u.toList) = false := by simp
 have KI := ask_impl _ _ _ _ m t wx VV_wx.out.all (HPO.out _ B_wx.out);rw [hu] at KI;unfold millV at KI;refine (KI).mono ?_;rintro e w2 ⟨rfl, hb⟩;have M_2 := M_wx.below hb M_wx.lt;have VV_2 := hide (VV_wx.out.below hb);have B_2 := hide (Below.step B_wx.out hb nl);have hz2 := hb.size;clear hb;obtain ⟨cM0, cM1, cM2, cM3, cM4, cM5, cM6, cM7, cM8, cM9, cM10, cM11⟩ := row12_c M_2;go_wp2_with fail
 clear cM0 cM1 cM2 cM3 cM4 cM5 cM6 cM7 cM8 cM9 cM10 cM11;have KS := ask_spec _ _ _ _ m t w2 VV_2.out.all (HPO.out _ B_2.out);rw [hu] at KS;unfold millV at KS;refine (KS).mono ?_;rintro e w3 ⟨rfl, hb⟩;have M_3 := M_2.below hb M_2.lt;have VV_3 := hide (VV_2.out.below hb);have B_3 := hide (Below.step B_2.out hb nl);have hz3 := hb.size;clear hb;obtain ⟨cM0, cM1, cM2, cM3, cM4, cM5, cM6, cM7, cM8, cM9, cM10, cM11⟩ := row12_c M_3;go_wp2_with fail
 clear cM0 cM1 cM2 cM3 cM4 cM5 cM6 cM7 cM8 cM9 cM10 cM11;clear KI KS hu;have KV := mill_spec _ _ _ _ m w3 VV_3.out.all;unfold millV at KV;have hem := empty_iff u;cases hv : millB m with
 | false =>
  rw [hv] at KV;have hz : u.size = 0 := by rw [← HU.out, askB_bad hv]; rfl
  rw [decide_eq_true hz] at hem;clear hz;refine (KV).mono ?_;rintro e w4 ⟨rfl, hb⟩;have M_4 := M_3.below hb M_3.lt;have VV_4 := hide (VV_3.out.below hb);have B_4 := hide (Below.step B_3.out hb nl);have hz4 := hb.size;clear hb;go_wp2_with fail
  refine (alive_any w4).mono ?_;rintro e w5 ⟨rfl, hb⟩;have M_5 := M_4.below hb M_4.lt;have VV_5 := hide (VV_4.out.below hb);have B_5 := hide (Below.step B_4.out hb nl);have hz5 := hb.size;clear hb;go_wp2_with fail
  go_ret;exact ⟨rfl, B_5.out⟩
 | true =>
  rw [hv] at KV;have hz : u.size ≠ 0 := by rw [← HU.out]; exact askB_pos hv t
  rw [decide_eq_false hz] at hem;clear hz;have HGR := hide ((millB_iff.1 hv).rule);have HV := hide hv;obtain ⟨gt, hgt⟩ : ∃ q, gradeB m.rule = q := ⟨_, rfl⟩;have KG := fun W (q : Below w.heap.size w W) => readGrade_of m.rule HGR.out nn W (HNC.out _ q);rw [hgt] at KG;have HKG := hide KG;have HGT := hide hgt;clear KG hgt hv;refine (KV).mono ?_;rintro e w4 ⟨rfl, hb⟩;have M_4 := M_3.below hb M_3.lt;have VV_4 := hide (VV_3.out.below hb);have B_4 := hide (Below.step B_3.out hb nl);have hz4 := hb.size;clear hb;obtain ⟨cM0, cM1, cM2, cM3, cM4, cM5, cM6, cM7, cM8, cM9, cM10, cM11⟩ := row12_c M_4;go_wp2_with fail
  clear cM0 cM1 cM2 cM3 cM4 cM5 cM6 cM7 cM8 cM9 cM10 cM11;clear KV;have KA := ask_impl _ _ _ _ m ⟨#[103, 114, 97, 100, 101]⟩ w4 VV_4.out.all (HPO.out _ B_4.out);rw [askB_grade HV.out, HGT.out] at KA;unfold millV at KA;refine (KA).mono ?_;rintro e w5 ⟨rfl, hb⟩;have M_5 := M_4.below hb M_4.lt;have VV_5 := hide (VV_4.out.below hb);have B_5 := hide (Below.step B_4.out hb nl);have hz5 := hb.size;clear hb;go_wp2_with fail
  clear KA;have KR := HKG.out w5 B_5.out;unfold grV at KR;refine (KR).mono ?_;rintro e w6 ⟨rfl, hb⟩;have M_6 := M_5.below hb M_5.lt;have VV_6 := hide (VV_5.out.below hb);have B_6 := hide (Below.step B_5.out hb nl);have hz6 := hb.size;clear hb;have cM1 := M_6.c 1 rfl;have cM2 := M_6.c 2 rfl;have cM3 := M_6.c 3 rfl;have cM4 := M_6.c 4 rfl;have cM5 := M_6.c 5 rfl;have cM6 := M_6.c 6 rfl;have hqM6 := M_6.lt;go_wp2_with fail
  go_ret;exact ⟨rfl, (B_6.out).alloc (B_6.out).size _⟩
end Go.Proofs.YtmemgbklgcjobaaGreatDoor
