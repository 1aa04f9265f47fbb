/-
  Parts of the proofs over mills, of: CutB, TextC. Conditions: each theorem states its own.
-/
import Derived.Test.YtmemgbklgcjobaaGreatDoorY43
set_option linter.unusedSimpArgs false
set_option linter.unusedVariables false
set_option maxRecDepth 10000
set_option maxHeartbeats 64000000
namespace Go.Proofs.YtmemgbklgcjobaaGreatDoor
open Go.RowKit
theorem cutBest_impl (v : Value) (a b : Int) (lo hi L : Nat) (hL : L ≤ 60) (hv : lensB a b = true) (w : World) (H : IntsAt lo hi w v [a, b]) :
 Calls Tryz.prog 162 #[.int .i64 (L : Int), v] w (IntsNew w.heap.size (manyL L a b) w) := by
 have HH := hide H;have HV := hide hv;have hlt := H.lt;obtain ⟨⟨ha1, ha2⟩, hb1, hb2⟩ := lensB_iff.1 hv;obtain ⟨hn0, hn1⟩ := many_60 hv hL;obtain ⟨b0, o0, cap, rfl, h1, h2, -, -⟩ := two_at H;have hmk : ∀ W : World, (Instr.makeSlice 27 (.int .i64 2) (.int .i64 2)).run Tryz.prog W = .ok (.slice (some ⟨W.heap.size, 0, none⟩) 2 2) (W.alloc (.cells (madeCells #[.int .i64 0] 2) 3)) := fun W =>
  make_rowN (P := Tryz.prog) 27 3 _ _ _ Tryz.underlying27 info_int .i64 .i64 2 (by omega) (by omega) W
 have hs1 : CutSt (tab a b (L + 1)) L b (many1 L a b) 0 L := CutSt.start;have hnx : ∀ l : Int, CutSt (tab a b (L + 1)) L b (many1 L a b) (many1 L a b) l → l = L - many1 L a b * b → CutSt (tab a b (L + 1)) L a (many0 L a b) 0 l := fun l => CutSt.next;have HW := hide (fun W => within_any (L : Int) 0 60 W);have hw : wi (L : Int) 0 60 = true := wi_iff.2 (by omega);rw [hw] at HW;have HT := hide (fun (W : World) (k : Below w.heap.size w W) => wastes_impl (.slice (some ⟨b0, o0, none⟩) 2 cap) a b lo hi L hL hv W (H.below k));have HLN := hide (fun (W : World) (k : Below w.heap.size w W) => lens_impl (.slice (some ⟨b0, o0, none⟩) 2 cap) a b lo hi W (H.below k));clear H hv hw;go_enter Tryz.func162, Tryz.ntmps162;go_wp2_with fail
 refine (HW.out _).mono ?_;rintro e w1 ⟨rfl, rfl⟩;go_wp2_with fail
 refine (HLN.out w (Below.refl _ _)).mono ?_;rintro e w1 ⟨rfl, rfl⟩;rw [HV.out];go_wp2_with fail
 refine (HT.out w (Below.refl _ _)).mono ?_;rintro e w2 ⟨v1, rfl, hown, hb2⟩;have hz2 := hb2.size;have HB2 := hide hb2;have h12 := ownI_at hown rfl (by omega);obtain ⟨T, hT⟩ : ∃ T, tab a b (L + 1) = T := ⟨_, rfl⟩;have HTL := hide (show T.length = L + 1 by rw [← hT, tab_len]);rw [hT] at h12 hs1 hnx;have HS1 := hide hs1;have HNX := hide hnx;have HI := hide h12;obtain ⟨ao1, cap1, rfl, -⟩ := h12;clear hown hb2 hT hs1 hnx;go_wp2_with fail
 clear hmk;obtain ⟨G, hG⟩ : ∃ G, w2.heap.size = G := ⟨_, rfl⟩;obtain ⟨wa, hwa⟩ : ∃ wa, wa = w2.alloc (.cells (madeCells #[.int .i64 0] 2) 3) := ⟨_, rfl⟩;have HR := hide (show Row2 wa G 0 0 by
  rw [← hG, hwa];exact ⟨_, World.rowIs_made w2 (.int .i64 0) 2 3, rfl, rfl⟩)
 have HB := hide (show Below w2.heap.size w2 wa by rw [hwa]; exact (Below.refl _ _).alloc nl _);rw [← hwa, hG];have HGZ := hide hG;have hbG : b0 ≠ G := by omega
 have hGb : G ≠ b0 := by omega
 clear hwa hG
 go_loopw [7, 8] (fun left i wr => Below w2.heap.size w2 wr ∧ ((i = .int .i64 1 ∧ left = .int .i64 (L : Int) ∧ Row2 wr G 0 0) ∨ (∃ l : Int, i = .int .i64 0 ∧ left = .int .i64 l ∧ CutSt T L a (many0 L a b) 0 l ∧ Row2 wr G 0 (many1 L a b)) ∨ (i = .int .i64 (-1) ∧ Row2 wr G (many0 L a b) (many1 L a b)))) (fun _ i _ => (intOf i + 1).toNat)
 case atStart => exact ⟨HB.out, .inl ⟨rfl, rfl, HR.out⟩⟩
 case round =>
  obtain ⟨hb, hcase⟩ := hrel;clear HB HR;have HB := hide hb;obtain ⟨wo, rfl⟩ : ∃ wo : World, wo = wr := ⟨_, rfl⟩;rcases hcase with ⟨rfl, rfl, hr⟩ | ⟨l, rfl, rfl, hst, hr⟩ | ⟨rfl, hr⟩
  ·have HR := hide hr
   clear hr hb;go_wp2_with fail
   go_loopw [7] (fun left wr => ∃ (c : Nat) (l : Int), left = .int .i64 l ∧ Below w2.heap.size w2 wr ∧ CutSt T L b (many1 L a b) c l ∧ Row2 wr G 0 c ∧ l = L - c * b) (fun left _ => (intOf left).toNat)
   case atStart => exact ⟨0, _, rfl, HB.out, HS1.out, HR.out, by simp⟩
   case round =>
    obtain ⟨c, l, rfl, hb, hst, hrow, hlx⟩ := hrel;have HB := hide hb;have HC := hide hst;have HR := hide hrow;have HLX := hide hlx;obtain ⟨b1, o1, cap1, e1, -, -, c0, c1⟩ := two_at (HH.out.below (HB2.out.trans (hb.mono hz2)));cases e1;obtain ⟨g0, g1, f0, f1, hGz⟩ := hrow.cell;have hl0 := hst.pos;have hl1 := hst.le;have HAT := hide (HI.out.below hb);clear hb hst hrow hlx;by_cases hle : b ≤ l
    ·obtain ⟨d, hd⟩ : ∃ d : Nat, l - b = d := ⟨(l - b).toNat, by omega⟩
     have hwd : IntKind.i64.wrap (l - b) = (d : Int) := by rw [hd]; exact IntWalk.i64_in _ (by omega)
     have hTl := HTL.out;have hdT : (d : Int) < (T.length : Int) := by omega
     have hd0 : (0 : Int) ≤ (d : Int) := by omega
     have hLT : (L : Int) < (T.length : Int) := by omega
     have hL0 : (0 : Int) ≤ (L : Int) := by omega
     obtain ⟨b3, o3, cap3, e3, -, -, gL, -⟩ := ints_at HAT.out (k := L) (by omega);cases e3;obtain ⟨b4, o4, cap4, e4, -, -, gd, -⟩ := ints_at HAT.out (k := d) (by omega);cases e4;obtain ⟨y, hy⟩ : ∃ y, T.getD d 0 = y := ⟨_, rfl⟩;obtain ⟨z, hz⟩ : ∃ z, T.getD L 0 = z := ⟨_, rfl⟩;rw [hy] at gd;rw [hz] at gL;have HM := hide (show moreB T b l = (y == z) by
      unfold moreB;rw [HC.out.same, hd, hz, show ((d : Int)).toNat = d by omega, hy];simp [hle])
     have HD := hide hd;clear hy hz hd hTl;by_cases hyz : y = z
     ·subst hyz
      have HM2 := HC.out.more (by omega) (HM.out.trans (by simp));rw [HD.out] at HM2;obtain ⟨hst2, -, hcn⟩ := HM2;have hw1 : IntKind.i64.wrap ((c : Int) + 1) = ((c + 1 : Nat) : Int) := by rw [show (c : Int) + 1 = ((c + 1 : Nat) : Int) by omega]; exact IntWalk.i64_in _ (by omega)
      have HST := hide hst2;clear hst2 HM HC;go_wp2_with fail
      go_quiet (fail)
      go_wp2_with fail
      go_roundw
      case rel => exact ⟨c + 1, d, rfl, (below_drewN HB.out _).setCell (by have := HGZ.out; show w2.heap.size ≤ G; omega) _, HST.out, by simpa using Row2.drewN HR.out _ |>.set1 (c + 1), by have h1 := HLX.out; have h2 := HD.out; rw [Int.natCast_add, Int.add_mul]; omega⟩
      case measure => have hD := HD.out; simp [intOf]; omega
     ·obtain rfl := HC.out.done (HM.out.trans (by simpa using hyz))
      have hyzb : (y == z) = false := by simpa using hyz
      clear HM;go_wp2_with fail
      go_quiet (fail)
      go_wp2_with fail
      go_roundw
      case rel => exact ⟨below_drewN HB.out _, .inr (.inl ⟨l, rfl, rfl, HNX.out l HC.out HLX.out, Row2.drewN HR.out _⟩)⟩
      case measure => simp [intOf]
    ·obtain rfl := HC.out.done (show moreB T b l = false by unfold moreB; simp [hle])
     have hleb : decide (b ≤ l) = false := by simpa using hle
     go_wp2_with fail
     go_quiet (fail)
     go_wp2_with fail
     go_roundw
     case rel => exact ⟨below_drewN HB.out _, .inr (.inl ⟨l, rfl, rfl, HNX.out l HC.out HLX.out, Row2.drewN HR.out _⟩)⟩
     case measure => simp [intOf]
  ·have HR := hide hr
   have HS0 := hide hst;clear hr hst hb;go_wp2_with fail
   go_loopw [7] (fun left wr => ∃ (c : Nat) (l : Int), left = .int .i64 l ∧ Below w2.heap.size w2 wr ∧ CutSt T L a (many0 L a b) c l ∧ Row2 wr G c (many1 L a b) ∧ True) (fun left _ => (intOf left).toNat)
   case atStart => exact ⟨0, _, rfl, HB.out, HS0.out, HR.out, trivial⟩
   case round =>
    obtain ⟨c, l, rfl, hb, hst, hrow, hlx⟩ := hrel;have HB := hide hb;have HC := hide hst;have HR := hide hrow;have HLX := hide hlx;obtain ⟨b1, o1, cap1, e1, -, -, c0, c1⟩ := two_at (HH.out.below (HB2.out.trans (hb.mono hz2)));cases e1;obtain ⟨g0, g1, f0, f1, hGz⟩ := hrow.cell;have hl0 := hst.pos;have hl1 := hst.le;have HAT := hide (HI.out.below hb);clear hb hst hrow hlx;by_cases hle : a ≤ l
    ·obtain ⟨d, hd⟩ : ∃ d : Nat, l - a = d := ⟨(l - a).toNat, by omega⟩
     have hwd : IntKind.i64.wrap (l - a) = (d : Int) := by rw [hd]; exact IntWalk.i64_in _ (by omega)
     have hTl := HTL.out;have hdT : (d : Int) < (T.length : Int) := by omega
     have hd0 : (0 : Int) ≤ (d : Int) := by omega
     have hLT : (L : Int) < (T.length : Int) := by omega
     have hL0 : (0 : Int) ≤ (L : Int) := by omega
     obtain ⟨b3, o3, cap3, e3, -, -, gL, -⟩ := ints_at HAT.out (k := L) (by omega);cases e3;obtain ⟨b4, o4, cap4, e4, -, -, gd, -⟩ := ints_at HAT.out (k := d) (by omega);cases e4;obtain ⟨y, hy⟩ : ∃ y, T.getD d 0 = y := ⟨_, rfl⟩;obtain ⟨z, hz⟩ : ∃ z, T.getD L 0 = z := ⟨_, rfl⟩;rw [hy] at gd;rw [hz] at gL;have HM := hide (show moreB T a l = (y == z) by
      unfold moreB;rw [HC.out.same, hd, hz, show ((d : Int)).toNat = d by omega, hy];simp [hle])
     have HD := hide hd;clear hy hz hd hTl;by_cases hyz : y = z
     ·subst hyz
      have HM2 := HC.out.more (by omega) (HM.out.trans (by simp));rw [HD.out] at HM2;obtain ⟨hst2, -, hcn⟩ := HM2;have hw1 : IntKind.i64.wrap ((c : Int) + 1) = ((c + 1 : Nat) : Int) := by rw [show (c : Int) + 1 = ((c + 1 : Nat) : Int) by omega]; exact IntWalk.i64_in _ (by omega)
      have HST := hide hst2;clear hst2 HM HC;go_wp2_with fail
      go_quiet (fail)
      go_wp2_with fail
      go_roundw
      case rel => exact ⟨c + 1, d, rfl, (below_drewN HB.out _).setCell (by have := HGZ.out; show w2.heap.size ≤ G; omega) _, HST.out, by simpa using Row2.drewN HR.out _ |>.set0 (c + 1), trivial⟩
      case measure => have hD := HD.out; simp [intOf]; omega
     ·obtain rfl := HC.out.done (HM.out.trans (by simpa using hyz))
      have hyzb : (y == z) = false := by simpa using hyz
      clear HM;go_wp2_with fail
      go_quiet (fail)
      go_wp2_with fail
      go_roundw
      case rel => exact ⟨below_drewN HB.out _, .inr (.inr ⟨rfl, Row2.drewN HR.out _⟩)⟩
      case measure => simp [intOf]
    ·obtain rfl := HC.out.done (show moreB T a l = false by unfold moreB; simp [hle])
     have hleb : decide (a ≤ l) = false := by simpa using hle
     go_wp2_with fail
     go_quiet (fail)
     go_wp2_with fail
     go_roundw
     case rel => exact ⟨below_drewN HB.out _, .inr (.inr ⟨rfl, Row2.drewN HR.out _⟩)⟩
     case measure => simp [intOf]
  ·have HR := hide hr
   clear hr hb;go_wp2_with fail
   go_ret;exact ⟨_, rfl, (HR.out.own (base := w.heap.size) (by have := HGZ.out; omega)), HB2.out.trans (HB.out.mono hz2)⟩
theorem parts_len (s : ByteArray) : (partsB s).length = Lib.countB s spB + 1 := Lib.splitB_all spB (by decide) 0 _ s rfl
theorem splitB_le (sep : ByteArray) (save : Nat) : ∀ (k : Nat) (s : ByteArray), ∀ p ∈ Lib.splitB sep save k s, p.size ≤ s.size
 | 0, s => by intro p hp; rw [Lib.splitB_zero] at hp; simp at hp; rw [hp]; exact Nat.le_refl _
 | k + 1, s => by
  intro p hp;unfold Lib.splitB at hp;split at hp
  ·simp at hp; rw [hp]; exact Nat.le_refl _
  ·rcases List.mem_cons.1 hp with h | h
   ·rw [h, ByteArray.size_extract]; omega
   ·have := splitB_le sep save k _ p h
    rw [ByteArray.size_extract] at this;omega
theorem parts_le (s : ByteArray) : ∀ p ∈ partsB s, p.size ≤ s.size := splitB_le spB 0 _ s
def deedV : Option (Int × Int × Int) → Value
 | none => .tuple #[.agg #[.int .i64 0, .int .i64 0, .int .i64 0], .bool false]
 | some (k, o, t) => .tuple #[.agg #[.int .i64 k, .int .i64 o, .int .i64 t], .bool true]
theorem split_any (s : ByteArray) (m : Int) (w : World) (hs : s.size < 4294967281) (hm : w.cell? ⟨1, 0, none⟩ = some (.int .i64 m)) :
 Calls Tryz.prog 124 #[.string s, .string ⟨#[32]⟩] w fun e w' => e = .returned (.slice (some ⟨w.heap.size, 0, none⟩) (partsB s).length (partsB s).length) ∧ StrsAt w' w.heap.size (partsB s) ∧ Below w.heap.size w w' := by
 refine (Tryz.strings_Split s spB m w hs hm (by decide)).mono ?_;rintro e w' ⟨rfl, rfl⟩;rw [parts_len];refine ⟨rfl, ⟨by simp, fun i hi => ?_⟩, (Below.refl _ _).alloc nl _⟩;rw [Go.Joins.cell_alloc_mark_at _ _ _ _ _ _ rfl];simp [partsB] at hi ⊢;first | (rw [List.getElem?_eq_getElem hi]; done) | (rw [List.getElem?_eq_getElem hi]; rfl) | skip
theorem kindB_range (s : ByteArray) : -1 ≤ kindB s ∧ kindB s ≤ 4 := by
 unfold kindB
 repeat' split
 all_goals omega
theorem old_alloc {r : Nat} (W : World) (o : Obj) (i : Nat) (h : r < W.heap.size) : (W.alloc o).cell? ⟨r, i, none⟩ = W.cell? ⟨r, i, none⟩ := by
 simp only [World.cell?, World.alloc, Array.getElem?_push, Nat.ne_of_lt h, if_false]
theorem readDeed_impl (s : ByteArray) (m : Int) (w : World) (hs : s.size < 4294967281) (hm : w.cell? ⟨1, 0, none⟩ = some (.int .i64 m)) (hna : NamesIs w) :
 Calls Tryz.prog 74 #[.string s] w fun e w' => e = .returned (deedV (rdI (partsB s))) ∧ Below w.heap.size w w' := by
 have h1lt : 1 < w.heap.size := by
  rcases Nat.lt_or_ge 1 w.heap.size with h | h
  ·exact h
  ·simp [World.cell?, Array.getElem?_eq_none h] at hm
 have hpl := parts_len s;obtain ⟨L, hL⟩ : ∃ L, partsB s = L := ⟨_, rfl⟩;have hle := parts_le s;have hsp := fun W h => split_any s m W hs h;rw [hL] at hpl hle;simp only [hL] at hsp;rw [hL];clear hL;have hl1 : 1 ≤ L.length := by omega
 clear hpl;obtain ⟨a0, ha0⟩ : ∃ a, L.getD 0 ⟨#[]⟩ = a := ⟨_, rfl⟩;have ha0' : L[0]'hl1 = a0 := by rw [← ha0]; simp [List.getD, List.getElem?_eq_getElem hl1]
 obtain ⟨k, hk⟩ : ∃ k, kindB a0 = k := ⟨_, rfl⟩;have hkr := kindB_range a0;rw [hk] at hkr;have hK := fun W h => kindNamed_any a0 W h;rw [hk] at hK;have HL := hide hle;have HS := hide hsp;have HK := hide hK;have HA0 := hide ha0;have HA0' := hide ha0';have HKK := hide hk;clear hle hsp hK ha0 ha0' hk;go_enter Tryz.func74, Tryz.ntmps74;go_wp2_with fail
 obtain ⟨wx, hwx⟩ : ∃ wx, wx = w.alloc (Obj.cells #[Value.int IntKind.i64 0, Value.int IntKind.i64 0, Value.int IntKind.i64 0] 48) := ⟨_, rfl⟩;rw [← hwx];have hdb : Below w.heap.size w wx := by rw [hwx]; exact (Below.refl _ _).alloc nl _
 have hd0 : wx.cell? ⟨w.heap.size, 0, none⟩ = some (.int .i64 0) := by rw [hwx]; simp [go_sem]
 have hd1 : wx.cell? ⟨w.heap.size, 1, none⟩ = some (.int .i64 0) := by rw [hwx]; simp [go_sem]
 have hd2 : wx.cell? ⟨w.heap.size, 2, none⟩ = some (.int .i64 0) := by rw [hwx]; simp [go_sem]
 have hf0 : wx.frozen? ⟨w.heap.size, 0, none⟩ = false := by rw [hwx]; simp [go_sem]
 have hf1 : wx.frozen? ⟨w.heap.size, 1, none⟩ = false := by rw [hwx]; simp [go_sem]
 have hf2 : wx.frozen? ⟨w.heap.size, 2, none⟩ = false := by rw [hwx]; simp [go_sem]
 have hdl : w.heap.size < wx.heap.size := by rw [hwx]; simp
 clear hwx;refine (HS.out _ (by rw [hdb.cell h1lt]; exact hm)).mono ?_;rintro e w2 ⟨rfl, ⟨hP, hst⟩, hb2⟩;have c0 : w2.cell? ⟨w.heap.size, 0, none⟩ = some (.int .i64 0) := by rw [hb2.cell hdl]; exact hd0
 have c1 : w2.cell? ⟨w.heap.size, 1, none⟩ = some (.int .i64 0) := by rw [hb2.cell hdl]; exact hd1
 have c2 : w2.cell? ⟨w.heap.size, 2, none⟩ = some (.int .i64 0) := by rw [hb2.cell hdl]; exact hd2
 have f0 : w2.frozen? ⟨w.heap.size, 0, none⟩ = false := by rw [hb2.frozen hdl]; exact hf0
 have f1 : w2.frozen? ⟨w.heap.size, 1, none⟩ = false := by rw [hb2.frozen hdl]; exact hf1
 have f2 : w2.frozen? ⟨w.heap.size, 2, none⟩ = false := by rw [hb2.frozen hdl]; exact hf2
 have hr2 : w.heap.size < w2.heap.size := by have := hb2.size; omega
 have hB2 : Below w.heap.size w w2 := Below.step hdb hb2 nl;have hna2 := hna.stays hB2;have hal := fun W o i => old_alloc (r := w.heap.size) W o i;obtain ⟨P, hPe⟩ : ∃ P, wx.heap.size = P := ⟨_, rfl⟩;rw [hPe] at hP hst;rw [hPe];have hrP : w.heap.size ≠ P := by omega
 clear hb2 hd0 hd1 hd2 hf0 hf1 hf2 hdb hdl hPe;have p0 := hst 0 hl1;rw [HA0'.out] at p0;have HST := hide hst;clear hst;have hL0 : (0 : Int) < (L.length : Int) := by omega
 go_wp2_with fail
 refine (HK.out _ hna2).mono ?_;rintro e w3 ⟨rfl, rfl⟩;by_cases hneg : k < 0
 ·have hnB : decide (k < 0) = true := decide_eq_true hneg
  have HF := hide (show rdI L = none by unfold rdI; simp only [HA0.out, HKK.out, if_pos hneg]);go_wp2_with fail
  refine bodyPost_ret (by simp [results, Tryz.results74, go_sem, hal, hr2, c0, c1, c2]; try rfl) rfl ?_;exact ⟨by rw [HF.out]; rfl, by go_grown⟩
 have hnB : decide (k < 0) = false := decide_eq_false hneg;have hT := fun w => hasTwo_any k w;rcases htw : twoB k
 ·rw [htw] at hT
  by_cases hlen : L.length = 2
  ·have hlB : ((L.length : Int) != 2) = false := by rw [hlen]; rfl
   have hl2 : (1 : Int) < (L.length : Int) := by omega
   obtain ⟨a1, ha1⟩ : ∃ a, L[1]'(by omega) = a := ⟨_, rfl⟩;have p1 := HST.out 1 (by omega);rw [ha1] at p1;have hsz1 : a1.size ≤ 9223372036854775807 := by
    have := HL.out a1 (by rw [← ha1]; exact List.getElem_mem _);omega
   have hR := fun w => readNumber_any a1 w hsz1;have hg1 : L.getD 1 ⟨#[]⟩ = a1 := by rw [← ha1]; simp [List.getD, List.getElem?_eq_getElem (show 1 < L.length by omega)]
   rcases hrn : rdNum a1 with _ | n
   ·rw [hrn] at hR
    simp only [optV] at hR;have HF := hide (show rdI L = none by unfold rdI; simp only [HA0.out, HKK.out, if_neg hneg, htw, hlen, hg1, hrn]; rfl);have HLEN := hide hlen;clear hlen hg1 ha1 hsz1 hrn;go_wp2_with fail
    refine (hT _).mono ?_;rintro e w3 ⟨rfl, rfl⟩;go_wp2_with fail
    refine (hR _).mono ?_;rintro e w3 ⟨rfl, rfl⟩;go_wp2_with fail
    refine bodyPost_ret (by simp [results, Tryz.results74, go_sem, hal, hr2, c0, c1, c2]; try rfl) rfl ?_;exact ⟨by rw [HF.out]; rfl, by go_grown⟩
   ·rw [hrn] at hR
    simp only [optV] at hR;have HF := hide (show rdI L = some (k, n, 0) by unfold rdI; simp only [HA0.out, HKK.out, if_neg hneg, htw, hlen, hg1, hrn]; rfl);have HLEN := hide hlen;clear hlen hg1 ha1 hsz1 hrn;go_wp2_with fail
    refine (hT _).mono ?_;rintro e w3 ⟨rfl, rfl⟩;go_wp2_with fail
    refine (hR _).mono ?_;rintro e w3 ⟨rfl, rfl⟩;go_wp2_with fail
    refine (hT _).mono ?_;rintro e w3 ⟨rfl, rfl⟩;go_wp2_with fail
    refine bodyPost_ret (by simp [results, Tryz.results74, go_sem, hal, hr2, c0, c1, c2]; try rfl) rfl ?_;exact ⟨by rw [HF.out]; rfl, by go_grown⟩
  ·have hlB : ((L.length : Int) != 2) = true := by simp; omega
   have HF := hide (show rdI L = none by unfold rdI; simp only [HA0.out, HKK.out, if_neg hneg, htw]; simp [hlen]);have HLEN := hide hlen;clear hlen;go_wp2_with fail
   refine (hT _).mono ?_;rintro e w3 ⟨rfl, rfl⟩;go_wp2_with fail
   refine bodyPost_ret (by simp [results, Tryz.results74, go_sem, hal, hr2, c0, c1, c2]; try rfl) rfl ?_;exact ⟨by rw [HF.out]; rfl, by go_grown⟩
 ·rw [htw] at hT
  by_cases hlen : L.length = 3
  ·have hlB : ((L.length : Int) != 3) = false := by rw [hlen]; rfl
   have hl2 : (1 : Int) < (L.length : Int) := by omega
   have hl3 : (2 : Int) < (L.length : Int) := by omega
   obtain ⟨a1, ha1⟩ : ∃ a, L[1]'(by omega) = a := ⟨_, rfl⟩;obtain ⟨a2, ha2⟩ : ∃ a, L[2]'(by omega) = a := ⟨_, rfl⟩;have p1 := HST.out 1 (by omega);rw [ha1] at p1;have p2 := HST.out 2 (by omega);rw [ha2] at p2;have hsz1 : a1.size ≤ 9223372036854775807 := by
    have := HL.out a1 (by rw [← ha1]; exact List.getElem_mem _);omega
   have hsz2 : a2.size ≤ 9223372036854775807 := by
    have := HL.out a2 (by rw [← ha2]; exact List.getElem_mem _);omega
   have hR := fun w => readNumber_any a1 w hsz1;have hR2 := fun w => readNumber_any a2 w hsz2;have hg1 : L.getD 1 ⟨#[]⟩ = a1 := by rw [← ha1]; simp [List.getD, List.getElem?_eq_getElem (show 1 < L.length by omega)]
   have hg2 : L.getD 2 ⟨#[]⟩ = a2 := by rw [← ha2]; simp [List.getD, List.getElem?_eq_getElem (show 2 < L.length by omega)]
   rcases hrn : rdNum a1 with _ | n
   ·rw [hrn] at hR
    simp only [optV] at hR;have HF := hide (show rdI L = none by unfold rdI; simp only [HA0.out, HKK.out, if_neg hneg, htw, hlen, hg1, hrn]; rfl);have HLEN := hide hlen;clear hlen hg1 ha1 hsz1 hrn hg2 ha2 hsz2 hR2;go_wp2_with fail
    refine (hT _).mono ?_;rintro e w3 ⟨rfl, rfl⟩;go_wp2_with fail
    refine (hR _).mono ?_;rintro e w3 ⟨rfl, rfl⟩;go_wp2_with fail
    refine bodyPost_ret (by simp [results, Tryz.results74, go_sem, hal, hr2, c0, c1, c2]; try rfl) rfl ?_;exact ⟨by rw [HF.out]; rfl, by go_grown⟩
   ·rw [hrn] at hR
    simp only [optV] at hR;rcases hrn2 : rdNum a2 with _ | n2
    ·rw [hrn2] at hR2
     simp only [optV] at hR2;have HF := hide (show rdI L = none by unfold rdI; simp only [HA0.out, HKK.out, if_neg hneg, htw, hlen, hg1, hrn, hg2, hrn2]; rfl);have HLEN := hide hlen;clear hlen hg1 ha1 hsz1 hrn hg2 ha2 hsz2 hrn2;go_wp2_with fail
     refine (hT _).mono ?_;rintro e w3 ⟨rfl, rfl⟩;go_wp2_with fail
     refine (hR _).mono ?_;rintro e w3 ⟨rfl, rfl⟩;go_wp2_with fail
     refine (hT _).mono ?_;rintro e w3 ⟨rfl, rfl⟩;go_wp2_with fail
     refine (hR2 _).mono ?_;rintro e w3 ⟨rfl, rfl⟩;go_wp2_with fail
     refine bodyPost_ret (by simp [results, Tryz.results74, go_sem, hal, hr2, c0, c1, c2]; try rfl) rfl ?_;exact ⟨by rw [HF.out]; rfl, by go_grown⟩
    ·rw [hrn2] at hR2
     simp only [optV] at hR2;have HF := hide (show rdI L = some (k, n, n2) by unfold rdI; simp only [HA0.out, HKK.out, if_neg hneg, htw, hlen, hg1, hrn, hg2, hrn2]; rfl);have HLEN := hide hlen;clear hlen hg1 ha1 hsz1 hrn hg2 ha2 hsz2 hrn2;go_wp2_with fail
     refine (hT _).mono ?_;rintro e w3 ⟨rfl, rfl⟩;go_wp2_with fail
     refine (hR _).mono ?_;rintro e w3 ⟨rfl, rfl⟩;go_wp2_with fail
     refine (hT _).mono ?_;rintro e w3 ⟨rfl, rfl⟩;go_wp2_with fail
     refine (hR2 _).mono ?_;rintro e w3 ⟨rfl, rfl⟩;go_wp2_with fail
     refine bodyPost_ret (by simp [results, Tryz.results74, go_sem, hal, hr2, c0, c1, c2]; try rfl) rfl ?_;exact ⟨by rw [HF.out]; rfl, by go_grown⟩
  ·have hlB : ((L.length : Int) != 3) = true := by simp; omega
   have HF := hide (show rdI L = none by unfold rdI; simp only [HA0.out, HKK.out, if_neg hneg, htw]; simp [hlen]);have HLEN := hide hlen;clear hlen;go_wp2_with fail
   refine (hT _).mono ?_;rintro e w3 ⟨rfl, rfl⟩;go_wp2_with fail
   refine bodyPost_ret (by simp [results, Tryz.results74, go_sem, hal, hr2, c0, c1, c2]; try rfl) rfl ?_;exact ⟨by rw [HF.out]; rfl, by go_grown⟩
end Go.Proofs.YtmemgbklgcjobaaGreatDoor
