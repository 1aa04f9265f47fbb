/-
  Parts of the proofs over mills, of: PiecesB, MassB, IdsT, AskI. Conditions: each theorem states its own.
-/
import Derived.Test.YtmemgbklgcjobaaGreatDoorY20
import Derived.Test.YtmemgbklgcjobaaGreatDoorY34
set_option linter.unusedSimpArgs false
set_option linter.unusedVariables false
set_option maxRecDepth 10000
set_option maxHeartbeats 64000000
namespace Go.Proofs.YtmemgbklgcjobaaGreatDoor
open Go.RowKit
theorem pieces_spec (s p l h : Value) (m : Mi) (st : Int) (w : World) (H : MillIn 0 w.heap.size w s p l h m) :
 Calls Tryz.prog 41 #[millV s p l h m, .int .i64 st] w (IntsNew w.heap.size (piecesR m st) w) := by
 obtain ⟨ao1, cap1, rfl, -, -, -, -⟩ := id H.store;obtain ⟨ao2, cap2, rfl, -, -, -, -⟩ := id H.pieces;obtain ⟨ao3, cap3, rfl, -, -, -, -⟩ := id H.low;obtain ⟨ao4, cap4, rfl, -, -, -, -⟩ := id H.high;have hpl := H.pieces.len;obtain ⟨i0, hi0, hz0, hi1, hi2⟩ := info_parts info_int;have HV := hide H;clear H;unfold millV;go_enter Tryz.func41, Tryz.ntmps41;go_wp2_with fail
 go_loopw [5, 6] (fun o i wr => ∃ k : Nat, k ≤ m.pieces.length ∧ i = .int .i64 k ∧ Below w.heap.size w wr ∧ RowL wr w.heap.size 31 [.slice ao1 m.store.length cap1, .int .i64 m.rule.lc, .int .i64 m.rule.hc, .int .i64 m.rule.lm, .int .i64 m.rule.hm, .int .i64 m.rule.ls, .int .i64 m.rule.hs, .int .i64 m.strand, .slice ao2 m.pieces.length cap2, .slice ao3 m.low.length cap3, .slice ao4 m.high.length cap4, .int .i64 m.scrap] ∧ wr.ownsRow (w.heap.size + 1) 3 1 o (idsTo m.pieces st k).length (flatI (idsTo m.pieces st k)) ∧ (millB m = false → k = 0)) (fun _ i _ => m.pieces.length - (intOf i).toNat)
 case atStart => exact ⟨0, Nat.zero_le _, rfl, by go_grown, (RowL.new _ _ _).alloc _, by simpa [idsTo, flatI] using World.ownsRow_lit (e := 3) (size := 1) (base := w.heap.size + 1) (w.alloc (.cells #[.slice ao1 m.store.length cap1, .int .i64 m.rule.lc, .int .i64 m.rule.hc, .int .i64 m.rule.lm, .int .i64 m.rule.hm, .int .i64 m.rule.ls, .int .i64 m.rule.hs, .int .i64 m.strand, .slice ao2 m.pieces.length cap2, .slice ao3 m.low.length cap3, .slice ao4 m.high.length cap4, .int .i64 m.scrap] 31)) #[] 0 (by simp) (by unfold maxLen; omega) (by simp), fun _ => rfl⟩
 case round =>
  obtain ⟨k, hk, rfl, hb, hA, hown, hv0⟩ := hrel;have HB := hide hb;have HO := hide hown;have HV0 := hide hv0;have HA := hide hA;have hz := hb.size;have hzA := hA.lt;have hnl := idsTo_len m.pieces st k;obtain ⟨aow, capw, rfl, -, -⟩ := own_slice hown;have VR := hide (HV.out.below hb);have cA0 : wr.cell? ⟨w.heap.size, 0, none⟩ = some (.slice ao1 m.store.length cap1) := HA.out.cell 0 (by simp);have cA1 : wr.cell? ⟨w.heap.size, 1, none⟩ = some (.int .i64 m.rule.lc) := HA.out.cell 1 (by simp);have cA2 : wr.cell? ⟨w.heap.size, 2, none⟩ = some (.int .i64 m.rule.hc) := HA.out.cell 2 (by simp);have cA3 : wr.cell? ⟨w.heap.size, 3, none⟩ = some (.int .i64 m.rule.lm) := HA.out.cell 3 (by simp);have cA4 : wr.cell? ⟨w.heap.size, 4, none⟩ = some (.int .i64 m.rule.hm) := HA.out.cell 4 (by simp);have cA5 : wr.cell? ⟨w.heap.size, 5, none⟩ = some (.int .i64 m.rule.ls) := HA.out.cell 5 (by simp);have cA6 : wr.cell? ⟨w.heap.size, 6, none⟩ = some (.int .i64 m.rule.hs) := HA.out.cell 6 (by simp);have cA7 : wr.cell? ⟨w.heap.size, 7, none⟩ = some (.int .i64 m.strand) := HA.out.cell 7 (by simp);have cA8 : wr.cell? ⟨w.heap.size, 8, none⟩ = some (.slice ao2 m.pieces.length cap2) := HA.out.cell 8 (by simp);have cA9 : wr.cell? ⟨w.heap.size, 9, none⟩ = some (.slice ao3 m.low.length cap3) := HA.out.cell 9 (by simp);have cA10 : wr.cell? ⟨w.heap.size, 10, none⟩ = some (.slice ao4 m.high.length cap4) := HA.out.cell 10 (by simp);have cA11 : wr.cell? ⟨w.heap.size, 11, none⟩ = some (.int .i64 m.scrap) := HA.out.cell 11 (by simp);clear hown hv0 hA hb;by_cases hlt : k < m.pieces.length
  ·have hkI : (k : Int) < (m.pieces.length : Int) := by omega
   go_wp2_with fail
   have KV := mill_spec _ _ _ _ m wr VR.out.all;clear cA0 cA1 cA2 cA3 cA4 cA5 cA6 cA7 cA8 cA9 cA10 cA11;cases hv : millB m with
   | false =>
    rw [hv] at KV;refine KV.mono ?_;rintro e wq ⟨rfl, hbq⟩;have HBq := hide (Below.step HB.out hbq nl);have hk0 : k = 0 := HV0.out hv;subst hk0;have HOq := hide (ownsRow_mono (ownsRow_below HO.out hbq nl) (Nat.le_succ _));have HF := hide (show piecesR m st = idsTo m.pieces st 0 by simp [piecesR, hv, idsTo]);clear hbq KV hv;go_wp2_with fail
    go_ret;exact ⟨_, rfl, by rw [HF.out]; exact HOq.out, HBq.out⟩
   | true =>
    rw [hv] at KV;refine KV.mono ?_;rintro e wq ⟨rfl, hbq⟩;have HBq := hide (Below.step HB.out hbq nl);have HAq := hide (HA.out.below hbq hzA);have HOq := hide (ownsRow_below HO.out hbq nl);have VQ := hide (VR.out.below hbq);have h5 := (millB_iff.1 hv).len;have HV1 := hide (show ∀ n : Nat, millB m = false → n = 0 by intro n h; rw [hv] at h; exact absurd h (by simp));have hzq := hbq.size;have cA8 : wq.cell? ⟨w.heap.size, 8, none⟩ = some (.slice ao2 m.pieces.length cap2) := HAq.out.cell 8 (by simp);obtain ⟨_, _, e1, -, -, -, hcl⟩ := VQ.out.pieces;simp only [Value.slice.injEq] at e1;obtain ⟨rfl, -, rfl⟩ := e1;obtain ⟨b, o, rfl, -, hbl, hcs⟩ := hcl (by omega);obtain ⟨⟨r0, r1⟩, -⟩ := hcs k hlt;have hg : m.pieces.getD k pc0 = m.pieces[k] := by simp [hlt]
    have hN : idsTo m.pieces st (k + 1) = if m.pieces[k].s == st then idsTo m.pieces st k ++ [(k : Int) + 1] else idsTo m.pieces st k := by rw [idsTo, hg]
    have HN := hide hN;obtain ⟨x, hx⟩ : ∃ x, m.pieces[k].s = x := ⟨_, rfl⟩;obtain ⟨y, hy⟩ : ∃ y, m.pieces[k].l = y := ⟨_, rfl⟩;rw [hx] at r1 HN;rw [hy] at r0;clear hcs hx hy hg hN hbq KV hv hcl;cases hq : (x == st) with
    | false =>
     have HN2 := hide (show idsTo m.pieces st (k + 1) = idsTo m.pieces st k by rw [HN.out, hq]; rfl);go_wp2_with fail
     go_roundw
     case rel => exact ⟨k + 1, by omega, by go_num, HBq.out, HAq.out, by rw [HN2.out]; exact HOq.out, HV1.out _⟩
     case measure => simp [intOf]; omega
    | true =>
     have HN2 := hide (show idsTo m.pieces st (k + 1) = idsTo m.pieces st k ++ [(k : Int) + 1] by rw [HN.out, hq]; rfl);go_wp2_with (at_builtin; refine wpList_append_view rfl _ _ 27 rfl (w.heap.size + 1) 3 i0 (.int .i64 0) 1 8 Tryz.underlying27 hi0 hz0 hi1 hi2 rfl (by decide) _ _ _ rfl (HOq.out.alloc _) (.slice (some ⟨wq.heap.size, 0, none⟩) 1 1) 1 [.int .i64 ((k : Int) + 1)] rfl ?c0 ?c1 ?c2 ?c3 ?_)
     case c0 => exact Source.lit wq [.int .i64 ((k : Int) + 1)] 1 3 1 rfl (fun u hu => by simp at hu; subst hu; rfl) 1
     case c1 => unfold maxLen; omega
     case c2 => omega
     case c3 => simp; omega
     intro v2 w3 hown2 hgrow2 _;have hB3 : Below (w.heap.size + 1) wq w3 := ((Below.refl _ wq).alloc (by omega) (.cells #[.int .i64 ((k : Int) + 1)] 3)).trans (Below.grow hgrow2 (HOq.out.alloc _) nl (by simp; omega));have HB3 := hide (HBq.out.trans (hB3.mono (Nat.le_succ _)));have HA3 := hide (HAq.out.below hB3 (Nat.lt_succ_self _));have HO3 := hide (show w3.ownsRow (w.heap.size + 1) 3 1 v2 (idsTo m.pieces st (k + 1)).length (flatI (idsTo m.pieces st (k + 1))) by rw [HN2.out]; simpa [flatI] using hown2);clear hown2 hgrow2 hB3;go_wp2_with fail
     go_roundw
     case rel => exact ⟨k + 1, by omega, by go_num, HB3.out, HA3.out, HO3.out, HV1.out _⟩
     case measure => simp [intOf]; omega
  ·obtain rfl : k = m.pieces.length := by omega
   have HF := hide (show piecesR m st = idsTo m.pieces st m.pieces.length by
    unfold piecesR;split
    ·rfl
    ·rename_i h; rw [HV0.out (by simpa using h)]; rfl)
   have HOq := hide (ownsRow_mono HO.out (Nat.le_succ _));go_wp2_with fail
   go_ret;exact ⟨_, rfl, by rw [HF.out]; exact HOq.out, HB.out⟩
theorem mass_spec (s p l h : Value) (m : Mi) (w : World) (H : MillIn 0 w.heap.size w s p l h m) :
 Calls Tryz.prog 39 #[millV s p l h m] w fun e w' => e = .returned (.int .i64 (massR m)) ∧ Below w.heap.size w w' := by
 obtain ⟨ao1, cap1, rfl, -, -, -, -⟩ := id H.store;obtain ⟨ao2, cap2, rfl, -, -, -, -⟩ := id H.pieces;have hsl := H.store.len;have hpl := H.pieces.len;unfold millV;go_enter Tryz.func39, Tryz.ntmps39;go_wp2_with fail
 refine calls_at fun wx hwx => ?_;have A_0 : RowL wx (w.heap.size) 31 [.slice ao1 m.store.length cap1, .int .i64 m.rule.lc, .int .i64 m.rule.hc, .int .i64 m.rule.lm, .int .i64 m.rule.hm, .int .i64 m.rule.ls, .int .i64 m.rule.hs, .int .i64 m.strand, .slice ao2 m.pieces.length cap2, l, h, .int .i64 m.scrap] := by rw [hwx]; exact (RowL.new _ _ _)
 have B_0 : Below w.heap.size w wx := by rw [hwx]; go_grown
 clear hwx;have hL0 := A_0.lt;have VV_0 := hide (H.below B_0);have KV := mill_spec _ _ _ _ m wx VV_0.out.all;cases hv : millB m with
 | false =>
  rw [hv] at KV;refine KV.mono ?_;rintro e w1 ⟨rfl, hb⟩;have HB := hide (Below.step B_0 hb nl);have HF := hide (show massR m = -1 by simp [massR, hv]);clear hb KV hv;go_wp2_with fail
  go_ret;exact ⟨by rw [HF.out]; rfl, HB.out⟩
 | true =>
  rw [hv] at KV;have MV := millB_iff.1 hv;have HM := hide (show massR m = massI m by simp [massR, hv]);have HS := hide (stock_bd MV.store);have HL := hide (long_bd MV.pcs);have h1 := MV.st0;have h2 := MV.st1;have h3 := MV.sc0;have h4 := MV.sc1;have h5 := MV.len;have h6 := stsB_len MV.store;have HQ := hide (fun k hk => (stB_iff.1 (stsB_at MV.store (k := k) hk)));clear MV hv;refine (KV).mono ?_;rintro e w1 ⟨rfl, hb⟩;have A_1 := A_0.below hb A_0.lt;have VV_1 := hide (VV_0.out.below hb);have B_1 := hide (Below.step B_0 hb nl);have hz1 := hb.size;clear hb;have cA0 := A_1.c 0 rfl;have cA7 := A_1.c 7 rfl;have cA8 := A_1.c 8 rfl;have cA11 := A_1.c 11 rfl;clear KV;obtain ⟨a, ha⟩ : ∃ a, m.strand = a := ⟨_, rfl⟩;obtain ⟨b0, hb0⟩ : ∃ b, m.scrap = b := ⟨_, rfl⟩;rw [ha] at cA7 h1 h2;rw [hb0] at cA11 h3 h4;have hw0 : IntKind.i64.wrap (a + b0) = a + b0 := IntWalk.i64_in _ (by omega);have AR := hide A_1;have hzw := B_1.out.size;clear cA8;go_wp2_with fail
  clear hw0 cA0
  go_loopw [3, 4] (fun t i wr => ∃ k : Nat, k ≤ m.store.length ∧ i = .int .i64 k ∧ t = .int .i64 (a + b0 + stockTo m.store k) ∧ Below w1.heap.size w1 wr) (fun _ i _ => m.store.length - (intOf i).toNat)
  case atStart => exact ⟨0, Nat.zero_le _, rfl, by simp [stockTo], Below.refl _ _⟩
  case round =>
   obtain ⟨k, hk, rfl, rfl, hb⟩ := hrel;have HB := hide hb;have hz := hb.size;have RA := AR.out.below (w' := wr) (B := w1.heap.size) hb AR.out.lt;have cA0 := RA.c 0 rfl;have cA8 := RA.c 8 rfl;clear RA;by_cases hlt : k < m.store.length
   ·obtain ⟨_, _, e1, -, -, -, hcl⟩ := VV_1.out.store
    simp only [Value.slice.injEq] at e1;obtain ⟨rfl, -, rfl⟩ := e1;obtain ⟨b, o, rfl, -, hbl, hcs⟩ := hcl (by omega);obtain ⟨⟨r0, r1, r2, r3, r4⟩, -⟩ := hcs k hlt;rw [← hb.cell (p := ⟨b, _, none⟩) (Nat.lt_of_lt_of_le hbl (by omega))] at r0 r1 r2 r3 r4;obtain ⟨x0, hx0⟩ : ∃ x, m.store[k].c = x := ⟨_, rfl⟩;rw [hx0] at r0;obtain ⟨x1, hx1⟩ : ∃ x, m.store[k].m = x := ⟨_, rfl⟩;rw [hx1] at r1;obtain ⟨x2, hx2⟩ : ∃ x, m.store[k].s = x := ⟨_, rfl⟩;rw [hx2] at r2;obtain ⟨x3, hx3⟩ : ∃ x, m.store[k].p = x := ⟨_, rfl⟩;rw [hx3] at r3;obtain ⟨x4, hx4⟩ : ∃ x, m.store[k].k = x := ⟨_, rfl⟩;rw [hx4] at r4;have hkI : (k : Int) < (m.store.length : Int) := by omega
    have hg := (HQ.out k hlt).2;have hN : stockTo m.store (k + 1) = stockTo m.store k + 4 * x4 := by rw [stockTo, ← hx4]; simp [hlt]
    have hB1 := HS.out k hk;have hB2 := HS.out (k + 1) hlt;rw [hN] at hB2;obtain ⟨S, hS⟩ : ∃ S, a + b0 + stockTo m.store k = S := ⟨_, rfl⟩;have hS2 : a + b0 + stockTo m.store (k + 1) = S + 4 * x4 := by rw [hN]; omega
    have hw1 : IntKind.i64.wrap (4 * x4) = 4 * x4 := IntWalk.i64_in _ (by omega);have hw2 : IntKind.i64.wrap (S + 4 * x4) = S + 4 * x4 := IntWalk.i64_in _ (by omega);have HS2 := hide hS2;rw [hS];clear hN hB1 hB2 hS hS2 hg hcl hcs hx0 hx1 hx2 hx3 hx4 hb;go_wp2_with fail
    go_roundw
    case rel => exact ⟨k + 1, by omega, by go_num, by rw [HS2.out], HB.out⟩
    case measure => simp [intOf]; omega
   ·obtain rfl : k = m.store.length := by omega
    have HBO := hide hb;clear hb;obtain ⟨wo, hwo⟩ : ∃ wo : World, wr = wo := ⟨_, rfl⟩;subst hwo;obtain ⟨wo, rfl⟩ : ∃ wo : World, wo = wr := ⟨_, rfl⟩;have VO := hide (VV_1.out.below HBO.out);have hzo := HBO.out.size;go_wp2_with fail
    go_loopw [3, 5] (fun t i wr => ∃ k : Nat, k ≤ m.pieces.length ∧ i = .int .i64 k ∧ t = .int .i64 (a + b0 + stockTo m.store m.store.length + longTo m.pieces k) ∧ Below wo.heap.size wo wr) (fun _ i _ => m.pieces.length - (intOf i).toNat)
    case atStart => exact ⟨0, Nat.zero_le _, rfl, by simp [longTo], Below.refl _ _⟩
    case round =>
     obtain ⟨k, hk, rfl, rfl, hb⟩ := hrel;have HB := hide hb;have hz := hb.size;have RA := AR.out.below (w' := wr) (B := w1.heap.size) (Below.step HBO.out HB.out nl) AR.out.lt;have cA0 := RA.c 0 rfl;have cA8 := RA.c 8 rfl;clear RA;by_cases hlt : k < m.pieces.length
     ·obtain ⟨_, _, e1, -, -, -, hcl⟩ := VO.out.pieces
      simp only [Value.slice.injEq] at e1;obtain ⟨rfl, -, rfl⟩ := e1;obtain ⟨b, o, rfl, -, hbl, hcs⟩ := hcl (by omega);obtain ⟨⟨r0, r1⟩, -⟩ := hcs k hlt;rw [← hb.cell (p := ⟨b, _, none⟩) (Nat.lt_of_lt_of_le hbl (by omega))] at r0 r1;obtain ⟨x0, hx0⟩ : ∃ x, m.pieces[k].l = x := ⟨_, rfl⟩;rw [hx0] at r0;obtain ⟨x1, hx1⟩ : ∃ x, m.pieces[k].s = x := ⟨_, rfl⟩;rw [hx1] at r1;have hkI : (k : Int) < (m.pieces.length : Int) := by omega
      have hN : longTo m.pieces (k + 1) = longTo m.pieces k + x0 := by rw [longTo, ← hx0]; simp [hlt]
      have hB1 := HL.out k hk;have hB2 := HL.out (k + 1) hlt;rw [hN] at hB2;have hB3 := HS.out m.store.length nl;obtain ⟨S, hS⟩ : ∃ S, a + b0 + stockTo m.store m.store.length + longTo m.pieces k = S := ⟨_, rfl⟩;have hS2 : a + b0 + stockTo m.store m.store.length + longTo m.pieces (k + 1) = S + x0 := by rw [hN]; omega
      have hw2 : IntKind.i64.wrap (S + x0) = S + x0 := IntWalk.i64_in _ (by omega);have HS2 := hide hS2;rw [hS];clear hN hB1 hB2 hB3 hS hS2 hcl hcs hx0 hx1 hb;go_wp2_with fail
      go_roundw
      case rel => exact ⟨k + 1, by omega, by go_num, by rw [HS2.out], HB.out⟩
      case measure => simp [intOf]; omega
     ·obtain rfl : k = m.pieces.length := by omega
      have HBZ := hide (Below.step B_1.out (Below.step HBO.out HB.out nl) nl);go_wp2_with fail
      go_ret;exact ⟨by rw [HM.out, massI, ha, hb0]; rfl, HBZ.out⟩
theorem joinN_len {ids : List Int} (h : ∀ n ∈ ids, 0 ≤ n ∧ n ≤ 999) (hl : ids.length ≤ 30) : (joinN ids).size ≤ 660 := by
 have := joinN_size (B := 21) ids (fun n hn => num_999 (h n hn).1 (h n hn).2);have : ids.length * 22 ≤ 30 * 22 := Nat.mul_le_mul_right _ hl;omega
theorem joinN_data (ids : List Int) : (⟨(Lib.join ((ids.map numB).map (·.data.toList)) (⟨#[44]⟩ : ByteArray).data.toList).toArray⟩ : ByteArray) = joinN ids := by
 simp [joinN, Function.comp_def]
theorem info_strI : (Tryz.prog.info? 9).map (fun i => (i.zero, i.size, i.bytes)) = some (some (.string ⟨#[]⟩), 1, 16) := by kernel_rfl
theorem rowL_strs (w : World) (n : Nat) : RowL (w.alloc (.cells (madeCells #[.string ⟨#[]⟩] n) 9)) w.heap.size 9 (List.replicate n (.string ⟨#[]⟩)) := by
 have h := World.rowIs_made w (.string ⟨#[]⟩) n 9;unfold RowL;rw [List.length_replicate];exact h.congr fun i hi => by simp [hi]
theorem ids_text (v : Value) (ids : List Int) (lo hi : Nat) (w : World) (H : IntsAt lo hi w v ids) (hl : ids.length ≤ 30) (hb : ∀ n ∈ ids, 0 ≤ n ∧ n ≤ 999) (hp : PowIs w) :
 Calls Tryz.prog 121 #[v] w fun e w' => e = .returned (.string (idsB ids)) ∧ Below w.heap.size w w' := by
 have HI := hide H;have HB := hide hb;have HP := hide hp;obtain ⟨ao, cap, rfl, -, -, -, -⟩ := H;clear hb hp;by_cases h0 : ids = []
 ·subst h0
  go_enter Tryz.func121, Tryz.ntmps121;go_wp2_with fail
  go_ret;exact ⟨by simp [idsB]; rfl, Below.refl _ _⟩
 have hlB : ((ids.length : Int) == 0) = false := by
  rw [beq_eq_false_iff_ne];have : ids.length ≠ 0 := fun e => h0 (List.length_eq_zero_iff.1 e);omega
 have HZ := hide (show idsB ids = joinN ids by simp [idsB, h0]);clear h0;have hmk := fun W => make_rowN (P := Tryz.prog) 138 9 _ _ _ Tryz.underlying138 info_strI .i64 .i64 ids.length (by omega) (by omega) W;go_enter Tryz.func121, Tryz.ntmps121;go_wp2_with fail
 clear hmk
 go_loopw [14] (fun i wr => ∃ (k : Nat) (vs : List Value), k ≤ ids.length ∧ i = .int .i64 (k : Int) ∧ Below w.heap.size w wr ∧ RowL wr w.heap.size 9 vs ∧ vs.length = ids.length ∧ ∀ j, j < k → vs[j]? = some (.string (numB (ids.getD j 0)))) (fun i _ => ids.length - (intOf i).toNat)
 case atStart => exact ⟨0, _, Nat.zero_le _, rfl, (Below.refl _ _).alloc nl _, rowL_strs w _, by simp, fun j h => absurd h (Nat.not_lt_zero _)⟩
 case round =>
  obtain ⟨k, vs, hk, rfl, hbw, hrow, hvl, hvs⟩ := hrel;have HVS := hide hvs;have HR := hide hrow;have HW := hide hbw;have hGl := hrow.lt;clear hvs;by_cases hlt : k < ids.length
  ·obtain ⟨ao2, cap2, e1, -, -, -, hc⟩ := HI.out.below hbw
   obtain ⟨b1, o1, rfl, -, -, hcs⟩ := hc (by omega);cases e1;have c0 := (hcs k hlt).1;rw [show ids[k] = ids.getD k 0 by simp [hlt]] at c0;clear hc hcs;obtain ⟨x, hx⟩ : ∃ x, ids.getD k 0 = x := ⟨_, rfl⟩;have hxb := HB.out x (by rw [← hx, List.getD_eq_getElem?_getD, List.getElem?_eq_getElem hlt]; exact List.getElem_mem _);rw [hx] at c0;have HX := hide hx;have hkI : (k : Int) < (ids.length : Int) := by omega
   have hk0 : (0 : Int) ≤ (k : Int) := by omega
   have hw1 : IntKind.i64.wrap ((k : Int) + 1) = ((k + 1 : Nat) : Int) := by rw [show (k : Int) + 1 = ((k + 1 : Nat) : Int) by omega]; exact IntWalk.i64_in _ (by omega)
   clear hx hbw hrow;go_wp2_with fail
   refine (itoa_any x (by omega) (by omega) wr (HP.out.stays HW.out)).mono ?_;rintro e w1 ⟨rfl, hb1⟩;have R1 := HR.out.below hb1 hGl;have cG := R1.cell k (by omega);have fG := R1.frozen k;have HR1 := hide R1;have HB1 := hide (Below.step HW.out hb1 nl);clear R1 hb1;go_wp2_with fail
   go_roundw
   case rel =>
    refine ⟨k + 1, vs.set k (.string (numB x)), by omega, by go_num, HB1.out.setCell nl _, HR1.out.set k _ (by omega), by simpa using hvl, fun j hj => ?_⟩;by_cases e : j = k
    ·subst e
     rw [List.getElem?_set, if_pos rfl, if_pos (by omega), HX.out]
    ·rw [List.getElem?_set, if_neg (fun h => e h.symm)]
     exact HVS.out j (by omega)
   case measure => simp [intOf]; omega
  ·obtain rfl : k = ids.length := by omega
   have hkI : ¬ (ids.length : Int) < (ids.length : Int) := by omega
   have hjl := joinN_len HB.out hl;have hJ := Tryz.strings_Join w.heap.size 0 ids.length (ids.map numB) ⟨#[44]⟩ wr (fun j y hy => by
    obtain ⟨n, hn, rfl⟩ : ∃ n, ids[j]? = some n ∧ numB n = y := by simpa using hy
    have hj : j < ids.length := (List.getElem?_eq_some_iff.1 hn).1;rw [Nat.zero_add, HR.out.cell j (by omega)];have := HVS.out j hj;rw [List.getD_eq_getElem?_getD, this];simp [hn]) hGl (by simp; omega) (by simp) (by
    have e := congrArg ByteArray.size (joinN_data ids);have e2 : (Lib.join ((ids.map numB).map (·.data.toList)) (⟨#[44]⟩ : ByteArray).data.toList).length = (joinN ids).size := by rw [← e]; simp [ByteArray.size]
    rw [e2]; omega)
   rw [joinN_data, List.length_map] at hJ;have HJ := hide hJ;clear hJ hjl hbw hrow;go_wp2_with fail
   refine HJ.out.mono ?_;rintro e w1 ⟨rfl, hb1⟩;have HB1 := hide (Below.step HW.out hb1 nl);clear hb1;go_wp2_with fail
   go_ret;exact ⟨by rw [HZ.out]; rfl, HB1.out⟩
theorem mem_pieces {m : Mi} {s : Int} (n : Int) (h : n ∈ piecesR m s) : 0 ≤ n ∧ n ≤ 999 := by
 unfold piecesR at h;split at h
 ·rename_i hv
  obtain ⟨j, h1, rfl, -⟩ := mem_idsIn.1 h;have := (millB_iff.1 hv).len;omega
 ·cases h
theorem mass_bd {m : Mi} (h : millB m = true) : 0 ≤ massR m ∧ massR m ≤ 10000 := by
 unfold massR;rw [if_pos h];have := mass_ge (millB_iff.1 h);omega
theorem ne_q {q a : ByteArray} (h : ¬ q = a) : (q.toList == a.toList) = false := by rw [beqL]; exact decide_eq_false h
theorem eq_q (a : ByteArray) : (a.toList == a.toList) = true := by rw [beqL]; simp
theorem ask_impl (s p l h : Value) (m : Mi) (q : ByteArray) (w : World) (H : MillIn 0 w.heap.size w s p l h m) (hp : PowIs w) :
 Calls Tryz.prog 53 #[millV s p l h m, .string q] w fun e w' => e = .returned (.string (askB m q)) ∧ Below w.heap.size w w' := by
 obtain ⟨ao1, cap1, rfl, -, -, -, -⟩ := id H.store;obtain ⟨ao2, cap2, rfl, -, -, -, -⟩ := id H.pieces;obtain ⟨ao3, cap3, rfl, -, -, -, -⟩ := id H.low;obtain ⟨ao4, cap4, rfl, -, -, -, -⟩ := id H.high;have HM := hide H;have HP := hide hp;clear H hp;unfold millV;go_enter Tryz.func53, Tryz.ntmps53;go_wp2_with fail
 refine calls_at fun wx hwx => ?_;have A_0 : RowL wx (w.heap.size) 31 [.slice ao1 m.store.length cap1, .int .i64 m.rule.lc, .int .i64 m.rule.hc, .int .i64 m.rule.lm, .int .i64 m.rule.hm, .int .i64 m.rule.ls, .int .i64 m.rule.hs, .int .i64 m.strand, .slice ao2 m.pieces.length cap2, .slice ao3 m.low.length cap3, .slice ao4 m.high.length cap4, .int .i64 m.scrap] := by rw [hwx]; exact (RowL.new _ _ _)
 have B_0 : Below w.heap.size w wx := by rw [hwx]; go_grown
 clear hwx;have V_0 := hide (HM.out.below B_0);have k1 := mill_impl _ _ _ _ m wx V_0.out.all;unfold millV at k1;cases hv : millB m with
 | false =>
  rw [hv] at k1;have HZ := hide (show askB m q = ⟨#[]⟩ by simp [askB, hv]);clear hv;refine k1.mono ?_;rintro e w1 ⟨rfl, hb⟩;have B_1 := hide (Below.step B_0 hb nl);clear hb k1;go_wp2_with fail
  go_ret;exact ⟨by rw [HZ.out]; rfl, B_1.out⟩
 | true =>
  rw [hv] at k1;have HVL := hide hv;have HV := hide (millB_iff.1 hv);clear hv;refine k1.mono ?_;rintro e w1 ⟨rfl, hb⟩;have A_1 := A_0.below hb A_0.lt;have V_1 := hide (V_0.out.below hb);have B_1 := hide (Below.step B_0 hb nl);have HP1 := hide (HP.out.stays B_1.out);clear hb k1;by_cases q0 : q = (⟨#[115, 116, 114, 97, 110, 100]⟩ : ByteArray)
  ·subst q0
   have t0 : ((⟨#[115, 116, 114, 97, 110, 100]⟩ : ByteArray).toList == (⟨#[115, 116, 114, 97, 110, 100]⟩ : ByteArray).toList) = true := eq_q _;have HZ := hide (show askB m (⟨#[115, 116, 114, 97, 110, 100]⟩ : ByteArray) = numB m.strand by simp [askB, HVL.out, qB]);have h0 := HV.out.st0;have h1 := HV.out.st1;have cA7 := A_1.c 7 rfl;go_wp2_with fail
   refine (itoa_any m.strand (by omega) (by omega) w1 HP1.out).mono ?_;rintro e w2 ⟨rfl, hb⟩;have B_2 := hide (Below.step B_1.out hb nl);clear hb;go_wp2_with fail
   go_ret;exact ⟨by rw [HZ.out]; rfl, B_2.out⟩
  by_cases q1 : q = (⟨#[115, 99, 114, 97, 112]⟩ : ByteArray)
  ·subst q1
   have t0 : ((⟨#[115, 99, 114, 97, 112]⟩ : ByteArray).toList == (⟨#[115, 116, 114, 97, 110, 100]⟩ : ByteArray).toList) = false := by rw [beqL]; decide
   have t1 : ((⟨#[115, 99, 114, 97, 112]⟩ : ByteArray).toList == (⟨#[115, 99, 114, 97, 112]⟩ : ByteArray).toList) = true := eq_q _;have HZ := hide (show askB m (⟨#[115, 99, 114, 97, 112]⟩ : ByteArray) = numB m.scrap by simp [askB, HVL.out, qB]);have h0 := HV.out.sc0;have h1 := HV.out.sc1;have cA11 := A_1.c 11 rfl;go_wp2_with fail
   refine (itoa_any m.scrap (by omega) (by omega) w1 HP1.out).mono ?_;rintro e w2 ⟨rfl, hb⟩;have B_2 := hide (Below.step B_1.out hb nl);clear hb;go_wp2_with fail
   go_ret;exact ⟨by rw [HZ.out]; rfl, B_2.out⟩
  by_cases q2 : q = (⟨#[109, 97, 115, 115]⟩ : ByteArray)
  ·subst q2
   have t0 : ((⟨#[109, 97, 115, 115]⟩ : ByteArray).toList == (⟨#[115, 116, 114, 97, 110, 100]⟩ : ByteArray).toList) = false := by rw [beqL]; decide
   have t1 : ((⟨#[109, 97, 115, 115]⟩ : ByteArray).toList == (⟨#[115, 99, 114, 97, 112]⟩ : ByteArray).toList) = false := by rw [beqL]; decide
   have t2 : ((⟨#[109, 97, 115, 115]⟩ : ByteArray).toList == (⟨#[109, 97, 115, 115]⟩ : ByteArray).toList) = true := eq_q _;have HZ := hide (show askB m (⟨#[109, 97, 115, 115]⟩ : ByteArray) = numB (massR m) by simp [askB, HVL.out, qB]);have hmb := mass_bd HVL.out;obtain ⟨cA0, cA1, cA2, cA3, cA4, cA5, cA6, cA7, cA8, cA9, cA10, cA11⟩ := row12_c A_1;go_wp2_with fail
   have k2 := mass_impl _ _ _ _ m w1 V_1.out.all;unfold millV at k2;refine k2.mono ?_;rintro e w2 ⟨rfl, hb⟩;have B_2 := hide (Below.step B_1.out hb nl);have HP2 := hide (HP.out.stays B_2.out);clear hb k2;go_wp2_with fail
   refine (itoa_any (massR m) (by omega) (by omega) w2 HP2.out).mono ?_;rintro e w3 ⟨rfl, hb⟩;have B_3 := hide (Below.step B_2.out hb nl);clear hb;go_wp2_with fail
   go_ret;exact ⟨by rw [HZ.out]; rfl, B_3.out⟩
  by_cases q3 : q = (⟨#[115, 108, 97, 98, 115]⟩ : ByteArray)
  ·subst q3
   have t0 : ((⟨#[115, 108, 97, 98, 115]⟩ : ByteArray).toList == (⟨#[115, 116, 114, 97, 110, 100]⟩ : ByteArray).toList) = false := by rw [beqL]; decide
   have t1 : ((⟨#[115, 108, 97, 98, 115]⟩ : ByteArray).toList == (⟨#[115, 99, 114, 97, 112]⟩ : ByteArray).toList) = false := by rw [beqL]; decide
   have t2 : ((⟨#[115, 108, 97, 98, 115]⟩ : ByteArray).toList == (⟨#[109, 97, 115, 115]⟩ : ByteArray).toList) = false := by rw [beqL]; decide
   have t3 : ((⟨#[115, 108, 97, 98, 115]⟩ : ByteArray).toList == (⟨#[115, 108, 97, 98, 115]⟩ : ByteArray).toList) = true := eq_q _;have HZ := hide (show askB m (⟨#[115, 108, 97, 98, 115]⟩ : ByteArray) = idsB (piecesR m 0) by simp [askB, HVL.out, qB]);have hpl := pieces_few (m := m) 0;have HMB := hide (fun n h => mem_pieces (m := m) (s := 0) n h);obtain ⟨cA0, cA1, cA2, cA3, cA4, cA5, cA6, cA7, cA8, cA9, cA10, cA11⟩ := row12_c A_1;go_wp2_with fail
   have k2 := pieces_impl _ _ _ _ m 0 w1 V_1.out.all;unfold millV at k2;refine k2.mono ?_;rintro e w2 ⟨v, rfl, own, hb⟩;have hz2 := hb.size;have B_2 := hide (Below.step B_1.out hb nl);have HP2 := hide (HP.out.stays B_2.out);have hat := ownI_at own rfl hz2;obtain ⟨ids, hids⟩ : ∃ ids, piecesR m 0 = ids := ⟨_, rfl⟩;rw [hids] at hat hpl HMB HZ own;obtain ⟨aov, capv, rfl, -, -⟩ := own_slice own;have HAT := hide hat;clear hb k2 hat own hids cA0 cA1 cA2 cA3 cA4 cA5 cA6 cA7 cA8 cA9 cA10 cA11;go_wp2_with fail
   refine (ids_text _ ids _ _ w2 HAT.out hpl HMB.out HP2.out).mono ?_;rintro e w3 ⟨rfl, hb⟩;have B_3 := hide (Below.step B_2.out hb nl);clear hb;go_wp2_with fail
   go_ret;exact ⟨by rw [HZ.out]; rfl, B_3.out⟩
  by_cases q4 : q = (⟨#[99, 111, 105, 108, 115]⟩ : ByteArray)
  ·subst q4
   have t0 : ((⟨#[99, 111, 105, 108, 115]⟩ : ByteArray).toList == (⟨#[115, 116, 114, 97, 110, 100]⟩ : ByteArray).toList) = false := by rw [beqL]; decide
   have t1 : ((⟨#[99, 111, 105, 108, 115]⟩ : ByteArray).toList == (⟨#[115, 99, 114, 97, 112]⟩ : ByteArray).toList) = false := by rw [beqL]; decide
   have t2 : ((⟨#[99, 111, 105, 108, 115]⟩ : ByteArray).toList == (⟨#[109, 97, 115, 115]⟩ : ByteArray).toList) = false := by rw [beqL]; decide
   have t3 : ((⟨#[99, 111, 105, 108, 115]⟩ : ByteArray).toList == (⟨#[115, 108, 97, 98, 115]⟩ : ByteArray).toList) = false := by rw [beqL]; decide
   have t4 : ((⟨#[99, 111, 105, 108, 115]⟩ : ByteArray).toList == (⟨#[99, 111, 105, 108, 115]⟩ : ByteArray).toList) = true := eq_q _;have HZ := hide (show askB m (⟨#[99, 111, 105, 108, 115]⟩ : ByteArray) = idsB (piecesR m 1) by simp [askB, HVL.out, qB]);have hpl := pieces_few (m := m) 1;have HMB := hide (fun n h => mem_pieces (m := m) (s := 1) n h);obtain ⟨cA0, cA1, cA2, cA3, cA4, cA5, cA6, cA7, cA8, cA9, cA10, cA11⟩ := row12_c A_1;go_wp2_with fail
   have k2 := pieces_impl _ _ _ _ m 1 w1 V_1.out.all;unfold millV at k2;refine k2.mono ?_;rintro e w2 ⟨v, rfl, own, hb⟩;have hz2 := hb.size;have B_2 := hide (Below.step B_1.out hb nl);have HP2 := hide (HP.out.stays B_2.out);have hat := ownI_at own rfl hz2;obtain ⟨ids, hids⟩ : ∃ ids, piecesR m 1 = ids := ⟨_, rfl⟩;rw [hids] at hat hpl HMB HZ own;obtain ⟨aov, capv, rfl, -, -⟩ := own_slice own;have HAT := hide hat;clear hb k2 hat own hids cA0 cA1 cA2 cA3 cA4 cA5 cA6 cA7 cA8 cA9 cA10 cA11;go_wp2_with fail
   refine (ids_text _ ids _ _ w2 HAT.out hpl HMB.out HP2.out).mono ?_;rintro e w3 ⟨rfl, hb⟩;have B_3 := hide (Below.step B_2.out hb nl);clear hb;go_wp2_with fail
   go_ret;exact ⟨by rw [HZ.out]; rfl, B_3.out⟩
  by_cases q5 : q = (⟨#[103, 111, 110, 101]⟩ : ByteArray)
  ·subst q5
   have t0 : ((⟨#[103, 111, 110, 101]⟩ : ByteArray).toList == (⟨#[115, 116, 114, 97, 110, 100]⟩ : ByteArray).toList) = false := by rw [beqL]; decide
   have t1 : ((⟨#[103, 111, 110, 101]⟩ : ByteArray).toList == (⟨#[115, 99, 114, 97, 112]⟩ : ByteArray).toList) = false := by rw [beqL]; decide
   have t2 : ((⟨#[103, 111, 110, 101]⟩ : ByteArray).toList == (⟨#[109, 97, 115, 115]⟩ : ByteArray).toList) = false := by rw [beqL]; decide
   have t3 : ((⟨#[103, 111, 110, 101]⟩ : ByteArray).toList == (⟨#[115, 108, 97, 98, 115]⟩ : ByteArray).toList) = false := by rw [beqL]; decide
   have t4 : ((⟨#[103, 111, 110, 101]⟩ : ByteArray).toList == (⟨#[99, 111, 105, 108, 115]⟩ : ByteArray).toList) = false := by rw [beqL]; decide
   have t5 : ((⟨#[103, 111, 110, 101]⟩ : ByteArray).toList == (⟨#[103, 111, 110, 101]⟩ : ByteArray).toList) = true := eq_q _;have HZ := hide (show askB m (⟨#[103, 111, 110, 101]⟩ : ByteArray) = idsB (piecesR m 2) by simp [askB, HVL.out, qB]);have hpl := pieces_few (m := m) 2;have HMB := hide (fun n h => mem_pieces (m := m) (s := 2) n h);obtain ⟨cA0, cA1, cA2, cA3, cA4, cA5, cA6, cA7, cA8, cA9, cA10, cA11⟩ := row12_c A_1;go_wp2_with fail
   have k2 := pieces_impl _ _ _ _ m 2 w1 V_1.out.all;unfold millV at k2;refine k2.mono ?_;rintro e w2 ⟨v, rfl, own, hb⟩;have hz2 := hb.size;have B_2 := hide (Below.step B_1.out hb nl);have HP2 := hide (HP.out.stays B_2.out);have hat := ownI_at own rfl hz2;obtain ⟨ids, hids⟩ : ∃ ids, piecesR m 2 = ids := ⟨_, rfl⟩;rw [hids] at hat hpl HMB HZ own;obtain ⟨aov, capv, rfl, -, -⟩ := own_slice own;have HAT := hide hat;clear hb k2 hat own hids cA0 cA1 cA2 cA3 cA4 cA5 cA6 cA7 cA8 cA9 cA10 cA11;go_wp2_with fail
   refine (ids_text _ ids _ _ w2 HAT.out hpl HMB.out HP2.out).mono ?_;rintro e w3 ⟨rfl, hb⟩;have B_3 := hide (Below.step B_2.out hb nl);clear hb;go_wp2_with fail
   go_ret;exact ⟨by rw [HZ.out]; rfl, B_3.out⟩
  by_cases q6 : q = (⟨#[103, 114, 97, 100, 101]⟩ : ByteArray)
  ·subst q6
   have t0 : ((⟨#[103, 114, 97, 100, 101]⟩ : ByteArray).toList == (⟨#[115, 116, 114, 97, 110, 100]⟩ : ByteArray).toList) = false := by rw [beqL]; decide
   have t1 : ((⟨#[103, 114, 97, 100, 101]⟩ : ByteArray).toList == (⟨#[115, 99, 114, 97, 112]⟩ : ByteArray).toList) = false := by rw [beqL]; decide
   have t2 : ((⟨#[103, 114, 97, 100, 101]⟩ : ByteArray).toList == (⟨#[109, 97, 115, 115]⟩ : ByteArray).toList) = false := by rw [beqL]; decide
   have t3 : ((⟨#[103, 114, 97, 100, 101]⟩ : ByteArray).toList == (⟨#[115, 108, 97, 98, 115]⟩ : ByteArray).toList) = false := by rw [beqL]; decide
   have t4 : ((⟨#[103, 114, 97, 100, 101]⟩ : ByteArray).toList == (⟨#[99, 111, 105, 108, 115]⟩ : ByteArray).toList) = false := by rw [beqL]; decide
   have t5 : ((⟨#[103, 114, 97, 100, 101]⟩ : ByteArray).toList == (⟨#[103, 111, 110, 101]⟩ : ByteArray).toList) = false := by rw [beqL]; decide
   have t6 : ((⟨#[103, 114, 97, 100, 101]⟩ : ByteArray).toList == (⟨#[103, 114, 97, 100, 101]⟩ : ByteArray).toList) = true := eq_q _;have HZ := hide (show askB m (⟨#[103, 114, 97, 100, 101]⟩ : ByteArray) = gradeB m.rule by simp [askB, HVL.out, qB]);have k2 := grade_impl m.rule w1 HP1.out;unfold grV at k2;have cA1 := A_1.c 1 rfl;have cA2 := A_1.c 2 rfl;have cA3 := A_1.c 3 rfl;have cA4 := A_1.c 4 rfl;have cA5 := A_1.c 5 rfl;have cA6 := A_1.c 6 rfl;go_wp2_with fail
   refine k2.mono ?_;rintro e w2 ⟨rfl, hb⟩;have B_2 := hide (Below.step B_1.out hb nl);clear hb k2;go_wp2_with fail
   go_ret;exact ⟨by rw [HZ.out]; rfl, B_2.out⟩
  have t0 : (q.toList == [115, 116, 114, 97, 110, 100]) = false := by
   have h := ne_q q0;rw [ByteArray.toList_eq (⟨#[115, 116, 114, 97, 110, 100]⟩ : ByteArray)] at h;simpa using h
  have t1 : (q.toList == [115, 99, 114, 97, 112]) = false := by
   have h := ne_q q1;rw [ByteArray.toList_eq (⟨#[115, 99, 114, 97, 112]⟩ : ByteArray)] at h;simpa using h
  have t2 : (q.toList == [109, 97, 115, 115]) = false := by
   have h := ne_q q2;rw [ByteArray.toList_eq (⟨#[109, 97, 115, 115]⟩ : ByteArray)] at h;simpa using h
  have t3 : (q.toList == [115, 108, 97, 98, 115]) = false := by
   have h := ne_q q3;rw [ByteArray.toList_eq (⟨#[115, 108, 97, 98, 115]⟩ : ByteArray)] at h;simpa using h
  have t4 : (q.toList == [99, 111, 105, 108, 115]) = false := by
   have h := ne_q q4;rw [ByteArray.toList_eq (⟨#[99, 111, 105, 108, 115]⟩ : ByteArray)] at h;simpa using h
  have t5 : (q.toList == [103, 111, 110, 101]) = false := by
   have h := ne_q q5;rw [ByteArray.toList_eq (⟨#[103, 111, 110, 101]⟩ : ByteArray)] at h;simpa using h
  have t6 : (q.toList == [103, 114, 97, 100, 101]) = false := by
   have h := ne_q q6;rw [ByteArray.toList_eq (⟨#[103, 114, 97, 100, 101]⟩ : ByteArray)] at h;simpa using h
  have HZ := hide (show askB m q = whatB by simp [askB, HVL.out, qB, q0, q1, q2, q3, q4, q5, q6]);clear q0 q1 q2 q3 q4 q5 q6;go_wp2_with fail
  go_ret;exact ⟨by rw [HZ.out]; rfl, B_1.out⟩
end Go.Proofs.YtmemgbklgcjobaaGreatDoor
