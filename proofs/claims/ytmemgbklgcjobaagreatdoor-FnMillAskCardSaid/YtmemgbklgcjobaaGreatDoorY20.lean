/-
  Parts of the proofs over mills, of: PlainLaw, MethS, MassA, PlainRD, SepG, CardD, RdPast, FlawP. Conditions: each theorem states its own.
-/
import Derived.Test.YtmemgbklgcjobaaGreatDoorCards
import Derived.Test.YtmemgbklgcjobaaGreatDoorTie
import Derived.Deep.DeepHandedRow
import Derived.LaidMore
import Derived.Test.YtmemgbklgcjobaaGreatDoorY17
import Derived.Test.YtmemgbklgcjobaaGreatDoorY18
import Derived.Test.YtmemgbklgcjobaaGreatDoorY19
set_option linter.unusedSimpArgs false
set_option linter.unusedVariables false
set_option maxRecDepth 10000
set_option maxHeartbeats 64000000
namespace Go.Proofs.YtmemgbklgcjobaaGreatDoor
open Go.RowKit
theorem do_bad {m : Mi} (hv : millB m = false) (d : J) : doR m d = (mi0, false) := by
 unfold doR;rw [if_neg (by simp [hv])]
theorem shipD_no1 {m : Mi} {id : Int} (h : findR m.low m.high id = none) : shipD m id = none := by simp [shipD, h]
theorem shipD_no2 {m : Mi} {id p : Int} {t : Bool} {q : List Int × List Int} (h : findR m.low m.high id = some (t, p)) (h2 : takeR m.low m.high t p = (q, 0)) : shipD m id = none := by simp [shipD, h, h2]
theorem shipD_yes {m : Mi} {id p x : Int} {t : Bool} {q : List Int × List Int} (h : findR m.low m.high id = some (t, p)) (h2 : takeR m.low m.high t p = (q, x)) (hx : x ≠ 0) : shipD m id = some { m with low := q.1, high := q.2, pieces := setS m.pieces id 2 } := by simp [shipD, h, h2, hx]
theorem long_bd {l : List Pc} (h : ∀ k, k < l.length → pcB (l.getD k pc0) = true) : ∀ k, k ≤ l.length → 0 ≤ longTo l k ∧ longTo l k ≤ 60 * k
 | 0, _ => by simp [longTo]
 | k + 1, hk => by
  have := long_bd h k (by omega);have := pcB_iff.1 (h k (by omega));simp only [longTo]; omega
theorem mass_impl (s p l h : Value) (m : Mi) (w : World) (H : MillIn 0 w.heap.size w s p l h m) :
 Calls Tryz.prog 23 #[millV s p l h m] w fun e w' => e = .returned (.int .i64 (massR m)) ∧ Below w.heap.size w w' := by
 obtain ⟨ao1, cap1, rfl, -, -, -, -⟩ := id H.store;obtain ⟨ao2, cap2, rfl, -, -, -, -⟩ := id H.pieces;have hsl := H.store.len;have hpl := H.pieces.len;unfold millV;go_enter Tryz.func23, Tryz.ntmps23;go_wp2_with fail
 refine calls_at fun wx hwx => ?_;have A_0 : RowL wx (w.heap.size) 31 [.slice ao1 m.store.length cap1, .int .i64 m.rule.lc, .int .i64 m.rule.hc, .int .i64 m.rule.lm, .int .i64 m.rule.hm, .int .i64 m.rule.ls, .int .i64 m.rule.hs, .int .i64 m.strand, .slice ao2 m.pieces.length cap2, l, h, .int .i64 m.scrap] := by rw [hwx]; exact (RowL.new _ _ _)
 have B_0 : Below w.heap.size w wx := by rw [hwx]; go_grown
 clear hwx;have hL0 := A_0.lt;have VV_0 := hide (H.below B_0);have KV := mill_impl _ _ _ _ m wx VV_0.out.all;cases hv : millB m with
 | false =>
  rw [hv] at KV;refine KV.mono ?_;rintro e w1 ⟨rfl, hb⟩;have HB := hide (Below.step B_0 hb nl);have HF := hide (show massR m = -1 by simp [massR, hv]);clear hb KV hv;go_wp2_with fail
  go_ret;exact ⟨by rw [HF.out]; rfl, HB.out⟩
 | true =>
  rw [hv] at KV;have MV := millB_iff.1 hv;have HM := hide (show massR m = massI m by simp [massR, hv]);have HS := hide (stock_bd MV.store);have HL := hide (long_bd MV.pcs);have h1 := MV.st0;have h2 := MV.st1;have h3 := MV.sc0;have h4 := MV.sc1;have h5 := MV.len;have h6 := stsB_len MV.store;have HQ := hide (fun k hk => (stB_iff.1 (stsB_at MV.store (k := k) hk)));clear MV hv;refine (KV).mono ?_;rintro e w1 ⟨rfl, hb⟩;have A_1 := A_0.below hb A_0.lt;have VV_1 := hide (VV_0.out.below hb);have B_1 := hide (Below.step B_0 hb nl);have hz1 := hb.size;clear hb;have cA0 := A_1.c 0 rfl;have cA7 := A_1.c 7 rfl;have cA8 := A_1.c 8 rfl;have cA11 := A_1.c 11 rfl;clear KV;obtain ⟨a, ha⟩ : ∃ a, m.strand = a := ⟨_, rfl⟩;obtain ⟨b0, hb0⟩ : ∃ b, m.scrap = b := ⟨_, rfl⟩;rw [ha] at cA7 h1 h2;rw [hb0] at cA11 h3 h4;have hw0 : IntKind.i64.wrap (a + b0) = a + b0 := IntWalk.i64_in _ (by omega);have AR := hide A_1;have hzw := B_1.out.size;clear cA8;go_wp2_with fail
  clear hw0 cA0
  go_loopw [3, 5, 19] (fun t _ i wr => ∃ k : Nat, k ≤ m.store.length ∧ i = .int .i64 k ∧ t = .int .i64 (a + b0 + stockTo m.store k) ∧ Below w1.heap.size w1 wr) (fun _ _ i _ => m.store.length - (intOf i).toNat)
  case atStart => exact ⟨0, Nat.zero_le _, rfl, by simp [stockTo], Below.refl _ _⟩
  case round =>
   obtain ⟨k, hk, rfl, rfl, hb⟩ := hrel;have HB := hide hb;have hz := hb.size;have RA := AR.out.below (w' := wr) (B := w1.heap.size) hb AR.out.lt;have cA0 := RA.c 0 rfl;have cA8 := RA.c 8 rfl;clear RA;by_cases hlt : k < m.store.length
   ·obtain ⟨_, _, e1, -, -, -, hcl⟩ := VV_1.out.store
    simp only [Value.slice.injEq] at e1;obtain ⟨rfl, -, rfl⟩ := e1;obtain ⟨b, o, rfl, -, hbl, hcs⟩ := hcl (by omega);obtain ⟨⟨r0, r1, r2, r3, r4⟩, -⟩ := hcs k hlt;rw [← hb.cell (p := ⟨b, _, none⟩) (Nat.lt_of_lt_of_le hbl (by omega))] at r0 r1 r2 r3 r4;obtain ⟨x0, hx0⟩ : ∃ x, m.store[k].c = x := ⟨_, rfl⟩;rw [hx0] at r0;obtain ⟨x1, hx1⟩ : ∃ x, m.store[k].m = x := ⟨_, rfl⟩;rw [hx1] at r1;obtain ⟨x2, hx2⟩ : ∃ x, m.store[k].s = x := ⟨_, rfl⟩;rw [hx2] at r2;obtain ⟨x3, hx3⟩ : ∃ x, m.store[k].p = x := ⟨_, rfl⟩;rw [hx3] at r3;obtain ⟨x4, hx4⟩ : ∃ x, m.store[k].k = x := ⟨_, rfl⟩;rw [hx4] at r4;have hkI : (k : Int) < (m.store.length : Int) := by omega
    have hg := (HQ.out k hlt).2;have hN : stockTo m.store (k + 1) = stockTo m.store k + 4 * x4 := by rw [stockTo, ← hx4]; simp [hlt]
    have hB1 := HS.out k hk;have hB2 := HS.out (k + 1) hlt;rw [hN] at hB2;obtain ⟨S, hS⟩ : ∃ S, a + b0 + stockTo m.store k = S := ⟨_, rfl⟩;have hS2 : a + b0 + stockTo m.store (k + 1) = S + 4 * x4 := by rw [hN]; omega
    have hw1 : IntKind.i64.wrap (4 * x4) = 4 * x4 := IntWalk.i64_in _ (by omega);have hw2 : IntKind.i64.wrap (S + 4 * x4) = S + 4 * x4 := IntWalk.i64_in _ (by omega);have HS2 := hide hS2;rw [hS];clear hN hB1 hB2 hS hS2 hg hcl hcs hx0 hx1 hx2 hx3 hx4 hb;go_wp2_with fail
    go_roundw
    case rel => exact ⟨k + 1, by omega, by go_num, by rw [HS2.out], HB.out.alloc hz _⟩
    case measure => simp [intOf]; omega
   ·obtain rfl : k = m.store.length := by omega
    have HBO := hide hb;clear hb;obtain ⟨wo, hwo⟩ : ∃ wo : World, wr = wo := ⟨_, rfl⟩;subst hwo;obtain ⟨wo, rfl⟩ : ∃ wo : World, wo = wr := ⟨_, rfl⟩;have VO := hide (VV_1.out.below HBO.out);have hzo := HBO.out.size;go_wp2_with fail
    go_loopw [3, 7, 32] (fun t _ i wr => ∃ k : Nat, k ≤ m.pieces.length ∧ i = .int .i64 k ∧ t = .int .i64 (a + b0 + stockTo m.store m.store.length + longTo m.pieces k) ∧ Below wo.heap.size wo wr) (fun _ _ i _ => m.pieces.length - (intOf i).toNat)
    case atStart => exact ⟨0, Nat.zero_le _, rfl, by simp [longTo], Below.refl _ _⟩
    case round =>
     obtain ⟨k, hk, rfl, rfl, hb⟩ := hrel;have HB := hide hb;have hz := hb.size;have RA := AR.out.below (w' := wr) (B := w1.heap.size) (Below.step HBO.out HB.out nl) AR.out.lt;have cA0 := RA.c 0 rfl;have cA8 := RA.c 8 rfl;clear RA;by_cases hlt : k < m.pieces.length
     ·obtain ⟨_, _, e1, -, -, -, hcl⟩ := VO.out.pieces
      simp only [Value.slice.injEq] at e1;obtain ⟨rfl, -, rfl⟩ := e1;obtain ⟨b, o, rfl, -, hbl, hcs⟩ := hcl (by omega);obtain ⟨⟨r0, r1⟩, -⟩ := hcs k hlt;rw [← hb.cell (p := ⟨b, _, none⟩) (Nat.lt_of_lt_of_le hbl (by omega))] at r0 r1;obtain ⟨x0, hx0⟩ : ∃ x, m.pieces[k].l = x := ⟨_, rfl⟩;rw [hx0] at r0;obtain ⟨x1, hx1⟩ : ∃ x, m.pieces[k].s = x := ⟨_, rfl⟩;rw [hx1] at r1;have hkI : (k : Int) < (m.pieces.length : Int) := by omega
      have hN : longTo m.pieces (k + 1) = longTo m.pieces k + x0 := by rw [longTo, ← hx0]; simp [hlt]
      have hB1 := HL.out k hk;have hB2 := HL.out (k + 1) hlt;rw [hN] at hB2;have hB3 := HS.out m.store.length nl;obtain ⟨S, hS⟩ : ∃ S, a + b0 + stockTo m.store m.store.length + longTo m.pieces k = S := ⟨_, rfl⟩;have hS2 : a + b0 + stockTo m.store m.store.length + longTo m.pieces (k + 1) = S + x0 := by rw [hN]; omega
      have hw2 : IntKind.i64.wrap (S + x0) = S + x0 := IntWalk.i64_in _ (by omega);have HS2 := hide hS2;rw [hS];clear hN hB1 hB2 hB3 hS hS2 hcl hcs hx0 hx1 hb;go_wp2_with fail
      go_roundw
      case rel => exact ⟨k + 1, by omega, by go_num, by rw [HS2.out], HB.out.alloc hz _⟩
      case measure => simp [intOf]; omega
     ·obtain rfl : k = m.pieces.length := by omega
      have HBZ := hide (Below.step B_1.out (Below.step HBO.out HB.out nl) nl);go_wp2_with fail
      go_ret;exact ⟨by rw [HM.out, massI, ha, hb0]; rfl, HBZ.out⟩
def valG (acc : Int) (l : List UInt8) : Int := l.foldl (fun n b => 10 * n + ((b.toNat : Int) - 48)) acc
def allD (l : List UInt8) : Prop := ∀ b ∈ l, 48 ≤ b.toNat ∧ b.toNat ≤ 57
theorem valG_cons (acc : Int) (b : UInt8) (l : List UInt8) : valG acc (b :: l) = valG (10 * acc + ((b.toNat : Int) - 48)) l := rfl
theorem valG_snoc (acc : Int) (l : List UInt8) (b : UInt8) : valG acc (l ++ [b]) = 10 * valG acc l + ((b.toNat : Int) - 48) := by simp [valG]
theorem valG_ge : ∀ (l : List UInt8) (acc : Int), 0 ≤ acc → allD l → acc ≤ valG acc l
 | [], acc, _, _ => by simp [valG]
 | b :: l, acc, h0, hd => by
  have hb := hd b (by simp);have := valG_ge l (10 * acc + ((b.toNat : Int) - 48)) (by omega) (fun x hx => hd x (by simp [hx]));rw [valG_cons]; omega
def canon (l : List UInt8) : Prop := l ≠ [] ∧ allD l ∧ ¬ ((l.headD 0).toNat = 48 ∧ 1 < l.length)
theorem byte_digit {d : Nat} (h : d < 10) : (UInt8.ofNat (48 + d)).toNat = 48 + d := by simp; omega
theorem dec_props (u : Nat) : allD (Lib.decDigits u) ∧ Lib.decDigits u ≠ [] ∧ valG 0 (Lib.decDigits u) = u ∧ (u ≠ 0 → ((Lib.decDigits u).headD 0).toNat ≠ 48) := by
 induction u using Nat.strongRecOn with
 | _ u ih =>
  by_cases h : u < 10
  ·rw [Lib.decDigits, dif_pos h]
   refine ⟨fun b hb => ?_, by simp, ?_, fun h0 => ?_⟩
   ·simp only [List.mem_singleton] at hb; subst hb; rw [byte_digit h]; omega
   ·rw [valG_cons, byte_digit h]; simp [valG]; omega
   ·simp only [List.headD_cons]; rw [byte_digit h]; omega
  ·rw [Lib.decDigits, dif_neg h]
   obtain ⟨h1, h2, h3, h4⟩ := ih (u / 10) (by omega);have hm : u % 10 < 10 := Nat.mod_lt _ (by omega);refine ⟨fun b hb => ?_, by simp, ?_, fun h0 => ?_⟩
   ·rcases List.mem_append.1 hb with hb | hb
    ·exact h1 b hb
    ·simp only [List.mem_singleton] at hb; subst hb; rw [byte_digit hm]; omega
   ·rw [valG_snoc, h3, byte_digit hm]; omega
   ·have := h4 (by omega)
    cases hd : Lib.decDigits (u / 10) with
    | nil => exact absurd hd h2
    | cons b l => rw [hd] at this; simpa using this
theorem canon_dec (u : Nat) : canon (Lib.decDigits u) := by
 obtain ⟨h1, h2, h3, h4⟩ := dec_props u;refine ⟨h2, h1, fun ⟨h5, h6⟩ => ?_⟩;by_cases h0 : u = 0
 ·subst h0
  rw [Lib.decDigits, dif_pos (by omega)] at h6;simp at h6
 ·exact h4 h0 h5
theorem numB_data (n : Int) (h : 0 ≤ n) : (numB n).data.toList = Lib.decDigits n.toNat := by
 obtain ⟨u, rfl⟩ : ∃ u : Nat, n = u := ⟨n.toNat, by omega⟩;rw [numB, Lib.itoa_nonneg];simp
theorem ext_list {a b : ByteArray} (h : a.data.toList = b.data.toList) : a = b := ByteArray.ext (Array.toList_inj.1 h)
theorem list_of_data {L : List ByteArray} {M : List ByteArray} (h : L.map (·.data.toList) = M.map (·.data.toList)) : L = M := by
 induction L generalizing M with
 | nil => cases M <;> simp_all
 | cons a L ih =>
  cases M with
  | nil => simp at h
  | cons b M =>
   simp only [List.map_cons, List.cons.injEq] at h;rw [ext_list h.1, ih h.2]
theorem MillSep.lt {lo hi : Nat} {w : World} {s p l h : Value} {m : Mi} (H : MillSep lo hi w s p l h m) : hi ≤ w.heap.size := by
 obtain ⟨a1, z1, a2, z2, a3, z3, a4, z4, -, -, -, -, -, -, -, -, -, h⟩ := H;exact h
end Go.Proofs.YtmemgbklgcjobaaGreatDoor
namespace Go.Proofs.YtmemgbklgcjobaaGreatDoor
open Go.ChangeShapes Go.WideShapes Go.Deep Go.RowKit Go.ChangeAt
theorem looks_off : false = Tryz.pinned.checked.prog.looks [] := by kernel_rfl
end Go.Proofs.YtmemgbklgcjobaaGreatDoor
namespace Go.Proofs.YtmemgbklgcjobaaGreatDoor
open Go.RowKit
theorem Rd.past {R k Z T : Nat} {w w' : World} {vs : List Value} (h : Rd R k w) (r : RowL w Z T vs) (hne : R ≠ Z) (hv : ∀ u ∈ vs, ∀ x, u ≠ .int .u8 x) (K : Other Z (Z + 1) w w') : Rd R k w' := by
 obtain ⟨v, n, p, h1, h2⟩ := h;have hRl := World.rowIs.lt h2.row;refine ⟨v, n, p, h1, World.rowIs.of_block h2.row (K.block R hRl (by omega)), ?_, h2.few⟩;obtain ⟨ao, cap, e, a1, a2, a3, a4⟩ := h2.bytes;refine ⟨ao, cap, e, a1, a2, Nat.le_trans a3 K.size, fun hn => ?_⟩;obtain ⟨b, o, e1, e2, e3, e4⟩ := a4 hn;have hb : b ≠ Z := by
  rintro rfl;obtain ⟨x, x1, -⟩ := e4 0 hn;obtain ⟨c, hc, hl, hf⟩ := r;simp [World.cell?, hc] at x1;obtain ⟨hi, -⟩ := Array.getElem?_eq_some_iff.1 x1;have hi2 : o < vs.length := by omega
  have h3 := hf o hi2;rw [x1] at h3;have h4 := Option.some.inj h3;have h5 : vs.getD o default = vs[o] := by simp [hi2]
  simp only [h5] at h4;exact hv _ (List.getElem_mem hi2) x h4.symm
 refine ⟨b, o, e1, e2, e3, fun i hi => ?_⟩;obtain ⟨x, x1, x2⟩ := e4 i hi;exact ⟨x, by rw [World.cell?_of_block (w := w) (K.block b (by omega) (by omega))]; exact x1, x2⟩
structure Way (a w : World) : Prop where
 b : Below a.heap.size a w
theorem Way.below {a w w' : World} (h : Way a w) (k : Below w.heap.size w w') : Way a w' := ⟨Below.step h.b k nl⟩
end Go.Proofs.YtmemgbklgcjobaaGreatDoor
