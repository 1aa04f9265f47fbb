/-
  Parts of the proofs over mills, of: Has, CutW, MethR, TextA, TextB, TextC, TextD, TextE, PlainJ, JournA. Conditions: each theorem states its own.
-/
import Derived.Lib.ItoaLen
import Derived.Deep.RegionHeld3
import Derived.Lib.AppendIntMem
import Derived.Test.YtmemgbklgcjobaaGreatDoorY16
set_option linter.unusedSimpArgs false
set_option linter.unusedVariables false
set_option maxRecDepth 10000
set_option maxHeartbeats 64000000
namespace Go.Proofs.YtmemgbklgcjobaaGreatDoor
open Go.RowKit
theorem state_any (s p l h : Value) (m : Mi) (id st : Int) (w : World) (HM : MillIn 0 w.heap.size w s p l h m) (hl : m.pieces.length ≤ 1000000) :
 Calls Tryz.prog 114 #[millV s p l h m, .int .i64 id, .int .i64 st] w fun e w' => e = .returned (.bool (hasB m id st)) ∧ Below w.heap.size w w' := by
 have hp := HM.pieces;have HP := hide hp;have hp2 := hp;have HMM := hide HM;clear HM;unfold millV;obtain ⟨ap, cp, rfl, -, -, -, -⟩ := hp2;clear hp;have hW := fun W => l1In_any id 1 (m.pieces.length : Int) W;by_cases hi : wi id 1 (m.pieces.length : Int) = true
 ·have HI := hide hi
  rw [hi] at hW;obtain ⟨h1, h2⟩ := wi_iff.1 hi;obtain ⟨k, rfl⟩ : ∃ k : Nat, id = k + 1 := ⟨(id - 1).toNat, by omega⟩;have hk : k < m.pieces.length := by omega
  obtain ⟨b2, o, cp2, e, -, hb2, c0, c1⟩ := pc_at HP.out hk;cases e;have hsub : IntKind.i64.wrap ((k : Int) + 1 - 1) = (k : Int) := by rw [show (k : Int) + 1 - 1 = (k : Int) by omega]; exact IntWalk.i64_in _ (by omega)
  have hkI : (k : Int) < (m.pieces.length : Int) := by omega
  have HW := hide hW;clear hW hi;go_enter Tryz.func114, Tryz.ntmps114;have hj0 : (0 : Int) ≤ (k : Int) := by omega
  go_wp2_with fail
  refine (HW.out _).mono ?_;rintro e w1 ⟨rfl, rfl⟩;go_wp2_with fail
  go_ret;have hg : hasB m ((k : Int) + 1) st = (m.pieces[k].s == st) := by
   have : ((k : Int) + 1 - 1).toNat = k := by omega
   simp [hasB, HI.out, hk]
  exact ⟨by simp [hg], by go_grown⟩
 ·have hi' : wi id 1 (m.pieces.length : Int) = false := by simpa using hi
  rw [hi'] at hW;have HI := hide hi';have HW := hide hW;clear hW hi hi';go_enter Tryz.func114, Tryz.ntmps114;go_wp2_with fail
  refine (HW.out _).mono ?_;rintro e w1 ⟨rfl, rfl⟩;go_wp2_with fail
  go_ret;exact ⟨by simp [hasB, HI.out], by go_grown⟩
theorem many_sums {L : Nat} {a b : Int} (h : lensB a b = true) : 0 ≤ (many0 L a b : Int) * a ∧ 0 ≤ (many1 L a b : Int) * b ∧ (many0 L a b : Int) * a + (many1 L a b : Int) * b ≤ L := by
 obtain ⟨⟨h1, h2⟩, h3, h4⟩ := lensB_iff.1 h;obtain ⟨-, e0⟩ := many_le h (show (0 : Int) ≤ L by omega);exact ⟨Int.mul_nonneg (by omega) (by omega), Int.mul_nonneg (by omega) (by omega), e0⟩
theorem tdiv_ge {n : Nat} {x y : Int} (hx : 0 ≤ x) (hy : 1 ≤ y) (h : (n : Int) * y ≤ x) (hl : x ≤ 60) : (n : Int) ≤ x.tdiv y ∧ 0 ≤ x.tdiv y ∧ x.tdiv y ≤ 60 := by
 rw [Int.tdiv_eq_ediv_of_nonneg hx];have h1 : (n : Int) ≤ x / y := Int.le_ediv_of_mul_le (by omega) h;have h2 : x / y ≤ x := Int.ediv_le_self _ hx;have h3 : 0 ≤ x / y := Int.ediv_nonneg hx (by omega);omega
theorem cutWaste_spec (v mv : Value) (a b : Int) (lo hi lo2 hi2 L : Nat) (hL : L ≤ 60) (hv : lensB a b = true) (w : World) (H : IntsAt lo hi w v [a, b]) (H2 : IntsAt lo2 hi2 w mv (manyL L a b)) :
 Calls Tryz.prog 173 #[.int .i64 (L : Int), v, mv] w fun e w' => e = .returned (.int .i64 (wasteR L a b)) ∧ Below w.heap.size w w' := by
 have HV := hide hv;obtain ⟨⟨ha1, ha2⟩, hb1, hb2⟩ := lensB_iff.1 hv;obtain ⟨hs0, hs1, hs2⟩ := many_sums (L := L) hv;have hlen := lens_spec v a b lo hi w H;rw [hv] at hlen;have HLN := hide hlen;have HH := hide H;have HH2 := hide H2;obtain ⟨b0, o0, cap, rfl, -, -, -, -⟩ := two_at H;have hR : wasteR L a b = L - many0 L a b * a - many1 L a b * b := rfl;unfold manyL at H2 HH2;obtain ⟨n0, hn0e⟩ : ∃ n : Nat, many0 L a b = n := ⟨_, rfl⟩;obtain ⟨n1, hn1e⟩ : ∃ n : Nat, many1 L a b = n := ⟨_, rfl⟩;rw [hn0e, hn1e] at H2 HH2 hR;rw [hn0e] at hs0 hs2;rw [hn1e] at hs1 hs2;obtain ⟨b2, o2, cap2, rfl, -, -, -, -⟩ := two_at H2;obtain ⟨d1, d2, d3⟩ := tdiv_ge (n := n0) (x := (L : Int)) (y := a) (by omega) ha1 (by omega) (by omega);obtain ⟨q0, hq0e⟩ : ∃ q, (L : Int).tdiv a = q := ⟨_, rfl⟩;rw [hq0e] at d1 d2 d3;obtain ⟨p0, hp0⟩ : ∃ p, (n0 : Int) * a = p := ⟨_, rfl⟩;rw [hp0] at hs0 hs2;obtain ⟨e1, e2, e3⟩ := tdiv_ge (n := n1) (x := (L : Int) - p0) (y := b) (by omega) (by omega) (by omega) (by omega);obtain ⟨q1, hq1e⟩ : ∃ q, ((L : Int) - p0).tdiv b = q := ⟨_, rfl⟩;rw [hq1e] at e1 e2 e3;obtain ⟨p1, hp1⟩ : ∃ p, (n1 : Int) * b = p := ⟨_, rfl⟩;rw [hp1] at hs1 hs2;have hR2 : wasteR L a b = L - p0 - p1 := by rw [hR, hp0, hp1]
 rw [hR2];have hq := fun W => l1In_any (L : Int) 0 60 W;rw [show wi (L : Int) 0 60 = true from wi_iff.2 (by omega)] at hq;have hq0 := fun W => l1In_any (n0 : Int) 0 q0 W;rw [show wi (n0 : Int) 0 q0 = true from wi_iff.2 (by omega)] at hq0;have hq1 := fun W => l1In_any (n1 : Int) 0 q1 W;rw [show wi (n1 : Int) 0 q1 = true from wi_iff.2 (by omega)] at hq1;have HQ := hide hq;have HQ0 := hide hq0;have HQ1 := hide hq1;have w0 : IntKind.i64.wrap ((n0 : Int) * a) = p0 := by rw [hp0]; exact IntWalk.i64_in _ (by omega)
 have w1 : IntKind.i64.wrap ((n1 : Int) * b) = p1 := by rw [hp1]; exact IntWalk.i64_in _ (by omega)
 have w2 : IntKind.i64.wrap ((L : Int) - p0) = (L : Int) - p0 := IntWalk.i64_in _ (by omega);have w3 : IntKind.i64.wrap ((L : Int) - p0 - p1) = (L : Int) - p0 - p1 := IntWalk.i64_in _ (by omega);have w4 : IntKind.i64.wrap q0 = q0 := IntWalk.i64_in _ (by omega);have w5 : IntKind.i64.wrap q1 = q1 := IntWalk.i64_in _ (by omega);have hne0 : (a == 0) = false := by rw [beq_eq_false_iff_ne]; omega
 have hne1 : (b == 0) = false := by rw [beq_eq_false_iff_ne]; omega
 clear hn0e hn1e hR hR2 hp0 hp1 H H2 hlen hq hq0 hq1 hv;go_enter Tryz.func173, Tryz.ntmps173;go_wp2_with fail
 refine HLN.out.mono ?_;rintro e wa ⟨rfl, hb⟩;have HB := hide hb;clear hb;go_wp2_with fail
 refine (HQ.out wa).mono ?_;rintro e wb ⟨rfl, rfl⟩;go_wp2_with fail
 go_loopw [7, 8] (fun x i wr => Below w.heap.size w wr ∧ ((i = .int .i64 0 ∧ x = .int .i64 (L : Int)) ∨ (i = .int .i64 1 ∧ x = .int .i64 ((L : Int) - p0)) ∨ (i = .int .i64 2 ∧ x = .int .i64 ((L : Int) - p0 - p1)))) (fun _ i _ => 2 - (intOf i).toNat)
 case atStart => exact ⟨HB.out, .inl ⟨rfl, rfl⟩⟩
 case round =>
  obtain ⟨hb, hcase⟩ := hrel;obtain ⟨b1, o1, cap1, e1, -, -, c0, c1⟩ := two_at (HH.out.below hb);cases e1;obtain ⟨b3, o3, cap3, e3, -, -, m0, m1⟩ := two_at (HH2.out.below hb);cases e3;have HBr := hide hb;clear hb;rcases hcase with ⟨rfl, rfl⟩ | ⟨rfl, rfl⟩ | ⟨rfl, rfl⟩
  ·go_wp2_with fail
   go_quiet ((go_at_call 68; exact quiet_left (HQ0.out _)))
   go_wp2_with fail
   go_quiet (fail)
   go_wp2_with fail
   go_roundw
   case rel => exact ⟨below_drewN HBr.out _, .inr (.inl ⟨rfl, rfl⟩)⟩
   case measure => simp [intOf]
  ·go_wp2_with fail
   go_quiet ((go_at_call 68; exact quiet_left (HQ1.out _)))
   go_wp2_with fail
   go_quiet (fail)
   go_wp2_with fail
   go_roundw
   case rel => exact ⟨below_drewN HBr.out _, .inr (.inr ⟨rfl, rfl⟩)⟩
   case measure => simp [intOf]
  ·go_wp2_with fail
   go_ret;exact ⟨rfl, HBr.out⟩
theorem rollD_no1 {m : Mi} {id n : Int} (h : ¬ 0 ≤ n) : rollD m id n = none := by simp [rollD, h]
theorem rollD_no2 {m : Mi} {id n : Int} (h : hasB m id 0 = false) : rollD m id n = none := by simp [rollD, h]
theorem rollD_no3 {m : Mi} {id n : Int} (h : (putR m.low m.high (spotTop n) (spotPlace n) id).2 = false) : rollD m id n = none := by simp [rollD, h]
theorem rollD_yes {m : Mi} {id n : Int} {q : List Int × List Int} (h1 : 0 ≤ n) (h2 : hasB m id 0 = true) (h : putR m.low m.high (spotTop n) (spotPlace n) id = (q, true)) : rollD m id n = some { m with low := q.1, high := q.2, pieces := setS m.pieces id 1 } := by simp [rollD, h, h1, h2]
def nameB (k : Int) : ByteArray :=
 if k == 0 then ⟨#[109, 101, 108, 116]⟩ else if k == 1 then ⟨#[99, 117, 116]⟩ else if k == 2 then ⟨#[114, 111, 108, 108]⟩ else if k == 3 then ⟨#[108, 105, 102, 116]⟩ else if k == 4 then ⟨#[115, 104, 105, 112]⟩ else ⟨#[]⟩
def twoB (k : Int) : Bool := k == 1 || k == 2 || k == 3
def numB (n : Int) : ByteArray := ⟨(Lib.itoa n).toArray⟩
def spB : ByteArray := ⟨#[32]⟩
theorem l8Name_any (k : Int) (w : World) :
 Calls Tryz.prog 130 #[.int .i64 k] w fun e w' => e = .returned (.string (nameB k)) ∧ w = w' := by
 go_enter Tryz.func130, Tryz.ntmps130
 go_wp2
 all_goals
  go_ret;exact ⟨by simp_all [nameB], rfl⟩
theorem l8Two_any (k : Int) (w : World) :
 Calls Tryz.prog 131 #[.int .i64 k] w fun e w' => e = .returned (.bool (twoB k)) ∧ w = w' := by
 rcases h1 : (k == 1) <;> rcases h2 : (k == 2) <;> (
  go_enter Tryz.func131, Tryz.ntmps131
  go_wp2
  go_ret;exact ⟨by simp_all [twoB], rfl⟩)
theorem conv1 {b : Nat} {z : Int} (W : World) (h : W.cell? ⟨b, 0, none⟩ = some (.int .u8 z)) (h0 : 0 ≤ z) (h1 : z ≤ 255) :
 (convert 22 9 (.slice (some ⟨b, 0, none⟩) 1 1)).run Tryz.prog W = .ok (.string ⟨#[UInt8.ofNat z.toNat]⟩) W := by
 have := run_convert_bytes_back (P := Tryz.prog) W 22 9 5 ⟨b, 0, none⟩ 1 [UInt8.ofNat z.toNat] (by kernel_rfl) (by kernel_rfl) (by kernel_rfl) (fun j hj => by
  simp at hj;subst hj;have ha : (⟨b, 0, none⟩ : Addr).add 0 = ⟨b, 0, none⟩ := by simp [Addr.add]
  rw [ha, h];have : (UInt8.ofNat z.toNat).toNat = z.toNat := by simp; omega
  simp [this]; omega)
 exact this
theorem numB_small (n : Nat) (h : n < 10) : (⟨#[UInt8.ofNat (48 + n)]⟩ : ByteArray) = numB n := by
 rw [numB, Lib.itoa_nonneg, Lib.decDigits, dif_pos h]
theorem numB_big (n : Nat) (h : ¬ n < 10) : numB ((n / 10 : Nat) : Int) ++ (⟨#[UInt8.ofNat (48 + ((n % 10 : Nat) : Int)).toNat]⟩ : ByteArray) = numB n := by
 have e : (48 + ((n % 10 : Nat) : Int)).toNat = 48 + n % 10 := by omega
 rw [numB, numB, Lib.itoa_nonneg, Lib.itoa_nonneg, Lib.decDigits.eq_def n, dif_neg h, e];apply ByteArray.ext;simp
theorem numB_len (n : Int) (h : -9223372036854775808 ≤ n) (h' : n ≤ 9223372036854775807) : (numB n).size ≤ 21 := by
 have := Lib.itoa_length_le n (by omega) (by omega);simpa [numB, ByteArray.size] using this
theorem l1Number_nat (n : Nat) : ∀ (w : World), n ≤ 9223372036854775807 →
 Calls Tryz.prog 122 #[.int .i64 n] w fun e w' => e = .returned (.string (numB n)) ∧ Below w.heap.size w w' := by
 induction n using Nat.strongRecOn with
 | _ n ih =>
 intro w hn;by_cases h : n < 10
 ·have h0 : decide ((n : Int) < 0) = false := by simp
  have h1 : decide ((n : Int) < 10) = true := by simp; omega
  have hcv : ∀ W : World, W.cell? ⟨w.heap.size, 0, none⟩ = some (.int .u8 (48 + (n : Int))) → (convert 22 9 (.slice (some ⟨w.heap.size, 0, none⟩) 1 1)).run Tryz.prog W = .ok (.string ⟨#[UInt8.ofNat (48 + (n : Int)).toNat]⟩) W := fun W hW => conv1 W hW (by omega) (by omega);go_enter Tryz.func122, Tryz.ntmps122
  set_option maxRecDepth 10000 in
  go_wp2
  go_ret;exact ⟨by rw [← numB_small n h]; rfl, by go_grown⟩
 ·have h0 : decide ((n : Int) < 0) = false := by simp
  have h1 : decide ((n : Int) < 10) = false := by simp; omega
  have hd : (n : Int).tdiv 10 = ((n / 10 : Nat) : Int) := by rw [Int.tdiv_eq_ediv_of_nonneg (by omega)]; omega
  have hm : (n : Int).tmod 10 = ((n % 10 : Nat) : Int) := by rw [Int.tmod_eq_emod_of_nonneg (by omega)]; omega
  have ih' := hide (ih (n / 10) (by omega));clear ih;obtain ⟨d, hd'⟩ : ∃ d : Nat, d = n / 10 := ⟨_, rfl⟩;obtain ⟨m, hm'⟩ : ∃ m : Nat, m = n % 10 := ⟨_, rfl⟩;rw [← hd'] at ih' hd;rw [← hm'] at hm;have hm9 : m < 10 := by omega
  have hdn : d ≤ 9223372036854775807 := by omega
  have HD := hide hd';have HM := hide hm';clear hd' hm';have hcv : ∀ (W : World) (b : Nat), W.cell? ⟨b, 0, none⟩ = some (.int .u8 (48 + (m : Int))) → (convert 22 9 (.slice (some ⟨b, 0, none⟩) 1 1)).run Tryz.prog W = .ok (.string ⟨#[UInt8.ofNat (48 + (m : Int)).toNat]⟩) W := fun W b hW => conv1 W hW (by omega) (by omega);go_enter Tryz.func122, Tryz.ntmps122
  set_option maxRecDepth 10000 in
  go_wp2
  have hsz : ¬ 9223372036854775807 < (numB (d : Int)).size + 1 := by have := numB_len d (by omega) (by omega); omega
  have hb0 : Below w.heap.size w w.drew := by go_grown
  have hw1 : IntKind.i64.wrap (d : Int) = (d : Int) := by rw [IntWalk.i64_in] <;> omega
  have hw2 : IntKind.i64.wrap (48 + (m : Int)) = 48 + (m : Int) := by rw [IntWalk.i64_in] <;> omega
  have hw3 : IntKind.u8.wrap (48 + (m : Int)) = 48 + (m : Int) := by simp [IntKind.wrap, IntKind.signed, IntKind.bits]; omega
  go_region_held (fun w' => Below w.heap.size w w') (first | exact hb0 | assumption | (exact Below.step (by assumption) (by assumption) nl) | (exact (Below.alloc (Below.refl _ _) nl _).drew) | (exact Below.alloc (by assumption) nl _) | (exact Below.alloc (by assumption) (by have := hb0.size; have := hb1.size; simp at *; omega) _) | (exact Below.alloc (by assumption) (by have := hb1.size; simpa using this) _) | (trace_state; fail)) (first | (go_at_call 122; refine (ih'.out _ hdn).mono ?_; rintro e w1 ⟨rfl, hb1⟩; obtain ⟨hc1, hc2⟩ := bcell hb1))
  all_goals
   have hbE := hide (show Below w.heap.size w _ by assumption);go_wp2_with fail
   go_ret;have e1 := numB_big n h;rw [← HD.out, ← HM.out] at e1;exact ⟨by rw [← e1]; rfl, hbE.out⟩
def dtB (k o t : Int) : ByteArray :=
 if wi k 0 4 && (wi o 0 9999 && (wi t 0 9999 && (twoB k || t == 0))) then (if twoB k then ((nameB k ++ spB) ++ numB o) ++ spB ++ numB t else (nameB k ++ spB) ++ numB o) else ⟨#[]⟩
theorem l1Number_any (n : Int) (h0 : 0 ≤ n) (h1 : n ≤ 9223372036854775807) (w : World) :
 Calls Tryz.prog 122 #[.int .i64 n] w fun e w' => e = .returned (.string (numB n)) ∧ Below w.heap.size w w' := by
 obtain ⟨m, rfl⟩ : ∃ m : Nat, n = m := ⟨n.toNat, by omega⟩;exact l1Number_nat m w (by omega)
theorem name_empty (k : Int) : (nameB k).toList.isEmpty = !wi k 0 4 := by
 by_cases h : 0 ≤ k ∧ k ≤ 4
 ·obtain ⟨h1, h2⟩ := h
  have : k = 0 ∨ k = 1 ∨ k = 2 ∨ k = 3 ∨ k = 4 := by omega
  rcases this with rfl | rfl | rfl | rfl | rfl <;> rw [ByteArray.toList_eq] <;> decide
 ·have e : wi k 0 4 = false := by simp [wi]; omega
  rw [e];have h0 : (k == 0) = false := by simp; omega
  have h1 : (k == 1) = false := by simp; omega
  have h2 : (k == 2) = false := by simp; omega
  have h3 : (k == 3) = false := by simp; omega
  have h4 : (k == 4) = false := by simp; omega
  rw [ByteArray.toList_eq];simp [nameB, h0, h1, h2, h3, h4]
theorem name_len (k : Int) : (nameB k).size ≤ 4 := by
 unfold nameB
 repeat' split
 all_goals decide
theorem held3 {f : FuncId} {args : Array Value} {r : Value} (hc : ∀ w, Calls Tryz.prog f args w fun e w' => e = .returned r ∧ Below w.heap.size w w') {w0 W : World} {B : Nat} {u v x : Value}
 (h0 : W.cell? ⟨B, 0, none⟩ = some u) (h1 : W.cell? ⟨B, 1, none⟩ = some v) (hx : W.cell? ⟨B, 2, none⟩ = some x) (h2 : B < W.heap.size) (h3 : Below w0.heap.size w0 W) :
 Calls Tryz.prog f args W fun e w' => e = .returned r ∧ (w'.cell? ⟨B, 0, none⟩ = some u ∧ w'.cell? ⟨B, 1, none⟩ = some v ∧ w'.cell? ⟨B, 2, none⟩ = some x) ∧ B < w'.heap.size ∧ Below w0.heap.size w0 w' :=
 (hc W).mono fun e w' ⟨he, hb⟩ => ⟨he, ⟨by rw [hb.cell h2]; exact h0, by rw [hb.cell h2]; exact h1, by rw [hb.cell h2]; exact hx⟩, Nat.lt_of_lt_of_le h2 hb.size, Below.step h3 hb nl⟩
theorem dt_spec (k o t : Int) (w : World) :
 Calls Tryz.prog 59 #[.agg #[.int .i64 k, .int .i64 o, .int .i64 t]] w fun e w' => e = .returned (.string (dtB k o t)) ∧ Below w.heap.size w w' := by
 rcases hk : wi k 0 4
 ·have hn := name_empty k
  rw [hk, Bool.not_false] at hn;go_enter Tryz.func59, Tryz.ntmps59;go_wp2_with fail
  refine (l8Name_any _ _).mono ?_;rintro e w1 ⟨rfl, rfl⟩
  set_option maxRecDepth 10000 in
  go_wp2_with fail
  go_ret;exact ⟨by simp [dtB, hk], by go_grown⟩
 have hn := name_empty k;rw [hk, Bool.not_true] at hn;have hI := fun w => l1In_any o 0 9999 w;rcases ho : wi o 0 9999
 ·rw [ho] at hI
  go_enter Tryz.func59, Tryz.ntmps59;go_wp2_with fail
  refine (l8Name_any _ _).mono ?_;rintro e w1 ⟨rfl, rfl⟩
  set_option maxRecDepth 10000 in
  go_wp2_with fail
  refine (hI _).mono ?_;rintro e w1 ⟨rfl, rfl⟩
  set_option maxRecDepth 10000 in
  go_wp2_with fail
  go_ret;exact ⟨by simp [dtB, ho], by go_grown⟩
 have hJ := fun w => l1In_any t 0 9999 w;rcases ht : wi t 0 9999
 ·rw [ho] at hI
  rw [ht] at hJ;go_enter Tryz.func59, Tryz.ntmps59;go_wp2_with fail
  refine (l8Name_any _ _).mono ?_;rintro e w1 ⟨rfl, rfl⟩
  set_option maxRecDepth 10000 in
  go_wp2_with fail
  refine (hI _).mono ?_;rintro e w1 ⟨rfl, rfl⟩
  set_option maxRecDepth 10000 in
  go_wp2_with fail
  refine (hJ _).mono ?_;rintro e w1 ⟨rfl, rfl⟩
  set_option maxRecDepth 10000 in
  go_wp2_with fail
  go_ret;exact ⟨by simp [dtB, ht], by go_grown⟩
 have hT := fun w => l8Two_any k w;have hob : 0 ≤ o ∧ o ≤ 9999 := by simpa [wi] using ho
 have htb : 0 ≤ t ∧ t ≤ 9999 := by simpa [wi] using ht
 rcases htw : twoB k
 ·rcases ht0 : (t == 0)
  ·have ht1 : (t != 0) = true := by simpa using ht0
   rw [ho] at hI;rw [ht] at hJ;rw [htw] at hT;go_enter Tryz.func59, Tryz.ntmps59;go_wp2_with fail
   refine (l8Name_any _ _).mono ?_;rintro e w1 ⟨rfl, rfl⟩
   set_option maxRecDepth 10000 in
   go_wp2_with fail
   refine (hI _).mono ?_;rintro e w1 ⟨rfl, rfl⟩
   set_option maxRecDepth 10000 in
   go_wp2_with fail
   refine (hJ _).mono ?_;rintro e w1 ⟨rfl, rfl⟩
   set_option maxRecDepth 10000 in
   go_wp2_with fail
   refine (hT _).mono ?_;rintro e w1 ⟨rfl, rfl⟩
   set_option maxRecDepth 10000 in
   go_wp2_with fail
   go_ret;exact ⟨by simp [dtB, htw, ht0], by go_grown⟩
  ·have ht1 : (t != 0) = false := by simpa using ht0
   rw [ho] at hI;rw [ht] at hJ;rw [htw] at hT;have hN1 := fun w => l1Number_any o hob.1 (by omega) w;have hN2 := fun w => l1Number_any t htb.1 (by omega) w;have hnl := name_len k;have hs1 : ¬ 9223372036854775807 < (nameB k).size + 1 := by omega
   have hol := numB_len o (by omega) (by omega);have htl := numB_len t (by omega) (by omega);have hs2 : ¬ 9223372036854775807 < (nameB k).size + 1 + (numB o).size := by omega
   have hs3 : ¬ 9223372036854775807 < (nameB k).size + 1 + (numB o).size + 1 := by omega
   have hs4 : ¬ 9223372036854775807 < (nameB k).size + 1 + (numB o).size + 1 + (numB t).size := by omega
   clear hnl hol htl;go_enter Tryz.func59, Tryz.ntmps59;go_wp2_with fail
   refine (l8Name_any _ _).mono ?_;rintro e w1 ⟨rfl, rfl⟩
   set_option maxRecDepth 10000 in
   go_wp2_with fail
   refine (hI _).mono ?_;rintro e w1 ⟨rfl, rfl⟩
   set_option maxRecDepth 10000 in
   go_wp2_with fail
   refine (hJ _).mono ?_;rintro e w1 ⟨rfl, rfl⟩
   set_option maxRecDepth 10000 in
   go_wp2_with fail
   refine (hT _).mono ?_;rintro e w1 ⟨rfl, rfl⟩
   set_option maxRecDepth 10000 in
   go_wp2_with fail
   obtain ⟨wx, hwx⟩ : ∃ wx, wx = w.alloc (Obj.cells #[Value.int IntKind.i64 k, Value.int IntKind.i64 o, Value.int IntKind.i64 t] 48) := ⟨_, rfl⟩;rw [← hwx];have hdb : Below w.heap.size w wx.drew := by rw [hwx]; exact ((Below.refl _ _).alloc nl _).drew
   have hd0 : wx.drew.cell? ⟨w.heap.size, 0, none⟩ = some (.int .i64 k) := by rw [hwx]; simp [go_sem]
   have hd1 : wx.drew.cell? ⟨w.heap.size, 1, none⟩ = some (.int .i64 o) := by rw [hwx]; simp [go_sem]
   have hd2 : wx.drew.cell? ⟨w.heap.size, 2, none⟩ = some (.int .i64 t) := by rw [hwx]; simp [go_sem]
   have hdl : w.heap.size < wx.drew.heap.size := by rw [hwx]; simp
   clear hwx
   go_region_held3 (fun w' => (w'.cell? ⟨w.heap.size, 0, none⟩ = some (.int .i64 k) ∧ w'.cell? ⟨w.heap.size, 1, none⟩ = some (.int .i64 o) ∧ w'.cell? ⟨w.heap.size, 2, none⟩ = some (.int .i64 t)) ∧ w.heap.size < w'.heap.size ∧ Below w.heap.size w w') (first | (exact ⟨⟨hd0, hd1, hd2⟩, hdl, hdb⟩) | (exact ⟨⟨by assumption, by assumption, by assumption⟩, by assumption, by assumption⟩)) (first | (go_at_call 130; refine (l8Name_any _ _).mono ?_; rintro e w' ⟨rfl, rfl⟩) | (go_at_call 122; refine (held3 hN1 (by assumption) (by assumption) (by assumption) (by assumption) (by assumption)).mono ?_; rintro e w' ⟨rfl, ⟨k0, k1, k2⟩, k3, k4⟩))
   set_option maxRecDepth 10000 in
   go_wp2_with fail
   refine (hT _).mono ?_;rintro e w1 ⟨rfl, rfl⟩;have hbE := hide (show Below w.heap.size w _ from by assumption)
   set_option maxRecDepth 10000 in
   go_wp2_with fail
   go_ret;exact ⟨by rw [dtB, hk, ho, ht, htw, ht0]; rfl, hbE.out⟩
 ·rw [ho] at hI
  rw [ht] at hJ;rw [htw] at hT;have hN1 := fun w => l1Number_any o hob.1 (by omega) w;have hN2 := fun w => l1Number_any t htb.1 (by omega) w;have hnl := name_len k;have hs1 : ¬ 9223372036854775807 < (nameB k).size + 1 := by omega
  have hol := numB_len o (by omega) (by omega);have htl := numB_len t (by omega) (by omega);have hs2 : ¬ 9223372036854775807 < (nameB k).size + 1 + (numB o).size := by omega
  have hs3 : ¬ 9223372036854775807 < (nameB k).size + 1 + (numB o).size + 1 := by omega
  have hs4 : ¬ 9223372036854775807 < (nameB k).size + 1 + (numB o).size + 1 + (numB t).size := by omega
  clear hnl hol htl;go_enter Tryz.func59, Tryz.ntmps59;go_wp2_with fail
  refine (l8Name_any _ _).mono ?_;rintro e w1 ⟨rfl, rfl⟩
  set_option maxRecDepth 10000 in
  go_wp2_with fail
  refine (hI _).mono ?_;rintro e w1 ⟨rfl, rfl⟩
  set_option maxRecDepth 10000 in
  go_wp2_with fail
  refine (hJ _).mono ?_;rintro e w1 ⟨rfl, rfl⟩
  set_option maxRecDepth 10000 in
  go_wp2_with fail
  refine (hT _).mono ?_;rintro e w1 ⟨rfl, rfl⟩
  set_option maxRecDepth 10000 in
  go_wp2_with fail
  obtain ⟨wx, hwx⟩ : ∃ wx, wx = w.alloc (Obj.cells #[Value.int IntKind.i64 k, Value.int IntKind.i64 o, Value.int IntKind.i64 t] 48) := ⟨_, rfl⟩;rw [← hwx];have hdb : Below w.heap.size w wx.drew := by rw [hwx]; exact ((Below.refl _ _).alloc nl _).drew
  have hd0 : wx.drew.cell? ⟨w.heap.size, 0, none⟩ = some (.int .i64 k) := by rw [hwx]; simp [go_sem]
  have hd1 : wx.drew.cell? ⟨w.heap.size, 1, none⟩ = some (.int .i64 o) := by rw [hwx]; simp [go_sem]
  have hd2 : wx.drew.cell? ⟨w.heap.size, 2, none⟩ = some (.int .i64 t) := by rw [hwx]; simp [go_sem]
  have hdl : w.heap.size < wx.drew.heap.size := by rw [hwx]; simp
  clear hwx
  go_region_held3 (fun w' => (w'.cell? ⟨w.heap.size, 0, none⟩ = some (.int .i64 k) ∧ w'.cell? ⟨w.heap.size, 1, none⟩ = some (.int .i64 o) ∧ w'.cell? ⟨w.heap.size, 2, none⟩ = some (.int .i64 t)) ∧ w.heap.size < w'.heap.size ∧ Below w.heap.size w w') (first | (exact ⟨⟨hd0, hd1, hd2⟩, hdl, hdb⟩) | (exact ⟨⟨by assumption, by assumption, by assumption⟩, by assumption, by assumption⟩)) (first | (go_at_call 130; refine (l8Name_any _ _).mono ?_; rintro e w' ⟨rfl, rfl⟩) | (go_at_call 122; refine (held3 hN1 (by assumption) (by assumption) (by assumption) (by assumption) (by assumption)).mono ?_; rintro e w' ⟨rfl, ⟨k0, k1, k2⟩, k3, k4⟩))
  set_option maxRecDepth 10000 in
  go_wp2_with fail
  refine (hT _).mono ?_;rintro e w1 ⟨rfl, rfl⟩
  set_option maxRecDepth 10000 in
  go_wp2_with fail
  refine (hN2 _).mono ?_;rintro e w5 ⟨rfl, hb5⟩;have hbE := hide (Below.step (show Below w.heap.size w _ from by assumption) hb5 nl);clear hb5
  set_option maxRecDepth 10000 in
  go_wp2_with fail
  go_ret;exact ⟨by rw [dtB, hk, ho, ht, htw]; rfl, hbE.out⟩
def NamesIs (w : World) : Prop := w.var? Tryz.prog "loop.example/steelmill/impl.deedNames" = some #[.string (nameB 0), .string (nameB 1), .string (nameB 2), .string (nameB 3), .string (nameB 4)]
def PowIs (w : World) : Prop := Lib.TabIs Tryz.prog w "internal/strconv.uint64pow10" .u64 Lib.pow10Tab
theorem g_names : Tryz.prog.globalNamed "loop.example/steelmill/impl.deedNames" = some 0 := by kernel_rfl
theorem NamesIs.stays {w w' : World} (h : NamesIs w) (hb : Below w.heap.size w w') : NamesIs w' := Go.Joins.var_stays g_names h hb nl
theorem NamesIs.cell {w : World} (h : NamesIs w) (m : Nat) (hm : m ≤ 4) : w.cell? ⟨0, m, none⟩ = some (.string (nameB m)) := by
 unfold NamesIs World.var? at h;rw [g_names] at h;simp only [Option.bind_some] at h;split at h
 ·rename_i cs t fr e
  simp only [Option.some.injEq] at h;subst h;have : m = 0 ∨ m = 1 ∨ m = 2 ∨ m = 3 ∨ m = 4 := by omega
  rcases this with rfl | rfl | rfl | rfl | rfl <;> simp [World.cell?, e]
 ·cases h
theorem NamesIs.size {w : World} (h : NamesIs w) : 0 < w.heap.size := by
 have := h.cell 0 (by omega);rcases Nat.lt_or_ge 0 w.heap.size with h' | h'
 ·exact h'
 ·simp [World.cell?, Array.getElem?_eq_none h'] at this
theorem g_pow : Tryz.prog.globalNamed "internal/strconv.uint64pow10" = some 2 := by kernel_rfl
theorem PowIs.stays {w w' : World} (h : PowIs w) (hb : Below w.heap.size w w') : PowIs w' := Go.Joins.tab_stays g_pow h hb nl
def rdGo : Int → List UInt8 → Option Int
 | n, [] => some n
 | n, b :: l => if b.toNat < 48 ∨ 57 < b.toNat then none else if 9999 < 10 * n + ((b.toNat : Int) - 48) then none else rdGo (10 * n + ((b.toNat : Int) - 48)) l
def rdNum (s : ByteArray) : Option Int :=
 if s.size = 0 then none else if (s.data.toList.headD 0).toNat = 48 ∧ 1 < s.size then none else rdGo 0 s.data.toList
theorem size_len (s : ByteArray) : s.data.toList.length = s.size := Array.length_toList
theorem drop_byte (s : ByteArray) (k : Nat) (h : k < s.size) : s.data.toList.drop k = s[k] :: s.data.toList.drop (k + 1) := by
 have h' : k < s.data.toList.length := by simpa using h
 rw [List.drop_eq_getElem_cons h'];rfl
def optV : Option Int → Value
 | none => .tuple #[.int .i64 0, .bool false]
 | some n => .tuple #[.int .i64 n, .bool true]
theorem head_byte (s : ByteArray) (h : 0 < s.size) : s.data.toList.headD 0 = s[0] := by
 have := drop_byte s 0 h;rw [List.drop_zero] at this;rw [this]; rfl
theorem empty_iff (s : ByteArray) : s.toList.isEmpty = decide (s.size = 0) := by
 have h : s.size = s.data.toList.length := Array.length_toList.symm;rw [ByteArray.toList_eq, h];cases s.data.toList <;> simp
theorem beqL (a b : ByteArray) : (a.toList == b.toList) = decide (a = b) := by
 rw [ByteArray.toList_eq, ByteArray.toList_eq, Bool.eq_iff_iff];simp only [beq_iff_eq, decide_eq_true_eq];constructor
 ·intro h
  apply ByteArray.ext;exact Array.toList_inj.1 h
 ·rintro rfl; rfl
def kindB (s : ByteArray) : Int := if s = nameB 0 then 0 else if s = nameB 1 then 1 else if s = nameB 2 then 2 else if s = nameB 3 then 3 else if s = nameB 4 then 4 else -1
def partsB (s : ByteArray) : List ByteArray := Lib.splitB spB 0 (Lib.countB s spB) s
def rdI (L : List ByteArray) : Option (Int × Int × Int) :=
 let k := kindB (L.getD 0 ⟨#[]⟩)
 if k < 0 then none else if L.length ≠ (if twoB k then 3 else 2) then none else
  match rdNum (L.getD 1 ⟨#[]⟩) with
  | none => none
  | some n => if twoB k then (match rdNum (L.getD 2 ⟨#[]⟩) with | none => none | some m => some (k, n, m)) else some (k, n, 0)
def StrsAt (w : World) (b : Nat) (L : List ByteArray) : Prop := b < w.heap.size ∧ ∀ i (h : i < L.length), w.cell? ⟨b, i, none⟩ = some (.string L[i])
def glue (p : List UInt8) : List (List UInt8) → List (List UInt8)
 | [] => [p]
 | q :: qs => (p ++ q) :: qs
def OwnStr (base : Nat) (w : World) (v : Value) (xs : List ByteArray) : Prop :=
 (∃ g cap, v = .slice (some ⟨g, 0, none⟩) xs.length cap ∧ xs.length ≤ cap ∧ cap ≤ 9223372036854775807) ∧ w.ownsRow base 9 1 v xs.length (xs.map Value.string)
theorem OwnStr.new (base : Nat) (w : World) (hb : base ≤ w.heap.size) : OwnStr base (w.alloc (.cells #[] 9)) (.slice (some ⟨w.heap.size, 0, none⟩) 0 0) [] := by
 refine ⟨⟨_, _, rfl, Nat.le_refl _, by simp⟩, ?_⟩;have := World.ownsRow_lit (e := 9) (size := 1) w #[] 0 hb (by unfold maxLen; omega) (by simp);simpa using this
theorem OwnStr.strs {base : Nat} {w : World} {v : Value} {xs : List ByteArray} (h : OwnStr base w v xs) : ∃ g cap, v = .slice (some ⟨g, 0, none⟩) xs.length cap ∧ xs.length ≤ cap ∧ cap ≤ 9223372036854775807 ∧ base ≤ g ∧ StrsAt w g xs := by
 obtain ⟨⟨g, cap, rfl, hc1, hc2⟩, ho⟩ := h;have hlt := ho.lt g rfl;refine ⟨g, cap, rfl, hc1, hc2, hlt.1, hlt.2, fun i hi => ?_⟩;rcases ho.2 with ⟨e, _⟩ | ⟨g', cap', cur, e, _, hb, _, _, h3, h4⟩
 ·cases e
 ·simp only [Value.slice.injEq, Option.some.injEq, Addr.mk.injEq] at e
  obtain ⟨⟨rfl, -, -⟩, -, rfl⟩ := e;rw [Go.Joins.cell_of_block hb];have h5 := congrArg (·[i]?) h4
  simp only [List.getElem?_map, List.getElem?_eq_getElem hi, Nat.mul_one, Option.map_some] at h5;rw [List.getElem?_take_of_lt (by omega)] at h5;simpa using h5
structure RdSt (w0 w : World) (r D g : Nat) (xs : List ByteArray) (k o t : Int) : Prop where
 r0 : w.cell? ⟨r, 0, none⟩ = some (.int .i64 0)
 r1 : w.cell? ⟨r, 1, none⟩ = some (.int .i64 0)
 r2 : w.cell? ⟨r, 2, none⟩ = some (.int .i64 0)
 fr0 : w.frozen? ⟨r, 0, none⟩ = false
 fr1 : w.frozen? ⟨r, 1, none⟩ = false
 fr2 : w.frozen? ⟨r, 2, none⟩ = false
 d0 : w.cell? ⟨D, 0, none⟩ = some (.int .i64 k)
 d1 : w.cell? ⟨D, 1, none⟩ = some (.int .i64 o)
 d2 : w.cell? ⟨D, 2, none⟩ = some (.int .i64 t)
 fd0 : w.frozen? ⟨D, 0, none⟩ = false
 fd1 : w.frozen? ⟨D, 1, none⟩ = false
 fd2 : w.frozen? ⟨D, 2, none⟩ = false
 strs : StrsAt w g xs
 lr : r < w.heap.size
 ld : D < w.heap.size
 ne : r ≠ D
 ng : g ≠ D
 br : w0.heap.size ≤ r
 bd : w0.heap.size ≤ D
 below : Below w0.heap.size w0 w
theorem RdSt.step {w0 w w' : World} {r D g : Nat} {xs : List ByteArray} {k o t : Int} (h : RdSt w0 w r D g xs k o t) (hb : Below w.heap.size w w') : RdSt w0 w' r D g xs k o t :=
 ⟨by rw [hb.cell h.lr]; exact h.r0, by rw [hb.cell h.lr]; exact h.r1, by rw [hb.cell h.lr]; exact h.r2, by rw [hb.frozen h.lr]; exact h.fr0, by rw [hb.frozen h.lr]; exact h.fr1, by rw [hb.frozen h.lr]; exact h.fr2,
  by rw [hb.cell h.ld]; exact h.d0, by rw [hb.cell h.ld]; exact h.d1, by rw [hb.cell h.ld]; exact h.d2, by rw [hb.frozen h.ld]; exact h.fd0, by rw [hb.frozen h.ld]; exact h.fd1, by rw [hb.frozen h.ld]; exact h.fd2,
  ⟨Nat.lt_of_lt_of_le h.strs.1 hb.size, fun i hi => by rw [hb.cell h.strs.1]; exact h.strs.2 i hi⟩, Nat.lt_of_lt_of_le h.lr hb.size, Nat.lt_of_lt_of_le h.ld hb.size, h.ne, h.ng, h.br, h.bd, Below.step h.below hb nl⟩
def rdL (l : List UInt8) : Option J := (rdI (partsB ⟨l.toArray⟩)).map fun (k, o, t) => ⟨k, o, t⟩
def rjGo : Nat → List UInt8 → List J × Nat
 | 0, _ => ([], 0)
 | f + 1, l => if 10 ∈ l then (match rdL (l.takeWhile (· != 10)) with
  | none => ([], 0)
  | some d => (d :: (rjGo f (l.drop ((l.takeWhile (· != 10)).length + 1))).1, (l.takeWhile (· != 10)).length + 1 + (rjGo f (l.drop ((l.takeWhile (· != 10)).length + 1))).2)) else ([], 0)
def rjR (s : ByteArray) : List J × Nat := rjGo 99 s.data.toList
theorem tw_app {a l : List UInt8} (h : 10 ∉ a) : (a ++ 10 :: l).takeWhile (· != 10) = a := by
 rw [List.takeWhile_append_of_pos]
 ·simp
 ·intro x hx
  simp only [bne_iff_ne, ne_eq];rintro rfl; exact h hx
theorem split10 {l : List UInt8} (h : 10 ∈ l) : ∃ a r, l = a ++ 10 :: r ∧ 10 ∉ a := by
 induction l with
 | nil => cases h
 | cons b l ih =>
  by_cases hb : b = 10
  ·subst hb; exact ⟨[], l, rfl, by simp⟩
  ·obtain ⟨a, r, e, hn⟩ := ih ((List.mem_cons.1 h).resolve_left fun e => hb e.symm)
   refine ⟨b :: a, r, by rw [e]; rfl, ?_⟩;simp only [List.mem_cons, not_or];exact ⟨fun e => hb e.symm, hn⟩
theorem tw_len {l : List UInt8} (h : 10 ∈ l) : (l.takeWhile (· != 10)).length + 1 ≤ l.length := by
 obtain ⟨a, r, rfl, hn⟩ := split10 h;rw [tw_app hn]; simp
theorem rjGo_one {f : Nat} {l : List UInt8} {d : J} (hm : 10 ∈ l) (h : rdL (l.takeWhile (· != 10)) = some d) :
 rjGo (f + 1) l = (d :: (rjGo f (l.drop ((l.takeWhile (· != 10)).length + 1))).1, (l.takeWhile (· != 10)).length + 1 + (rjGo f (l.drop ((l.takeWhile (· != 10)).length + 1))).2) := by
 rw [rjGo, if_pos hm, h]
structure RjSt (s : ByteArray) (D : List J) (n f : Nat) : Prop where
 len : D.length + f = 99
 le : n ≤ s.size
 eq : rjR s = (D ++ (rjGo f (s.data.toList.drop n)).1, n + (rjGo f (s.data.toList.drop n)).2)
theorem RjSt.step {s : ByteArray} {D : List J} {n f : Nat} {d : J} (h : RjSt s D n (f + 1)) (hm : 10 ∈ s.data.toList.drop n) (hd : rdL ((s.data.toList.drop n).takeWhile (· != 10)) = some d) :
 RjSt s (D ++ [d]) (n + (((s.data.toList.drop n).takeWhile (· != 10)).length + 1)) f := by
 refine ⟨?_, ?_, ?_⟩
 ·have := h.len; simp; omega
 ·have h1 := tw_len hm
  have h2 := h.le;rw [List.length_drop, size_len] at h1;omega
 ·rw [h.eq, rjGo_one hm hd, List.drop_drop]
  simp [Nat.add_assoc]
end Go.Proofs.YtmemgbklgcjobaaGreatDoor
