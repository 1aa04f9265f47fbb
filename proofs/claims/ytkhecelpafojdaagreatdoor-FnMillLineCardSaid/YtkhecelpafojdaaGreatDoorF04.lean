/-
  Parts of the proofs over mills, of: TextA. Conditions: each theorem states its own.
-/
import Derived.Lib.ItoaLen
import Derived.Deep.RegionHeld3
import Derived.Lib.SmallJoins
import Derived.Lib.AppendIntMem
import Derived.Test.YtkhecelpafojdaaGreatDoorF02
import Derived.Test.YtkhecelpafojdaaGreatDoorF03
set_option linter.unusedSimpArgs false
set_option linter.unusedVariables false
set_option maxRecDepth 10000
set_option maxHeartbeats 64000000
namespace Go.Proofs.YtkhecelpafojdaaGreatDoor
open Go.RowKit
def ax (k : Int) : ByteArray :=
 if k == 0 then ⟨#[109, 101, 108, 116]⟩ else if k == 1 then ⟨#[99, 117, 116]⟩ else if k == 2 then ⟨#[114, 111, 108, 108]⟩ else if k == 3 then ⟨#[108, 105, 102, 116]⟩ else if k == 4 then ⟨#[115, 104, 105, 112]⟩ else ⟨#[]⟩
def jw (k : Int) : Bool := k == 1 || k == 2 || k == 3
def aW (n : Int) : ByteArray := ⟨(Lib.itoa n).toArray⟩
def spB : ByteArray := ⟨#[32]⟩
theorem dR (k : Int) (w : World) :
 Calls Tryz.prog 77 #[.int .i64 k] w fun e w' => e = .returned (.string (ax k)) ∧ w = w' := by
 go_enter Tryz.func77, Tryz.ntmps77
 go_wp2
 all_goals
  go_ret;exact ⟨by simp_all [ax], rfl⟩
theorem l8Two_any (k : Int) (w : World) :
 Calls Tryz.prog 93 #[.int .i64 k] w fun e w' => e = .returned (.bool (jw k)) ∧ w = w' := by
 rcases h1 : (k == 1) <;> rcases h2 : (k == 2) <;> (
  go_enter Tryz.func93, Tryz.ntmps93
  go_wp2
  go_ret;exact ⟨by simp_all [jw], rfl⟩)
theorem hasTwo_any (k : Int) (w : World) :
 Calls Tryz.prog 47 #[.int .i64 k] w fun e w' => e = .returned (.bool (jw k)) ∧ w = w' := by
 rcases h1 : (k == 1) <;> rcases h2 : (k == 2) <;> (
  go_enter Tryz.func47, Tryz.ntmps47
  go_wp2
  go_ret;exact ⟨by simp_all [jw], rfl⟩)
theorem conv1 {b : Nat} {z : Int} (W : World) (h : W.cell? ⟨b, 0, none⟩ = some (.int .u8 z)) (h0 : 0 ≤ z) (h1 : z ≤ 255) :
 (convert 22 9 (.slice (some ⟨b, 0, none⟩) 1 1)).run Tryz.prog W = .ok (.string ⟨#[UInt8.ofNat z.toNat]⟩) W := by
 have := run_convert_bytes_back (P := Tryz.prog) W 22 9 5 ⟨b, 0, none⟩ 1 [UInt8.ofNat z.toNat] (by kernel_rfl) (by kernel_rfl) (by kernel_rfl) (fun j hj => by
  simp at hj;subst hj;have ha : (⟨b, 0, none⟩ : Addr).add 0 = ⟨b, 0, none⟩ := by simp [Addr.add]
  rw [ha, h];have : (UInt8.ofNat z.toNat).toNat = z.toNat := by simp; omega
  simp [this]; omega)
 exact this
theorem numB_small (n : Nat) (h : n < 10) : (⟨#[UInt8.ofNat (48 + n)]⟩ : ByteArray) = aW n := by
 rw [aW, Lib.itoa_nonneg, Lib.decDigits, dif_pos h]
theorem numB_big (n : Nat) (h : ¬ n < 10) : aW ((n / 10 : Nat) : Int) ++ (⟨#[UInt8.ofNat (48 + ((n % 10 : Nat) : Int)).toNat]⟩ : ByteArray) = aW n := by
 have e : (48 + ((n % 10 : Nat) : Int)).toNat = 48 + n % 10 := by omega
 rw [aW, aW, Lib.itoa_nonneg, Lib.itoa_nonneg, Lib.decDigits.eq_def n, dif_neg h, e];apply ByteArray.ext;simp
theorem gm (n : Int) (h : -9223372036854775808 ≤ n) (h' : n ≤ 9223372036854775807) : (aW n).size ≤ 21 := by
 have := Lib.itoa_length_le n (by omega) (by omega);simpa [aW, ByteArray.size] using this
theorem l1Number_nat (n : Nat) : ∀ (w : World), n ≤ 9223372036854775807 →
 Calls Tryz.prog 89 #[.int .i64 n] w fun e w' => e = .returned (.string (aW n)) ∧ Below w.heap.size w w' := by
 induction n using Nat.strongRecOn with
 | _ n ih =>
 intro w hn;by_cases h : n < 10
 ·have h0 : decide ((n : Int) < 0) = false := by simp
  have h1 : decide ((n : Int) < 10) = true := by simp; omega
  have hcv : ∀ W : World, W.cell? ⟨w.heap.size, 0, none⟩ = some (.int .u8 (48 + (n : Int))) → (convert 22 9 (.slice (some ⟨w.heap.size, 0, none⟩) 1 1)).run Tryz.prog W = .ok (.string ⟨#[UInt8.ofNat (48 + (n : Int)).toNat]⟩) W := fun W hW => conv1 W hW (by omega) (by omega);go_enter Tryz.func89, Tryz.ntmps89
  set_option maxRecDepth 10000 in
  go_wp2
  go_ret;exact ⟨by rw [← numB_small n h]; rfl, by go_grown⟩
 ·have h0 : decide ((n : Int) < 0) = false := by simp
  have h1 : decide ((n : Int) < 10) = false := by simp; omega
  have hd : (n : Int).tdiv 10 = ((n / 10 : Nat) : Int) := by rw [Int.tdiv_eq_ediv_of_nonneg (by omega)]; omega
  have hm : (n : Int).tmod 10 = ((n % 10 : Nat) : Int) := by rw [Int.tmod_eq_emod_of_nonneg (by omega)]; omega
  have ih' := hide (ih (n / 10) (by omega));clear ih;obtain ⟨d, hd'⟩ : ∃ d : Nat, d = n / 10 := ⟨_, rfl⟩;obtain ⟨m, hm'⟩ : ∃ m : Nat, m = n % 10 := ⟨_, rfl⟩;rw [← hd'] at ih' hd;rw [← hm'] at hm;have hm9 : m < 10 := by omega
  have hdn : d ≤ 9223372036854775807 := by omega
  have HD := hide hd';have HM := hide hm';clear hd' hm';have hcv : ∀ (W : World) (b : Nat), W.cell? ⟨b, 0, none⟩ = some (.int .u8 (48 + (m : Int))) → (convert 22 9 (.slice (some ⟨b, 0, none⟩) 1 1)).run Tryz.prog W = .ok (.string ⟨#[UInt8.ofNat (48 + (m : Int)).toNat]⟩) W := fun W b hW => conv1 W hW (by omega) (by omega);go_enter Tryz.func89, Tryz.ntmps89
  set_option maxRecDepth 10000 in
  go_wp2
  have hsz : ¬ 9223372036854775807 < (aW (d : Int)).size + 1 := by have := gm d (by omega) (by omega); omega
  have hb0 : Below w.heap.size w w.drew := by go_grown
  have hw1 : IntKind.i64.wrap (d : Int) = (d : Int) := by rw [IntWalk.i64_in] <;> omega
  have hw2 : IntKind.i64.wrap (48 + (m : Int)) = 48 + (m : Int) := by rw [IntWalk.i64_in] <;> omega
  have hw3 : IntKind.u8.wrap (48 + (m : Int)) = 48 + (m : Int) := by simp [IntKind.wrap, IntKind.signed, IntKind.bits]; omega
  go_region_held (fun w' => Below w.heap.size w w') (first | exact hb0 | assumption | (exact Below.step (by assumption) (by assumption) nl) | (exact (Below.alloc (Below.refl _ _) nl _).drew) | (exact Below.alloc (by assumption) nl _) | (exact Below.alloc (by assumption) (by have := hb0.size; have := hb1.size; simp at *; omega) _) | (exact Below.alloc (by assumption) (by have := hb1.size; simpa using this) _) | (trace_state; fail)) (first | (go_at_call 89; refine (ih'.out _ hdn).mono ?_; rintro e w1 ⟨rfl, hb1⟩; obtain ⟨hc1, hc2⟩ := gX hb1))
  all_goals
   have hbE := hide (show Below w.heap.size w _ by assumption);go_wp2_with fail
   go_ret;have e1 := numB_big n h;rw [← HD.out, ← HM.out] at e1;exact ⟨by rw [← e1]; rfl, hbE.out⟩
def dtB (k o t : Int) : ByteArray :=
 if wi k 0 4 && (wi o 0 9999 && (wi t 0 9999 && (jw k || t == 0))) then (if jw k then ((ax k ++ spB) ++ aW o) ++ spB ++ aW t else (ax k ++ spB) ++ aW o) else ⟨#[]⟩
theorem aT (n : Int) (h0 : 0 ≤ n) (h1 : n ≤ 9223372036854775807) (w : World) :
 Calls Tryz.prog 89 #[.int .i64 n] w fun e w' => e = .returned (.string (aW n)) ∧ Below w.heap.size w w' := by
 obtain ⟨m, rfl⟩ : ∃ m : Nat, n = m := ⟨n.toNat, by omega⟩;exact l1Number_nat m w (by omega)
theorem name_empty (k : Int) : (ax k).toList.isEmpty = !wi k 0 4 := by
 by_cases h : 0 ≤ k ∧ k ≤ 4
 ·obtain ⟨h1, h2⟩ := h
  have : k = 0 ∨ k = 1 ∨ k = 2 ∨ k = 3 ∨ k = 4 := by omega
  rcases this with rfl | rfl | rfl | rfl | rfl <;> rw [ByteArray.toList_eq] <;> decide
 ·have e : wi k 0 4 = false := by simp [wi]; omega
  rw [e];have h0 : (k == 0) = false := by simp; omega
  have h1 : (k == 1) = false := by simp; omega
  have h2 : (k == 2) = false := by simp; omega
  have h3 : (k == 3) = false := by simp; omega
  have h4 : (k == 4) = false := by simp; omega
  rw [ByteArray.toList_eq];simp [ax, h0, h1, h2, h3, h4]
theorem name_len (k : Int) : (ax k).size ≤ 4 := by
 unfold ax
 repeat' split
 all_goals decide
theorem held3 {f : FuncId} {args : Array Value} {r : Value} (hc : ∀ w, Calls Tryz.prog f args w fun e w' => e = .returned r ∧ Below w.heap.size w w') {w0 W : World} {B : Nat} {u v x : Value}
 (h0 : W.cell? ⟨B, 0, none⟩ = some u) (h1 : W.cell? ⟨B, 1, none⟩ = some v) (hx : W.cell? ⟨B, 2, none⟩ = some x) (h2 : B < W.heap.size) (h3 : Below w0.heap.size w0 W) :
 Calls Tryz.prog f args W fun e w' => e = .returned r ∧ (w'.cell? ⟨B, 0, none⟩ = some u ∧ w'.cell? ⟨B, 1, none⟩ = some v ∧ w'.cell? ⟨B, 2, none⟩ = some x) ∧ B < w'.heap.size ∧ Below w0.heap.size w0 w' :=
 (hc W).mono fun e w' ⟨he, hb⟩ => ⟨he, ⟨by rw [hb.cell h2]; exact h0, by rw [hb.cell h2]; exact h1, by rw [hb.cell h2]; exact hx⟩, Nat.lt_of_lt_of_le h2 hb.size, Below.step h3 hb nl⟩
theorem jW (k o t : Int) (w : World) :
 Calls Tryz.prog 35 #[.agg #[.int .i64 k, .int .i64 o, .int .i64 t]] w fun e w' => e = .returned (.string (dtB k o t)) ∧ Below w.heap.size w w' := by
 rcases hk : wi k 0 4
 ·have hn := name_empty k
  rw [hk, Bool.not_false] at hn;go_enter Tryz.func35, Tryz.ntmps35;go_wp2_with fail
  refine (dR _ _).mono ?_;rintro e w1 ⟨rfl, rfl⟩
  set_option maxRecDepth 10000 in
  go_wp2_with fail
  go_ret;exact ⟨by simp [dtB, hk], by go_grown⟩
 have hn := name_empty k;rw [hk, Bool.not_true] at hn;have hI := fun w => aY o 0 9999 w;rcases ho : wi o 0 9999
 ·rw [ho] at hI
  go_enter Tryz.func35, Tryz.ntmps35;go_wp2_with fail
  refine (dR _ _).mono ?_;rintro e w1 ⟨rfl, rfl⟩
  set_option maxRecDepth 10000 in
  go_wp2_with fail
  refine (hI _).mono ?_;rintro e w1 ⟨rfl, rfl⟩
  set_option maxRecDepth 10000 in
  go_wp2_with fail
  go_ret;exact ⟨by simp [dtB, ho], by go_grown⟩
 have hJ := fun w => aY t 0 9999 w;rcases ht : wi t 0 9999
 ·rw [ho] at hI
  rw [ht] at hJ;go_enter Tryz.func35, Tryz.ntmps35;go_wp2_with fail
  refine (dR _ _).mono ?_;rintro e w1 ⟨rfl, rfl⟩
  set_option maxRecDepth 10000 in
  go_wp2_with fail
  refine (hI _).mono ?_;rintro e w1 ⟨rfl, rfl⟩
  set_option maxRecDepth 10000 in
  go_wp2_with fail
  refine (hJ _).mono ?_;rintro e w1 ⟨rfl, rfl⟩
  set_option maxRecDepth 10000 in
  go_wp2_with fail
  go_ret;exact ⟨by simp [dtB, ht], by go_grown⟩
 have hT := fun w => l8Two_any k w;have hob : 0 ≤ o ∧ o ≤ 9999 := by simpa [wi] using ho
 have htb : 0 ≤ t ∧ t ≤ 9999 := by simpa [wi] using ht
 rcases htw : jw k
 ·rcases ht0 : (t == 0)
  ·have ht1 : (t != 0) = true := by simpa using ht0
   rw [ho] at hI;rw [ht] at hJ;rw [htw] at hT;go_enter Tryz.func35, Tryz.ntmps35;go_wp2_with fail
   refine (dR _ _).mono ?_;rintro e w1 ⟨rfl, rfl⟩
   set_option maxRecDepth 10000 in
   go_wp2_with fail
   refine (hI _).mono ?_;rintro e w1 ⟨rfl, rfl⟩
   set_option maxRecDepth 10000 in
   go_wp2_with fail
   refine (hJ _).mono ?_;rintro e w1 ⟨rfl, rfl⟩
   set_option maxRecDepth 10000 in
   go_wp2_with fail
   refine (hT _).mono ?_;rintro e w1 ⟨rfl, rfl⟩
   set_option maxRecDepth 10000 in
   go_wp2_with fail
   go_ret;exact ⟨by simp [dtB, htw, ht0], by go_grown⟩
  ·have ht1 : (t != 0) = false := by simpa using ht0
   rw [ho] at hI;rw [ht] at hJ;rw [htw] at hT;have hN1 := fun w => aT o hob.1 (by omega) w;have hN2 := fun w => aT t htb.1 (by omega) w;have hnl := name_len k;have hs1 : ¬ 9223372036854775807 < (ax k).size + 1 := by omega
   have hol := gm o (by omega) (by omega);have htl := gm t (by omega) (by omega);have hs2 : ¬ 9223372036854775807 < (ax k).size + 1 + (aW o).size := by omega
   have hs3 : ¬ 9223372036854775807 < (ax k).size + 1 + (aW o).size + 1 := by omega
   have hs4 : ¬ 9223372036854775807 < (ax k).size + 1 + (aW o).size + 1 + (aW t).size := by omega
   clear hnl hol htl;go_enter Tryz.func35, Tryz.ntmps35;go_wp2_with fail
   refine (dR _ _).mono ?_;rintro e w1 ⟨rfl, rfl⟩
   set_option maxRecDepth 10000 in
   go_wp2_with fail
   refine (hI _).mono ?_;rintro e w1 ⟨rfl, rfl⟩
   set_option maxRecDepth 10000 in
   go_wp2_with fail
   refine (hJ _).mono ?_;rintro e w1 ⟨rfl, rfl⟩
   set_option maxRecDepth 10000 in
   go_wp2_with fail
   refine (hT _).mono ?_;rintro e w1 ⟨rfl, rfl⟩
   set_option maxRecDepth 10000 in
   go_wp2_with fail
   obtain ⟨wx, hwx⟩ : ∃ wx, wx = w.alloc (Obj.cells #[Value.int IntKind.i64 k, Value.int IntKind.i64 o, Value.int IntKind.i64 t] 42) := ⟨_, rfl⟩;rw [← hwx];have hdb : Below w.heap.size w wx.drew := by rw [hwx]; exact ((Below.refl _ _).alloc nl _).drew
   have hd0 : wx.drew.cell? ⟨w.heap.size, 0, none⟩ = some (.int .i64 k) := by rw [hwx]; simp [go_sem]
   have hd1 : wx.drew.cell? ⟨w.heap.size, 1, none⟩ = some (.int .i64 o) := by rw [hwx]; simp [go_sem]
   have hd2 : wx.drew.cell? ⟨w.heap.size, 2, none⟩ = some (.int .i64 t) := by rw [hwx]; simp [go_sem]
   have hdl : w.heap.size < wx.drew.heap.size := by rw [hwx]; simp
   clear hwx
   go_region_held3 (fun w' => (w'.cell? ⟨w.heap.size, 0, none⟩ = some (.int .i64 k) ∧ w'.cell? ⟨w.heap.size, 1, none⟩ = some (.int .i64 o) ∧ w'.cell? ⟨w.heap.size, 2, none⟩ = some (.int .i64 t)) ∧ w.heap.size < w'.heap.size ∧ Below w.heap.size w w') (first | (exact ⟨⟨hd0, hd1, hd2⟩, hdl, hdb⟩) | (exact ⟨⟨by assumption, by assumption, by assumption⟩, by assumption, by assumption⟩)) (first | (go_at_call 77; refine (dR _ _).mono ?_; rintro e w' ⟨rfl, rfl⟩) | (go_at_call 89; refine (held3 hN1 (by assumption) (by assumption) (by assumption) (by assumption) (by assumption)).mono ?_; rintro e w' ⟨rfl, ⟨k0, k1, k2⟩, k3, k4⟩))
   set_option maxRecDepth 10000 in
   go_wp2_with fail
   refine (hT _).mono ?_;rintro e w1 ⟨rfl, rfl⟩;have hbE := hide (show Below w.heap.size w _ from by assumption)
   set_option maxRecDepth 10000 in
   go_wp2_with fail
   go_ret;exact ⟨by rw [dtB, hk, ho, ht, htw, ht0]; rfl, hbE.out⟩
 ·rw [ho] at hI
  rw [ht] at hJ;rw [htw] at hT;have hN1 := fun w => aT o hob.1 (by omega) w;have hN2 := fun w => aT t htb.1 (by omega) w;have hnl := name_len k;have hs1 : ¬ 9223372036854775807 < (ax k).size + 1 := by omega
  have hol := gm o (by omega) (by omega);have htl := gm t (by omega) (by omega);have hs2 : ¬ 9223372036854775807 < (ax k).size + 1 + (aW o).size := by omega
  have hs3 : ¬ 9223372036854775807 < (ax k).size + 1 + (aW o).size + 1 := by omega
  have hs4 : ¬ 9223372036854775807 < (ax k).size + 1 + (aW o).size + 1 + (aW t).size := by omega
  clear hnl hol htl;go_enter Tryz.func35, Tryz.ntmps35;go_wp2_with fail
  refine (dR _ _).mono ?_;rintro e w1 ⟨rfl, rfl⟩
  set_option maxRecDepth 10000 in
  go_wp2_with fail
  refine (hI _).mono ?_;rintro e w1 ⟨rfl, rfl⟩
  set_option maxRecDepth 10000 in
  go_wp2_with fail
  refine (hJ _).mono ?_;rintro e w1 ⟨rfl, rfl⟩
  set_option maxRecDepth 10000 in
  go_wp2_with fail
  refine (hT _).mono ?_;rintro e w1 ⟨rfl, rfl⟩
  set_option maxRecDepth 10000 in
  go_wp2_with fail
  obtain ⟨wx, hwx⟩ : ∃ wx, wx = w.alloc (Obj.cells #[Value.int IntKind.i64 k, Value.int IntKind.i64 o, Value.int IntKind.i64 t] 42) := ⟨_, rfl⟩;rw [← hwx];have hdb : Below w.heap.size w wx.drew := by rw [hwx]; exact ((Below.refl _ _).alloc nl _).drew
  have hd0 : wx.drew.cell? ⟨w.heap.size, 0, none⟩ = some (.int .i64 k) := by rw [hwx]; simp [go_sem]
  have hd1 : wx.drew.cell? ⟨w.heap.size, 1, none⟩ = some (.int .i64 o) := by rw [hwx]; simp [go_sem]
  have hd2 : wx.drew.cell? ⟨w.heap.size, 2, none⟩ = some (.int .i64 t) := by rw [hwx]; simp [go_sem]
  have hdl : w.heap.size < wx.drew.heap.size := by rw [hwx]; simp
  clear hwx
  go_region_held3 (fun w' => (w'.cell? ⟨w.heap.size, 0, none⟩ = some (.int .i64 k) ∧ w'.cell? ⟨w.heap.size, 1, none⟩ = some (.int .i64 o) ∧ w'.cell? ⟨w.heap.size, 2, none⟩ = some (.int .i64 t)) ∧ w.heap.size < w'.heap.size ∧ Below w.heap.size w w') (first | (exact ⟨⟨hd0, hd1, hd2⟩, hdl, hdb⟩) | (exact ⟨⟨by assumption, by assumption, by assumption⟩, by assumption, by assumption⟩)) (first | (go_at_call 77; refine (dR _ _).mono ?_; rintro e w' ⟨rfl, rfl⟩) | (go_at_call 89; refine (held3 hN1 (by assumption) (by assumption) (by assumption) (by assumption) (by assumption)).mono ?_; rintro e w' ⟨rfl, ⟨k0, k1, k2⟩, k3, k4⟩))
  set_option maxRecDepth 10000 in
  go_wp2_with fail
  refine (hT _).mono ?_;rintro e w1 ⟨rfl, rfl⟩
  set_option maxRecDepth 10000 in
  go_wp2_with fail
  refine (hN2 _).mono ?_;rintro e w5 ⟨rfl, hb5⟩;have hbE := hide (Below.step (show Below w.heap.size w _ from by assumption) hb5 nl);clear hb5
  set_option maxRecDepth 10000 in
  go_wp2_with fail
  go_ret;exact ⟨by rw [dtB, hk, ho, ht, htw]; rfl, hbE.out⟩
def dz (w : World) : Prop := w.var? Tryz.prog "loop.example/steelmill/impl.deedNames" = some #[.string (ax 0), .string (ax 1), .string (ax 2), .string (ax 3), .string (ax 4)]
def ik (w : World) : Prop := Lib.TabIs Tryz.prog w "internal/strconv.uint64pow10" .u64 Lib.pow10Tab
theorem g_names : Tryz.prog.globalNamed "loop.example/steelmill/impl.deedNames" = some 0 := by kernel_rfl
theorem dz.stays {w w' : World} (h : dz w) (hb : Below w.heap.size w w') : dz w' := Go.Joins.var_stays g_names h hb nl
theorem dz.cell {w : World} (h : dz w) (m : Nat) (hm : m ≤ 4) : w.cell? ⟨0, m, none⟩ = some (.string (ax m)) := by
 unfold dz World.var? at h;rw [g_names] at h;simp only [Option.bind_some] at h;split at h
 ·rename_i cs t fr e
  simp only [Option.some.injEq] at h;subst h;have : m = 0 ∨ m = 1 ∨ m = 2 ∨ m = 3 ∨ m = 4 := by omega
  rcases this with rfl | rfl | rfl | rfl | rfl <;> simp [World.cell?, e]
 ·cases h
theorem dz.size {w : World} (h : dz w) : 0 < w.heap.size := by
 have := h.cell 0 (by omega);rcases Nat.lt_or_ge 0 w.heap.size with h' | h'
 ·exact h'
 ·simp [World.cell?, Array.getElem?_eq_none h'] at this
theorem g_pow : Tryz.prog.globalNamed "internal/strconv.uint64pow10" = some 2 := by kernel_rfl
theorem ik.stays {w w' : World} (h : ik w) (hb : Below w.heap.size w w') : ik w' := Go.Joins.tab_stays g_pow h hb nl
theorem iK (n : Int) (h0 : -9223372036854775808 ≤ n) (h1 : n ≤ 9223372036854775807) (w : World) (hp : ik w) :
 Calls Tryz.prog 46 #[.int .i64 n] w fun e w' => e = .returned (.string (aW n)) ∧ Below w.heap.size w w' :=
 (Tryz.strconv_Itoa n h0 h1 w hp).mono fun e w' ⟨he, k, os, hw⟩ => ⟨he, by rw [hw]; exact Lib.below_grow _ _ nl _ _⟩
theorem held3p {f : FuncId} {args : Array Value} {r : Value} (hc : ∀ w, ik w → Calls Tryz.prog f args w fun e w' => e = .returned r ∧ Below w.heap.size w w') {w0 W : World} {B m : Nat} {u v x y : Value} (hp : ik w0)
 (h0 : W.cell? ⟨B, 0, none⟩ = some u) (h1 : W.cell? ⟨B, 1, none⟩ = some v) (hx : W.cell? ⟨B, 2, none⟩ = some x) (hy : W.cell? ⟨0, m, none⟩ = some y) (h2 : B < W.heap.size) (h3 : Below w0.heap.size w0 W) :
 Calls Tryz.prog f args W fun e w' => e = .returned r ∧ (w'.cell? ⟨B, 0, none⟩ = some u ∧ w'.cell? ⟨B, 1, none⟩ = some v ∧ w'.cell? ⟨B, 2, none⟩ = some x ∧ w'.cell? ⟨0, m, none⟩ = some y) ∧ B < w'.heap.size ∧ Below w0.heap.size w0 w' :=
 (hc W (hp.stays h3)).mono fun e w' ⟨he, hb⟩ => ⟨he, ⟨by rw [hb.cell h2]; exact h0, by rw [hb.cell h2]; exact h1, by rw [hb.cell h2]; exact hx, by rw [hb.cell (by show 0 < _; omega)]; exact hy⟩, Nat.lt_of_lt_of_le h2 hb.size, Below.step h3 hb nl⟩
theorem dt_impl (k o t : Int) (w : World) (hna : dz w) (hpo : ik w) :
 Calls Tryz.prog 11 #[.agg #[.int .i64 k, .int .i64 o, .int .i64 t]] w fun e w' => e = .returned (.string (dtB k o t)) ∧ Below w.heap.size w w' := by
 have hI := fun w => aU k 0 4 w;rcases hk : wi k 0 4
 ·rw [hk] at hI
  go_enter Tryz.func11, Tryz.ntmps11;go_wp2_with fail
  refine (hI _).mono ?_;rintro e w1 ⟨rfl, rfl⟩
  set_option maxRecDepth 10000 in
  go_wp2_with fail
  go_ret;exact ⟨by simp [dtB, hk], by go_grown⟩
 have hI1 := fun w => aU o 0 9999 w;rcases ho : wi o 0 9999
 ·rw [hk] at hI
  rw [ho] at hI1;go_enter Tryz.func11, Tryz.ntmps11;go_wp2_with fail
  refine (hI _).mono ?_;rintro e w1 ⟨rfl, rfl⟩
  set_option maxRecDepth 10000 in
  go_wp2_with fail
  refine (hI1 _).mono ?_;rintro e w1 ⟨rfl, rfl⟩
  set_option maxRecDepth 10000 in
  go_wp2_with fail
  go_ret;exact ⟨by simp [dtB, ho], by go_grown⟩
 have hI2 := fun w => aU t 0 9999 w;rcases ht : wi t 0 9999
 ·rw [hk] at hI
  rw [ho] at hI1;rw [ht] at hI2;go_enter Tryz.func11, Tryz.ntmps11;go_wp2_with fail
  refine (hI _).mono ?_;rintro e w1 ⟨rfl, rfl⟩
  set_option maxRecDepth 10000 in
  go_wp2_with fail
  refine (hI1 _).mono ?_;rintro e w1 ⟨rfl, rfl⟩
  set_option maxRecDepth 10000 in
  go_wp2_with fail
  refine (hI2 _).mono ?_;rintro e w1 ⟨rfl, rfl⟩
  set_option maxRecDepth 10000 in
  go_wp2_with fail
  go_ret;exact ⟨by simp [dtB, ht], by go_grown⟩
 have hkb : 0 ≤ k ∧ k ≤ 4 := by simpa [wi] using hk
 have hob : 0 ≤ o ∧ o ≤ 9999 := by simpa [wi] using ho
 have htb : 0 ≤ t ∧ t ≤ 9999 := by simpa [wi] using ht
 obtain ⟨m, rfl⟩ : ∃ m : Nat, k = m := ⟨k.toNat, by omega⟩;have hm : m ≤ 4 := by omega
 have hcn := hna.cell m hm;have hsn := hna.size;have hT := fun w => hasTwo_any m w;rw [hk] at hI;rw [ho] at hI1;rw [ht] at hI2;have hN1 := fun w => iK o (by omega) (by omega) w;have hN2 := fun w => iK t (by omega) (by omega) w;have hnl := name_len m;have hs1 : ¬ 9223372036854775807 < (ax m).size + 1 := by omega
 have hol := gm o (by omega) (by omega);have htl := gm t (by omega) (by omega);have hs2 : ¬ 9223372036854775807 < (ax m).size + 1 + (aW o).size := by omega
 have hs3 : ¬ 9223372036854775807 < (ax m).size + 1 + (aW o).size + 1 := by omega
 have hs4 : ¬ 9223372036854775807 < (ax m).size + 1 + (aW o).size + 1 + (aW t).size := by omega
 clear hnl hol htl;have hm0 : (0 : Int) ≤ (m : Int) := by omega
 have hm5 : (m : Int) < 5 := by omega
 rcases htw : jw m;all_goals
  rw [htw] at hT;go_enter Tryz.func11, Tryz.ntmps11;go_wp2_with fail
  refine (hI _).mono ?_;rintro e w1 ⟨rfl, rfl⟩
  set_option maxRecDepth 10000 in
  go_wp2_with fail
  refine (hI1 _).mono ?_;rintro e w1 ⟨rfl, rfl⟩
  set_option maxRecDepth 10000 in
  go_wp2_with fail
  refine (hI2 _).mono ?_;rintro e w1 ⟨rfl, rfl⟩
  set_option maxRecDepth 10000 in
  go_wp2_with fail
  obtain ⟨wx, hwx⟩ : ∃ wx, wx = w.alloc (Obj.cells #[Value.int IntKind.i64 m, Value.int IntKind.i64 o, Value.int IntKind.i64 t] 42) := ⟨_, rfl⟩;rw [← hwx];have hdb : Below w.heap.size w wx.drew := by rw [hwx]; exact ((Below.refl _ _).alloc nl _).drew
  have hd0 : wx.drew.cell? ⟨w.heap.size, 0, none⟩ = some (.int .i64 m) := by rw [hwx]; simp [go_sem]
  have hd1 : wx.drew.cell? ⟨w.heap.size, 1, none⟩ = some (.int .i64 o) := by rw [hwx]; simp [go_sem]
  have hd2 : wx.drew.cell? ⟨w.heap.size, 2, none⟩ = some (.int .i64 t) := by rw [hwx]; simp [go_sem]
  have hd3 : wx.drew.cell? ⟨0, m, none⟩ = some (.string (ax m)) := by rw [hdb.cell hsn]; exact hcn
  have hdl : w.heap.size < wx.drew.heap.size := by rw [hwx]; simp
  clear hwx
  go_region_held3 (fun w' => (w'.cell? ⟨w.heap.size, 0, none⟩ = some (.int .i64 m) ∧ w'.cell? ⟨w.heap.size, 1, none⟩ = some (.int .i64 o) ∧ w'.cell? ⟨w.heap.size, 2, none⟩ = some (.int .i64 t) ∧ w'.cell? ⟨0, m, none⟩ = some (.string (ax m))) ∧ w.heap.size < w'.heap.size ∧ Below w.heap.size w w') (first | (exact ⟨⟨hd0, hd1, hd2, hd3⟩, hdl, hdb⟩) | (exact ⟨⟨by assumption, by assumption, by assumption, by assumption⟩, by assumption, by assumption⟩)) (first | (go_at_call 46; refine (held3p hN1 hpo (by assumption) (by assumption) (by assumption) (by assumption) (by assumption) (by assumption)).mono ?_; rintro e w' ⟨rfl, ⟨k0, k1, k2, k3⟩, k4, k5⟩))
  clear hd0 hd1 hd2 hd3 hdl hdb
  set_option maxRecDepth 10000 in
  go_wp2_with fail
  refine (hT _).mono ?_;rintro e w1 ⟨rfl, rfl⟩
 ·rcases ht0 : (t == 0)
  all_goals
   have ht1 : (t != 0) = !(t == 0) := rfl;rw [ht0] at ht1;simp only [Bool.not_false, Bool.not_true] at ht1;have hbE := hide (show Below w.heap.size w _ from by assumption)
   set_option maxRecDepth 10000 in
   go_wp2_with fail
   go_ret;exact ⟨by rw [dtB, hk, ho, ht, htw, ht0]; rfl, hbE.out⟩
 ·have hbE := show Below w.heap.size w _ from by assumption
  set_option maxRecDepth 10000 in
  go_wp2_with fail
  refine (hN2 _ (hpo.stays hbE)).mono ?_;rintro e w5 ⟨rfl, hb5⟩;have hbF := bs hbE hb5;clear hb5 hbE
  set_option maxRecDepth 10000 in
  go_wp2_with fail
  go_ret;exact ⟨by rw [dtB, hk, ho, ht, htw]; rfl, hbF.out⟩
end Go.Proofs.YtkhecelpafojdaaGreatDoor
