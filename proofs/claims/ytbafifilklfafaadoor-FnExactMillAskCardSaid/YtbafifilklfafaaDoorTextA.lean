/-
  Texts of deeds: numerals, names of kinds, DeedText of both.
-/
import Derived.Test.YtbafifilklfafaaDoorWalkA
import Derived.Test.YtbafifilklfafaaDoorShelf
import Derived.Lib.ItoaMem
import Derived.Lib.ItoaLen
import Derived.Deep.RegionHeld3
import Derived.Lib.SmallJoins
import Derived.Lib.AppendIntMem
namespace Go.Proofs.YtbafifilklfafaaDoor
open Go.RowKit

/-- The name of a kind of deed. -/
def nameB (k : Int) : ByteArray :=
  if k == 0 then ⟨#[109, 101, 108, 116]⟩ else if k == 1 then ⟨#[99, 117, 116]⟩ else if k == 2 then ⟨#[114, 111, 108, 108]⟩ else if k == 3 then ⟨#[108, 105, 102, 116]⟩ else if k == 4 then ⟨#[115, 104, 105, 112]⟩ else ⟨#[]⟩
/-- Has a kind two numbers? -/
def twoB (k : Int) : Bool := k == 1 || k == 2 || k == 3
/-- The numeral. -/
def numB (n : Int) : ByteArray := ⟨(Lib.itoa n).toArray⟩
/-- A space. -/
def spB : ByteArray := ⟨#[32]⟩

theorem l8Name_any (k : Int) (w : World) :
    Calls Tryd.prog 31 #[.int .i64 k] w fun e w' => e = .returned (.string (nameB k)) ∧ w = w' := by
  go_enter Tryd.func31, Tryd.ntmps31
  go_wp2
  all_goals
    go_ret
    exact ⟨by simp_all [nameB], rfl⟩
theorem l8Two_any (k : Int) (w : World) :
    Calls Tryd.prog 63 #[.int .i64 k] w fun e w' => e = .returned (.bool (twoB k)) ∧ w = w' := by
  rcases h1 : (k == 1) <;> rcases h2 : (k == 2) <;> (
    go_enter Tryd.func63, Tryd.ntmps63
    go_wp2
    go_ret
    exact ⟨by simp_all [twoB], rfl⟩)
theorem hasTwo_any (k : Int) (w : World) :
    Calls Tryd.prog 28 #[.int .i64 k] w fun e w' => e = .returned (.bool (twoB k)) ∧ w = w' := by
  rcases h1 : (k == 1) <;> rcases h2 : (k == 2) <;> (
    go_enter Tryd.func28, Tryd.ntmps28
    go_wp2
    go_ret
    exact ⟨by simp_all [twoB], rfl⟩)

theorem conv1 {b : Nat} {z : Int} (W : World) (h : W.cell? ⟨b, 0, none⟩ = some (.int .u8 z)) (h0 : 0 ≤ z) (h1 : z ≤ 255) :
    (convert 22 9 (.slice (some ⟨b, 0, none⟩) 1 1)).run Tryd.prog W = .ok (.string ⟨#[UInt8.ofNat z.toNat]⟩) W := by
  have := run_convert_bytes_back (P := Tryd.prog) W 22 9 5 ⟨b, 0, none⟩ 1 [UInt8.ofNat z.toNat] (by kernel_rfl) (by kernel_rfl) (by kernel_rfl) (fun j hj => by
    simp at hj
    subst hj
    have ha : (⟨b, 0, none⟩ : Addr).add 0 = ⟨b, 0, none⟩ := by simp [Addr.add]
    rw [ha, h]
    have : (UInt8.ofNat z.toNat).toNat = z.toNat := by simp; omega
    simp [this]; omega)
  exact this
theorem numB_small (n : Nat) (h : n < 10) : (⟨#[UInt8.ofNat (48 + n)]⟩ : ByteArray) = numB n := by
  rw [numB, Lib.itoa_nonneg, Lib.decDigits, dif_pos h]
theorem numB_big (n : Nat) (h : ¬ n < 10) : numB ((n / 10 : Nat) : Int) ++ (⟨#[UInt8.ofNat (48 + ((n % 10 : Nat) : Int)).toNat]⟩ : ByteArray) = numB n := by
  have e : (48 + ((n % 10 : Nat) : Int)).toNat = 48 + n % 10 := by omega
  rw [numB, numB, Lib.itoa_nonneg, Lib.itoa_nonneg, Lib.decDigits.eq_def n, dif_neg h, e]
  apply ByteArray.ext
  simp

theorem numB_len (n : Int) (h : -9223372036854775808 ≤ n) (h' : n ≤ 9223372036854775807) : (numB n).size ≤ 21 := by
  have := Lib.itoa_length_le n (by omega) (by omega)
  simpa [numB, ByteArray.size] using this

theorem l1Number_nat (n : Nat) : ∀ (w : World), n ≤ 9223372036854775807 →
    Calls Tryd.prog 46 #[.int .i64 n] w fun e w' => e = .returned (.string (numB n)) ∧ Below w.heap.size w w' := by
  induction n using Nat.strongRecOn with
  | _ n ih =>
  intro w hn
  by_cases h : n < 10
  · have h0 : decide ((n : Int) < 0) = false := by simp
    have h1 : decide ((n : Int) < 10) = true := by simp; omega
    have hcv : ∀ W : World, W.cell? ⟨w.heap.size, 0, none⟩ = some (.int .u8 (48 + (n : Int))) → (convert 22 9 (.slice (some ⟨w.heap.size, 0, none⟩) 1 1)).run Tryd.prog W = .ok (.string ⟨#[UInt8.ofNat (48 + (n : Int)).toNat]⟩) W := fun W hW => conv1 W hW (by omega) (by omega)
    go_enter Tryd.func46, Tryd.ntmps46
    set_option maxRecDepth 10000 in
    go_wp2
    go_ret
    exact ⟨by rw [← numB_small n h]; rfl, by go_grown⟩
  · have h0 : decide ((n : Int) < 0) = false := by simp
    have h1 : decide ((n : Int) < 10) = false := by simp; omega
    have hd : (n : Int).tdiv 10 = ((n / 10 : Nat) : Int) := by rw [Int.tdiv_eq_ediv_of_nonneg (by omega)]; omega
    have hm : (n : Int).tmod 10 = ((n % 10 : Nat) : Int) := by rw [Int.tmod_eq_emod_of_nonneg (by omega)]; omega
    have ih' := hide (ih (n / 10) (by omega))
    clear ih
    obtain ⟨d, hd'⟩ : ∃ d : Nat, d = n / 10 := ⟨_, rfl⟩
    obtain ⟨m, hm'⟩ : ∃ m : Nat, m = n % 10 := ⟨_, rfl⟩
    rw [← hd'] at ih' hd
    rw [← hm'] at hm
    have hm9 : m < 10 := by omega
    have hdn : d ≤ 9223372036854775807 := by omega
    have HD := hide hd'
    have HM := hide hm'
    clear hd' hm'
    have hcv : ∀ (W : World) (b : Nat), W.cell? ⟨b, 0, none⟩ = some (.int .u8 (48 + (m : Int))) → (convert 22 9 (.slice (some ⟨b, 0, none⟩) 1 1)).run Tryd.prog W = .ok (.string ⟨#[UInt8.ofNat (48 + (m : Int)).toNat]⟩) W := fun W b hW => conv1 W hW (by omega) (by omega)
    go_enter Tryd.func46, Tryd.ntmps46
    set_option maxRecDepth 10000 in
    go_wp2
    have hsz : ¬ 9223372036854775807 < (numB (d : Int)).size + 1 := by have := numB_len d (by omega) (by omega); omega
    have hb0 : Below w.heap.size w w.drew := by go_grown
    have hw1 : IntKind.i64.wrap (d : Int) = (d : Int) := by rw [IntWalk.i64_in] <;> omega
    have hw2 : IntKind.i64.wrap (48 + (m : Int)) = 48 + (m : Int) := by rw [IntWalk.i64_in] <;> omega
    have hw3 : IntKind.u8.wrap (48 + (m : Int)) = 48 + (m : Int) := by simp [IntKind.wrap, IntKind.signed, IntKind.bits]; omega
    go_region_held (fun w' => Below w.heap.size w w') (first | exact hb0 | assumption | (exact Below.step (by assumption) (by assumption) (Nat.le_refl _)) | (exact (Below.alloc (Below.refl _ _) (Nat.le_refl _) _).drew) | (exact Below.alloc (by assumption) (Nat.le_refl _) _) | (exact Below.alloc (by assumption) (by have := hb0.size; have := hb1.size; simp at *; omega) _) | (exact Below.alloc (by assumption) (by have := hb1.size; simpa using this) _) | (trace_state; fail)) (first | (go_at_call 46; refine (ih'.out _ hdn).mono ?_; rintro e w1 ⟨rfl, hb1⟩; obtain ⟨hc1, hc2⟩ := bcell hb1))
    all_goals
      have hbE := hide (show Below w.heap.size w _ by assumption)
      go_wp2_with fail
      go_ret
      have e1 := numB_big n h
      rw [← HD.out, ← HM.out] at e1
      exact ⟨by rw [← e1]; rfl, hbE.out⟩

/-- The text of a deed. -/
def dtB (k o t : Int) : ByteArray :=
  if wi k 0 4 && (wi o 0 9999 && (wi t 0 9999 && (twoB k || t == 0))) then (if twoB k then ((nameB k ++ spB) ++ numB o) ++ spB ++ numB t else (nameB k ++ spB) ++ numB o) else ⟨#[]⟩

theorem l1Number_any (n : Int) (h0 : 0 ≤ n) (h1 : n ≤ 9223372036854775807) (w : World) :
    Calls Tryd.prog 46 #[.int .i64 n] w fun e w' => e = .returned (.string (numB n)) ∧ Below w.heap.size w w' := by
  obtain ⟨m, rfl⟩ : ∃ m : Nat, n = m := ⟨n.toNat, by omega⟩
  exact l1Number_nat m w (by omega)

theorem name_empty (k : Int) : (nameB k).toList.isEmpty = !wi k 0 4 := by
  by_cases h : 0 ≤ k ∧ k ≤ 4
  · obtain ⟨h1, h2⟩ := h
    have : k = 0 ∨ k = 1 ∨ k = 2 ∨ k = 3 ∨ k = 4 := by omega
    rcases this with rfl | rfl | rfl | rfl | rfl <;> rw [ByteArray.toList_eq] <;> decide
  · have e : wi k 0 4 = false := by simp [wi]; omega
    rw [e]
    have h0 : (k == 0) = false := by simp; omega
    have h1 : (k == 1) = false := by simp; omega
    have h2 : (k == 2) = false := by simp; omega
    have h3 : (k == 3) = false := by simp; omega
    have h4 : (k == 4) = false := by simp; omega
    rw [ByteArray.toList_eq]
    simp [nameB, h0, h1, h2, h3, h4]
theorem name_len (k : Int) : (nameB k).size ≤ 4 := by
  unfold nameB
  repeat' split
  all_goals decide

theorem held3 {f : FuncId} {args : Array Value} {r : Value} (hc : ∀ w, Calls Tryd.prog f args w fun e w' => e = .returned r ∧ Below w.heap.size w w') {w0 W : World} {B : Nat} {u v x : Value}
    (h0 : W.cell? ⟨B, 0, none⟩ = some u) (h1 : W.cell? ⟨B, 1, none⟩ = some v) (hx : W.cell? ⟨B, 2, none⟩ = some x) (h2 : B < W.heap.size) (h3 : Below w0.heap.size w0 W) :
    Calls Tryd.prog f args W fun e w' => e = .returned r ∧ (w'.cell? ⟨B, 0, none⟩ = some u ∧ w'.cell? ⟨B, 1, none⟩ = some v ∧ w'.cell? ⟨B, 2, none⟩ = some x) ∧ B < w'.heap.size ∧ Below w0.heap.size w0 w' :=
  (hc W).mono fun e w' ⟨he, hb⟩ => ⟨he, ⟨by rw [hb.cell h2]; exact h0, by rw [hb.cell h2]; exact h1, by rw [hb.cell h2]; exact hx⟩, Nat.lt_of_lt_of_le h2 hb.size, Below.step h3 hb (Nat.le_refl _)⟩
theorem dt_spec (k o t : Int) (w : World) :
    Calls Tryd.prog 22 #[.agg #[.int .i64 k, .int .i64 o, .int .i64 t]] w fun e w' => e = .returned (.string (dtB k o t)) ∧ Below w.heap.size w w' := by
  rcases hk : wi k 0 4
  · have hn := name_empty k
    rw [hk, Bool.not_false] at hn
    go_enter Tryd.func22, Tryd.ntmps22
    go_wp2_with fail
    refine (l8Name_any _ _).mono ?_
    rintro e w1 ⟨rfl, rfl⟩
    set_option maxRecDepth 10000 in
    go_wp2_with fail
    go_ret
    exact ⟨by simp [dtB, hk], by go_grown⟩
  have hn := name_empty k
  rw [hk, Bool.not_true] at hn
  have hI := fun w => l1In_any o 0 9999 w
  rcases ho : wi o 0 9999
  · rw [ho] at hI
    go_enter Tryd.func22, Tryd.ntmps22
    go_wp2_with fail
    refine (l8Name_any _ _).mono ?_
    rintro e w1 ⟨rfl, rfl⟩
    set_option maxRecDepth 10000 in
    go_wp2_with fail
    refine (hI _).mono ?_
    rintro e w1 ⟨rfl, rfl⟩
    set_option maxRecDepth 10000 in
    go_wp2_with fail
    go_ret
    exact ⟨by simp [dtB, ho], by go_grown⟩
  have hJ := fun w => l1In_any t 0 9999 w
  rcases ht : wi t 0 9999
  · rw [ho] at hI
    rw [ht] at hJ
    go_enter Tryd.func22, Tryd.ntmps22
    go_wp2_with fail
    refine (l8Name_any _ _).mono ?_
    rintro e w1 ⟨rfl, rfl⟩
    set_option maxRecDepth 10000 in
    go_wp2_with fail
    refine (hI _).mono ?_
    rintro e w1 ⟨rfl, rfl⟩
    set_option maxRecDepth 10000 in
    go_wp2_with fail
    refine (hJ _).mono ?_
    rintro e w1 ⟨rfl, rfl⟩
    set_option maxRecDepth 10000 in
    go_wp2_with fail
    go_ret
    exact ⟨by simp [dtB, ht], by go_grown⟩
  have hT := fun w => l8Two_any k w
  have hob : 0 ≤ o ∧ o ≤ 9999 := by simpa [wi] using ho
  have htb : 0 ≤ t ∧ t ≤ 9999 := by simpa [wi] using ht
  rcases htw : twoB k
  · rcases ht0 : (t == 0)
    · have ht1 : (t != 0) = true := by simpa using ht0
      rw [ho] at hI
      rw [ht] at hJ
      rw [htw] at hT
      go_enter Tryd.func22, Tryd.ntmps22
      go_wp2_with fail
      refine (l8Name_any _ _).mono ?_
      rintro e w1 ⟨rfl, rfl⟩
      set_option maxRecDepth 10000 in
      go_wp2_with fail
      refine (hI _).mono ?_
      rintro e w1 ⟨rfl, rfl⟩
      set_option maxRecDepth 10000 in
      go_wp2_with fail
      refine (hJ _).mono ?_
      rintro e w1 ⟨rfl, rfl⟩
      set_option maxRecDepth 10000 in
      go_wp2_with fail
      refine (hT _).mono ?_
      rintro e w1 ⟨rfl, rfl⟩
      set_option maxRecDepth 10000 in
      go_wp2_with fail
      go_ret
      exact ⟨by simp [dtB, htw, ht0], by go_grown⟩
    · have ht1 : (t != 0) = false := by simpa using ht0
      rw [ho] at hI
      rw [ht] at hJ
      rw [htw] at hT
      have hN1 := fun w => l1Number_any o hob.1 (by omega) w
      have hN2 := fun w => l1Number_any t htb.1 (by omega) w
      have hnl := name_len k
      have hs1 : ¬ 9223372036854775807 < (nameB k).size + 1 := by omega
      have hol := numB_len o (by omega) (by omega)
      have htl := numB_len t (by omega) (by omega)
      have hs2 : ¬ 9223372036854775807 < (nameB k).size + 1 + (numB o).size := by omega
      have hs3 : ¬ 9223372036854775807 < (nameB k).size + 1 + (numB o).size + 1 := by omega
      have hs4 : ¬ 9223372036854775807 < (nameB k).size + 1 + (numB o).size + 1 + (numB t).size := by omega
      clear hnl hol htl
      go_enter Tryd.func22, Tryd.ntmps22
      go_wp2_with fail
      refine (l8Name_any _ _).mono ?_
      rintro e w1 ⟨rfl, rfl⟩
      set_option maxRecDepth 10000 in
      go_wp2_with fail
      refine (hI _).mono ?_
      rintro e w1 ⟨rfl, rfl⟩
      set_option maxRecDepth 10000 in
      go_wp2_with fail
      refine (hJ _).mono ?_
      rintro e w1 ⟨rfl, rfl⟩
      set_option maxRecDepth 10000 in
      go_wp2_with fail
      refine (hT _).mono ?_
      rintro e w1 ⟨rfl, rfl⟩
      set_option maxRecDepth 10000 in
      go_wp2_with fail
      obtain ⟨wx, hwx⟩ : ∃ wx, wx = w.alloc (Obj.cells #[Value.int IntKind.i64 k, Value.int IntKind.i64 o, Value.int IntKind.i64 t] 25) := ⟨_, rfl⟩
      rw [← hwx]
      have hdb : Below w.heap.size w wx.drew := by rw [hwx]; exact ((Below.refl _ _).alloc (Nat.le_refl _) _).drew
      have hd0 : wx.drew.cell? ⟨w.heap.size, 0, none⟩ = some (.int .i64 k) := by rw [hwx]; simp [go_sem]
      have hd1 : wx.drew.cell? ⟨w.heap.size, 1, none⟩ = some (.int .i64 o) := by rw [hwx]; simp [go_sem]
      have hd2 : wx.drew.cell? ⟨w.heap.size, 2, none⟩ = some (.int .i64 t) := by rw [hwx]; simp [go_sem]
      have hdl : w.heap.size < wx.drew.heap.size := by rw [hwx]; simp
      clear hwx
      go_region_held3 (fun w' => (w'.cell? ⟨w.heap.size, 0, none⟩ = some (.int .i64 k) ∧ w'.cell? ⟨w.heap.size, 1, none⟩ = some (.int .i64 o) ∧ w'.cell? ⟨w.heap.size, 2, none⟩ = some (.int .i64 t)) ∧ w.heap.size < w'.heap.size ∧ Below w.heap.size w w') (first | (exact ⟨⟨hd0, hd1, hd2⟩, hdl, hdb⟩) | (exact ⟨⟨by assumption, by assumption, by assumption⟩, by assumption, by assumption⟩)) (first | (go_at_call 31; refine (l8Name_any _ _).mono ?_; rintro e w' ⟨rfl, rfl⟩) | (go_at_call 46; refine (held3 hN1 (by assumption) (by assumption) (by assumption) (by assumption) (by assumption)).mono ?_; rintro e w' ⟨rfl, ⟨k0, k1, k2⟩, k3, k4⟩))
      set_option maxRecDepth 10000 in
      go_wp2_with fail
      refine (hT _).mono ?_
      rintro e w1 ⟨rfl, rfl⟩
      have hbE := hide (show Below w.heap.size w _ from by assumption)
      set_option maxRecDepth 10000 in
      go_wp2_with fail
      go_ret
      exact ⟨by rw [dtB, hk, ho, ht, htw, ht0]; rfl, hbE.out⟩
  · rw [ho] at hI
    rw [ht] at hJ
    rw [htw] at hT
    have hN1 := fun w => l1Number_any o hob.1 (by omega) w
    have hN2 := fun w => l1Number_any t htb.1 (by omega) w
    have hnl := name_len k
    have hs1 : ¬ 9223372036854775807 < (nameB k).size + 1 := by omega
    have hol := numB_len o (by omega) (by omega)
    have htl := numB_len t (by omega) (by omega)
    have hs2 : ¬ 9223372036854775807 < (nameB k).size + 1 + (numB o).size := by omega
    have hs3 : ¬ 9223372036854775807 < (nameB k).size + 1 + (numB o).size + 1 := by omega
    have hs4 : ¬ 9223372036854775807 < (nameB k).size + 1 + (numB o).size + 1 + (numB t).size := by omega
    clear hnl hol htl
    go_enter Tryd.func22, Tryd.ntmps22
    go_wp2_with fail
    refine (l8Name_any _ _).mono ?_
    rintro e w1 ⟨rfl, rfl⟩
    set_option maxRecDepth 10000 in
    go_wp2_with fail
    refine (hI _).mono ?_
    rintro e w1 ⟨rfl, rfl⟩
    set_option maxRecDepth 10000 in
    go_wp2_with fail
    refine (hJ _).mono ?_
    rintro e w1 ⟨rfl, rfl⟩
    set_option maxRecDepth 10000 in
    go_wp2_with fail
    refine (hT _).mono ?_
    rintro e w1 ⟨rfl, rfl⟩
    set_option maxRecDepth 10000 in
    go_wp2_with fail
    obtain ⟨wx, hwx⟩ : ∃ wx, wx = w.alloc (Obj.cells #[Value.int IntKind.i64 k, Value.int IntKind.i64 o, Value.int IntKind.i64 t] 25) := ⟨_, rfl⟩
    rw [← hwx]
    have hdb : Below w.heap.size w wx.drew := by rw [hwx]; exact ((Below.refl _ _).alloc (Nat.le_refl _) _).drew
    have hd0 : wx.drew.cell? ⟨w.heap.size, 0, none⟩ = some (.int .i64 k) := by rw [hwx]; simp [go_sem]
    have hd1 : wx.drew.cell? ⟨w.heap.size, 1, none⟩ = some (.int .i64 o) := by rw [hwx]; simp [go_sem]
    have hd2 : wx.drew.cell? ⟨w.heap.size, 2, none⟩ = some (.int .i64 t) := by rw [hwx]; simp [go_sem]
    have hdl : w.heap.size < wx.drew.heap.size := by rw [hwx]; simp
    clear hwx
    go_region_held3 (fun w' => (w'.cell? ⟨w.heap.size, 0, none⟩ = some (.int .i64 k) ∧ w'.cell? ⟨w.heap.size, 1, none⟩ = some (.int .i64 o) ∧ w'.cell? ⟨w.heap.size, 2, none⟩ = some (.int .i64 t)) ∧ w.heap.size < w'.heap.size ∧ Below w.heap.size w w') (first | (exact ⟨⟨hd0, hd1, hd2⟩, hdl, hdb⟩) | (exact ⟨⟨by assumption, by assumption, by assumption⟩, by assumption, by assumption⟩)) (first | (go_at_call 31; refine (l8Name_any _ _).mono ?_; rintro e w' ⟨rfl, rfl⟩) | (go_at_call 46; refine (held3 hN1 (by assumption) (by assumption) (by assumption) (by assumption) (by assumption)).mono ?_; rintro e w' ⟨rfl, ⟨k0, k1, k2⟩, k3, k4⟩))
    set_option maxRecDepth 10000 in
    go_wp2_with fail
    refine (hT _).mono ?_
    rintro e w1 ⟨rfl, rfl⟩
    set_option maxRecDepth 10000 in
    go_wp2_with fail
    refine (hN2 _).mono ?_
    rintro e w5 ⟨rfl, hb5⟩
    have hbE := hide (Below.step (show Below w.heap.size w _ from by assumption) hb5 (Nat.le_refl _))
    clear hb5
    set_option maxRecDepth 10000 in
    go_wp2_with fail
    go_ret
    exact ⟨by rw [dtB, hk, ho, ht, htw]; rfl, hbE.out⟩

/-- The variable deedNames has the five names. -/
def NamesIs (w : World) : Prop := w.var? Tryd.prog "loop.example/steelmill/impl.deedNames" = some #[.string (nameB 0), .string (nameB 1), .string (nameB 2), .string (nameB 3), .string (nameB 4)]
def PowIs (w : World) : Prop := Lib.TabIs Tryd.prog w "internal/strconv.uint64pow10" .u64 Lib.pow10Tab
theorem g_names : Tryd.prog.globalNamed "loop.example/steelmill/impl.deedNames" = some 0 := by kernel_rfl
theorem NamesIs.stays {w w' : World} (h : NamesIs w) (hb : Below w.heap.size w w') : NamesIs w' := Go.Joins.var_stays g_names h hb (Nat.le_refl _)
theorem NamesIs.cell {w : World} (h : NamesIs w) (m : Nat) (hm : m ≤ 4) : w.cell? ⟨0, m, none⟩ = some (.string (nameB m)) := by
  unfold NamesIs World.var? at h
  rw [g_names] at h
  simp only [Option.bind_some] at h
  split at h
  · rename_i cs t fr e
    simp only [Option.some.injEq] at h
    subst h
    have : m = 0 ∨ m = 1 ∨ m = 2 ∨ m = 3 ∨ m = 4 := by omega
    rcases this with rfl | rfl | rfl | rfl | rfl <;> simp [World.cell?, e]
  · cases h
theorem NamesIs.size {w : World} (h : NamesIs w) : 0 < w.heap.size := by
  have := h.cell 0 (by omega)
  rcases Nat.lt_or_ge 0 w.heap.size with h' | h'
  · exact h'
  · simp [World.cell?, Array.getElem?_eq_none h'] at this
theorem g_pow : Tryd.prog.globalNamed "internal/strconv.uint64pow10" = some 2 := by kernel_rfl
theorem PowIs.stays {w w' : World} (h : PowIs w) (hb : Below w.heap.size w w') : PowIs w' := Go.Joins.tab_stays g_pow h hb (Nat.le_refl _)
theorem itoa_any (n : Int) (h0 : -9223372036854775808 ≤ n) (h1 : n ≤ 9223372036854775807) (w : World) (hp : PowIs w) :
    Calls Tryd.prog 36 #[.int .i64 n] w fun e w' => e = .returned (.string (numB n)) ∧ Below w.heap.size w w' :=
  (Tryd.strconv_Itoa n h0 h1 w hp).mono fun e w' ⟨he, k, os, hw⟩ => ⟨he, by rw [hw]; exact Lib.below_grow _ _ (Nat.le_refl _) _ _⟩

theorem held3p {f : FuncId} {args : Array Value} {r : Value} (hc : ∀ w, PowIs w → Calls Tryd.prog f args w fun e w' => e = .returned r ∧ Below w.heap.size w w') {w0 W : World} {B m : Nat} {u v x y : Value} (hp : PowIs w0)
    (h0 : W.cell? ⟨B, 0, none⟩ = some u) (h1 : W.cell? ⟨B, 1, none⟩ = some v) (hx : W.cell? ⟨B, 2, none⟩ = some x) (hy : W.cell? ⟨0, m, none⟩ = some y) (h2 : B < W.heap.size) (h3 : Below w0.heap.size w0 W) :
    Calls Tryd.prog f args W fun e w' => e = .returned r ∧ (w'.cell? ⟨B, 0, none⟩ = some u ∧ w'.cell? ⟨B, 1, none⟩ = some v ∧ w'.cell? ⟨B, 2, none⟩ = some x ∧ w'.cell? ⟨0, m, none⟩ = some y) ∧ B < w'.heap.size ∧ Below w0.heap.size w0 w' :=
  (hc W (hp.stays h3)).mono fun e w' ⟨he, hb⟩ => ⟨he, ⟨by rw [hb.cell h2]; exact h0, by rw [hb.cell h2]; exact h1, by rw [hb.cell h2]; exact hx, by rw [hb.cell (by show 0 < _; omega)]; exact hy⟩, Nat.lt_of_lt_of_le h2 hb.size, Below.step h3 hb (Nat.le_refl _)⟩

theorem dt_impl (k o t : Int) (w : World) (hna : NamesIs w) (hpo : PowIs w) :
    Calls Tryd.prog 10 #[.agg #[.int .i64 k, .int .i64 o, .int .i64 t]] w fun e w' => e = .returned (.string (dtB k o t)) ∧ Below w.heap.size w w' := by
  have hI := fun w => within_any k 0 4 w
  rcases hk : wi k 0 4
  · rw [hk] at hI
    go_enter Tryd.func10, Tryd.ntmps10
    go_wp2_with fail
    refine (hI _).mono ?_
    rintro e w1 ⟨rfl, rfl⟩
    set_option maxRecDepth 10000 in
    go_wp2_with fail
    go_ret
    exact ⟨by simp [dtB, hk], by go_grown⟩
  have hI1 := fun w => within_any o 0 9999 w
  rcases ho : wi o 0 9999
  · rw [hk] at hI
    rw [ho] at hI1
    go_enter Tryd.func10, Tryd.ntmps10
    go_wp2_with fail
    refine (hI _).mono ?_
    rintro e w1 ⟨rfl, rfl⟩
    set_option maxRecDepth 10000 in
    go_wp2_with fail
    refine (hI1 _).mono ?_
    rintro e w1 ⟨rfl, rfl⟩
    set_option maxRecDepth 10000 in
    go_wp2_with fail
    go_ret
    exact ⟨by simp [dtB, ho], by go_grown⟩
  have hI2 := fun w => within_any t 0 9999 w
  rcases ht : wi t 0 9999
  · rw [hk] at hI
    rw [ho] at hI1
    rw [ht] at hI2
    go_enter Tryd.func10, Tryd.ntmps10
    go_wp2_with fail
    refine (hI _).mono ?_
    rintro e w1 ⟨rfl, rfl⟩
    set_option maxRecDepth 10000 in
    go_wp2_with fail
    refine (hI1 _).mono ?_
    rintro e w1 ⟨rfl, rfl⟩
    set_option maxRecDepth 10000 in
    go_wp2_with fail
    refine (hI2 _).mono ?_
    rintro e w1 ⟨rfl, rfl⟩
    set_option maxRecDepth 10000 in
    go_wp2_with fail
    go_ret
    exact ⟨by simp [dtB, ht], by go_grown⟩
  have hkb : 0 ≤ k ∧ k ≤ 4 := by simpa [wi] using hk
  have hob : 0 ≤ o ∧ o ≤ 9999 := by simpa [wi] using ho
  have htb : 0 ≤ t ∧ t ≤ 9999 := by simpa [wi] using ht
  obtain ⟨m, rfl⟩ : ∃ m : Nat, k = m := ⟨k.toNat, by omega⟩
  have hm : m ≤ 4 := by omega
  have hcn := hna.cell m hm
  have hsn := hna.size
  have hT := fun w => hasTwo_any m w
  rw [hk] at hI
  rw [ho] at hI1
  rw [ht] at hI2
  have hN1 := fun w => itoa_any o (by omega) (by omega) w
  have hN2 := fun w => itoa_any t (by omega) (by omega) w
  have hnl := name_len m
  have hs1 : ¬ 9223372036854775807 < (nameB m).size + 1 := by omega
  have hol := numB_len o (by omega) (by omega)
  have htl := numB_len t (by omega) (by omega)
  have hs2 : ¬ 9223372036854775807 < (nameB m).size + 1 + (numB o).size := by omega
  have hs3 : ¬ 9223372036854775807 < (nameB m).size + 1 + (numB o).size + 1 := by omega
  have hs4 : ¬ 9223372036854775807 < (nameB m).size + 1 + (numB o).size + 1 + (numB t).size := by omega
  clear hnl hol htl
  have hm0 : (0 : Int) ≤ (m : Int) := by omega
  have hm5 : (m : Int) < 5 := by omega
  rcases htw : twoB m
  all_goals
    rw [htw] at hT
    go_enter Tryd.func10, Tryd.ntmps10
    go_wp2_with fail
    refine (hI _).mono ?_
    rintro e w1 ⟨rfl, rfl⟩
    set_option maxRecDepth 10000 in
    go_wp2_with fail
    refine (hI1 _).mono ?_
    rintro e w1 ⟨rfl, rfl⟩
    set_option maxRecDepth 10000 in
    go_wp2_with fail
    refine (hI2 _).mono ?_
    rintro e w1 ⟨rfl, rfl⟩
    set_option maxRecDepth 10000 in
    go_wp2_with fail
    obtain ⟨wx, hwx⟩ : ∃ wx, wx = w.alloc (Obj.cells #[Value.int IntKind.i64 m, Value.int IntKind.i64 o, Value.int IntKind.i64 t] 25) := ⟨_, rfl⟩
    rw [← hwx]
    have hdb : Below w.heap.size w wx.drew := by rw [hwx]; exact ((Below.refl _ _).alloc (Nat.le_refl _) _).drew
    have hd0 : wx.drew.cell? ⟨w.heap.size, 0, none⟩ = some (.int .i64 m) := by rw [hwx]; simp [go_sem]
    have hd1 : wx.drew.cell? ⟨w.heap.size, 1, none⟩ = some (.int .i64 o) := by rw [hwx]; simp [go_sem]
    have hd2 : wx.drew.cell? ⟨w.heap.size, 2, none⟩ = some (.int .i64 t) := by rw [hwx]; simp [go_sem]
    have hd3 : wx.drew.cell? ⟨0, m, none⟩ = some (.string (nameB m)) := by rw [hdb.cell hsn]; exact hcn
    have hdl : w.heap.size < wx.drew.heap.size := by rw [hwx]; simp
    clear hwx
    go_region_held3 (fun w' => (w'.cell? ⟨w.heap.size, 0, none⟩ = some (.int .i64 m) ∧ w'.cell? ⟨w.heap.size, 1, none⟩ = some (.int .i64 o) ∧ w'.cell? ⟨w.heap.size, 2, none⟩ = some (.int .i64 t) ∧ w'.cell? ⟨0, m, none⟩ = some (.string (nameB m))) ∧ w.heap.size < w'.heap.size ∧ Below w.heap.size w w') (first | (exact ⟨⟨hd0, hd1, hd2, hd3⟩, hdl, hdb⟩) | (exact ⟨⟨by assumption, by assumption, by assumption, by assumption⟩, by assumption, by assumption⟩)) (first | (go_at_call 36; refine (held3p hN1 hpo (by assumption) (by assumption) (by assumption) (by assumption) (by assumption) (by assumption)).mono ?_; rintro e w' ⟨rfl, ⟨k0, k1, k2, k3⟩, k4, k5⟩))
    clear hd0 hd1 hd2 hd3 hdl hdb
    set_option maxRecDepth 10000 in
    go_wp2_with fail
    refine (hT _).mono ?_
    rintro e w1 ⟨rfl, rfl⟩
  · rcases ht0 : (t == 0)
    all_goals
      have ht1 : (t != 0) = !(t == 0) := rfl
      rw [ht0] at ht1
      simp only [Bool.not_false, Bool.not_true] at ht1
      have hbE := hide (show Below w.heap.size w _ from by assumption)
      set_option maxRecDepth 10000 in
      go_wp2_with fail
      go_ret
      exact ⟨by rw [dtB, hk, ho, ht, htw, ht0]; rfl, hbE.out⟩
  · have hbE := show Below w.heap.size w _ from by assumption
    set_option maxRecDepth 10000 in
    go_wp2_with fail
    refine (hN2 _ (hpo.stays hbE)).mono ?_
    rintro e w5 ⟨rfl, hb5⟩
    have hbF := hide (Below.step hbE hb5 (Nat.le_refl _))
    clear hb5 hbE
    set_option maxRecDepth 10000 in
    go_wp2_with fail
    go_ret
    exact ⟨by rw [dtB, hk, ho, ht, htw]; rfl, hbF.out⟩
end Go.Proofs.YtbafifilklfafaaDoor
