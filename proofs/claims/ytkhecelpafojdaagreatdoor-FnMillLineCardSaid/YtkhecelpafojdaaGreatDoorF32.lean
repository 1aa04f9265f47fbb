/-
  Parts of the proofs over mills, of: TextB. Conditions: each theorem states its own.
-/
import Derived.Test.YtkhecelpafojdaaGreatDoorF25
set_option linter.unusedSimpArgs false
set_option linter.unusedVariables false
set_option maxRecDepth 10000
set_option maxHeartbeats 64000000
namespace Go.Proofs.YtkhecelpafojdaaGreatDoor
open Go.RowKit
def rdGo : Int → List UInt8 → Option Int
 | n, [] => some n
 | n, b :: l => if b.toNat < 48 ∨ 57 < b.toNat then none else if 9999 < 10 * n + ((b.toNat : Int) - 48) then none else rdGo (10 * n + ((b.toNat : Int) - 48)) l
def rdNum (s : ByteArray) : Option Int :=
 if s.size = 0 then none else if (s.data.toList.headD 0).toNat = 48 ∧ 1 < s.size then none else rdGo 0 s.data.toList
theorem bD (s : ByteArray) : s.data.toList.length = s.size := Array.length_toList
theorem drop_byte (s : ByteArray) (k : Nat) (h : k < s.size) : s.data.toList.drop k = s[k] :: s.data.toList.drop (k + 1) := by
 have h' : k < s.data.toList.length := by simpa using h
 rw [List.drop_eq_getElem_cons h'];rfl
theorem rdGo_none {n : Int} {b : UInt8} {l : List UInt8} (h : b.toNat < 48 ∨ 57 < b.toNat) : rdGo n (b :: l) = none := by rw [rdGo, if_pos h]
theorem rdGo_big {n : Int} {b : UInt8} {l : List UInt8} (h : ¬ (b.toNat < 48 ∨ 57 < b.toNat)) (h' : 9999 < 10 * n + ((b.toNat : Int) - 48)) : rdGo n (b :: l) = none := by rw [rdGo, if_neg h, if_pos h']
theorem rdGo_step {n : Int} {b : UInt8} {l : List UInt8} (h : ¬ (b.toNat < 48 ∨ 57 < b.toNat)) (h' : ¬ 9999 < 10 * n + ((b.toNat : Int) - 48)) : rdGo n (b :: l) = rdGo (10 * n + ((b.toNat : Int) - 48)) l := by rw [rdGo, if_neg h, if_neg h']
def optV : Option Int → Value
 | none => .tuple #[.int .i64 0, .bool false]
 | some n => .tuple #[.int .i64 n, .bool true]
theorem head_byte (s : ByteArray) (h : 0 < s.size) : s.data.toList.headD 0 = s[0] := by
 have := drop_byte s 0 h;rw [List.drop_zero] at this;rw [this]; rfl
theorem eu (s : ByteArray) : s.toList.isEmpty = decide (s.size = 0) := by
 have h : s.size = s.data.toList.length := Array.length_toList.symm;rw [ByteArray.toList_eq, h];cases s.data.toList <;> simp
theorem ji (s : ByteArray) (w : World) (hs : s.size ≤ 9223372036854775807) :
 Calls Tryz.prog 64 #[.string s, .int .i64 9999] w fun e w' => e = .returned (optV (rdNum s)) ∧ w = w' := by
 have hem := eu s;by_cases hz : s.size = 0
 ·have hr : rdNum s = none := by rw [rdNum, if_pos hz]
  rw [decide_eq_true hz] at hem;rw [hr];go_enter Tryz.func64, Tryz.ntmps64
  go_wp2
  go_ret2
  exact ⟨rfl, rfl⟩
 rw [decide_eq_false hz] at hem;have hpos : 0 < s.size := by omega
 obtain ⟨b0, hb0⟩ : ∃ b : Nat, (s[0]'hpos).toNat = b := ⟨_, rfl⟩;have hhd : (s.data.toList.headD 0).toNat = b0 := by rw [head_byte s hpos]; exact hb0
 have hb0' : b0 < 256 := by rw [← hb0]; exact UInt8.toNat_lt _
 have hpi : (0 : Int) < (s.size : Int) := by omega
 by_cases hlead : b0 = 48 ∧ 1 < s.size
 ·have hr : rdNum s = none := by rw [rdNum, if_neg hz, if_pos (by rw [hhd]; exact hlead)]
  rw [hr];obtain ⟨rfl, h1⟩ := hlead;have h1B : decide ((1 : Int) < (s.size : Int)) = true := by simp; omega
  clear hhd;go_enter Tryz.func64, Tryz.ntmps64
  go_wp2
  go_ret2
  exact ⟨rfl, rfl⟩
 have hr : rdNum s = rdGo 0 s.data.toList := by rw [rdNum, if_neg hz, if_neg (by rw [hhd]; exact hlead)]
 have HR := hide hr;clear hr hhd;have hT : (((b0 : Int) == 48) && decide ((1 : Int) < (s.size : Int))) = false := by
  rw [Bool.and_eq_false_iff];by_cases h : b0 = 48
  ·right; simp; omega
  ·left; simp; omega
 have hlead' : ((b0 : Int) == 48) = false ∨ (((b0 : Int) == 48) = true ∧ decide ((1 : Int) < (s.size : Int)) = false) := by
  rcases h1 : ((b0 : Int) == 48)
  ·left; rfl
  ·right; rw [h1] at hT; exact ⟨rfl, by simpa using hT⟩
 clear hT hlead;rcases hlead' with h1 | ⟨h1, h2⟩;all_goals
  go_enter Tryz.func64, Tryz.ntmps64;go_wp2_with fail
  clear hb0
  go_loop [6, 7] (fun n i => ∃ (k : Nat) (a : Int), k ≤ s.size ∧ i = .int .i64 k ∧ n = .int .i64 a ∧ 0 ≤ a ∧ a ≤ 9999 ∧ rdGo 0 s.data.toList = rdGo a (s.data.toList.drop k)) (fun _ i => s.size - (intOf i).toNat)
  case atStart => exact ⟨0, 0, Nat.zero_le _, rfl, rfl, by omega, by omega, rfl⟩
  case round =>
   obtain ⟨k, a, hk, rfl, rfl, ha0, ha1, hgo⟩ := hrel;have HG := hide hgo;clear hgo;by_cases hlt : k < s.size
   ·have HD := hide (drop_byte s k hlt)
    obtain ⟨u, hu⟩ : ∃ u, s[k]'hlt = u := ⟨_, rfl⟩;rw [hu] at HD;obtain ⟨b, hb⟩ : ∃ b : Nat, u.toNat = b := ⟨_, rfl⟩;have hb' : b < 256 := by rw [← hb]; exact UInt8.toNat_lt _
    have hki : (k : Int) < (s.size : Int) := by omega
    have hk0 : (0 : Int) ≤ (k : Int) := by omega
    by_cases hlo : b < 48
    ·have hloB : decide ((b : Int) < 48) = true := by simp; omega
     have HF := hide (show optV (rdNum s) = optV none by rw [HR.out, HG.out, HD.out, rdGo_none (by rw [hb]; exact .inl hlo)]);go_wp2_with fail
     go_ret2
     exact ⟨by rw [HF.out]; rfl, rfl⟩
    have hloB : decide ((b : Int) < 48) = false := by simp; omega
    by_cases hhi : 57 < b
    ·have hhiB : decide ((57 : Int) < (b : Int)) = true := by simp; omega
     have HF := hide (show optV (rdNum s) = optV none by rw [HR.out, HG.out, HD.out, rdGo_none (by rw [hb]; exact .inr hhi)]);go_wp2_with fail
     go_ret2
     exact ⟨by rw [HF.out]; rfl, rfl⟩
    have hhiB : decide ((57 : Int) < (b : Int)) = false := by simp; omega
    by_cases hbg : 9999 < 10 * a + ((b : Int) - 48)
    ·have hbgB : decide (9999 < 10 * a + ((b : Int) - 48)) = true := by simp; omega
     have HF := hide (show optV (rdNum s) = optV none by rw [HR.out, HG.out, HD.out, rdGo_big (by rw [hb]; omega) (by rw [hb]; exact hbg)]);go_wp2_with fail
     go_ret2
     exact ⟨by rw [HF.out]; rfl, rfl⟩
    have hbgB : decide (9999 < 10 * a + ((b : Int) - 48)) = false := by simp; omega
    have HF := hide (show rdGo 0 s.data.toList = rdGo (10 * a + ((b : Int) - 48)) (s.data.toList.drop (k + 1)) by rw [HG.out, HD.out, rdGo_step (by rw [hb]; omega) (by rw [hb]; exact hbg), hb]);go_wp2_with fail
    go_round
    case rel => exact ⟨k + 1, 10 * a + ((b : Int) - 48), by omega, by go_num, rfl, by omega, by omega, HF.out⟩
    case measure => simp [intOf]; omega
   ·have hkn : k = s.size := by omega
    have HF := hide (show optV (rdNum s) = optV (some a) by rw [HR.out, HG.out, hkn, List.drop_of_length_le (Nat.le_of_eq (bD s)), rdGo]);go_wp2_with fail
    go_ret2
    exact ⟨by rw [HF.out]; rfl, rfl⟩
def lrGo : Int → List UInt8 → Option Int
 | n, [] => some n
 | n, b :: l => if b.toNat < 48 ∨ 57 < b.toNat then none else lrGo (10 * n + ((b.toNat : Int) - 48)) l
def fF (s : ByteArray) : Int :=
 if s.size < 1 ∨ 4 < s.size then -1 else if (s.data.toList.headD 0).toNat = 48 ∧ 1 < s.size then -1 else (lrGo 0 s.data.toList).getD (-1)
theorem lrGo_none {n : Int} {b : UInt8} {l : List UInt8} (h : b.toNat < 48 ∨ 57 < b.toNat) : lrGo n (b :: l) = none := by rw [lrGo, if_pos h]
theorem lrGo_step {n : Int} {b : UInt8} {l : List UInt8} (h : ¬ (b.toNat < 48 ∨ 57 < b.toNat)) : lrGo n (b :: l) = lrGo (10 * n + ((b.toNat : Int) - 48)) l := by rw [lrGo, if_neg h]
theorem l1Read_any (s : ByteArray) (w : World) (hs : s.size ≤ 9223372036854775807) :
 Calls Tryz.prog 78 #[.string s] w fun e w' => e = .returned (.int .i64 (fF s)) ∧ w = w' := by
 have hI := fun w => aY (s.size : Int) 1 4 w;by_cases hz : s.size < 1 ∨ 4 < s.size
 ·have hr : fF s = -1 := by rw [fF, if_pos hz]
  have e : wi (s.size : Int) 1 4 = false := by simp [wi]; omega
  rw [e] at hI;rw [hr];clear hz;go_enter Tryz.func78, Tryz.ntmps78;go_wp2_with fail
  refine (hI _).mono ?_;rintro e w1 ⟨rfl, rfl⟩;go_wp2_with fail
  go_ret;exact ⟨rfl, rfl⟩
 have e : wi (s.size : Int) 1 4 = true := by simp [wi]; omega
 rw [e] at hI;clear e;have hpos : 0 < s.size := by omega
 have h4 : s.size ≤ 4 := by omega
 have hpi : (0 : Int) < (s.size : Int) := by omega
 obtain ⟨b0, hb0⟩ : ∃ b : Nat, (s[0]'hpos).toNat = b := ⟨_, rfl⟩;have hhd : (s.data.toList.headD 0).toNat = b0 := by rw [head_byte s hpos]; exact hb0
 have hb0' : b0 < 256 := by rw [← hb0]; exact UInt8.toNat_lt _
 by_cases hlead : b0 = 48 ∧ 1 < s.size
 ·have hr : fF s = -1 := by rw [fF, if_neg hz, if_pos (by rw [hhd]; exact hlead)]
  rw [hr];obtain ⟨rfl, h1⟩ := hlead;have h1B : decide ((1 : Int) < (s.size : Int)) = true := by simp; omega
  clear hhd hz;go_enter Tryz.func78, Tryz.ntmps78;go_wp2_with fail
  refine (hI _).mono ?_;rintro e w1 ⟨rfl, rfl⟩;go_wp2_with fail
  go_ret;exact ⟨rfl, rfl⟩
 have hr : fF s = (lrGo 0 s.data.toList).getD (-1) := by rw [fF, if_neg hz, if_neg (by rw [hhd]; exact hlead)]
 have HR := hide hr;clear hr hhd hz;have hlead' : decide ((1 : Int) < (s.size : Int)) = false ∨ (decide ((1 : Int) < (s.size : Int)) = true ∧ ((b0 : Int) == 48) = false) := by
  by_cases h1 : 1 < s.size
  ·right; exact ⟨by simp; omega, by simp; omega⟩
  ·left; simp; omega
 clear hlead;rcases hlead' with h1 | ⟨h1, h2⟩;all_goals
  go_enter Tryz.func78, Tryz.ntmps78;go_wp2_with fail
  refine (hI _).mono ?_;rintro e w1 ⟨rfl, rfl⟩;go_wp2_with fail
  clear hb0
  go_loop [3, 4] (fun n i => ∃ (k : Nat) (a : Int), k ≤ s.size ∧ i = .int .i64 k ∧ n = .int .i64 a ∧ 0 ≤ a ∧ a < 10 ^ k ∧ lrGo 0 s.data.toList = lrGo a (s.data.toList.drop k)) (fun _ i => s.size - (intOf i).toNat)
  case atStart => exact ⟨0, 0, Nat.zero_le _, rfl, rfl, by omega, by simp, rfl⟩
  case round =>
   obtain ⟨k, a, hk, rfl, rfl, ha0, ha1, hgo⟩ := hrel;have HG := hide hgo;clear hgo;have ha9 : a ≤ 9999 := by
    have : k = 0 ∨ k = 1 ∨ k = 2 ∨ k = 3 ∨ k = 4 := by omega
    rcases this with rfl | rfl | rfl | rfl | rfl <;> omega
   have HP := hide ha1;clear ha1;by_cases hlt : k < s.size
   ·have HD := hide (drop_byte s k hlt)
    obtain ⟨u, hu⟩ : ∃ u, s[k]'hlt = u := ⟨_, rfl⟩;rw [hu] at HD;obtain ⟨b, hb⟩ : ∃ b : Nat, u.toNat = b := ⟨_, rfl⟩;have hb' : b < 256 := by rw [← hb]; exact UInt8.toNat_lt _
    have hki : (k : Int) < (s.size : Int) := by omega
    have hk0 : (0 : Int) ≤ (k : Int) := by omega
    by_cases hlo : b < 48
    ·have hloB : decide ((b : Int) < 48) = true := by simp; omega
     have HF := hide (show fF s = -1 by rw [HR.out, HG.out, HD.out, lrGo_none (by rw [hb]; exact .inl hlo)]; rfl);go_wp2_with fail
     go_ret;exact ⟨by rw [HF.out]; rfl, rfl⟩
    have hloB : decide ((b : Int) < 48) = false := by simp; omega
    by_cases hhi : 57 < b
    ·have hhiB : decide ((57 : Int) < (b : Int)) = true := by simp; omega
     have HF := hide (show fF s = -1 by rw [HR.out, HG.out, HD.out, lrGo_none (by rw [hb]; exact .inr hhi)]; rfl);go_wp2_with fail
     go_ret;exact ⟨by rw [HF.out]; rfl, rfl⟩
    have hhiB : decide ((57 : Int) < (b : Int)) = false := by simp; omega
    have HF := hide (show lrGo 0 s.data.toList = lrGo (10 * a + ((b : Int) - 48)) (s.data.toList.drop (k + 1)) by rw [HG.out, HD.out, lrGo_step (by rw [hb]; omega), hb]);have HQ := hide (show 10 * a + ((b : Int) - 48) < 10 ^ (k + 1) by have := HP.out; rw [Int.pow_succ]; omega);go_wp2_with fail
    go_round
    case rel => exact ⟨k + 1, 10 * a + ((b : Int) - 48), by omega, by go_num, rfl, by omega, HQ.out, HF.out⟩
    case measure => simp [intOf]; omega
   ·have hkn : k = s.size := by omega
    have HF := hide (show fF s = a by rw [HR.out, HG.out, hkn, List.drop_of_length_le (Nat.le_of_eq (bD s)), lrGo]; rfl);go_wp2_with fail
    go_ret;exact ⟨by rw [HF.out]; rfl, rfl⟩
theorem bP (a b : ByteArray) : (a.toList == b.toList) = decide (a = b) := by
 rw [ByteArray.toList_eq, ByteArray.toList_eq, Bool.eq_iff_iff];simp only [beq_iff_eq, decide_eq_true_eq];constructor
 ·intro h
  apply ByteArray.ext;exact Array.toList_inj.1 h
 ·rintro rfl; rfl
def dw (s : ByteArray) : Int := if s = ax 0 then 0 else if s = ax 1 then 1 else if s = ax 2 then 2 else if s = ax 3 then 3 else if s = ax 4 then 4 else -1
theorem ix0 (w : World) : (Instr.index 75 (.agg #[.string (ax 0), .string (ax 1), .string (ax 2), .string (ax 3), .string (ax 4)]) (.int .i64 0)).run Tryz.prog w = .ok (.string (ax 0)) w := by kernel_rfl
theorem ix1 (w : World) : (Instr.index 75 (.agg #[.string (ax 0), .string (ax 1), .string (ax 2), .string (ax 3), .string (ax 4)]) (.int .i64 1)).run Tryz.prog w = .ok (.string (ax 1)) w := by kernel_rfl
theorem ix2 (w : World) : (Instr.index 75 (.agg #[.string (ax 0), .string (ax 1), .string (ax 2), .string (ax 3), .string (ax 4)]) (.int .i64 2)).run Tryz.prog w = .ok (.string (ax 2)) w := by kernel_rfl
theorem ix3 (w : World) : (Instr.index 75 (.agg #[.string (ax 0), .string (ax 1), .string (ax 2), .string (ax 3), .string (ax 4)]) (.int .i64 3)).run Tryz.prog w = .ok (.string (ax 3)) w := by kernel_rfl
theorem ix4 (w : World) : (Instr.index 75 (.agg #[.string (ax 0), .string (ax 1), .string (ax 2), .string (ax 3), .string (ax 4)]) (.int .i64 4)).run Tryz.prog w = .ok (.string (ax 4)) w := by kernel_rfl
theorem kindNamed_any (s : ByteArray) (w : World) (hna : dz w) :
 Calls Tryz.prog 63 #[.string s] w fun e w' => e = .returned (.int .i64 (dw s)) ∧ w = w' := by
 have c0 := hna.cell 0 (by omega);have c1 := hna.cell 1 (by omega);have c2 := hna.cell 2 (by omega);have c3 := hna.cell 3 (by omega);have c4 := hna.cell 4 (by omega);go_enter Tryz.func63, Tryz.ntmps63;go_wp2_with fail
 go_loop [3, 4, 6] (fun _ _ i => ∃ k : Nat, k ≤ 5 ∧ i = .int .i64 k ∧ ∀ j, j < k → s ≠ ax j) (fun _ _ i => 5 - (intOf i).toNat)
 case atStart => exact ⟨0, by omega, rfl, fun _ h => absurd h (Nat.not_lt_zero _)⟩
 case round =>
  obtain ⟨k, hk, rfl, hall⟩ := hrel;have HA := hide hall;clear hall;by_cases h5 : k = 5
  ·subst h5
   have h0 : s ≠ ax 0 := HA.out 0 (by omega);have h1 : s ≠ ax 1 := HA.out 1 (by omega);have h2 : s ≠ ax 2 := HA.out 2 (by omega);have h3 : s ≠ ax 3 := HA.out 3 (by omega);have h4 : s ≠ ax 4 := HA.out 4 (by omega);have HF := hide (show dw s = -1 by rw [dw, if_neg h0, if_neg h1, if_neg h2, if_neg h3, if_neg h4]);clear h0 h1 h2 h3 h4;go_wp2_with fail
   go_ret;exact ⟨by rw [HF.out]; rfl, rfl⟩
  ·have hk4 : k = 0 ∨ k = 1 ∨ k = 2 ∨ k = 3 ∨ k = 4 := by omega
   clear h5;have HQ : s = ax k ∨ s ≠ ax k := Classical.em _;rcases hk4 with rfl | rfl | rfl | rfl | rfl
   ·have hix := fun w => ix0 w
    rcases (show s = ax 0 ∨ s ≠ ax 0 from HQ) with hq | hq
    ·skip
     have HF := hide (show dw s = 0 by rw [dw, if_pos hq]);have hq1 : ((ax 0).toList == s.toList) = true := by rw [bP]; exact decide_eq_true hq.symm
     clear hq HQ
     set_option maxRecDepth 10000 in
     go_wp2_with fail
     go_ret;exact ⟨by rw [HF.out]; rfl, rfl⟩
    ·have hq1 : ((ax 0).toList == s.toList) = false := by rw [bP]; exact decide_eq_false (fun e => hq e.symm)
     have HN := hide (show ∀ j : Nat, j < 1 → s ≠ ax j from fun j hj => by
      rcases Nat.lt_or_ge j 0 with h | h
      ·exact HA.out j h
      ·obtain rfl : j = 0 := by omega
       exact hq)
     clear hq HQ
     set_option maxRecDepth 10000 in
     go_wp2_with fail
     go_round
     case rel => exact ⟨1, by omega, by go_num, HN.out⟩
     case measure => simp [intOf]
   ·have hix := fun w => ix1 w
    rcases (show s = ax 1 ∨ s ≠ ax 1 from HQ) with hq | hq
    ·have h0 : s ≠ ax 0 := HA.out 0 (by omega)
     have HF := hide (show dw s = 1 by rw [dw, if_neg h0, if_pos hq]);have hq1 : ((ax 1).toList == s.toList) = true := by rw [bP]; exact decide_eq_true hq.symm
     clear hq HQ h0
     set_option maxRecDepth 10000 in
     go_wp2_with fail
     go_ret;exact ⟨by rw [HF.out]; rfl, rfl⟩
    ·have hq1 : ((ax 1).toList == s.toList) = false := by rw [bP]; exact decide_eq_false (fun e => hq e.symm)
     have HN := hide (show ∀ j : Nat, j < 2 → s ≠ ax j from fun j hj => by
      rcases Nat.lt_or_ge j 1 with h | h
      ·exact HA.out j h
      ·obtain rfl : j = 1 := by omega
       exact hq)
     clear hq HQ
     set_option maxRecDepth 10000 in
     go_wp2_with fail
     go_round
     case rel => exact ⟨2, by omega, by go_num, HN.out⟩
     case measure => simp [intOf]
   ·have hix := fun w => ix2 w
    rcases (show s = ax 2 ∨ s ≠ ax 2 from HQ) with hq | hq
    ·have h0 : s ≠ ax 0 := HA.out 0 (by omega)
     have h1 : s ≠ ax 1 := HA.out 1 (by omega);have HF := hide (show dw s = 2 by rw [dw, if_neg h0, if_neg h1, if_pos hq]);have hq1 : ((ax 2).toList == s.toList) = true := by rw [bP]; exact decide_eq_true hq.symm
     clear hq HQ h0 h1
     set_option maxRecDepth 10000 in
     go_wp2_with fail
     go_ret;exact ⟨by rw [HF.out]; rfl, rfl⟩
    ·have hq1 : ((ax 2).toList == s.toList) = false := by rw [bP]; exact decide_eq_false (fun e => hq e.symm)
     have HN := hide (show ∀ j : Nat, j < 3 → s ≠ ax j from fun j hj => by
      rcases Nat.lt_or_ge j 2 with h | h
      ·exact HA.out j h
      ·obtain rfl : j = 2 := by omega
       exact hq)
     clear hq HQ
     set_option maxRecDepth 10000 in
     go_wp2_with fail
     go_round
     case rel => exact ⟨3, by omega, by go_num, HN.out⟩
     case measure => simp [intOf]
   ·have hix := fun w => ix3 w
    rcases (show s = ax 3 ∨ s ≠ ax 3 from HQ) with hq | hq
    ·have h0 : s ≠ ax 0 := HA.out 0 (by omega)
     have h1 : s ≠ ax 1 := HA.out 1 (by omega);have h2 : s ≠ ax 2 := HA.out 2 (by omega);have HF := hide (show dw s = 3 by rw [dw, if_neg h0, if_neg h1, if_neg h2, if_pos hq]);have hq1 : ((ax 3).toList == s.toList) = true := by rw [bP]; exact decide_eq_true hq.symm
     clear hq HQ h0 h1 h2
     set_option maxRecDepth 10000 in
     go_wp2_with fail
     go_ret;exact ⟨by rw [HF.out]; rfl, rfl⟩
    ·have hq1 : ((ax 3).toList == s.toList) = false := by rw [bP]; exact decide_eq_false (fun e => hq e.symm)
     have HN := hide (show ∀ j : Nat, j < 4 → s ≠ ax j from fun j hj => by
      rcases Nat.lt_or_ge j 3 with h | h
      ·exact HA.out j h
      ·obtain rfl : j = 3 := by omega
       exact hq)
     clear hq HQ
     set_option maxRecDepth 10000 in
     go_wp2_with fail
     go_round
     case rel => exact ⟨4, by omega, by go_num, HN.out⟩
     case measure => simp [intOf]
   ·have hix := fun w => ix4 w
    rcases (show s = ax 4 ∨ s ≠ ax 4 from HQ) with hq | hq
    ·have h0 : s ≠ ax 0 := HA.out 0 (by omega)
     have h1 : s ≠ ax 1 := HA.out 1 (by omega);have h2 : s ≠ ax 2 := HA.out 2 (by omega);have h3 : s ≠ ax 3 := HA.out 3 (by omega);have HF := hide (show dw s = 4 by rw [dw, if_neg h0, if_neg h1, if_neg h2, if_neg h3, if_pos hq]);have hq1 : ((ax 4).toList == s.toList) = true := by rw [bP]; exact decide_eq_true hq.symm
     clear hq HQ h0 h1 h2 h3
     set_option maxRecDepth 10000 in
     go_wp2_with fail
     go_ret;exact ⟨by rw [HF.out]; rfl, rfl⟩
    ·have hq1 : ((ax 4).toList == s.toList) = false := by rw [bP]; exact decide_eq_false (fun e => hq e.symm)
     have HN := hide (show ∀ j : Nat, j < 5 → s ≠ ax j from fun j hj => by
      rcases Nat.lt_or_ge j 4 with h | h
      ·exact HA.out j h
      ·obtain rfl : j = 4 := by omega
       exact hq)
     clear hq HQ
     set_option maxRecDepth 10000 in
     go_wp2_with fail
     go_round
     case rel => exact ⟨5, by omega, by go_num, HN.out⟩
     case measure => simp [intOf]
end Go.Proofs.YtkhecelpafojdaaGreatDoor
