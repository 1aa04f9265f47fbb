/-
  Parts of the proofs over mills, of: Base, Draw, Shelf, PlainLaw, RjPre. Conditions: each theorem states its own.
-/
import Derived.Lib.ItoaLen
import Derived.Deep.RegionHeld3
import Derived.Lib.SmallJoins
import Derived.Lib.AppendIntMem
import Derived.Test.YtmemgbklgcjobaaGreatDoorY07
import Derived.Test.YtmemgbklgcjobaaGreatDoorY09
set_option linter.unusedSimpArgs false
set_option linter.unusedVariables false
set_option maxRecDepth 10000
set_option maxHeartbeats 64000000
namespace Go.Proofs.YtmemgbklgcjobaaGreatDoor
open Go.RowKit
theorem ofInt_i64 (a : Nat) (ha : a < 9223372036854775808) : (BitVec.ofInt 64 (a : Int)).toNat = a := by
 rw [BitVec.ofInt_natCast, BitVec.toNat_ofNat]; exact Nat.mod_eq_of_lt (by omega)
theorem RdAt.after {R : Nat} {w : World} {v : Value} {n : Nat} {p : Int} (h : RdAt R w v n p) (q : Int) : Other R (R + 1) w (w.setCell ⟨R, 1, none⟩ (.int .i64 q)) ∧ RdAt R (w.setCell ⟨R, 1, none⟩ (.int .i64 q)) v n q := by
 have ho : Other R (R + 1) w (w.setCell ⟨R, 1, none⟩ (.int .i64 q)) := Other.setCell (p := ⟨R, 1, none⟩) (Other.refl R (R + 1) w) (Nat.le_refl R) (Nat.lt_succ_self R) _;refine ⟨ho, (h.row.set 1 _).congr fun i hi => ?_, h.bytes.other ho nl, h.few⟩
 match i, hi with
 | 0, _ => simp
 | 1, _ => simp
theorem i64_xor_nat (a b : Nat) (ha : a < 9223372036854775808) (hb : b < 9223372036854775808) : bits .xor .i64 (a : Int) (b : Int) = ((a ^^^ b : Nat) : Int) := by
 have hx : a ^^^ b < 2 ^ 63 := Nat.xor_lt_two_pow (by omega) (by omega);show IntKind.i64.wrap ((BitVec.ofInt 64 (a : Int) ^^^ BitVec.ofInt 64 (b : Int)).toNat : Int) = _
 rw [BitVec.toNat_xor, ofInt_i64 a ha, ofInt_i64 b hb, IntKind.wrap_i64];omega
def Drawn (R : Nat) (w : World) (v : Value) (n : Nat) (p m : Int) (e : Ending) (w' : World) : Prop :=
 ∃ x, e = .returned (.int .i64 x) ∧ 0 ≤ x ∧ (1 ≤ m → x < m) ∧ (m < 1 → x = 0) ∧ Other R (R + 1) w w' ∧ RdAt R w' v n (p + 1)
theorem pick_any (R : Nat) (v : Value) (n : Nat) (k : Nat) (m : Int) (w : World) (h : RdAt R w v n k) (hp : k ≤ 1000000) (hm : -1000000 ≤ m ∧ m ≤ 1000000) :
 Calls Tryz.prog 61 #[.pointer (some ⟨R, 0, none⟩), .int .i64 m] w (Drawn R w v n k m) := by
 obtain ⟨ha1, ha2⟩ := h.after ((k : Int) + 1);obtain ⟨hr, hb, hn⟩ := h;obtain ⟨hm1, hm2⟩ := hm;have c0 : w.cell? ⟨R, 0, none⟩ = some v := by simpa using hr.cell (i := 0) (by omega)
 have c1 : w.cell? ⟨R, 1, none⟩ = some (.int .i64 k) := by simpa using hr.cell (i := 1) (by omega)
 have f1 := hr.frozen 1;have hlt := hr.lt;obtain ⟨ao, cap, rfl, hnc, hcap, hhi, hbs⟩ := id hb;have HA1 := hide ha1;have HA2 := hide ha2;have Hbs := hide hbs;clear hb hbs hr ha1 ha2;by_cases hlow : m < 1
 ·go_enter Tryz.func61, Tryz.ntmps61
  go_wp2_with fail
  go_ret;exact ⟨0, rfl, Int.le_refl _, fun h => by omega, fun _ => rfl, HA1.out, HA2.out⟩
 ·by_cases hn0 : n = 0
  ·subst hn0
   go_enter Tryz.func61, Tryz.ntmps61;go_wp2_with fail
   go_ret;exact ⟨0, rfl, Int.le_refl _, fun h => by omega, fun _ => rfl, HA1.out, HA2.out⟩
  ·obtain ⟨b, o, rfl, -, hbR, hcs⟩ := Hbs.out (by omega)
   have hn1 : 1 ≤ n := by omega
   have hnB : ((n : Int) == 0) = false := by simp; omega
   have hlowB : decide (m < 1) = false := by simp; omega
   by_cases hkn : k < n
   ·obtain ⟨x, hx, hx0, hx1⟩ := hcs k hkn
    have hx' : (w.setCell ⟨R, 1, none⟩ (.int .i64 ((k : Int) + 1))).cell? ⟨b, o + k, none⟩ = some (.int .u8 x) := by
     rw [World.cell?_of_block (w := w) (HA1.out.block b (by omega) (.inl (by simpa using hbR)))]; exact hx
    have hmod1 := Int.emod_nonneg x (show m ≠ 0 by omega);have hmod2 := Int.emod_lt_of_pos x (show 0 < m by omega);clear hcs hx;go_enter Tryz.func61, Tryz.ntmps61;go_wp2_with fail
    go_ret;exact ⟨x % m, rfl, hmod1, fun _ => hmod2, fun h => by omega, HA1.out, HA2.out⟩
   ·obtain ⟨i1, hi1, hi1n⟩ : ∃ i1 : Nat, (k : Int).tmod (n : Int) = i1 ∧ i1 < n := ⟨k % n, by rw [← Int.ofNat_tmod], Nat.mod_lt _ (by omega)⟩
    obtain ⟨i2, hi2, hi2n⟩ : ∃ i2 : Nat, ((k : Int) * 7 + 3).tmod (n : Int) = i2 ∧ i2 < n := ⟨(k * 7 + 3) % n, by rw [show (k : Int) * 7 + 3 = ((k * 7 + 3 : Nat) : Int) by simp, ← Int.ofNat_tmod], Nat.mod_lt _ (by omega)⟩;obtain ⟨q, hq, hqk⟩ : ∃ q : Nat, (k : Int).tdiv (n : Int) = q ∧ q ≤ k := ⟨k / n, by rw [← Int.ofNat_tdiv], Nat.div_le_self _ _⟩;obtain ⟨x1, hx1, hx10, hx11⟩ := hcs i1 hi1n;obtain ⟨x2, hx2, hx20, hx21⟩ := hcs i2 hi2n;have hx1' : (w.setCell ⟨R, 1, none⟩ (.int .i64 ((k : Int) + 1))).cell? ⟨b, o + i1, none⟩ = some (.int .u8 x1) := by
     rw [World.cell?_of_block (w := w) (HA1.out.block b (by omega) (.inl (by simpa using hbR)))]; exact hx1
    have hx2' : (w.setCell ⟨R, 1, none⟩ (.int .i64 ((k : Int) + 1))).cell? ⟨b, o + i2, none⟩ = some (.int .u8 x2) := by
     rw [World.cell?_of_block (w := w) (HA1.out.block b (by omega) (.inl (by simpa using hbR)))]; exact hx2
    have e1 : IntKind.i64.wrap ((k : Int) * 7) = (k : Int) * 7 := IntWalk.i64_in _ (by omega);have e2 : IntKind.i64.wrap ((k : Int) * 7 + 3) = (k : Int) * 7 + 3 := IntWalk.i64_in _ (by omega);have e3 : IntKind.i64.wrap (x1 * 131) = x1 * 131 := IntWalk.i64_in _ (by omega);have e4 : IntKind.i64.wrap (x2 * 1117) = x2 * 1117 := IntWalk.i64_in _ (by omega);have e5 : IntKind.i64.wrap (x1 * 131 + x2 * 1117) = x1 * 131 + x2 * 1117 := IntWalk.i64_in _ (by omega);have e6 : IntKind.i64.wrap ((k : Int) * 29) = (k : Int) * 29 := IntWalk.i64_in _ (by omega);have e7 : IntKind.i64.wrap (x1 * 131 + x2 * 1117 + (k : Int) * 29) = x1 * 131 + x2 * 1117 + (k : Int) * 29 := IntWalk.i64_in _ (by omega);have e8 : IntKind.i64.wrap ((q : Int) * 53) = (q : Int) * 53 := IntWalk.i64_in _ (by omega);have e9 : IntKind.i64.wrap (x1 * 131 + x2 * 1117 + (k : Int) * 29 + (q : Int) * 53) = x1 * 131 + x2 * 1117 + (k : Int) * 29 + (q : Int) * 53 := IntWalk.i64_in _ (by omega);have hne : ((n : Int) == 0) = false := hnB;have hkI : decide ((k : Int) < (n : Int)) = false := by simp; omega
    have e10 : IntKind.i64.wrap ((k : Int) + 1 - 1) = (k : Int) := by rw [IntWalk.i64_in] <;> omega
    clear hcs hx1 hx2;go_enter Tryz.func61, Tryz.ntmps61;go_wp2_with fail
    go_quiet (fail)
    obtain ⟨S, hS, hS2⟩ : ∃ S : Nat, x1 * 131 + x2 * 1117 + (k : Int) * 29 + (q : Int) * 53 = S ∧ S ≤ 1000000000 := ⟨(x1 * 131 + x2 * 1117 + (k : Int) * 29 + (q : Int) * 53).toNat, by omega, by omega⟩;rw [hS];obtain ⟨X, hX⟩ : ∃ X : Nat, bits .xor .i64 (S : Int) ((S : Int) / 64) = X := ⟨S ^^^ (S / 64), by
     rw [show (S : Int) / 64 = ((S / 64 : Nat) : Int) by simp];exact i64_xor_nat S (S / 64) (by omega) (by omega)⟩
    have hmod1 := Int.emod_nonneg (X : Int) (show m ≠ 0 by omega);have hmod2 := Int.emod_lt_of_pos (X : Int) (show 0 < m by omega);have HA3 := hide (HA1.out.drewN nq);have HA4 := hide (HA2.out.drewN nq);clear e1 e2 e3 e4 e5 e6 e7 e8 e9 e10 hi1 hi2 hq hS hx1' hx2';go_wp2_with fail
    go_ret;exact ⟨X % m, rfl, hmod1, fun _ => hmod2, fun h => by omega, HA3.out, HA4.out⟩
def Got (R k : Nat) (m : Int) (w : World) (e : Ending) (w' : World) : Prop :=
 ∃ x, e = .returned (.int .i64 x) ∧ 0 ≤ x ∧ x < m ∧ Other R (R + 1) w w' ∧ Rd R (k + 1) w'
theorem pick_in (R k : Nat) (m : Int) (w : World) (h : Rd R k w) (hk : k ≤ 1000000) (hm1 : 1 ≤ m) (hm2 : m ≤ 1000000) :
 Calls Tryz.prog 61 #[.pointer (some ⟨R, 0, none⟩), .int .i64 m] w (Got R k m w) := by
 obtain ⟨v, n, p, h1, h2⟩ := h;refine (pick_any R v n p m w h2 (by omega) ⟨by omega, hm2⟩).mono ?_;rintro e w' ⟨x, rfl, a1, a2, -, a4, a5⟩;exact ⟨x, rfl, a1, a2 hm1, a4, v, n, p + 1, by omega, by simpa using a5⟩
def Tossed (R k : Nat) (w : World) (e : Ending) (w' : World) : Prop :=
 ∃ b : Bool, e = .returned (.bool b) ∧ Other R (R + 1) w w' ∧ Rd R (k + 1) w'
theorem odd_any (R k : Nat) (m : Int) (w : World) (h : Rd R k w) (hk : k ≤ 1000000) (hm1 : 1 ≤ m) (hm2 : m ≤ 1000000) :
 Calls Tryz.prog 120 #[.pointer (some ⟨R, 0, none⟩), .int .i64 m] w (Tossed R k w) := by
 have HP := hide (pick_in R k m w h hk hm1 hm2);clear h;go_enter Tryz.func120, Tryz.ntmps120;go_wp2_with fail
 refine HP.out.mono ?_;rintro e w' ⟨x, rfl, hx0, hx1, ho, hr⟩;have HO := hide ho;have HR := hide hr;clear ho hr;go_wp2_with fail
 go_ret;exact ⟨_, rfl, HO.out, HR.out⟩
theorem BytesAt.less {lo hi : Nat} {w : World} {ao : Option Addr} {n cap m : Nat} (h : BytesAt lo hi w (.slice ao n cap) n) (hm : m ≤ n) : BytesAt lo hi w (.slice ao m cap) m := by
 obtain ⟨ao', cap', e, h1, h2, h3, h4⟩ := h;simp only [Value.slice.injEq] at e;obtain ⟨rfl, -, rfl⟩ := e;refine ⟨ao, cap, rfl, by omega, h2, h3, fun hn => ?_⟩;obtain ⟨b, o, e1, e2, e3, e4⟩ := h4 (by omega);exact ⟨b, o, e1, e2, e3, fun i hi => e4 i (by omega)⟩
def Opened (w : World) (e : Ending) (w' : World) : Prop := ∃ R : Nat, e = .returned (.pointer (some ⟨R, 0, none⟩)) ∧ w.heap.size ≤ R ∧ Below w.heap.size w w' ∧ Rd R 0 w'
theorem opened {w : World} {v : Value} {n : Nat} (h : BytesAt 0 w.heap.size w v n) (hn : n ≤ 2000) :
 Below w.heap.size w (w.alloc (.cells #[v, .int .i64 0] 144)) ∧ Rd w.heap.size 0 (w.alloc (.cells #[v, .int .i64 0] 144)) := by
 have hb := (Below.refl w.heap.size w).alloc nl (.cells #[v, .int .i64 0] 144);refine ⟨hb, v, n, 0, Nat.le_refl _, World.rowIs_alloc _ _ _ _ (by intro i hi; simp at hi; match i, hi with | 0, _ => rfl | 1, _ => rfl), h.below hb nl, hn⟩
theorem open_any (v : Value) (n : Nat) (w : World) (h : BytesAt 0 w.heap.size w v n) :
 Calls Tryz.prog 56 #[v] w (Opened w) := by
 obtain ⟨ao, cap, rfl, hnc, hcap, hhi, hbs⟩ := id h;have Hbs := hide hbs;have HB := hide h;clear hbs h;by_cases hn : 2000 < n
 ·go_enter Tryz.func56, Tryz.ntmps56
  go_wp2_with fail
  go_ret;exact ⟨_, rfl, Nat.le_refl _, opened (HB.out.less (by omega)) nl⟩
 ·go_enter Tryz.func56, Tryz.ntmps56
  go_wp2_with fail
  go_ret;exact ⟨_, rfl, Nat.le_refl _, opened HB.out (by omega)⟩
end Go.Proofs.YtmemgbklgcjobaaGreatDoor
namespace Go.Proofs
open Go.Shelf
def Tryz.lays145_ren : Go.Shelf.Ren := ⟨fun | 145 => 73 | 220 => 136 | 219 => 182 | 217 => 218 | 225 => 219 | 224 => 220 | 267 => 221 | 266 => 239 | 314 => 240 | n => n, fun | 9 => 9 | 4 => 4 | 59 => 96 | 3 => 3 | 5 => 5 | 46 => 169 | 146 => 232 | 51 => 195 | n => n, fun | 1 => 1 | n => n⟩
theorem Tryz.lays145 : Go.Proofs.Lays.n145 Tryz.prog Tryz.lays145_ren := {
 mixed := by kernel_rfl
 f145 := Tryz.func73.trans (congrArg some (by kernel_rfl))
 f217 := Tryz.func218.trans (congrArg some (by kernel_rfl))
 f219 := Tryz.func182.trans (congrArg some (by kernel_rfl))
 f220 := Tryz.func136.trans (congrArg some (by kernel_rfl))
 f224 := Tryz.func220.trans (congrArg some (by kernel_rfl))
 f225 := Tryz.func219.trans (congrArg some (by kernel_rfl))
 f266 := Tryz.func239.trans (congrArg some (by kernel_rfl))
 f267 := Tryz.func221.trans (congrArg some (by kernel_rfl))
 f314 := Tryz.func240.trans (congrArg some (by kernel_rfl))
 t3 := Tryz.underlying3
 a3 := Tryz.isAgg3
 z3 := Tryz.sizeOf3
 v3 := Tryz.zeroValue3
 t4 := Tryz.underlying4
 a4 := Tryz.isAgg4
 z4 := Tryz.sizeOf4
 v4 := Tryz.zeroValue4
 t5 := Tryz.underlying5
 a5 := Tryz.isAgg5
 z5 := Tryz.sizeOf5
 v5 := Tryz.zeroValue5
 t9 := Tryz.underlying9
 a9 := Tryz.isAgg9
 z9 := Tryz.sizeOf9
 v9 := Tryz.zeroValue9
 t46 := Tryz.underlying169
 a46 := Tryz.isAgg169
 z46 := Tryz.sizeOf169
 v46 := Tryz.zeroValue169
 t51 := Tryz.underlying195
 a51 := Tryz.isAgg195
 z51 := Tryz.sizeOf195
 v51 := Tryz.zeroValue195
 t59 := Tryz.underlying96
 a59 := Tryz.isAgg96
 z59 := Tryz.sizeOf96
 v59 := Tryz.zeroValue96
 t146 := Tryz.underlying232
 a146 := Tryz.isAgg232
 z146 := Tryz.sizeOf232
 v146 := Tryz.zeroValue232
 g1 := by kernel_rfl }
open Go.RowKit Go.Lib in
theorem Tryz.strings_Cut (s sep : ByteArray) (m : Int) (w : World) (hs : s.size < 4294967281) (hm : w.cell? ⟨1, 0, none⟩ = some (.int .i64 m)) :
 Calls Tryz.prog 73 #[.string s, .string sep] w fun e w' => e = .returned (.tuple #[.string ⟨(Lib.cut s.data.toList sep.data.toList).1.toArray⟩, .string ⟨(Lib.cut s.data.toList sep.data.toList).2.1.toArray⟩, .bool (Lib.cut s.data.toList sep.data.toList).2.2]) ∧ ∃ n, w' = w.drewN n := Any.strings_Cut Tryz.lays145 s sep m w hs hm
end Go.Proofs
namespace Go.Proofs.YtmemgbklgcjobaaGreatDoor
open Go.RowKit
theorem do_law {m : Mi} (hv : millB m = true) {d : J} (h : (doR m d).2 = true) :
 Done m (doR m d).1 ∧ millB (doR m d).1 = true ∧ massR (doR m d).1 = massR m := by
 have hd := do_ok (millB_iff.1 hv) (show doR m d = ((doR m d).1, true) by rw [← h]);have h2 := millB_iff.2 hd.v;refine ⟨hd, h2, ?_⟩;unfold massR;rw [if_pos h2, if_pos hv, hd.mass]
theorem JobsAt.take {lo hi n cap k : Nat} {ao : Option Addr} {w : World} {xs : List J} (h : JobsAt lo hi w (.slice ao n cap) xs) (hk : k ≤ n) : JobsAt lo hi w (.slice ao k cap) (xs.take k) := by
 obtain ⟨ao', cap', e, a1, a2, a3, a4⟩ := h;simp only [Value.slice.injEq] at e;obtain ⟨rfl, rfl, rfl⟩ := e;have hl : (xs.take k).length = k := by simp; omega
 refine ⟨ao, cap, by rw [hl], by omega, a2, a3, fun hn => ?_⟩;obtain ⟨b, o, ea, hb1, hb2, hc⟩ := a4 (by omega);refine ⟨b, o, ea, hb1, hb2, fun i hi => ?_⟩;simp only [List.getElem_take];exact hc i (by omega)
end Go.Proofs.YtmemgbklgcjobaaGreatDoor
