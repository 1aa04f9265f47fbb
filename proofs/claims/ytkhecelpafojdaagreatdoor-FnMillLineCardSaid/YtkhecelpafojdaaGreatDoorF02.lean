/-
  Parts of the proofs over mills, of: Draw, Shelf. Conditions: each theorem states its own.
-/
import Derived.Test.YtkhecelpafojdaaGreatDoorProg
import Derived.StillTailTactics
import Derived.Shelf.Strings.OnBuilder
import Derived.Shelf.Small.Bits
import Derived.Shelf.Small.Wraps
import Derived.Shelf.Strings.BuilderK
import Derived.Shelf.Utf8.RuneCount
import Derived.Shelf.Strings.Builder2Cap
import Derived.Shelf.Strconv.Itoa3
import Derived.Shelf.Strings.Shaped
import Derived.Shelf.Sort.Plain
import Derived.Shelf.Strings.SplitShaped
import Derived.Shelf.Strings.Explode
import Derived.Shelf.Unicode.DecodeAny
import Derived.Shelf.Slices.Turned
import Derived.Shelf.Slices.Clone
import Derived.Shelf.Slices.SearchI
import Derived.Shelf.Slices.In.SortNone
import Derived.Shelf.Slices.Empties2
import Derived.Shelf.SlicesE.Clone
import Derived.Test.YtkhecelpafojdaaGreatDoorF01
set_option linter.unusedSimpArgs false
set_option linter.unusedVariables false
set_option maxRecDepth 10000
set_option maxHeartbeats 64000000
namespace Go.Proofs.YtkhecelpafojdaaGreatDoor
open Go.RowKit
def BytesAt (lo hi : Nat) (w : World) (v : Value) (n : Nat) : Prop :=
 ∃ (ao : Option Addr) (cap : Nat), v = .slice ao n cap ∧ n ≤ cap ∧ cap ≤ 9223372036854775807 ∧ hi ≤ w.heap.size ∧
  (0 < n → ∃ b o, ao = some ⟨b, o, none⟩ ∧ lo ≤ b ∧ b < hi ∧ ∀ i, i < n → ∃ x : Int, w.cell? ⟨b, o + i, none⟩ = some (.int .u8 x) ∧ 0 ≤ x ∧ x ≤ 255)
structure RdAt (R : Nat) (w : World) (v : Value) (n : Nat) (p : Int) : Prop where
 row : w.rowIs R 83 2 (fun i => if i = 0 then v else .int .i64 p)
 bytes : BytesAt 0 R w v n
 few : n ≤ 2000
theorem BytesAt.other {lo hi l m : Nat} {w w' : World} {v : Value} {n : Nat} (h : BytesAt lo hi w v n) (k : ai l m w w') (hd : hi ≤ l) : BytesAt lo hi w' v n := by
 obtain ⟨ao, cap, e, h1, h2, h3, h4⟩ := h;refine ⟨ao, cap, e, h1, h2, Nat.le_trans h3 k.size, fun hn => ?_⟩;obtain ⟨b, o, e1, e2, e3, e4⟩ := h4 hn;refine ⟨b, o, e1, e2, e3, fun i hi => ?_⟩;obtain ⟨x, x1, x2⟩ := e4 i hi;exact ⟨x, by rw [World.cell?_of_block (w := w) (k.block b (by omega) (.inl (by omega)))]; exact x1, x2⟩
theorem BytesAt.below {lo hi B : Nat} {w w' : World} {v : Value} {n : Nat} (h : BytesAt lo hi w v n) (k : Below B w w') (hB : hi ≤ B) : BytesAt lo hi w' v n := by
 obtain ⟨ao, cap, e, h1, h2, h3, h4⟩ := h;refine ⟨ao, cap, e, h1, h2, Nat.le_trans h3 k.size, fun hn => ?_⟩;obtain ⟨b, o, e1, e2, e3, e4⟩ := h4 hn;refine ⟨b, o, e1, e2, e3, fun i hi => ?_⟩;obtain ⟨x, x1, x2⟩ := e4 i hi;exact ⟨x, by rw [World.cell?_of_block (w := w) (k.block b (by omega))]; exact x1, x2⟩
theorem RdAt.after {R : Nat} {w : World} {v : Value} {n : Nat} {p : Int} (h : RdAt R w v n p) (q : Int) : ai R (R + 1) w (w.setCell ⟨R, 1, none⟩ (.int .i64 q)) ∧ RdAt R (w.setCell ⟨R, 1, none⟩ (.int .i64 q)) v n q := by
 have ho : ai R (R + 1) w (w.setCell ⟨R, 1, none⟩ (.int .i64 q)) := ai.setCell (p := ⟨R, 1, none⟩) (ai.refl R (R + 1) w) (Nat.le_refl R) (Nat.lt_succ_self R) _;refine ⟨ho, (h.row.set 1 _).congr fun i hi => ?_, h.bytes.other ho nl, h.few⟩
 match i, hi with
 | 0, _ => simp
 | 1, _ => simp
theorem RdAt.drewN {R : Nat} {w : World} {v : Value} {n : Nat} {p : Int} (h : RdAt R w v n p) (m : Nat) : RdAt R (w.drewN m) v n p := ⟨h.row, h.bytes, h.few⟩
theorem i64_xor_nat (a b : Nat) (ha : a < 9223372036854775808) (hb : b < 9223372036854775808) : bits .xor .i64 (a : Int) (b : Int) = ((a ^^^ b : Nat) : Int) := by
 have hx : a ^^^ b < 2 ^ 63 := Nat.xor_lt_two_pow (by omega) (by omega);show IntKind.i64.wrap ((BitVec.ofInt 64 (a : Int) ^^^ BitVec.ofInt 64 (b : Int)).toNat : Int) = _
 rw [BitVec.toNat_xor, ofInt_i64 a ha, ofInt_i64 b hb, IntKind.wrap_i64];omega
theorem ai.drewN {lo hi : Nat} {a w : World} (h : ai lo hi a w) (n : Nat) : ai lo hi a (w.drewN n) := ⟨h.os, h.tape, h.output, h.size, h.block⟩
def Drawn (R : Nat) (w : World) (v : Value) (n : Nat) (p m : Int) (e : Ending) (w' : World) : Prop :=
 ∃ x, e = .returned (.int .i64 x) ∧ 0 ≤ x ∧ (1 ≤ m → x < m) ∧ (m < 1 → x = 0) ∧ ai R (R + 1) w w' ∧ RdAt R w' v n (p + 1)
theorem pick_any (R : Nat) (v : Value) (n : Nat) (k : Nat) (m : Int) (w : World) (h : RdAt R w v n k) (hp : k ≤ 1000000) (hm : -1000000 ≤ m ∧ m ≤ 1000000) :
 Calls Tryz.prog 37 #[.pointer (some ⟨R, 0, none⟩), .int .i64 m] w (Drawn R w v n k m) := by
 obtain ⟨ha1, ha2⟩ := h.after ((k : Int) + 1);obtain ⟨hr, hb, hn⟩ := h;obtain ⟨hm1, hm2⟩ := hm;have c0 : w.cell? ⟨R, 0, none⟩ = some v := by simpa using hr.cell (i := 0) (by omega)
 have c1 : w.cell? ⟨R, 1, none⟩ = some (.int .i64 k) := by simpa using hr.cell (i := 1) (by omega)
 have f1 := hr.frozen 1;have hlt := hr.lt;obtain ⟨ao, cap, rfl, hnc, hcap, hhi, hbs⟩ := id hb;have HA1 := hide ha1;have HA2 := hide ha2;have Hbs := hide hbs;clear hb hbs hr ha1 ha2;by_cases hlow : m < 1
 ·go_enter Tryz.func37, Tryz.ntmps37
  go_wp2_with fail
  go_ret;exact ⟨0, rfl, Int.le_refl _, fun h => by omega, fun _ => rfl, HA1.out, HA2.out⟩
 ·by_cases hn0 : n = 0
  ·subst hn0
   go_enter Tryz.func37, Tryz.ntmps37;go_wp2_with fail
   go_ret;exact ⟨0, rfl, Int.le_refl _, fun h => by omega, fun _ => rfl, HA1.out, HA2.out⟩
  ·obtain ⟨b, o, rfl, -, hbR, hcs⟩ := Hbs.out (by omega)
   have hn1 : 1 ≤ n := by omega
   have hnB : ((n : Int) == 0) = false := by simp; omega
   have hlowB : decide (m < 1) = false := by simp; omega
   by_cases hkn : k < n
   ·obtain ⟨x, hx, hx0, hx1⟩ := hcs k hkn
    have hx' : (w.setCell ⟨R, 1, none⟩ (.int .i64 ((k : Int) + 1))).cell? ⟨b, o + k, none⟩ = some (.int .u8 x) := by
     rw [World.cell?_of_block (w := w) (HA1.out.block b (by omega) (.inl (by simpa using hbR)))]; exact hx
    have hmod1 := Int.emod_nonneg x (show m ≠ 0 by omega);have hmod2 := Int.emod_lt_of_pos x (show 0 < m by omega);clear hcs hx;go_enter Tryz.func37, Tryz.ntmps37;go_wp2_with fail
    go_ret;exact ⟨x % m, rfl, hmod1, fun _ => hmod2, fun h => by omega, HA1.out, HA2.out⟩
   ·obtain ⟨i1, hi1, hi1n⟩ : ∃ i1 : Nat, (k : Int).tmod (n : Int) = i1 ∧ i1 < n := ⟨k % n, by rw [← Int.ofNat_tmod], Nat.mod_lt _ (by omega)⟩
    obtain ⟨i2, hi2, hi2n⟩ : ∃ i2 : Nat, ((k : Int) * 7 + 3).tmod (n : Int) = i2 ∧ i2 < n := ⟨(k * 7 + 3) % n, by rw [show (k : Int) * 7 + 3 = ((k * 7 + 3 : Nat) : Int) by simp, ← Int.ofNat_tmod], Nat.mod_lt _ (by omega)⟩;obtain ⟨q, hq, hqk⟩ : ∃ q : Nat, (k : Int).tdiv (n : Int) = q ∧ q ≤ k := ⟨k / n, by rw [← Int.ofNat_tdiv], Nat.div_le_self _ _⟩;obtain ⟨x1, hx1, hx10, hx11⟩ := hcs i1 hi1n;obtain ⟨x2, hx2, hx20, hx21⟩ := hcs i2 hi2n;have hx1' : (w.setCell ⟨R, 1, none⟩ (.int .i64 ((k : Int) + 1))).cell? ⟨b, o + i1, none⟩ = some (.int .u8 x1) := by
     rw [World.cell?_of_block (w := w) (HA1.out.block b (by omega) (.inl (by simpa using hbR)))]; exact hx1
    have hx2' : (w.setCell ⟨R, 1, none⟩ (.int .i64 ((k : Int) + 1))).cell? ⟨b, o + i2, none⟩ = some (.int .u8 x2) := by
     rw [World.cell?_of_block (w := w) (HA1.out.block b (by omega) (.inl (by simpa using hbR)))]; exact hx2
    have e1 : IntKind.i64.wrap ((k : Int) * 7) = (k : Int) * 7 := IntWalk.i64_in _ (by omega);have e2 : IntKind.i64.wrap ((k : Int) * 7 + 3) = (k : Int) * 7 + 3 := IntWalk.i64_in _ (by omega);have e3 : IntKind.i64.wrap (x1 * 131) = x1 * 131 := IntWalk.i64_in _ (by omega);have e4 : IntKind.i64.wrap (x2 * 1117) = x2 * 1117 := IntWalk.i64_in _ (by omega);have e5 : IntKind.i64.wrap (x1 * 131 + x2 * 1117) = x1 * 131 + x2 * 1117 := IntWalk.i64_in _ (by omega);have e6 : IntKind.i64.wrap ((k : Int) * 29) = (k : Int) * 29 := IntWalk.i64_in _ (by omega);have e7 : IntKind.i64.wrap (x1 * 131 + x2 * 1117 + (k : Int) * 29) = x1 * 131 + x2 * 1117 + (k : Int) * 29 := IntWalk.i64_in _ (by omega);have e8 : IntKind.i64.wrap ((q : Int) * 53) = (q : Int) * 53 := IntWalk.i64_in _ (by omega);have e9 : IntKind.i64.wrap (x1 * 131 + x2 * 1117 + (k : Int) * 29 + (q : Int) * 53) = x1 * 131 + x2 * 1117 + (k : Int) * 29 + (q : Int) * 53 := IntWalk.i64_in _ (by omega);have hne : ((n : Int) == 0) = false := hnB;have hkI : decide ((k : Int) < (n : Int)) = false := by simp; omega
    have e10 : IntKind.i64.wrap ((k : Int) + 1 - 1) = (k : Int) := by rw [IntWalk.i64_in] <;> omega
    clear hcs hx1 hx2;go_enter Tryz.func37, Tryz.ntmps37;go_wp2_with fail
    go_quiet (fail)
    obtain ⟨S, hS, hS2⟩ : ∃ S : Nat, x1 * 131 + x2 * 1117 + (k : Int) * 29 + (q : Int) * 53 = S ∧ S ≤ 1000000000 := ⟨(x1 * 131 + x2 * 1117 + (k : Int) * 29 + (q : Int) * 53).toNat, by omega, by omega⟩;rw [hS];obtain ⟨X, hX⟩ : ∃ X : Nat, bits .xor .i64 (S : Int) ((S : Int) / 64) = X := ⟨S ^^^ (S / 64), by
     rw [show (S : Int) / 64 = ((S / 64 : Nat) : Int) by simp];exact i64_xor_nat S (S / 64) (by omega) (by omega)⟩
    have hmod1 := Int.emod_nonneg (X : Int) (show m ≠ 0 by omega);have hmod2 := Int.emod_lt_of_pos (X : Int) (show 0 < m by omega);have HA3 := hide (HA1.out.drewN nq);have HA4 := hide (HA2.out.drewN nq);clear e1 e2 e3 e4 e5 e6 e7 e8 e9 e10 hi1 hi2 hq hS hx1' hx2';go_wp2_with fail
    go_ret;exact ⟨X % m, rfl, hmod1, fun _ => hmod2, fun h => by omega, HA3.out, HA4.out⟩
def Rd (R k : Nat) (w : World) : Prop := ∃ v n, ∃ p : Nat, p ≤ k ∧ RdAt R w v n p
theorem Rd.mono {R k m : Nat} {w : World} (h : Rd R k w) (hm : k ≤ m) : Rd R m w := by
 obtain ⟨v, n, p, h1, h2⟩ := h;exact ⟨v, n, p, by omega, h2⟩
theorem Rd.lt {R k : Nat} {w : World} (h : Rd R k w) : R < w.heap.size := by
 obtain ⟨v, n, p, h1, h2⟩ := h;exact h2.row.lt
theorem BytesAt.mono {lo hi hi' : Nat} {w : World} {v : Value} {n : Nat} (h : BytesAt lo hi w v n) (h1 : hi ≤ hi') (h2 : hi' ≤ w.heap.size) : BytesAt lo hi' w v n := by
 obtain ⟨ao, cap, e, a1, a2, a3, a4⟩ := h;refine ⟨ao, cap, e, a1, a2, h2, fun hn => ?_⟩;obtain ⟨b, o, e1, e2, e3, e4⟩ := a4 hn;exact ⟨b, o, e1, e2, by omega, e4⟩
theorem BytesAt.stay {w w' : World} {v : Value} {n : Nat} (h : BytesAt 0 w.heap.size w v n) (hb : Below w.heap.size w w') : BytesAt 0 w'.heap.size w' v n :=
 (h.below hb nl).mono hb.size nl
theorem BytesAt.drewN {lo hi : Nat} {w : World} {v : Value} {n : Nat} (h : BytesAt lo hi w v n) (m : Nat) : BytesAt lo hi (w.drewN m) v n := h
theorem Rd.drewN {R k : Nat} {w : World} (h : Rd R k w) (m : Nat) : Rd R k (w.drewN m) := by
 obtain ⟨v, n, p, h1, h2⟩ := h;exact ⟨v, n, p, h1, h2.drewN m⟩
theorem Rd.keep {R k B : Nat} {w w' : World} (h : Rd R k w) (hb : Below B w w') (hB : R < B) : Rd R k w' := by
 obtain ⟨v, n, p, h1, h2⟩ := h;exact ⟨v, n, p, h1, rowIs_below h2.row hb hB, h2.bytes.below hb (by omega), h2.few⟩
def Got (R k : Nat) (m : Int) (w : World) (e : Ending) (w' : World) : Prop :=
 ∃ x, e = .returned (.int .i64 x) ∧ 0 ≤ x ∧ x < m ∧ ai R (R + 1) w w' ∧ Rd R (k + 1) w'
theorem aH (R k : Nat) (m : Int) (w : World) (h : Rd R k w) (hk : k ≤ 1000000) (hm1 : 1 ≤ m) (hm2 : m ≤ 1000000) :
 Calls Tryz.prog 37 #[.pointer (some ⟨R, 0, none⟩), .int .i64 m] w (Got R k m w) := by
 obtain ⟨v, n, p, h1, h2⟩ := h;refine (pick_any R v n p m w h2 (by omega) ⟨by omega, hm2⟩).mono ?_;rintro e w' ⟨x, rfl, a1, a2, -, a4, a5⟩;exact ⟨x, rfl, a1, a2 hm1, a4, v, n, p + 1, by omega, by simpa using a5⟩
def Tossed (R k : Nat) (w : World) (e : Ending) (w' : World) : Prop :=
 ∃ b : Bool, e = .returned (.bool b) ∧ ai R (R + 1) w w' ∧ Rd R (k + 1) w'
theorem odd_any (R k : Nat) (m : Int) (w : World) (h : Rd R k w) (hk : k ≤ 1000000) (hm1 : 1 ≤ m) (hm2 : m ≤ 1000000) :
 Calls Tryz.prog 61 #[.pointer (some ⟨R, 0, none⟩), .int .i64 m] w (Tossed R k w) := by
 have HP := hide (aH R k m w h hk hm1 hm2);clear h;go_enter Tryz.func61, Tryz.ntmps61;go_wp2_with fail
 refine HP.out.mono ?_;rintro e w' ⟨x, rfl, hx0, hx1, ho, hr⟩;have HO := hide ho;have HR := hide hr;clear ho hr;go_wp2_with fail
 go_ret;exact ⟨_, rfl, HO.out, HR.out⟩
theorem BytesAt.len {lo hi : Nat} {w : World} {v : Value} {n : Nat} (h : BytesAt lo hi w v n) : n ≤ 9223372036854775807 := by
 obtain ⟨_, _, _, _, _, _, _⟩ := h; omega
theorem BytesAt.less {lo hi : Nat} {w : World} {ao : Option Addr} {n cap m : Nat} (h : BytesAt lo hi w (.slice ao n cap) n) (hm : m ≤ n) : BytesAt lo hi w (.slice ao m cap) m := by
 obtain ⟨ao', cap', e, h1, h2, h3, h4⟩ := h;simp only [Value.slice.injEq] at e;obtain ⟨rfl, -, rfl⟩ := e;refine ⟨ao, cap, rfl, by omega, h2, h3, fun hn => ?_⟩;obtain ⟨b, o, e1, e2, e3, e4⟩ := h4 (by omega);exact ⟨b, o, e1, e2, e3, fun i hi => e4 i (by omega)⟩
def Opened (w : World) (e : Ending) (w' : World) : Prop := ∃ R : Nat, e = .returned (.pointer (some ⟨R, 0, none⟩)) ∧ w.heap.size ≤ R ∧ Below w.heap.size w w' ∧ Rd R 0 w'
theorem opened {w : World} {v : Value} {n : Nat} (h : BytesAt 0 w.heap.size w v n) (hn : n ≤ 2000) :
 Below w.heap.size w (w.alloc (.cells #[v, .int .i64 0] 83)) ∧ Rd w.heap.size 0 (w.alloc (.cells #[v, .int .i64 0] 83)) := by
 have hb := (Below.refl w.heap.size w).alloc nl (.cells #[v, .int .i64 0] 83);refine ⟨hb, v, n, 0, Nat.le_refl _, World.rowIs_alloc _ _ _ _ (by intro i hi; simp at hi; match i, hi with | 0, _ => rfl | 1, _ => rfl), h.below hb nl, hn⟩
theorem open_any (v : Value) (n : Nat) (w : World) (h : BytesAt 0 w.heap.size w v n) :
 Calls Tryz.prog 17 #[v] w (Opened w) := by
 obtain ⟨ao, cap, rfl, hnc, hcap, hhi, hbs⟩ := id h;have HB := hide h;clear hbs h;by_cases hn : 2000 < n
 ·go_enter Tryz.func17, Tryz.ntmps17
  go_wp2_with fail
  go_ret;exact ⟨_, rfl, Nat.le_refl _, opened (HB.out.less (by omega)) nl⟩
 ·go_enter Tryz.func17, Tryz.ntmps17
  go_wp2_with fail
  go_ret;exact ⟨_, rfl, Nat.le_refl _, opened HB.out (by omega)⟩
end Go.Proofs.YtkhecelpafojdaaGreatDoor
namespace Go.Proofs
open Go.Shelf
def Tryz.lays156_ren : Go.Shelf.Ren := ⟨fun | 156 => 121 | 165 => 144 | 166 => 145 | 169 => 146 | 240 => 178 | 241 => 179 | 276 => 195 | 277 => 196 | n => n, fun | 31 => 89 | 9 => 9 | 3 => 3 | 4 => 4 | 0 => 0 | 20 => 20 | 72 => 155 | 76 => 159 | 70 => 153 | 37 => 22 | 75 => 158 | 127 => 186 | 164 => 198 | 5 => 5 | 80 => 161 | n => n, fun | n => n⟩
theorem Tryz.lays156 : Go.Proofs.Lays.n156 Tryz.prog Tryz.lays156_ren := {
 mixed := by kernel_rfl
 f156 := Tryz.func121.trans (congrArg some (by kernel_rfl))
 f165 := Tryz.func144.trans (congrArg some (by kernel_rfl))
 f166 := Tryz.func145.trans (congrArg some (by kernel_rfl))
 f169 := Tryz.func146.trans (congrArg some (by kernel_rfl))
 f240 := Tryz.func178.trans (congrArg some (by kernel_rfl))
 f241 := Tryz.func179.trans (congrArg some (by kernel_rfl))
 f276 := Tryz.func195.trans (congrArg some (by kernel_rfl))
 f277 := Tryz.func196.trans (congrArg some (by kernel_rfl))
 t0 := Tryz.underlying0
 a0 := Tryz.isAgg0
 z0 := Tryz.sizeOf0
 v0 := Tryz.zeroValue0
 t3 := Tryz.underlying3
 a3 := Tryz.isAgg3
 z3 := Tryz.sizeOf3
 v3 := Tryz.zeroValue3
 t4 := Tryz.underlying4
 a4 := Tryz.isAgg4
 z4 := Tryz.sizeOf4
 v4 := Tryz.zeroValue4
 t9 := Tryz.underlying9
 a9 := Tryz.isAgg9
 z9 := Tryz.sizeOf9
 v9 := Tryz.zeroValue9
 t20 := Tryz.underlying20
 a20 := Tryz.isAgg20
 z20 := Tryz.sizeOf20
 v20 := Tryz.zeroValue20
 t31 := Tryz.underlying89
 a31 := Tryz.isAgg89
 z31 := Tryz.sizeOf89
 v31 := Tryz.zeroValue89
 t37 := Tryz.underlying22
 a37 := Tryz.isAgg22
 z37 := Tryz.sizeOf22
 v37 := Tryz.zeroValue22
 t70 := Tryz.underlying153
 a70 := Tryz.isAgg153
 z70 := Tryz.sizeOf153
 v70 := Tryz.zeroValue153
 t72 := Tryz.underlying155
 a72 := Tryz.isAgg155
 z72 := Tryz.sizeOf155
 v72 := Tryz.zeroValue155
 t75 := Tryz.underlying158
 a75 := Tryz.isAgg158
 z75 := Tryz.sizeOf158
 v75 := Tryz.zeroValue158
 t76 := Tryz.underlying159
 a76 := Tryz.isAgg159
 z76 := Tryz.sizeOf159
 v76 := Tryz.zeroValue159
 t127 := Tryz.underlying186
 a127 := Tryz.isAgg186
 z127 := Tryz.sizeOf186
 v127 := Tryz.zeroValue186
 t164 := Tryz.underlying198
 a164 := Tryz.isAgg198
 z164 := Tryz.sizeOf198
 v164 := Tryz.zeroValue198 }
theorem Tryz.Builder_Extra_156 : Builder.Extra Tryz.prog Tryz.lays156_ren := {
 sizeBuilder := by kernel_rfl
 liesBuilder := by kernel_rfl
 t5 := Tryz.underlying5
 a5 := Tryz.isAgg5
 z5 := Tryz.sizeOf5
 v5 := Tryz.zeroValue5
 infoByte := by kernel_rfl
 cellsByte := by kernel_rfl
 sizeByte := by kernel_rfl
 neB5 := by decide }
open Go.RowKit in
theorem Tryz.strings_Join (bk o c : Nat) (xs : List ByteArray) (sep : ByteArray) (w : World) (hcells : ∀ (j : Nat) x, xs[j]? = some x → w.cell? ⟨bk, o + j, none⟩ = some (.string x)) (hbk : bk < w.heap.size) (hN : xs.length ≤ 140737488355328) (hcap : xs.length ≤ c) (hlen : (Lib.join (xs.map (·.data.toList)) sep.data.toList).length ≤ 140737488355328) :
 Calls Tryz.prog 121 #[.slice (some ⟨bk, o, none⟩) xs.length c, .string sep] w fun e w' => e = .returned (.string ⟨(Lib.join (xs.map (·.data.toList)) sep.data.toList).toArray⟩) ∧ Below w.heap.size w w' := Any.strings_Join Tryz.lays156 Tryz.Builder_Extra_156 bk o c xs sep w hcells hbk hN hcap hlen
def Tryz.laysM171_ren : Go.Shelf.Ren := ⟨fun | 171 => 46 | 243 => 98 | 246 => 129 | 283 => 158 | 284 => 159 | 285 => 160 | 286 => 161 | 129 => 172 | 317 => 182 | 318 => 183 | 319 => 184 | 320 => 185 | 337 => 197 | 338 => 198 | n => n, fun | 3 => 3 | 9 => 9 | 2 => 2 | 4 => 4 | 171 => 168 | 0 => 0 | 53 => 169 | 37 => 22 | 5 => 5 | 173 => 172 | 212 => 190 | 51 => 182 | 20 => 20 | 213 => 191 | 46 => 147 | 232 => 208 | 233 => 209 | n => n, fun | 17 => 2 | 18 => 5 | 19 => 6 | n => n⟩
theorem Tryz.laysM171 : Go.Proofs.LaysM.n171 Tryz.prog Tryz.laysM171_ren := {
 mixed := by kernel_rfl
 f129 := Tryz.func172.trans (congrArg some (by kernel_rfl))
 f171 := Tryz.func46.trans (congrArg some (by kernel_rfl))
 f243 := Tryz.func98.trans (congrArg some (by kernel_rfl))
 f246 := Tryz.func129.trans (congrArg some (by kernel_rfl))
 f283 := Tryz.func158.trans (congrArg some (by kernel_rfl))
 f284 := Tryz.func159.trans (congrArg some (by kernel_rfl))
 f285 := Tryz.func160.trans (congrArg some (by kernel_rfl))
 f286 := Tryz.func161.trans (congrArg some (by kernel_rfl))
 f317 := Tryz.func182.trans (congrArg some (by kernel_rfl))
 f318 := Tryz.func183.trans (congrArg some (by kernel_rfl))
 f319 := Tryz.func184.trans (congrArg some (by kernel_rfl))
 f320 := Tryz.func185.trans (congrArg some (by kernel_rfl))
 f337 := Tryz.func197.trans (congrArg some (by kernel_rfl))
 f338 := Tryz.func198.trans (congrArg some (by kernel_rfl))
 t0 := Tryz.underlying0
 a0 := Tryz.isAgg0
 z0 := Tryz.sizeOf0
 v0 := Tryz.zeroValue0
 t2 := Tryz.underlying2
 a2 := Tryz.isAgg2
 z2 := Tryz.sizeOf2
 v2 := Tryz.zeroValue2
 t3 := Tryz.underlying3
 a3 := Tryz.isAgg3
 z3 := Tryz.sizeOf3
 v3 := Tryz.zeroValue3
 t4 := Tryz.underlying4
 a4 := Tryz.isAgg4
 z4 := Tryz.sizeOf4
 v4 := Tryz.zeroValue4
 t5 := Tryz.underlying5
 a5 := Tryz.isAgg5
 z5 := Tryz.sizeOf5
 v5 := Tryz.zeroValue5
 t9 := Tryz.underlying9
 a9 := Tryz.isAgg9
 z9 := Tryz.sizeOf9
 v9 := Tryz.zeroValue9
 t20 := Tryz.underlying20
 a20 := Tryz.isAgg20
 z20 := Tryz.sizeOf20
 v20 := Tryz.zeroValue20
 t37 := Tryz.underlying22
 a37 := Tryz.isAgg22
 z37 := Tryz.sizeOf22
 v37 := Tryz.zeroValue22
 t46 := Tryz.underlying147
 a46 := Tryz.isAgg147
 z46 := Tryz.sizeOf147
 v46 := Tryz.zeroValue147
 t51 := Tryz.underlying182
 a51 := Tryz.isAgg182
 z51 := Tryz.sizeOf182
 v51 := Tryz.zeroValue182
 t53 := Tryz.underlying169
 a53 := Tryz.isAgg169
 z53 := Tryz.sizeOf169
 v53 := Tryz.zeroValue169
 t171 := Tryz.underlying168
 a171 := Tryz.isAgg168
 z171 := Tryz.sizeOf168
 v171 := Tryz.zeroValue168
 t173 := Tryz.underlying172
 a173 := Tryz.isAgg172
 z173 := Tryz.sizeOf172
 v173 := Tryz.zeroValue172
 t212 := Tryz.underlying190
 a212 := Tryz.isAgg190
 z212 := Tryz.sizeOf190
 v212 := Tryz.zeroValue190
 t213 := Tryz.underlying191
 a213 := Tryz.isAgg191
 z213 := Tryz.sizeOf191
 t232 := Tryz.underlying208
 a232 := Tryz.isAgg208
 z232 := Tryz.sizeOf208
 v232 := Tryz.zeroValue208
 t233 := Tryz.underlying209
 a233 := Tryz.isAgg209
 z233 := Tryz.sizeOf209
 v233 := Tryz.zeroValue209
 g17 := by kernel_rfl
 g18 := by kernel_rfl
 g19 := by kernel_rfl
 i0 := by kernel_rfl
 i2 := by kernel_rfl
 i3 := by kernel_rfl
 i4 := by kernel_rfl
 i5 := by kernel_rfl
 i9 := by kernel_rfl
 i20 := by kernel_rfl
 i37 := by kernel_rfl
 i46 := by kernel_rfl
 i51 := by kernel_rfl
 i53 := by kernel_rfl
 i171 := by kernel_rfl
 i173 := by kernel_rfl
 i212 := by kernel_rfl
 i232 := by kernel_rfl
 i233 := by kernel_rfl
 m17 := by kernel_rfl
 m18 := by kernel_rfl
 m19 := by kernel_rfl }
open Go.RowKit Go.Sort Go.Lib in
theorem Tryz.strconv_Itoa (n : Int) (h0 : -9223372036854775808 ≤ n) (h1 : n ≤ 9223372036854775807) (w : World) (htab : Lib.TabIs Tryz.prog w "internal/strconv.uint64pow10" .u64 Lib.pow10Tab) :
 Calls Tryz.prog 46 #[.int .i64 n] w fun e w' => e = .returned (.string ⟨(Lib.itoa n).toArray⟩) ∧ ∃ k os, w' = grow (w.drewN k) os := Any.strconv_Itoa Tryz.laysM171 n h0 h1 w htab
def Tryz.lays145_ren : Go.Shelf.Ren := ⟨fun | 145 => 39 | 220 => 94 | 219 => 128 | 217 => 154 | 225 => 155 | 224 => 156 | 267 => 157 | 266 => 180 | 314 => 181 | n => n, fun | 9 => 9 | 4 => 4 | 59 => 68 | 3 => 3 | 5 => 5 | 46 => 147 | 146 => 187 | 51 => 182 | n => n, fun | 1 => 1 | n => n⟩
theorem Tryz.lays145 : Go.Proofs.Lays.n145 Tryz.prog Tryz.lays145_ren := {
 mixed := by kernel_rfl
 f145 := Tryz.func39.trans (congrArg some (by kernel_rfl))
 f217 := Tryz.func154.trans (congrArg some (by kernel_rfl))
 f219 := Tryz.func128.trans (congrArg some (by kernel_rfl))
 f220 := Tryz.func94.trans (congrArg some (by kernel_rfl))
 f224 := Tryz.func156.trans (congrArg some (by kernel_rfl))
 f225 := Tryz.func155.trans (congrArg some (by kernel_rfl))
 f266 := Tryz.func180.trans (congrArg some (by kernel_rfl))
 f267 := Tryz.func157.trans (congrArg some (by kernel_rfl))
 f314 := Tryz.func181.trans (congrArg some (by kernel_rfl))
 t3 := Tryz.underlying3
 a3 := Tryz.isAgg3
 z3 := Tryz.sizeOf3
 v3 := Tryz.zeroValue3
 t4 := Tryz.underlying4
 a4 := Tryz.isAgg4
 z4 := Tryz.sizeOf4
 v4 := Tryz.zeroValue4
 t5 := Tryz.underlying5
 a5 := Tryz.isAgg5
 z5 := Tryz.sizeOf5
 v5 := Tryz.zeroValue5
 t9 := Tryz.underlying9
 a9 := Tryz.isAgg9
 z9 := Tryz.sizeOf9
 v9 := Tryz.zeroValue9
 t46 := Tryz.underlying147
 a46 := Tryz.isAgg147
 z46 := Tryz.sizeOf147
 v46 := Tryz.zeroValue147
 t51 := Tryz.underlying182
 a51 := Tryz.isAgg182
 z51 := Tryz.sizeOf182
 v51 := Tryz.zeroValue182
 t59 := Tryz.underlying68
 a59 := Tryz.isAgg68
 z59 := Tryz.sizeOf68
 v59 := Tryz.zeroValue68
 t146 := Tryz.underlying187
 a146 := Tryz.isAgg187
 z146 := Tryz.sizeOf187
 v146 := Tryz.zeroValue187
 g1 := by kernel_rfl }
open Go.RowKit Go.Lib in
theorem Tryz.strings_Cut (s sep : ByteArray) (m : Int) (w : World) (hs : s.size < 4294967281) (hm : w.cell? ⟨1, 0, none⟩ = some (.int .i64 m)) :
 Calls Tryz.prog 39 #[.string s, .string sep] w fun e w' => e = .returned (.tuple #[.string ⟨(Lib.cut s.data.toList sep.data.toList).1.toArray⟩, .string ⟨(Lib.cut s.data.toList sep.data.toList).2.1.toArray⟩, .bool (Lib.cut s.data.toList sep.data.toList).2.2]) ∧ ∃ n, w' = w.drewN n := Any.strings_Cut Tryz.lays145 s sep m w hs hm
def Tryz.lays189_ren : Go.Shelf.Ren := ⟨fun | 189 => 102 | 125 => 132 | 257 => 131 | 128 => 171 | 129 => 172 | 294 => 162 | 295 => 163 | 296 => 164 | 297 => 165 | 298 => 166 | 299 => 167 | 216 => 168 | 300 => 169 | 301 => 170 | 328 => 186 | 329 => 187 | 330 => 188 | 331 => 189 | 332 => 190 | 215 => 191 | 343 => 199 | n => n, fun | 28 => 27 | 3 => 3 | 46 => 147 | 0 => 0 | 51 => 182 | 53 => 169 | 4 => 4 | 183 => 176 | 182 => 175 | 131 => 92 | 5 => 5 | 9 => 9 | 218 => 192 | 222 => 196 | 228 => 201 | 229 => 202 | n => n, fun | n => n⟩
theorem Tryz.lays189 : Go.Proofs.Lays.n189 Tryz.prog Tryz.lays189_ren := {
 mixed := by kernel_rfl
 f125 := Tryz.func132.trans (congrArg some (by kernel_rfl))
 f128 := Tryz.func171.trans (congrArg some (by kernel_rfl))
 f129 := Tryz.func172.trans (congrArg some (by kernel_rfl))
 f189 := Tryz.func102.trans (congrArg some (by kernel_rfl))
 f215 := Tryz.func191.trans (congrArg some (by kernel_rfl))
 f216 := Tryz.func168.trans (congrArg some (by kernel_rfl))
 f257 := Tryz.func131.trans (congrArg some (by kernel_rfl))
 f294 := Tryz.func162.trans (congrArg some (by kernel_rfl))
 f295 := Tryz.func163.trans (congrArg some (by kernel_rfl))
 f296 := Tryz.func164.trans (congrArg some (by kernel_rfl))
 f297 := Tryz.func165.trans (congrArg some (by kernel_rfl))
 f298 := Tryz.func166.trans (congrArg some (by kernel_rfl))
 f299 := Tryz.func167.trans (congrArg some (by kernel_rfl))
 f300 := Tryz.func169.trans (congrArg some (by kernel_rfl))
 f301 := Tryz.func170.trans (congrArg some (by kernel_rfl))
 f328 := Tryz.func186.trans (congrArg some (by kernel_rfl))
 f329 := Tryz.func187.trans (congrArg some (by kernel_rfl))
 f330 := Tryz.func188.trans (congrArg some (by kernel_rfl))
 f331 := Tryz.func189.trans (congrArg some (by kernel_rfl))
 f332 := Tryz.func190.trans (congrArg some (by kernel_rfl))
 f343 := Tryz.func199.trans (congrArg some (by kernel_rfl))
 t0 := Tryz.underlying0
 a0 := Tryz.isAgg0
 z0 := Tryz.sizeOf0
 v0 := Tryz.zeroValue0
 t3 := Tryz.underlying3
 a3 := Tryz.isAgg3
 z3 := Tryz.sizeOf3
 v3 := Tryz.zeroValue3
 t4 := Tryz.underlying4
 a4 := Tryz.isAgg4
 z4 := Tryz.sizeOf4
 v4 := Tryz.zeroValue4
 t5 := Tryz.underlying5
 a5 := Tryz.isAgg5
 z5 := Tryz.sizeOf5
 v5 := Tryz.zeroValue5
 t9 := Tryz.underlying9
 a9 := Tryz.isAgg9
 z9 := Tryz.sizeOf9
 v9 := Tryz.zeroValue9
 t28 := Tryz.underlying27
 a28 := Tryz.isAgg27
 z28 := Tryz.sizeOf27
 v28 := Tryz.zeroValue27
 t46 := Tryz.underlying147
 a46 := Tryz.isAgg147
 z46 := Tryz.sizeOf147
 v46 := Tryz.zeroValue147
 t51 := Tryz.underlying182
 a51 := Tryz.isAgg182
 z51 := Tryz.sizeOf182
 v51 := Tryz.zeroValue182
 t53 := Tryz.underlying169
 a53 := Tryz.isAgg169
 z53 := Tryz.sizeOf169
 v53 := Tryz.zeroValue169
 t131 := Tryz.underlying92
 a131 := Tryz.isAgg92
 z131 := Tryz.sizeOf92
 v131 := Tryz.zeroValue92
 t182 := Tryz.underlying175
 a182 := Tryz.isAgg175
 z182 := Tryz.sizeOf175
 v182 := Tryz.zeroValue175
 t183 := Tryz.underlying176
 a183 := Tryz.isAgg176
 z183 := Tryz.sizeOf176
 v183 := Tryz.zeroValue176
 t218 := Tryz.underlying192
 a218 := Tryz.isAgg192
 z218 := Tryz.sizeOf192
 v218 := Tryz.zeroValue192
 t222 := Tryz.underlying196
 a222 := Tryz.isAgg196
 z222 := Tryz.sizeOf196
 v222 := Tryz.zeroValue196
 t228 := Tryz.underlying201
 a228 := Tryz.isAgg201
 z228 := Tryz.sizeOf201
 v228 := Tryz.zeroValue201
 t229 := Tryz.underlying202
 a229 := Tryz.isAgg202
 z229 := Tryz.sizeOf202
 v229 := Tryz.zeroValue202 }
open Go.Sort Go.RowKit in
theorem Tryz.slices_Sort_int (blk off cap : Nat) (zs : List Int) (w : World) (hH : Holds (Value.int .i64) w blk off zs.toArray) (hblk : blk < w.heap.size) (hsz : zs.length < 4611686018427387904) :
 Calls Tryz.prog 102 #[.slice (some ⟨blk, off, none⟩) zs.length cap] w fun e w' =>
  e = .returned (.tuple #[]) ∧ ∃ n os, w' = grow (putRow (Value.int .i64) (Sort.ahead w n) blk off (zs.mergeSort fun x y => decide (x ≤ y)).toArray) os := Any.slices_Sort_int Tryz.lays189 blk off cap zs w hH hblk hsz
def Tryz.lays146_ren : Go.Shelf.Ren := ⟨fun | 146 => 62 | 221 => 107 | 268 => 135 | 138 => 136 | 143 => 137 | 195 => 173 | 197 => 174 | 218 => 175 | 219 => 128 | 260 => 192 | 217 => 154 | 225 => 155 | 224 => 156 | 267 => 157 | 266 => 180 | 314 => 181 | n => n, fun | 9 => 9 | 31 => 89 | 3 => 3 | 4 => 4 | 0 => 0 | 105 => 183 | 21 => 21 | 5 => 5 | 46 => 147 | 119 => 204 | 139 => 207 | 138 => 206 | 146 => 187 | 51 => 182 | n => n, fun | 1 => 1 | 3 => 3 | 4 => 4 | n => n⟩
theorem Tryz.lays146 : Go.Proofs.Lays.n146 Tryz.prog Tryz.lays146_ren := {
 mixed := by kernel_rfl
 f138 := Tryz.func136.trans (congrArg some (by kernel_rfl))
 f143 := Tryz.func137.trans (congrArg some (by kernel_rfl))
 f146 := Tryz.func62.trans (congrArg some (by kernel_rfl))
 f195 := Tryz.func173.trans (congrArg some (by kernel_rfl))
 f197 := Tryz.func174.trans (congrArg some (by kernel_rfl))
 f217 := Tryz.func154.trans (congrArg some (by kernel_rfl))
 f218 := Tryz.func175.trans (congrArg some (by kernel_rfl))
 f219 := Tryz.func128.trans (congrArg some (by kernel_rfl))
 f221 := Tryz.func107.trans (congrArg some (by kernel_rfl))
 f224 := Tryz.func156.trans (congrArg some (by kernel_rfl))
 f225 := Tryz.func155.trans (congrArg some (by kernel_rfl))
 f260 := Tryz.func192.trans (congrArg some (by kernel_rfl))
 f266 := Tryz.func180.trans (congrArg some (by kernel_rfl))
 f267 := Tryz.func157.trans (congrArg some (by kernel_rfl))
 f268 := Tryz.func135.trans (congrArg some (by kernel_rfl))
 f314 := Tryz.func181.trans (congrArg some (by kernel_rfl))
 t0 := Tryz.underlying0
 a0 := Tryz.isAgg0
 z0 := Tryz.sizeOf0
 v0 := Tryz.zeroValue0
 t3 := Tryz.underlying3
 a3 := Tryz.isAgg3
 z3 := Tryz.sizeOf3
 v3 := Tryz.zeroValue3
 t4 := Tryz.underlying4
 a4 := Tryz.isAgg4
 z4 := Tryz.sizeOf4
 v4 := Tryz.zeroValue4
 t5 := Tryz.underlying5
 a5 := Tryz.isAgg5
 z5 := Tryz.sizeOf5
 v5 := Tryz.zeroValue5
 t9 := Tryz.underlying9
 a9 := Tryz.isAgg9
 z9 := Tryz.sizeOf9
 v9 := Tryz.zeroValue9
 t21 := Tryz.underlying21
 a21 := Tryz.isAgg21
 z21 := Tryz.sizeOf21
 v21 := Tryz.zeroValue21
 t31 := Tryz.underlying89
 a31 := Tryz.isAgg89
 z31 := Tryz.sizeOf89
 v31 := Tryz.zeroValue89
 t46 := Tryz.underlying147
 a46 := Tryz.isAgg147
 z46 := Tryz.sizeOf147
 v46 := Tryz.zeroValue147
 t51 := Tryz.underlying182
 a51 := Tryz.isAgg182
 z51 := Tryz.sizeOf182
 v51 := Tryz.zeroValue182
 t105 := Tryz.underlying183
 a105 := Tryz.isAgg183
 z105 := Tryz.sizeOf183
 v105 := Tryz.zeroValue183
 t119 := Tryz.underlying204
 a119 := Tryz.isAgg204
 z119 := Tryz.sizeOf204
 t138 := Tryz.underlying206
 a138 := Tryz.isAgg206
 z138 := Tryz.sizeOf206
 v138 := Tryz.zeroValue206
 t139 := Tryz.underlying207
 a139 := Tryz.isAgg207
 z139 := Tryz.sizeOf207
 v139 := Tryz.zeroValue207
 t146 := Tryz.underlying187
 a146 := Tryz.isAgg187
 z146 := Tryz.sizeOf187
 v146 := Tryz.zeroValue187
 g1 := by kernel_rfl
 g3 := by kernel_rfl
 g4 := by kernel_rfl }
open Go.RowKit Go.Lib in
theorem Tryz.strings_Split (s sep : ByteArray) (m : Int) (w : World) (hs : s.size < 4294967281) (hm : w.cell? ⟨1, 0, none⟩ = some (.int .i64 m)) (h1 : 1 ≤ sep.size) :
 Calls Tryz.prog 62 #[.string s, .string sep] w fun e w' =>
  e = .returned (.slice (some ⟨w.heap.size, 0, none⟩) (Lib.countB s sep + 1) (Lib.countB s sep + 1)) ∧ w' = w.alloc (.cells ((Lib.splitB sep 0 (Lib.countB s sep) s).map Value.string).toArray 9) := Any.strings_Split Tryz.lays146 (by kernel_rfl) s sep m w hs hm h1
def Tryz.laysM146_ren : Go.Shelf.Ren := ⟨fun | 146 => 62 | 221 => 107 | 268 => 135 | 138 => 136 | 143 => 137 | 195 => 173 | 197 => 174 | 218 => 175 | 219 => 128 | 260 => 192 | 217 => 154 | 225 => 155 | 224 => 156 | 267 => 157 | 266 => 180 | 314 => 181 | n => n, fun | 9 => 9 | 31 => 89 | 3 => 3 | 4 => 4 | 0 => 0 | 105 => 183 | 21 => 21 | 5 => 5 | 46 => 147 | 119 => 204 | 139 => 207 | 138 => 206 | 146 => 187 | 51 => 182 | n => n, fun | 1 => 1 | 3 => 3 | 4 => 4 | n => n⟩
theorem Tryz.laysM146 : Go.Proofs.LaysM.n146 Tryz.prog Tryz.laysM146_ren := {
 mixed := by kernel_rfl
 f138 := Tryz.func136.trans (congrArg some (by kernel_rfl))
 f143 := Tryz.func137.trans (congrArg some (by kernel_rfl))
 f146 := Tryz.func62.trans (congrArg some (by kernel_rfl))
 f195 := Tryz.func173.trans (congrArg some (by kernel_rfl))
 f197 := Tryz.func174.trans (congrArg some (by kernel_rfl))
 f217 := Tryz.func154.trans (congrArg some (by kernel_rfl))
 f218 := Tryz.func175.trans (congrArg some (by kernel_rfl))
 f219 := Tryz.func128.trans (congrArg some (by kernel_rfl))
 f221 := Tryz.func107.trans (congrArg some (by kernel_rfl))
 f224 := Tryz.func156.trans (congrArg some (by kernel_rfl))
 f225 := Tryz.func155.trans (congrArg some (by kernel_rfl))
 f260 := Tryz.func192.trans (congrArg some (by kernel_rfl))
 f266 := Tryz.func180.trans (congrArg some (by kernel_rfl))
 f267 := Tryz.func157.trans (congrArg some (by kernel_rfl))
 f268 := Tryz.func135.trans (congrArg some (by kernel_rfl))
 f314 := Tryz.func181.trans (congrArg some (by kernel_rfl))
 t0 := Tryz.underlying0
 a0 := Tryz.isAgg0
 z0 := Tryz.sizeOf0
 v0 := Tryz.zeroValue0
 t3 := Tryz.underlying3
 a3 := Tryz.isAgg3
 z3 := Tryz.sizeOf3
 v3 := Tryz.zeroValue3
 t4 := Tryz.underlying4
 a4 := Tryz.isAgg4
 z4 := Tryz.sizeOf4
 v4 := Tryz.zeroValue4
 t5 := Tryz.underlying5
 a5 := Tryz.isAgg5
 z5 := Tryz.sizeOf5
 v5 := Tryz.zeroValue5
 t9 := Tryz.underlying9
 a9 := Tryz.isAgg9
 z9 := Tryz.sizeOf9
 v9 := Tryz.zeroValue9
 t21 := Tryz.underlying21
 a21 := Tryz.isAgg21
 z21 := Tryz.sizeOf21
 v21 := Tryz.zeroValue21
 t31 := Tryz.underlying89
 a31 := Tryz.isAgg89
 z31 := Tryz.sizeOf89
 v31 := Tryz.zeroValue89
 t46 := Tryz.underlying147
 a46 := Tryz.isAgg147
 z46 := Tryz.sizeOf147
 v46 := Tryz.zeroValue147
 t51 := Tryz.underlying182
 a51 := Tryz.isAgg182
 z51 := Tryz.sizeOf182
 v51 := Tryz.zeroValue182
 t105 := Tryz.underlying183
 a105 := Tryz.isAgg183
 z105 := Tryz.sizeOf183
 v105 := Tryz.zeroValue183
 t119 := Tryz.underlying204
 a119 := Tryz.isAgg204
 z119 := Tryz.sizeOf204
 t138 := Tryz.underlying206
 a138 := Tryz.isAgg206
 z138 := Tryz.sizeOf206
 v138 := Tryz.zeroValue206
 t139 := Tryz.underlying207
 a139 := Tryz.isAgg207
 z139 := Tryz.sizeOf207
 v139 := Tryz.zeroValue207
 t146 := Tryz.underlying187
 a146 := Tryz.isAgg187
 z146 := Tryz.sizeOf187
 v146 := Tryz.zeroValue187
 g1 := by kernel_rfl
 g3 := by kernel_rfl
 g4 := by kernel_rfl
 i0 := by kernel_rfl
 i3 := by kernel_rfl
 i4 := by kernel_rfl
 i5 := by kernel_rfl
 i9 := by kernel_rfl
 i21 := by kernel_rfl
 i31 := by kernel_rfl
 i46 := by kernel_rfl
 i51 := by kernel_rfl
 i105 := by kernel_rfl
 i138 := by kernel_rfl
 i139 := by kernel_rfl
 i146 := by kernel_rfl
 m1 := by kernel_rfl
 s1_3 := fun w h => Go.Proofs.cell_of_shapedOpen_int (zero := #[.int .i64 0]) (t := 3) h (of_decide_eq_true (by kernel_rfl)) (by kernel_rfl) rfl (by kernel_rfl) (by kernel_rfl) Tryz.underlying3
 m3 := by kernel_rfl
 m4 := by kernel_rfl }
def Tryz.lays108_ren : Go.Shelf.Ren := ⟨fun | 108 => 130 | n => n, fun | 28 => 27 | 3 => 3 | 0 => 0 | 4 => 4 | n => n, fun | n => n⟩
theorem Tryz.lays108 : Go.Proofs.Lays.n108 Tryz.prog Tryz.lays108_ren := {
 mixed := by kernel_rfl
 f108 := Tryz.func130.trans (congrArg some (by kernel_rfl))
 t0 := Tryz.underlying0
 a0 := Tryz.isAgg0
 z0 := Tryz.sizeOf0
 v0 := Tryz.zeroValue0
 t3 := Tryz.underlying3
 a3 := Tryz.isAgg3
 z3 := Tryz.sizeOf3
 v3 := Tryz.zeroValue3
 t4 := Tryz.underlying4
 a4 := Tryz.isAgg4
 z4 := Tryz.sizeOf4
 v4 := Tryz.zeroValue4
 t28 := Tryz.underlying27
 a28 := Tryz.isAgg27
 z28 := Tryz.sizeOf27
 v28 := Tryz.zeroValue27 }
open Go.Lib in
theorem Tryz.slices_Index_int (b off n c : Nat) (zs : List Int) (x : Int) (w : World) (hz : n ≤ zs.length) (hbig : n ≤ 9223372036854775807) (hc : ∀ j, j < zs.length → w.cell? ⟨b, off + j, none⟩ = some (.int .i64 (zs.getD j 0))) :
 Calls Tryz.prog 130 #[.slice (some ⟨b, off, none⟩) n c, .int .i64 x] w fun e w' => e = .returned (.int .i64 (Lib.idxOf (zs.take n) x)) ∧ w' = w := Any.slices_Index_int Tryz.lays108 b off n c zs x w hz hbig hc
open Go.Lib in
theorem Tryz.slices_Index_int_empty (a : Option Addr) (c : Nat) (x : Int) (w : World) :
 Calls Tryz.prog 130 #[.slice a 0 c, .int .i64 x] w fun e w' => e = .returned (.int .i64 (Lib.idxOf [] x)) ∧ w' = w := Any.slices_Index_int_empty Tryz.lays108 a c x w
def Tryz.lays107_ren : Go.Shelf.Ren := ⟨fun | 107 => 101 | 108 => 130 | n => n, fun | 28 => 27 | 3 => 3 | 4 => 4 | 0 => 0 | n => n, fun | n => n⟩
theorem Tryz.lays107 : Go.Proofs.Lays.n107 Tryz.prog Tryz.lays107_ren := {
 mixed := by kernel_rfl
 f107 := Tryz.func101.trans (congrArg some (by kernel_rfl))
 f108 := Tryz.func130.trans (congrArg some (by kernel_rfl))
 t0 := Tryz.underlying0
 a0 := Tryz.isAgg0
 z0 := Tryz.sizeOf0
 v0 := Tryz.zeroValue0
 t3 := Tryz.underlying3
 a3 := Tryz.isAgg3
 z3 := Tryz.sizeOf3
 v3 := Tryz.zeroValue3
 t4 := Tryz.underlying4
 a4 := Tryz.isAgg4
 z4 := Tryz.sizeOf4
 v4 := Tryz.zeroValue4
 t28 := Tryz.underlying27
 a28 := Tryz.isAgg27
 z28 := Tryz.sizeOf27
 v28 := Tryz.zeroValue27 }
open Go.Lib in
theorem Tryz.slices_Contains_int (b off n c : Nat) (zs : List Int) (x : Int) (w : World) (hz : n ≤ zs.length) (hbig : n ≤ 9223372036854775807) (hc : ∀ j, j < zs.length → w.cell? ⟨b, off + j, none⟩ = some (.int .i64 (zs.getD j 0))) :
 Calls Tryz.prog 101 #[.slice (some ⟨b, off, none⟩) n c, .int .i64 x] w fun e w' => e = .returned (.bool ((zs.take n).contains x)) ∧ w' = w := Any.slices_Contains_int Tryz.lays107 b off n c zs x w hz hbig hc
open Go.Lib in
theorem Tryz.slices_Contains_int_empty (a : Option Addr) (c : Nat) (x : Int) (w : World) :
 Calls Tryz.prog 101 #[.slice a 0 c, .int .i64 x] w fun e w' => e = .returned (.bool false) ∧ w' = w := Any.slices_Contains_int_empty Tryz.lays107 a c x w
def Tryz.lays111_ren : Go.Shelf.Ren := ⟨fun | 111 => 53 | n => n, fun | 28 => 27 | 3 => 3 | 4 => 4 | 0 => 0 | n => n, fun | n => n⟩
theorem Tryz.lays111 : Go.Proofs.Lays.n111 Tryz.prog Tryz.lays111_ren := {
 mixed := by kernel_rfl
 f111 := Tryz.func53.trans (congrArg some (by kernel_rfl))
 t0 := Tryz.underlying0
 a0 := Tryz.isAgg0
 z0 := Tryz.sizeOf0
 v0 := Tryz.zeroValue0
 t3 := Tryz.underlying3
 a3 := Tryz.isAgg3
 z3 := Tryz.sizeOf3
 v3 := Tryz.zeroValue3
 t4 := Tryz.underlying4
 a4 := Tryz.isAgg4
 z4 := Tryz.sizeOf4
 v4 := Tryz.zeroValue4
 t28 := Tryz.underlying27
 a28 := Tryz.isAgg27
 z28 := Tryz.sizeOf27
 v28 := Tryz.zeroValue27 }
open Go.RowKit Go.Lib in
theorem Tryz.slices_Equal_int (b1 o1 n c b2 o2 m d : Nat) (xs ys : List Int) (w : World) (hx : n ≤ xs.length) (hy : m ≤ ys.length) (hbig : n ≤ 9223372036854775807) (hbig2 : m ≤ 9223372036854775807) (hc1 : ∀ j, j < xs.length → w.cell? ⟨b1, o1 + j, none⟩ = some (.int .i64 (xs.getD j 0))) (hc2 : ∀ j, j < ys.length → w.cell? ⟨b2, o2 + j, none⟩ = some (.int .i64 (ys.getD j 0))) :
 Calls Tryz.prog 53 #[.slice (some ⟨b1, o1, none⟩) n c, .slice (some ⟨b2, o2, none⟩) m d] w fun e w' => e = .returned (.bool (xs.take n == ys.take m)) ∧ ∃ q, w' = w.drewN q := Any.slices_Equal_int Tryz.lays111 b1 o1 n c b2 o2 m d xs ys w hx hy hbig hbig2 hc1 hc2
open Go.RowKit Go.Lib in
theorem Tryz.slices_Equal_int_empty (a1 a2 : Option Addr) (c m d : Nat) (w : World) (hbig2 : m ≤ 9223372036854775807) :
 Calls Tryz.prog 53 #[.slice a1 0 c, .slice a2 m d] w fun e w' => e = .returned (.bool (decide (m = 0))) ∧ w' = w := Any.slices_Equal_int_empty Tryz.lays111 a1 a2 c m d w hbig2
open Go.RowKit Go.Sort in
theorem Tryz.slices_Sort_int_none (p : Option Addr) (cap : Nat) (w : World) :
 Calls Tryz.prog 102 #[.slice p 0 cap] w fun e w' => e = .returned (.tuple #[]) ∧ w' = w := Any.slices_Sort_int_none Tryz.lays189 p cap w
open Go.RowKit Go.Lib in
theorem Tryz.slices_Equal_int_lens (a1 a2 : Option Addr) (n c m d : Nat) (w : World) (hnm : n ≠ m) :
 Calls Tryz.prog 53 #[.slice a1 n c, .slice a2 m d] w fun e w' => e = .returned (.bool false) ∧ w' = w := Any.slices_Equal_int_lens Tryz.lays111 a1 a2 n c m d w hnm
end Go.Proofs
