/-
  The draws: reading a code byte by byte. Weak contracts: some number in its bounds; some slice of some jobs.
-/
import Derived.Test.YtbafifilklfafaaDoorWalkB
import Derived.Deep.RegionWith
import Derived.Outline
namespace Go.Proofs.YtbafifilklfafaaDoor
open Go.RowKit

/-- The slice v has n bytes, in blocks [lo, hi). -/
def BytesAt (lo hi : Nat) (w : World) (v : Value) (n : Nat) : Prop :=
  ∃ (ao : Option Addr) (cap : Nat), v = .slice ao n cap ∧ n ≤ cap ∧ cap ≤ 9223372036854775807 ∧ hi ≤ w.heap.size ∧
    (0 < n → ∃ b o, ao = some ⟨b, o, none⟩ ∧ lo ≤ b ∧ b < hi ∧ ∀ i, i < n → ∃ x : Int, w.cell? ⟨b, o + i, none⟩ = some (.int .u8 x) ∧ 0 ≤ x ∧ x ≤ 255)

/-- Block R is a reader at position p over v. -/
structure RdAt (R : Nat) (w : World) (v : Value) (n : Nat) (p : Int) : Prop where
  row : w.rowIs R 100 2 (fun i => if i = 0 then v else .int .i64 p)
  bytes : BytesAt 0 R w v n
  few : n ≤ 2000

theorem BytesAt.other {lo hi l m : Nat} {w w' : World} {v : Value} {n : Nat} (h : BytesAt lo hi w v n) (k : Other l m w w') (hd : hi ≤ l) : BytesAt lo hi w' v n := by
  obtain ⟨ao, cap, e, h1, h2, h3, h4⟩ := h
  refine ⟨ao, cap, e, h1, h2, Nat.le_trans h3 k.size, fun hn => ?_⟩
  obtain ⟨b, o, e1, e2, e3, e4⟩ := h4 hn
  refine ⟨b, o, e1, e2, e3, fun i hi => ?_⟩
  obtain ⟨x, x1, x2⟩ := e4 i hi
  exact ⟨x, by rw [World.cell?_of_block (w := w) (k.block b (by omega) (.inl (by omega)))]; exact x1, x2⟩
theorem BytesAt.below {lo hi B : Nat} {w w' : World} {v : Value} {n : Nat} (h : BytesAt lo hi w v n) (k : Below B w w') (hB : hi ≤ B) : BytesAt lo hi w' v n := by
  obtain ⟨ao, cap, e, h1, h2, h3, h4⟩ := h
  refine ⟨ao, cap, e, h1, h2, Nat.le_trans h3 k.size, fun hn => ?_⟩
  obtain ⟨b, o, e1, e2, e3, e4⟩ := h4 hn
  refine ⟨b, o, e1, e2, e3, fun i hi => ?_⟩
  obtain ⟨x, x1, x2⟩ := e4 i hi
  exact ⟨x, by rw [World.cell?_of_block (w := w) (k.block b (by omega))]; exact x1, x2⟩

theorem RdAt.after {R : Nat} {w : World} {v : Value} {n : Nat} {p : Int} (h : RdAt R w v n p) (q : Int) : Other R (R + 1) w (w.setCell ⟨R, 1, none⟩ (.int .i64 q)) ∧ RdAt R (w.setCell ⟨R, 1, none⟩ (.int .i64 q)) v n q := by
  have ho : Other R (R + 1) w (w.setCell ⟨R, 1, none⟩ (.int .i64 q)) := Other.setCell (p := ⟨R, 1, none⟩) (Other.refl R (R + 1) w) (Nat.le_refl R) (Nat.lt_succ_self R) _
  refine ⟨ho, (h.row.set 1 _).congr fun i hi => ?_, h.bytes.other ho (Nat.le_refl _), h.few⟩
  match i, hi with
  | 0, _ => simp
  | 1, _ => simp
theorem RdAt.drewN {R : Nat} {w : World} {v : Value} {n : Nat} {p : Int} (h : RdAt R w v n p) (m : Nat) : RdAt R (w.drewN m) v n p := ⟨h.row, h.bytes, h.few⟩

theorem i64_xor_nat (a b : Nat) (ha : a < 9223372036854775808) (hb : b < 9223372036854775808) : bits .xor .i64 (a : Int) (b : Int) = ((a ^^^ b : Nat) : Int) := by
  have hx : a ^^^ b < 2 ^ 63 := Nat.xor_lt_two_pow (by omega) (by omega)
  show IntKind.i64.wrap ((BitVec.ofInt 64 (a : Int) ^^^ BitVec.ofInt 64 (b : Int)).toNat : Int) = _
  rw [BitVec.toNat_xor, ofInt_i64 a ha, ofInt_i64 b hb, IntKind.wrap_i64]
  omega

theorem Other.drewN {lo hi : Nat} {a w : World} (h : Other lo hi a w) (n : Nat) : Other lo hi a (w.drewN n) := ⟨h.os, h.tape, h.output, h.size, h.block⟩

/-- What a draw answers. -/
def Drawn (R : Nat) (w : World) (v : Value) (n : Nat) (p m : Int) (e : Ending) (w' : World) : Prop :=
  ∃ x, e = .returned (.int .i64 x) ∧ 0 ≤ x ∧ (1 ≤ m → x < m) ∧ (m < 1 → x = 0) ∧ Other R (R + 1) w w' ∧ RdAt R w' v n (p + 1)

set_option maxRecDepth 10000 in
set_option maxHeartbeats 800000 in
theorem pick_any (R : Nat) (v : Value) (n : Nat) (k : Nat) (m : Int) (w : World) (h : RdAt R w v n k) (hp : k ≤ 1000000) (hm : -1000000 ≤ m ∧ m ≤ 1000000) :
    Calls Tryd.prog 24 #[.pointer (some ⟨R, 0, none⟩), .int .i64 m] w (Drawn R w v n k m) := by
  obtain ⟨ha1, ha2⟩ := h.after ((k : Int) + 1)
  obtain ⟨hr, hb, hn⟩ := h
  obtain ⟨hm1, hm2⟩ := hm
  have c0 : w.cell? ⟨R, 0, none⟩ = some v := by simpa using hr.cell (i := 0) (by omega)
  have c1 : w.cell? ⟨R, 1, none⟩ = some (.int .i64 k) := by simpa using hr.cell (i := 1) (by omega)
  have f1 := hr.frozen 1
  have hlt := hr.lt
  obtain ⟨ao, cap, rfl, hnc, hcap, hhi, hbs⟩ := id hb
  have HA1 := hide ha1
  have HA2 := hide ha2
  have Hbs := hide hbs
  clear hb hbs hr ha1 ha2
  by_cases hlow : m < 1
  · go_enter Tryd.func24, Tryd.ntmps24
    go_wp2_with fail
    go_ret
    exact ⟨0, rfl, Int.le_refl _, fun h => by omega, fun _ => rfl, HA1.out, HA2.out⟩
  · by_cases hn0 : n = 0
    · subst hn0
      go_enter Tryd.func24, Tryd.ntmps24
      go_wp2_with fail
      go_ret
      exact ⟨0, rfl, Int.le_refl _, fun h => by omega, fun _ => rfl, HA1.out, HA2.out⟩
    · obtain ⟨b, o, rfl, -, hbR, hcs⟩ := Hbs.out (by omega)
      have hn1 : 1 ≤ n := by omega
      have hnB : ((n : Int) == 0) = false := by simp; omega
      have hlowB : decide (m < 1) = false := by simp; omega
      by_cases hkn : k < n
      · obtain ⟨x, hx, hx0, hx1⟩ := hcs k hkn
        have hx' : (w.setCell ⟨R, 1, none⟩ (.int .i64 ((k : Int) + 1))).cell? ⟨b, o + k, none⟩ = some (.int .u8 x) := by
          rw [World.cell?_of_block (w := w) (HA1.out.block b (by omega) (.inl (by simpa using hbR)))]; exact hx
        have hmod1 := Int.emod_nonneg x (show m ≠ 0 by omega)
        have hmod2 := Int.emod_lt_of_pos x (show 0 < m by omega)
        clear hcs hx
        go_enter Tryd.func24, Tryd.ntmps24
        go_wp2_with fail
        go_ret
        exact ⟨x % m, rfl, hmod1, fun _ => hmod2, fun h => by omega, HA1.out, HA2.out⟩
      · obtain ⟨i1, hi1, hi1n⟩ : ∃ i1 : Nat, (k : Int).tmod (n : Int) = i1 ∧ i1 < n := ⟨k % n, by rw [← Int.ofNat_tmod], Nat.mod_lt _ (by omega)⟩
        obtain ⟨i2, hi2, hi2n⟩ : ∃ i2 : Nat, ((k : Int) * 7 + 3).tmod (n : Int) = i2 ∧ i2 < n := ⟨(k * 7 + 3) % n, by rw [show (k : Int) * 7 + 3 = ((k * 7 + 3 : Nat) : Int) by simp, ← Int.ofNat_tmod], Nat.mod_lt _ (by omega)⟩
        obtain ⟨q, hq, hqk⟩ : ∃ q : Nat, (k : Int).tdiv (n : Int) = q ∧ q ≤ k := ⟨k / n, by rw [← Int.ofNat_tdiv], Nat.div_le_self _ _⟩
        obtain ⟨x1, hx1, hx10, hx11⟩ := hcs i1 hi1n
        obtain ⟨x2, hx2, hx20, hx21⟩ := hcs i2 hi2n
        have hx1' : (w.setCell ⟨R, 1, none⟩ (.int .i64 ((k : Int) + 1))).cell? ⟨b, o + i1, none⟩ = some (.int .u8 x1) := by
          rw [World.cell?_of_block (w := w) (HA1.out.block b (by omega) (.inl (by simpa using hbR)))]; exact hx1
        have hx2' : (w.setCell ⟨R, 1, none⟩ (.int .i64 ((k : Int) + 1))).cell? ⟨b, o + i2, none⟩ = some (.int .u8 x2) := by
          rw [World.cell?_of_block (w := w) (HA1.out.block b (by omega) (.inl (by simpa using hbR)))]; exact hx2
        have e1 : IntKind.i64.wrap ((k : Int) * 7) = (k : Int) * 7 := IntWalk.i64_in _ (by omega)
        have e2 : IntKind.i64.wrap ((k : Int) * 7 + 3) = (k : Int) * 7 + 3 := IntWalk.i64_in _ (by omega)
        have e3 : IntKind.i64.wrap (x1 * 131) = x1 * 131 := IntWalk.i64_in _ (by omega)
        have e4 : IntKind.i64.wrap (x2 * 1117) = x2 * 1117 := IntWalk.i64_in _ (by omega)
        have e5 : IntKind.i64.wrap (x1 * 131 + x2 * 1117) = x1 * 131 + x2 * 1117 := IntWalk.i64_in _ (by omega)
        have e6 : IntKind.i64.wrap ((k : Int) * 29) = (k : Int) * 29 := IntWalk.i64_in _ (by omega)
        have e7 : IntKind.i64.wrap (x1 * 131 + x2 * 1117 + (k : Int) * 29) = x1 * 131 + x2 * 1117 + (k : Int) * 29 := IntWalk.i64_in _ (by omega)
        have e8 : IntKind.i64.wrap ((q : Int) * 53) = (q : Int) * 53 := IntWalk.i64_in _ (by omega)
        have e9 : IntKind.i64.wrap (x1 * 131 + x2 * 1117 + (k : Int) * 29 + (q : Int) * 53) = x1 * 131 + x2 * 1117 + (k : Int) * 29 + (q : Int) * 53 := IntWalk.i64_in _ (by omega)
        have hne : ((n : Int) == 0) = false := hnB
        have hkI : decide ((k : Int) < (n : Int)) = false := by simp; omega
        have e10 : IntKind.i64.wrap ((k : Int) + 1 - 1) = (k : Int) := by rw [IntWalk.i64_in] <;> omega
        clear hcs hx1 hx2
        go_enter Tryd.func24, Tryd.ntmps24
        go_wp2_with fail
        go_quiet (fail)
        obtain ⟨S, hS, hS2⟩ : ∃ S : Nat, x1 * 131 + x2 * 1117 + (k : Int) * 29 + (q : Int) * 53 = S ∧ S ≤ 1000000000 := ⟨(x1 * 131 + x2 * 1117 + (k : Int) * 29 + (q : Int) * 53).toNat, by omega, by omega⟩
        rw [hS]
        obtain ⟨X, hX⟩ : ∃ X : Nat, bits .xor .i64 (S : Int) ((S : Int) / 64) = X := ⟨S ^^^ (S / 64), by
          rw [show (S : Int) / 64 = ((S / 64 : Nat) : Int) by simp]
          exact i64_xor_nat S (S / 64) (by omega) (by omega)⟩
        have hmod1 := Int.emod_nonneg (X : Int) (show m ≠ 0 by omega)
        have hmod2 := Int.emod_lt_of_pos (X : Int) (show 0 < m by omega)
        have HA3 := hide (HA1.out.drewN nq)
        have HA4 := hide (HA2.out.drewN nq)
        clear e1 e2 e3 e4 e5 e6 e7 e8 e9 e10 hi1 hi2 hq hS hx1' hx2'
        go_wp2_with fail
        go_ret
        exact ⟨X % m, rfl, hmod1, fun _ => hmod2, fun h => by omega, HA3.out, HA4.out⟩

/-- Block R is a reader that has read at most k. -/
def Rd (R k : Nat) (w : World) : Prop := ∃ v n, ∃ p : Nat, p ≤ k ∧ RdAt R w v n p
theorem Rd.mono {R k m : Nat} {w : World} (h : Rd R k w) (hm : k ≤ m) : Rd R m w := by
  obtain ⟨v, n, p, h1, h2⟩ := h
  exact ⟨v, n, p, by omega, h2⟩
theorem Rd.lt {R k : Nat} {w : World} (h : Rd R k w) : R < w.heap.size := by
  obtain ⟨v, n, p, h1, h2⟩ := h
  exact h2.row.lt
theorem BytesAt.mono {lo hi hi' : Nat} {w : World} {v : Value} {n : Nat} (h : BytesAt lo hi w v n) (h1 : hi ≤ hi') (h2 : hi' ≤ w.heap.size) : BytesAt lo hi' w v n := by
  obtain ⟨ao, cap, e, a1, a2, a3, a4⟩ := h
  refine ⟨ao, cap, e, a1, a2, h2, fun hn => ?_⟩
  obtain ⟨b, o, e1, e2, e3, e4⟩ := a4 hn
  exact ⟨b, o, e1, e2, by omega, e4⟩
/-- All bytes stay where a call changed nothing that was there. -/
theorem BytesAt.stay {w w' : World} {v : Value} {n : Nat} (h : BytesAt 0 w.heap.size w v n) (hb : Below w.heap.size w w') : BytesAt 0 w'.heap.size w' v n :=
  (h.below hb (Nat.le_refl _)).mono hb.size (Nat.le_refl _)
theorem BytesAt.drewN {lo hi : Nat} {w : World} {v : Value} {n : Nat} (h : BytesAt lo hi w v n) (m : Nat) : BytesAt lo hi (w.drewN m) v n := h
theorem Rd.drewN {R k : Nat} {w : World} (h : Rd R k w) (m : Nat) : Rd R k (w.drewN m) := by
  obtain ⟨v, n, p, h1, h2⟩ := h
  exact ⟨v, n, p, h1, h2.drewN m⟩
/-- A reader stays where a call changed nothing that was there. -/
theorem Rd.keep {R k B : Nat} {w w' : World} (h : Rd R k w) (hb : Below B w w') (hB : R < B) : Rd R k w' := by
  obtain ⟨v, n, p, h1, h2⟩ := h
  exact ⟨v, n, p, h1, rowIs_below h2.row hb hB, h2.bytes.below hb (by omega), h2.few⟩
/-- What a draw leaves: a number. -/
def Got (R k : Nat) (m : Int) (w : World) (e : Ending) (w' : World) : Prop :=
  ∃ x, e = .returned (.int .i64 x) ∧ 0 ≤ x ∧ x < m ∧ Other R (R + 1) w w' ∧ Rd R (k + 1) w'
theorem pick_in (R k : Nat) (m : Int) (w : World) (h : Rd R k w) (hk : k ≤ 1000000) (hm1 : 1 ≤ m) (hm2 : m ≤ 1000000) :
    Calls Tryd.prog 24 #[.pointer (some ⟨R, 0, none⟩), .int .i64 m] w (Got R k m w) := by
  obtain ⟨v, n, p, h1, h2⟩ := h
  refine (pick_any R v n p m w h2 (by omega) ⟨by omega, hm2⟩).mono ?_
  rintro e w' ⟨x, rfl, a1, a2, -, a4, a5⟩
  exact ⟨x, rfl, a1, a2 hm1, a4, v, n, p + 1, by omega, by simpa using a5⟩
/-- What a toss leaves. -/
def Tossed (R k : Nat) (w : World) (e : Ending) (w' : World) : Prop :=
  ∃ b : Bool, e = .returned (.bool b) ∧ Other R (R + 1) w w' ∧ Rd R (k + 1) w'
theorem BytesAt.len {lo hi : Nat} {w : World} {v : Value} {n : Nat} (h : BytesAt lo hi w v n) : n ≤ 9223372036854775807 := by
  obtain ⟨_, _, _, _, _, _, _⟩ := h; omega
theorem BytesAt.less {lo hi : Nat} {w : World} {ao : Option Addr} {n cap m : Nat} (h : BytesAt lo hi w (.slice ao n cap) n) (hm : m ≤ n) : BytesAt lo hi w (.slice ao m cap) m := by
  obtain ⟨ao', cap', e, h1, h2, h3, h4⟩ := h
  simp only [Value.slice.injEq] at e
  obtain ⟨rfl, -, rfl⟩ := e
  refine ⟨ao, cap, rfl, by omega, h2, h3, fun hn => ?_⟩
  obtain ⟨b, o, e1, e2, e3, e4⟩ := h4 (by omega)
  exact ⟨b, o, e1, e2, e3, fun i hi => e4 i (by omega)⟩
/-- A new reader. -/
def Opened (w : World) (e : Ending) (w' : World) : Prop := ∃ R : Nat, e = .returned (.pointer (some ⟨R, 0, none⟩)) ∧ w.heap.size ≤ R ∧ Below w.heap.size w w' ∧ Rd R 0 w'
theorem opened {w : World} {v : Value} {n : Nat} (h : BytesAt 0 w.heap.size w v n) (hn : n ≤ 2000) :
    Below w.heap.size w (w.alloc (.cells #[v, .int .i64 0] 100)) ∧ Rd w.heap.size 0 (w.alloc (.cells #[v, .int .i64 0] 100)) := by
  have hb := (Below.refl w.heap.size w).alloc (Nat.le_refl _) (.cells #[v, .int .i64 0] 100)
  refine ⟨hb, v, n, 0, Nat.le_refl _, World.rowIs_alloc _ _ _ _ (by intro i hi; simp at hi; match i, hi with | 0, _ => rfl | 1, _ => rfl), h.below hb (Nat.le_refl _), hn⟩
set_option maxHeartbeats 400000 in
theorem open_any (v : Value) (n : Nat) (w : World) (h : BytesAt 0 w.heap.size w v n) :
    Calls Tryd.prog 21 #[v] w (Opened w) := by
  obtain ⟨ao, cap, rfl, hnc, hcap, hhi, hbs⟩ := id h
  have Hbs := hide hbs
  have HB := hide h
  clear hbs h
  by_cases hn : 2000 < n
  · go_enter Tryd.func21, Tryd.ntmps21
    go_wp2_with fail
    go_ret
    exact ⟨_, rfl, Nat.le_refl _, opened (HB.out.less (by omega)) (Nat.le_refl _)⟩
  · go_enter Tryd.func21, Tryd.ntmps21
    go_wp2_with fail
    go_ret
    exact ⟨_, rfl, Nat.le_refl _, opened HB.out (by omega)⟩
end Go.Proofs.YtbafifilklfafaaDoor
