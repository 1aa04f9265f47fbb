/-
  Parts of the proofs over mills, of: DrawMF, TextE, PiecesB. Conditions: each theorem states its own.
-/
import Derived.Test.YtkhecelpafojdaaGreatDoorF27
import Derived.Test.YtkhecelpafojdaaGreatDoorF30
import Derived.Test.YtkhecelpafojdaaGreatDoorF33
set_option linter.unusedSimpArgs false
set_option linter.unusedVariables false
set_option maxRecDepth 10000
set_option maxHeartbeats 64000000
namespace Go.Proofs.YtkhecelpafojdaaGreatDoor
open Go.RowKit
theorem own_zeros (w : World) (base n : Nat) (hb : base ≤ w.heap.size) (hn : n ≤ 9223372036854775807) :
 (w.alloc (.cells (madeCells #[.int .i64 0] n) 3)).ownsRow base 3 1 (.slice (some ⟨w.heap.size, 0, none⟩) n n) (List.replicate n (0 : Int)).length (aC (List.replicate n 0)) := by
 have h := World.ownsRow_lit (base := base) (e := 3) (size := 1) w (madeCells #[.int .i64 0] n) n hb (by unfold maxLen; exact hn) (by rw [size_madeCells]; omega);rw [toList_madeCells_one] at h;rw [List.length_replicate];simpa [aC] using h
theorem pile_zeros1 (W : World) (base n : Nat) (hb : base ≤ W.heap.size) (hn : n ≤ 9223372036854775807) :
 aL base (((W.alloc (.cells (madeCells #[.int .i64 0] n) 3)).alloc (.cells (madeCells #[.int .i64 0] (n - 1)) 3)).drew) (.slice (some ⟨W.heap.size, 0, none⟩) n n) (.slice (some ⟨W.heap.size + 1, 0, none⟩) (n - 1) (n - 1)) (List.replicate n 0) (List.replicate (n - 1) 0) := by
 have h1 := own_zeros W base n hb hn;have h2 := own_zeros (W.alloc (.cells (madeCells #[.int .i64 0] n) 3)) base (n - 1) (by simp; omega) (by omega);have e : (W.alloc (.cells (madeCells #[.int .i64 0] n) 3)).heap.size = W.heap.size + 1 := by simp
 rw [e] at h2;refine ⟨by simp; omega, aK.own (ownsRow_below h1 (((Below.refl _ _).alloc nl _).drew) nl), aK.own h2, fun k a b => ?_⟩;have a : W.heap.size = k := Option.some.inj a;have b : W.heap.size + 1 = k := Option.some.inj b;omega
theorem pile_zeros2 (W : World) (base n : Nat) (hb : base ≤ W.heap.size) (hn : n ≤ 9223372036854775807) :
 aL base (((W.alloc (.cells (madeCells #[.int .i64 0] (n - 1)) 3)).alloc (.cells (madeCells #[.int .i64 0] n) 3)).drew) (.slice (some ⟨W.heap.size + 1, 0, none⟩) n n) (.slice (some ⟨W.heap.size, 0, none⟩) (n - 1) (n - 1)) (List.replicate n 0) (List.replicate (n - 1) 0) := by
 have h1 := own_zeros W base (n - 1) hb (by omega);have h2 := own_zeros (W.alloc (.cells (madeCells #[.int .i64 0] (n - 1)) 3)) base n (by simp; omega) hn;have e : (W.alloc (.cells (madeCells #[.int .i64 0] (n - 1)) 3)).heap.size = W.heap.size + 1 := by simp
 rw [e] at h2;refine ⟨by simp; omega, aK.own h2, aK.own (ownsRow_below h1 (((Below.refl _ _).alloc nl _).drew) nl), fun k a b => ?_⟩;have a : W.heap.size + 1 = k := Option.some.inj a;have b : W.heap.size = k := Option.some.inj b;omega
theorem pileEmpty_any (n : Nat) (w : World) (h1 : 1 ≤ n) (h5 : n ≤ 6) :
 Calls Tryz.prog 57 #[.int .i64 n] w fun e w' => ∃ l h, e = .returned (aD l h) ∧ aL w.heap.size w' l h (List.replicate n 0) (List.replicate (n - 1) 0) ∧ Below w.heap.size w w' := by
 have hm1 := fun W => gN (P := Tryz.prog) 27 3 _ _ _ Tryz.underlying27 bF .i64 .i64 n (by omega) (by omega) W;have hm2 := fun W => gN (P := Tryz.prog) 27 3 _ _ _ Tryz.underlying27 bF .i64 .i64 (n - 1) (by omega) (by omega) W;have hw1 : IntKind.i64.wrap ((n : Int) - 1) = ((n - 1 : Nat) : Int) := by rw [IntWalk.i64_in _ (by omega)]; omega
 have hin : wi (n : Int) 1 6 = true := aN.2 ⟨by omega, by omega⟩;go_enter Tryz.func57, Tryz.ntmps57;go_wp2_with fail
 refine aj fun wx hwx => ?_;have Z_0 : ae wx w.heap.size 29 [.slice none 0 0, .slice none 0 0] := by rw [hwx]; exact ae.new _ _ _
 have hb : Below w.heap.size w wx := by rw [hwx]; exact (Below.refl _ _).alloc nl _
 have B_0 := hide hb;have hz0 := Z_0.lt;clear hwx hb;refine (aY _ _ _ _).mono ?_;rintro e w1 ⟨rfl, rfl⟩;rw [hin];have c0 := Z_0.c 0 rfl;have c1 := Z_0.c 1 rfl;have f0 := Z_0.frozen 0;have f1 := Z_0.frozen 1;have hz1 := B_0.out.size;go_wp2_with fail
 go_region
 ·go_wp2_with fail
  have Zf := (((Z_0.set 0 (.slice (some ⟨wx.heap.size, 0, none⟩) n n) (by simp)).set 1 (.slice (some ⟨wx.heap.size + 1, 0, none⟩) (n - 1) (n - 1)) (by simp)).alloc (.cells (madeCells #[.int .i64 0] n) 3)).alloc (.cells (madeCells #[.int .i64 0] (n - 1)) 3);have d0 : ((((wx.setCell ⟨w.heap.size, 0, none⟩ (.slice (some ⟨wx.heap.size, 0, none⟩) n n)).setCell ⟨w.heap.size, 1, none⟩ (.slice (some ⟨wx.heap.size + 1, 0, none⟩) (n - 1) (n - 1))).alloc (.cells (madeCells #[.int .i64 0] n) 3)).alloc (.cells (madeCells #[.int .i64 0] (n - 1)) 3)).cell? ⟨w.heap.size, 0, none⟩ = some (.slice (some ⟨wx.heap.size, 0, none⟩) n n) := Zf.c 0 rfl;have d1 : ((((wx.setCell ⟨w.heap.size, 0, none⟩ (.slice (some ⟨wx.heap.size, 0, none⟩) n n)).setCell ⟨w.heap.size, 1, none⟩ (.slice (some ⟨wx.heap.size + 1, 0, none⟩) (n - 1) (n - 1))).alloc (.cells (madeCells #[.int .i64 0] n) 3)).alloc (.cells (madeCells #[.int .i64 0] (n - 1)) 3)).cell? ⟨w.heap.size, 1, none⟩ = some (.slice (some ⟨wx.heap.size + 1, 0, none⟩) (n - 1) (n - 1)) := Zf.c 1 rfl;refine bodyPost_ret (by simp [results, Tryz.results57, go_sem, d0, d1]; try rfl) rfl ?_;exact ⟨_, _, rfl, by simpa using pile_zeros1 ((wx.setCell ⟨w.heap.size, 0, none⟩ (.slice (some ⟨wx.heap.size, 0, none⟩) n n)).setCell ⟨w.heap.size, 1, none⟩ (.slice (some ⟨wx.heap.size + 1, 0, none⟩) (n - 1) (n - 1))) w.heap.size n (by simp; omega) (by omega), B_0.out.trans (by go_grown)⟩
 ·go_wp2_with fail
  have Zf := (((Z_0.set 0 (.slice (some ⟨wx.heap.size + 1, 0, none⟩) n n) (by simp)).set 1 (.slice (some ⟨wx.heap.size, 0, none⟩) (n - 1) (n - 1)) (by simp)).alloc (.cells (madeCells #[.int .i64 0] (n - 1)) 3)).alloc (.cells (madeCells #[.int .i64 0] n) 3);have d0 : ((((wx.setCell ⟨w.heap.size, 0, none⟩ (.slice (some ⟨wx.heap.size + 1, 0, none⟩) n n)).setCell ⟨w.heap.size, 1, none⟩ (.slice (some ⟨wx.heap.size, 0, none⟩) (n - 1) (n - 1))).alloc (.cells (madeCells #[.int .i64 0] (n - 1)) 3)).alloc (.cells (madeCells #[.int .i64 0] n) 3)).cell? ⟨w.heap.size, 0, none⟩ = some (.slice (some ⟨wx.heap.size + 1, 0, none⟩) n n) := Zf.c 0 rfl;have d1 : ((((wx.setCell ⟨w.heap.size, 0, none⟩ (.slice (some ⟨wx.heap.size + 1, 0, none⟩) n n)).setCell ⟨w.heap.size, 1, none⟩ (.slice (some ⟨wx.heap.size, 0, none⟩) (n - 1) (n - 1))).alloc (.cells (madeCells #[.int .i64 0] (n - 1)) 3)).alloc (.cells (madeCells #[.int .i64 0] n) 3)).cell? ⟨w.heap.size, 1, none⟩ = some (.slice (some ⟨wx.heap.size, 0, none⟩) (n - 1) (n - 1)) := Zf.c 1 rfl;refine bodyPost_ret (by simp [results, Tryz.results57, go_sem, d0, d1]; try rfl) rfl ?_;exact ⟨_, _, rfl, by simpa using pile_zeros2 ((wx.setCell ⟨w.heap.size, 0, none⟩ (.slice (some ⟨wx.heap.size + 1, 0, none⟩) n n)).setCell ⟨w.heap.size, 1, none⟩ (.slice (some ⟨wx.heap.size, 0, none⟩) (n - 1) (n - 1))) w.heap.size n (by simp; omega) (by omega), B_0.out.trans (by go_grown)⟩
structure RdSt (w0 w : World) (r D g : Nat) (xs : List ByteArray) (k o t : Int) : Prop where
 r0 : w.cell? ⟨r, 0, none⟩ = some (.int .i64 0)
 r1 : w.cell? ⟨r, 1, none⟩ = some (.int .i64 0)
 r2 : w.cell? ⟨r, 2, none⟩ = some (.int .i64 0)
 fr0 : w.frozen? ⟨r, 0, none⟩ = false
 fr1 : w.frozen? ⟨r, 1, none⟩ = false
 fr2 : w.frozen? ⟨r, 2, none⟩ = false
 d0 : w.cell? ⟨D, 0, none⟩ = some (.int .i64 k)
 d1 : w.cell? ⟨D, 1, none⟩ = some (.int .i64 o)
 d2 : w.cell? ⟨D, 2, none⟩ = some (.int .i64 t)
 fd0 : w.frozen? ⟨D, 0, none⟩ = false
 fd1 : w.frozen? ⟨D, 1, none⟩ = false
 fd2 : w.frozen? ⟨D, 2, none⟩ = false
 strs : StrsAt w g xs
 lr : r < w.heap.size
 ld : D < w.heap.size
 ne : r ≠ D
 ng : g ≠ D
 br : w0.heap.size ≤ r
 bd : w0.heap.size ≤ D
 below : Below w0.heap.size w0 w
theorem RdSt.step {w0 w w' : World} {r D g : Nat} {xs : List ByteArray} {k o t : Int} (h : RdSt w0 w r D g xs k o t) (hb : Below w.heap.size w w') : RdSt w0 w' r D g xs k o t :=
 ⟨by rw [hb.cell h.lr]; exact h.r0, by rw [hb.cell h.lr]; exact h.r1, by rw [hb.cell h.lr]; exact h.r2, by rw [hb.frozen h.lr]; exact h.fr0, by rw [hb.frozen h.lr]; exact h.fr1, by rw [hb.frozen h.lr]; exact h.fr2,
  by rw [hb.cell h.ld]; exact h.d0, by rw [hb.cell h.ld]; exact h.d1, by rw [hb.cell h.ld]; exact h.d2, by rw [hb.frozen h.ld]; exact h.fd0, by rw [hb.frozen h.ld]; exact h.fd1, by rw [hb.frozen h.ld]; exact h.fd2,
  ⟨Nat.lt_of_lt_of_le h.strs.1 hb.size, fun i hi => by rw [hb.cell h.strs.1]; exact h.strs.2 i hi⟩, Nat.lt_of_lt_of_le h.lr hb.size, Nat.lt_of_lt_of_le h.ld hb.size, h.ne, h.ng, h.br, h.bd, Below.step h.below hb nl⟩
theorem quiet_leftT {P : Program} {f : FuncId} {args : Array Value} {w : World} {n : Nat} {v : Value}
 (h : Calls P f args (w.drewN n) fun e w' => e = .returned v ∧ w.drewN n = w') : Calls P f args (w.drewN n) fun e w'' => e = .returned v ∧ ∃ m, w'' = w.drewN m :=
 h.mono fun _ _ ⟨he, hm⟩ => ⟨he, n, hm.symm⟩
theorem size_set (w : World) (p : Addr) (v : Value) : (w.setCell p v).heap.size = w.heap.size := by simp [World.setCell]
theorem bC (w : World) (p q : Addr) (v : Value) : (w.setCell p v).frozen? q = w.frozen? q := by simp [go_sem]
theorem far {w : World} {a b i j : Nat} {v : Value} (h : a ≠ b) : (w.setCell ⟨a, i, none⟩ v).cell? ⟨b, j, none⟩ = w.cell? ⟨b, j, none⟩ := by
 apply World.cell?_setCell_other;intro e;exact h (congrArg Addr.block e)
theorem far' {w : World} {a i j : Nat} {v : Value} (h : i ≠ j) : (w.setCell ⟨a, i, none⟩ v).cell? ⟨a, j, none⟩ = w.cell? ⟨a, j, none⟩ := by
 apply World.cell?_setCell_other;intro e;exact h (congrArg Addr.off e)
theorem same' {w : World} {a i : Nat} {u v : Value} (h : w.cell? ⟨a, i, none⟩ = some u) : (w.setCell ⟨a, i, none⟩ v).cell? ⟨a, i, none⟩ = some v := by
 apply World.cell?_setCell_same;exact h
theorem RdSt.set0 {w0 w : World} {r D g : Nat} {xs : List ByteArray} {k o t : Int} (h : RdSt w0 w r D g xs k o t) (k' : Int) : RdSt w0 (w.setCell ⟨D, 0, none⟩ (.int .i64 k')) r D g xs k' o t :=
 ⟨by rw [far h.ne.symm]; exact h.r0, by rw [far h.ne.symm]; exact h.r1, by rw [far h.ne.symm]; exact h.r2, by rw [bC]; exact h.fr0, by rw [bC]; exact h.fr1, by rw [bC]; exact h.fr2,
  same' h.d0, by rw [far' (by omega)]; exact h.d1, by rw [far' (by omega)]; exact h.d2, by rw [bC]; exact h.fd0, by rw [bC]; exact h.fd1, by rw [bC]; exact h.fd2,
  ⟨by rw [size_set]; exact h.strs.1, fun i hi => by rw [far h.ng.symm]; exact h.strs.2 i hi⟩, by rw [size_set]; exact h.lr, by rw [size_set]; exact h.ld, h.ne, h.ng, h.br, h.bd, h.below.setCell h.bd _⟩
theorem RdSt.set1 {w0 w : World} {r D g : Nat} {xs : List ByteArray} {k o t : Int} (h : RdSt w0 w r D g xs k o t) (k' : Int) : RdSt w0 (w.setCell ⟨D, 1, none⟩ (.int .i64 k')) r D g xs k k' t :=
 ⟨by rw [far h.ne.symm]; exact h.r0, by rw [far h.ne.symm]; exact h.r1, by rw [far h.ne.symm]; exact h.r2, by rw [bC]; exact h.fr0, by rw [bC]; exact h.fr1, by rw [bC]; exact h.fr2,
  by rw [far' (by omega)]; exact h.d0, same' h.d1, by rw [far' (by omega)]; exact h.d2, by rw [bC]; exact h.fd0, by rw [bC]; exact h.fd1, by rw [bC]; exact h.fd2,
  ⟨by rw [size_set]; exact h.strs.1, fun i hi => by rw [far h.ng.symm]; exact h.strs.2 i hi⟩, by rw [size_set]; exact h.lr, by rw [size_set]; exact h.ld, h.ne, h.ng, h.br, h.bd, h.below.setCell h.bd _⟩
theorem RdSt.set2 {w0 w : World} {r D g : Nat} {xs : List ByteArray} {k o t : Int} (h : RdSt w0 w r D g xs k o t) (k' : Int) : RdSt w0 (w.setCell ⟨D, 2, none⟩ (.int .i64 k')) r D g xs k o k' :=
 ⟨by rw [far h.ne.symm]; exact h.r0, by rw [far h.ne.symm]; exact h.r1, by rw [far h.ne.symm]; exact h.r2, by rw [bC]; exact h.fr0, by rw [bC]; exact h.fr1, by rw [bC]; exact h.fr2,
  by rw [far' (by omega)]; exact h.d0, by rw [far' (by omega)]; exact h.d1, same' h.d2, by rw [bC]; exact h.fd0, by rw [bC]; exact h.fd1, by rw [bC]; exact h.fd2,
  ⟨by rw [size_set]; exact h.strs.1, fun i hi => by rw [far h.ng.symm]; exact h.strs.2 i hi⟩, by rw [size_set]; exact h.lr, by rw [size_set]; exact h.ld, h.ne, h.ng, h.br, h.bd, h.below.setCell h.bd _⟩
def rdS (xs : List ByteArray) (s : ByteArray) : Option (Int × Int × Int) :=
 let k := dw (xs.getD 0 ⟨#[]⟩)
 let o := if 1 < xs.length then fF (xs.getD 1 ⟨#[]⟩) else 0
 let t := if 2 < xs.length then fF (xs.getD 2 ⟨#[]⟩) else 0
 if s.size = 0 ∨ dtB k o t ≠ s then none else some (k, o, t)
theorem kind_nat (a : ByteArray) (j : Nat) (hj : j ≤ 4) : (a.toList == (ax j).toList) = decide (dw a = j) := by
 rw [bP];have n01 : ax 0 ≠ ax 1 := by decide
 have n02 : ax 0 ≠ ax 2 := by decide
 have n03 : ax 0 ≠ ax 3 := by decide
 have n04 : ax 0 ≠ ax 4 := by decide
 have n12 : ax 1 ≠ ax 2 := by decide
 have n13 : ax 1 ≠ ax 3 := by decide
 have n14 : ax 1 ≠ ax 4 := by decide
 have n23 : ax 2 ≠ ax 3 := by decide
 have n24 : ax 2 ≠ ax 4 := by decide
 have n34 : ax 3 ≠ ax 4 := by decide
 have hj' : j = 0 ∨ j = 1 ∨ j = 2 ∨ j = 3 ∨ j = 4 := by omega
 have hc : a = ax 0 ∨ a = ax 1 ∨ a = ax 2 ∨ a = ax 3 ∨ a = ax 4 ∨ (a ≠ ax 0 ∧ a ≠ ax 1 ∧ a ≠ ax 2 ∧ a ≠ ax 3 ∧ a ≠ ax 4) := by
  by_cases h0 : a = ax 0; · simp [h0]
  by_cases h1 : a = ax 1; · simp [h1]
  by_cases h2 : a = ax 2; · simp [h2]
  by_cases h3 : a = ax 3; · simp [h3]
  by_cases h4 : a = ax 4; · simp [h4]
  right; right; right; right; right; exact ⟨h0, h1, h2, h3, h4⟩
 have k0 : dw (ax 0) = 0 := by decide
 have k1 : dw (ax 1) = 1 := by decide
 have k2 : dw (ax 2) = 2 := by decide
 have k3 : dw (ax 3) = 3 := by decide
 have k4 : dw (ax 4) = 4 := by decide
 rcases hc with rfl | rfl | rfl | rfl | rfl | ⟨h0, h1, h2, h3, h4⟩
 ·rw [k0]; rcases hj' with rfl | rfl | rfl | rfl | rfl <;> decide
 ·rw [k1]; rcases hj' with rfl | rfl | rfl | rfl | rfl <;> decide
 ·rw [k2]; rcases hj' with rfl | rfl | rfl | rfl | rfl <;> decide
 ·rw [k3]; rcases hj' with rfl | rfl | rfl | rfl | rfl <;> decide
 ·rw [k4]; rcases hj' with rfl | rfl | rfl | rfl | rfl <;> decide
 ·have e : dw a = -1 := by rw [dw, if_neg h0, if_neg h1, if_neg h2, if_neg h3, if_neg h4]
  rw [e];rcases hj' with rfl | rfl | rfl | rfl | rfl
  ·show decide (a = ax 0) = _; rw [decide_eq_false h0]; decide
  ·show decide (a = ax 1) = _; rw [decide_eq_false h1]; decide
  ·show decide (a = ax 2) = _; rw [decide_eq_false h2]; decide
  ·show decide (a = ax 3) = _; rw [decide_eq_false h3]; decide
  ·show decide (a = ax 4) = _; rw [decide_eq_false h4]; decide
theorem glue_le {N : Nat} (b : UInt8) (c : List (List UInt8)) (h : ∀ p ∈ c, p.length ≤ N) : ∀ p ∈ glue [b] c, p.length ≤ N + 1 := by
 intro p hp;cases c with
 | nil => simp [glue] at hp; subst hp; simp
 | cons q qs =>
  simp only [glue, List.mem_cons] at hp;rcases hp with rfl | hp
  ·have := h q (by simp); simp; omega
  ·have := h p (by simp [hp]); omega
theorem cut32_le (l : List UInt8) : ∀ p ∈ bn l, p.length ≤ l.length := by
 induction l with
 | nil => intro p hp; simp [bn] at hp; subst hp; simp
 | cons b l ih =>
  intro p hp;rw [bn] at hp;split at hp
  ·rcases List.mem_cons.1 hp with rfl | hp
   ·simp
   ·have := ih p hp; simp; omega
  ·have := glue_le b _ ih p hp; simpa using this
theorem readDeed_spec (s : ByteArray) (w : World) (hs : s.size < 4294967281) :
 Calls Tryz.prog 26 #[.string s] w fun e w' => (∃ xs : List ByteArray, xs.map (·.data.toList) = bn s.data.toList ∧ e = .returned (deedV (rdS xs s))) ∧ Below w.heap.size w w' := by
 go_enter Tryz.func26, Tryz.ntmps26;go_wp2_with fail
 obtain ⟨wx, hwx⟩ : ∃ wx, wx = w.alloc (Obj.cells #[Value.int IntKind.i64 0, Value.int IntKind.i64 0, Value.int IntKind.i64 0] 42) := ⟨_, rfl⟩;rw [← hwx];have hdb : Below w.heap.size w wx := by rw [hwx]; exact (Below.refl _ _).alloc nl _
 have hd0 : wx.cell? ⟨w.heap.size, 0, none⟩ = some (.int .i64 0) := by rw [hwx]; simp [go_sem]
 have hd1 : wx.cell? ⟨w.heap.size, 1, none⟩ = some (.int .i64 0) := by rw [hwx]; simp [go_sem]
 have hd2 : wx.cell? ⟨w.heap.size, 2, none⟩ = some (.int .i64 0) := by rw [hwx]; simp [go_sem]
 have hf0 : wx.frozen? ⟨w.heap.size, 0, none⟩ = false := by rw [hwx]; simp [go_sem]
 have hf1 : wx.frozen? ⟨w.heap.size, 1, none⟩ = false := by rw [hwx]; simp [go_sem]
 have hf2 : wx.frozen? ⟨w.heap.size, 2, none⟩ = false := by rw [hwx]; simp [go_sem]
 have hdl : w.heap.size < wx.heap.size := by rw [hwx]; simp
 clear hwx;refine (l1Cut_any s _ hs).mono ?_;rintro e w2 ⟨xs, g, cap, rfl, hxs, hc1, hc2, hgb, hst, hb2⟩;have hX := hide hxs;have hlen1 : 1 ≤ xs.length := by
  rcases Nat.lt_or_ge 0 xs.length with h | h
  ·exact h
  ·have e : xs = [] := List.length_eq_zero_iff.1 (by omega)
   rw [e] at hxs;exact absurd hxs.symm (jk _)
 clear hxs;obtain ⟨a0, ha0⟩ : ∃ a, xs.getD 0 ⟨#[]⟩ = a := ⟨_, rfl⟩;have ha0' : xs[0]'hlen1 = a0 := by rw [← ha0]; simp [List.getD, List.getElem?_eq_getElem hlen1]
 have HA0 := hide ha0;have HA0' := hide ha0';obtain ⟨K, hK⟩ : ∃ K, dw a0 = K := ⟨_, rfl⟩;have hKr := kindB_range a0;rw [hK] at hKr;have HK := hide hK;have hB2 := Below.step hdb hb2 nl;have hr2 : w.heap.size < w2.heap.size := Nat.lt_of_lt_of_le hdl hb2.size;have hst0 : RdSt w (w2.alloc (Obj.cells #[Value.int IntKind.i64 (-1), Value.int IntKind.i64 0, Value.int IntKind.i64 0] 42)) w.heap.size w2.heap.size g xs (-1) 0 0 := by
  have hb3 : Below w2.heap.size w2 (w2.alloc (Obj.cells #[Value.int IntKind.i64 (-1), Value.int IntKind.i64 0, Value.int IntKind.i64 0] 42)) := (Below.refl _ _).alloc nl _;have hbx := Below.step hb2 hb3 nl;exact ⟨by rw [hbx.cell hdl]; exact hd0, by rw [hbx.cell hdl]; exact hd1, by rw [hbx.cell hdl]; exact hd2, by rw [hbx.frozen hdl]; exact hf0, by rw [hbx.frozen hdl]; exact hf1, by rw [hbx.frozen hdl]; exact hf2,
   by simp [go_sem], by simp [go_sem], by simp [go_sem], by simp [go_sem], by simp [go_sem], by simp [go_sem],
   ⟨by simp; have := hst.1; omega, fun i hi => by rw [hb3.cell hst.1]; exact hst.2 i hi⟩, by simp; omega, by simp, by omega, by have := hst.1; omega, Nat.le_refl _, by omega, Below.step hB2 hb3 nl⟩
 have HS0 := hide hst0;obtain ⟨D, hD⟩ : ∃ D, w2.heap.size = D := ⟨_, rfl⟩;have HDD := hide hD;clear hst0 hst ha0 ha0' hK hb2 hB2 hd0 hd1 hd2 hf0 hf1 hf2 hgb hdl hdb hr2;have hL0 : (0 : Int) < (xs.length : Int) := by omega
 rw [HDD.out] at HS0;go_wp2_with fail
 clear hD
 go_loopw [6] (fun i wr => ∃ j : Nat, j ≤ 5 ∧ i = .int .i64 j ∧ RdSt w wr w.heap.size D g xs (if K < j then K else -1) 0 0) (fun i _ => 5 - (intOf i).toNat)
 case atStart => exact ⟨0, by omega, rfl, by rw [show (if K < ((0 : Nat) : Int) then K else -1) = -1 by split <;> omega]; exact HS0.out⟩
 case round =>
  obtain ⟨j, hj, rfl, hrs⟩ := hrel;have HR := hide hrs;by_cases hlt : j ≤ 4
  ·have hjB : decide ((j : Int) ≤ 4) = true := by simp; omega
   have p0 := hrs.strs.2 0 hlen1;rw [HA0'.out] at p0;have q0 := hrs.d0;have z0 := hrs.fd0;clear hrs;by_cases hq : K = j
   ·have hqB : (a0.toList == (ax j).toList) = true := by rw [kind_nat _ _ hlt]; exact decide_eq_true (by rw [HK.out]; exact hq)
    go_wp2_with fail
    go_quiet ((go_at_call 77; exact quiet_leftT (dR _ _)))
    go_wp2_with fail
    go_roundw
    case rel =>
     refine ⟨j + 1, by omega, by go_num, ?_⟩;rw [show (if K < ((j + 1 : Nat) : Int) then K else -1) = (j : Int) by rw [if_pos (by omega)]; exact hq];exact (HR.out.step (below_drewN (Below.refl _ _) _)).set0 (j : Int)
    case measure => simp [intOf]; omega
   ·have hqB : (a0.toList == (ax j).toList) = false := by rw [kind_nat _ _ hlt]; exact decide_eq_false (by rw [HK.out]; exact hq)
    have HQ := hide hq;clear hq;go_wp2_with fail
    go_quiet ((go_at_call 77; exact quiet_leftT (dR _ _)))
    go_wp2_with fail
    go_roundw
    case rel =>
     refine ⟨j + 1, by omega, by go_num, ?_⟩;rw [show (if K < ((j + 1 : Nat) : Int) then K else -1) = (if K < (j : Int) then K else -1) by have := HQ.out; split <;> split <;> omega];exact HR.out.step (below_drewN (Below.refl _ _) _)
    case measure => simp [intOf]; omega
  ·have hjB : decide ((j : Int) ≤ 4) = false := by simp; omega
   rw [show (if K < (j : Int) then K else -1) = K by rw [if_pos (by omega)]] at hrs;have HR2 := hide hrs;have hld := hrs.ld;clear hrs HR;by_cases hl1 : 1 < xs.length
   ·by_cases hl2 : 2 < xs.length
    ·have hl1B : decide ((1 : Int) < (xs.length : Int)) = true := by simp; omega
     have hl1I : (1 : Int) < (xs.length : Int) := by omega
     obtain ⟨a1, ha1⟩ : ∃ a, xs[1]'hl1 = a := ⟨_, rfl⟩;have hg1 : xs.getD 1 ⟨#[]⟩ = a1 := by rw [← ha1]; simp [List.getD, List.getElem?_eq_getElem hl1]
     have p1 := HR2.out.strs.2 1 hl1;rw [ha1] at p1;have z1 := HR2.out.d1;have zz1 := HR2.out.fd1;obtain ⟨n1, hn1⟩ : ∃ n, fF a1 = n := ⟨_, rfl⟩;have hs1 : a1.size ≤ 9223372036854775807 := by
      have hm : a1.data.toList ∈ bn s.data.toList := by
       rw [← hX.out, ← ha1];exact List.mem_map_of_mem (List.getElem_mem _)
      have := cut32_le _ _ hm;rw [bD, bD] at this;omega
     have hC1 := fun w => l1Read_any a1 w hs1;rw [hn1] at hC1;have HG1 := hide hg1;have HN1 := hide hn1;have HR3 := hide (HR2.out.set1 n1);clear hg1 hn1 ha1 hs1;go_wp2_with fail
     refine (hC1 _).mono ?_;rintro e w1 ⟨rfl, rfl⟩;have hl2B : decide ((2 : Int) < (xs.length : Int)) = true := by simp; omega
     have hl2I : (2 : Int) < (xs.length : Int) := by omega
     obtain ⟨a2, ha2⟩ : ∃ a, xs[2]'hl2 = a := ⟨_, rfl⟩;have hg2 : xs.getD 2 ⟨#[]⟩ = a2 := by rw [← ha2]; simp [List.getD, List.getElem?_eq_getElem hl2]
     have p2 := HR3.out.strs.2 2 hl2;rw [ha2] at p2;have z2 := HR3.out.d2;have zz2 := HR3.out.fd2;obtain ⟨n2, hn2⟩ : ∃ n, fF a2 = n := ⟨_, rfl⟩;have hs2 : a2.size ≤ 9223372036854775807 := by
      have hm : a2.data.toList ∈ bn s.data.toList := by
       rw [← hX.out, ← ha2];exact List.mem_map_of_mem (List.getElem_mem _)
      have := cut32_le _ _ hm;rw [bD, bD] at this;omega
     have hC2 := fun w => l1Read_any a2 w hs2;rw [hn2] at hC2;have HG2 := hide hg2;have HN2 := hide hn2;have HR4 := hide (HR3.out.set2 n2);clear hg2 hn2 ha2 hs2;go_wp2_with fail
     refine (hC2 _).mono ?_;rintro e w1 ⟨rfl, rfl⟩;have HRD := hide (show rdS xs s = if s.size = 0 ∨ dtB K n1 n2 ≠ s then none else some (K, n1, n2) by unfold rdS; simp only [HA0.out, HK.out, if_pos hl1, if_pos hl2, HG1.out, HN1.out, HG2.out, HN2.out]);have hem := eu s;by_cases hz : s.size = 0
     ·rw [decide_eq_true hz] at hem
      have HF := hide (show rdS xs s = none by rw [HRD.out, if_pos (.inl hz)]);have c0 := HR4.out.r0;have c1 := HR4.out.r1;have c2 := HR4.out.r2;have y0 := HR4.out.fr0;have y1 := HR4.out.fr1;have y2 := HR4.out.fr2;have HBB := hide HR4.out.below;clear hz;go_wp2_with fail
      refine bodyPost_ret (by simp [results, Tryz.results26, go_sem, c0, c1, c2]; try rfl) rfl ?_;exact ⟨⟨xs, hX.out, by rw [HF.out]; rfl⟩, by have := HBB.out; go_grown⟩
     rw [decide_eq_false hz] at hem;have hd0 := HR4.out.d0;have hd1 := HR4.out.d1;have hd2 := HR4.out.d2;have HZ := hide hz;clear hz;go_wp2_with fail
     clear hd0 hd1 hd2;refine (jW K n1 n2 _).mono ?_;rintro e w5 ⟨rfl, hb5⟩;have HW := hide (HR4.out.step hb5);clear hb5;have c0 := HW.out.r0;have c1 := HW.out.r1;have c2 := HW.out.r2;have y0 := HW.out.fr0;have y1 := HW.out.fr1;have y2 := HW.out.fr2;have hd0 := HW.out.d0;have hd1 := HW.out.d1;have hd2 := HW.out.d2;have HBB := hide HW.out.below;by_cases heq : dtB K n1 n2 = s
     ·have hqB : ((dtB K n1 n2).toList == s.toList) = true := by rw [bP]; exact decide_eq_true heq
      have HF := hide (show rdS xs s = some (K, n1, n2) by rw [HRD.out, if_neg (fun h => h.elim HZ.out (fun h => h heq))]);clear heq;go_wp2_with fail
      refine bodyPost_ret (by simp [results, Tryz.results26, go_sem, c0, c1, c2]; try rfl) rfl ?_;exact ⟨⟨xs, hX.out, by rw [HF.out]; rfl⟩, by have := HBB.out; go_grown⟩
     ·have hqB : ((dtB K n1 n2).toList == s.toList) = false := by rw [bP]; exact decide_eq_false heq
      have HF := hide (show rdS xs s = none by rw [HRD.out, if_pos (.inr heq)]);clear heq;go_wp2_with fail
      refine bodyPost_ret (by simp [results, Tryz.results26, go_sem, c0, c1, c2]; try rfl) rfl ?_;exact ⟨⟨xs, hX.out, by rw [HF.out]; rfl⟩, by have := HBB.out; go_grown⟩
    ·have hl2B : decide ((2 : Int) < (xs.length : Int)) = false := by simp; omega
     have hl1B : decide ((1 : Int) < (xs.length : Int)) = true := by simp; omega
     have hl1I : (1 : Int) < (xs.length : Int) := by omega
     obtain ⟨a1, ha1⟩ : ∃ a, xs[1]'hl1 = a := ⟨_, rfl⟩;have hg1 : xs.getD 1 ⟨#[]⟩ = a1 := by rw [← ha1]; simp [List.getD, List.getElem?_eq_getElem hl1]
     have p1 := HR2.out.strs.2 1 hl1;rw [ha1] at p1;have z1 := HR2.out.d1;have zz1 := HR2.out.fd1;obtain ⟨n1, hn1⟩ : ∃ n, fF a1 = n := ⟨_, rfl⟩;have hs1 : a1.size ≤ 9223372036854775807 := by
      have hm : a1.data.toList ∈ bn s.data.toList := by
       rw [← hX.out, ← ha1];exact List.mem_map_of_mem (List.getElem_mem _)
      have := cut32_le _ _ hm;rw [bD, bD] at this;omega
     have hC1 := fun w => l1Read_any a1 w hs1;rw [hn1] at hC1;have HG1 := hide hg1;have HN1 := hide hn1;have HR3 := hide (HR2.out.set1 n1);clear hg1 hn1 ha1 hs1;go_wp2_with fail
     refine (hC1 _).mono ?_;rintro e w1 ⟨rfl, rfl⟩;have HRD := hide (show rdS xs s = if s.size = 0 ∨ dtB K n1 0 ≠ s then none else some (K, n1, 0) by unfold rdS; simp only [HA0.out, HK.out, if_pos hl1, if_neg hl2, HG1.out, HN1.out]);have hem := eu s;by_cases hz : s.size = 0
     ·rw [decide_eq_true hz] at hem
      have HF := hide (show rdS xs s = none by rw [HRD.out, if_pos (.inl hz)]);have c0 := HR3.out.r0;have c1 := HR3.out.r1;have c2 := HR3.out.r2;have y0 := HR3.out.fr0;have y1 := HR3.out.fr1;have y2 := HR3.out.fr2;have HBB := hide HR3.out.below;clear hz;go_wp2_with fail
      refine bodyPost_ret (by simp [results, Tryz.results26, go_sem, c0, c1, c2]; try rfl) rfl ?_;exact ⟨⟨xs, hX.out, by rw [HF.out]; rfl⟩, by have := HBB.out; go_grown⟩
     rw [decide_eq_false hz] at hem;have hd0 := HR3.out.d0;have hd1 := HR3.out.d1;have hd2 := HR3.out.d2;have HZ := hide hz;clear hz;go_wp2_with fail
     clear hd0 hd1 hd2;refine (jW K n1 0 _).mono ?_;rintro e w5 ⟨rfl, hb5⟩;have HW := hide (HR3.out.step hb5);clear hb5;have c0 := HW.out.r0;have c1 := HW.out.r1;have c2 := HW.out.r2;have y0 := HW.out.fr0;have y1 := HW.out.fr1;have y2 := HW.out.fr2;have hd0 := HW.out.d0;have hd1 := HW.out.d1;have hd2 := HW.out.d2;have HBB := hide HW.out.below;by_cases heq : dtB K n1 0 = s
     ·have hqB : ((dtB K n1 0).toList == s.toList) = true := by rw [bP]; exact decide_eq_true heq
      have HF := hide (show rdS xs s = some (K, n1, 0) by rw [HRD.out, if_neg (fun h => h.elim HZ.out (fun h => h heq))]);clear heq;go_wp2_with fail
      refine bodyPost_ret (by simp [results, Tryz.results26, go_sem, c0, c1, c2]; try rfl) rfl ?_;exact ⟨⟨xs, hX.out, by rw [HF.out]; rfl⟩, by have := HBB.out; go_grown⟩
     ·have hqB : ((dtB K n1 0).toList == s.toList) = false := by rw [bP]; exact decide_eq_false heq
      have HF := hide (show rdS xs s = none by rw [HRD.out, if_pos (.inr heq)]);clear heq;go_wp2_with fail
      refine bodyPost_ret (by simp [results, Tryz.results26, go_sem, c0, c1, c2]; try rfl) rfl ?_;exact ⟨⟨xs, hX.out, by rw [HF.out]; rfl⟩, by have := HBB.out; go_grown⟩
   ·have hl1B : decide ((1 : Int) < (xs.length : Int)) = false := by simp; omega
    have hl2B : decide ((2 : Int) < (xs.length : Int)) = false := by simp; omega
    have HRD := hide (show rdS xs s = if s.size = 0 ∨ dtB K 0 0 ≠ s then none else some (K, 0, 0) by unfold rdS; simp only [HA0.out, HK.out, if_neg hl1, if_neg (show ¬ 2 < xs.length by omega)]);have hem := eu s;by_cases hz : s.size = 0
    ·rw [decide_eq_true hz] at hem
     have HF := hide (show rdS xs s = none by rw [HRD.out, if_pos (.inl hz)]);have c0 := HR2.out.r0;have c1 := HR2.out.r1;have c2 := HR2.out.r2;have y0 := HR2.out.fr0;have y1 := HR2.out.fr1;have y2 := HR2.out.fr2;have HBB := hide HR2.out.below;clear hz;go_wp2_with fail
     refine bodyPost_ret (by simp [results, Tryz.results26, go_sem, c0, c1, c2]; try rfl) rfl ?_;exact ⟨⟨xs, hX.out, by rw [HF.out]; rfl⟩, by have := HBB.out; go_grown⟩
    rw [decide_eq_false hz] at hem;have hd0 := HR2.out.d0;have hd1 := HR2.out.d1;have hd2 := HR2.out.d2;have HZ := hide hz;clear hz;go_wp2_with fail
    clear hd0 hd1 hd2;refine (jW K 0 0 _).mono ?_;rintro e w5 ⟨rfl, hb5⟩;have HW := hide (HR2.out.step hb5);clear hb5;have c0 := HW.out.r0;have c1 := HW.out.r1;have c2 := HW.out.r2;have y0 := HW.out.fr0;have y1 := HW.out.fr1;have y2 := HW.out.fr2;have hd0 := HW.out.d0;have hd1 := HW.out.d1;have hd2 := HW.out.d2;have HBB := hide HW.out.below;by_cases heq : dtB K 0 0 = s
    ·have hqB : ((dtB K 0 0).toList == s.toList) = true := by rw [bP]; exact decide_eq_true heq
     have HF := hide (show rdS xs s = some (K, 0, 0) by rw [HRD.out, if_neg (fun h => h.elim HZ.out (fun h => h heq))]);clear heq;go_wp2_with fail
     refine bodyPost_ret (by simp [results, Tryz.results26, go_sem, c0, c1, c2]; try rfl) rfl ?_;exact ⟨⟨xs, hX.out, by rw [HF.out]; rfl⟩, by have := HBB.out; go_grown⟩
    ·have hqB : ((dtB K 0 0).toList == s.toList) = false := by rw [bP]; exact decide_eq_false heq
     have HF := hide (show rdS xs s = none by rw [HRD.out, if_pos (.inr heq)]);clear heq;go_wp2_with fail
     refine bodyPost_ret (by simp [results, Tryz.results26, go_sem, c0, c1, c2]; try rfl) rfl ?_;exact ⟨⟨xs, hX.out, by rw [HF.out]; rfl⟩, by have := HBB.out; go_grown⟩
theorem jr (s p l h : Value) (m : Mi) (st : Int) (w : World) (H : aM 0 w.heap.size w s p l h m) :
 Calls Tryz.prog 87 #[ag s p l h m, .int .i64 st] w (fA w.heap.size (bf m st) w) := by
 obtain ⟨ao1, cap1, ao2, cap2, ao3, cap3, ao4, cap4, rfl, rfl, rfl, rfl⟩ := H.op;have hpl := H.pieces.len;obtain ⟨i0, hi0, hz0, hi1, hi2⟩ := info_parts bF;have HV := hide H;clear H;unfold ag;go_enter Tryz.func87, Tryz.ntmps87;go_wp2_with fail
 go_loopw [5, 6] (fun o i wr => ∃ k : Nat, k ≤ m.pieces.length ∧ i = .int .i64 k ∧ Below w.heap.size w wr ∧ ae wr w.heap.size 31 (mC ao1 cap1 ao2 cap2 ao3 cap3 ao4 cap4 m) ∧ wr.ownsRow (w.heap.size + 1) 3 1 o (bg m.pieces st k).length (aC (bg m.pieces st k)) ∧ (aF m = false → k = 0)) (fun _ i _ => m.pieces.length - (intOf i).toNat)
 case atStart => exact ⟨0, Nat.zero_le _, rfl, by go_grown, (ae.new _ _ _).alloc _, by simpa [bg, aC] using World.ownsRow_lit (e := 3) (size := 1) (base := w.heap.size + 1) (w.alloc (.cells #[.slice ao1 m.store.length cap1, .int .i64 m.rule.lc, .int .i64 m.rule.hc, .int .i64 m.rule.lm, .int .i64 m.rule.hm, .int .i64 m.rule.ls, .int .i64 m.rule.hs, .int .i64 m.strand, .slice ao2 m.pieces.length cap2, .slice ao3 m.low.length cap3, .slice ao4 m.high.length cap4, .int .i64 m.scrap] 31)) #[] 0 (by simp) (by unfold maxLen; omega) (by simp), fun _ => rfl⟩
 case round =>
  obtain ⟨k, hk, rfl, hb, hA, hown, hv0⟩ := hrel;have HB := hide hb;have HO := hide hown;have HV0 := hide hv0;have HA := hide hA;have hz := hb.size;have hzA := hA.lt;have hnl := gK m.pieces st k;obtain ⟨aow, capw, rfl, -, -⟩ := aB hown;have VR := hide (HV.out.below hb);have cA0 : wr.cell? ⟨w.heap.size, 0, none⟩ = some (.slice ao1 m.store.length cap1) := HA.out.cell 0 (by simp);have cA1 : wr.cell? ⟨w.heap.size, 1, none⟩ = some (.int .i64 m.rule.lc) := HA.out.cell 1 (by simp);have cA2 : wr.cell? ⟨w.heap.size, 2, none⟩ = some (.int .i64 m.rule.hc) := HA.out.cell 2 (by simp);have cA3 : wr.cell? ⟨w.heap.size, 3, none⟩ = some (.int .i64 m.rule.lm) := HA.out.cell 3 (by simp);have cA4 : wr.cell? ⟨w.heap.size, 4, none⟩ = some (.int .i64 m.rule.hm) := HA.out.cell 4 (by simp);have cA5 : wr.cell? ⟨w.heap.size, 5, none⟩ = some (.int .i64 m.rule.ls) := HA.out.cell 5 (by simp);have cA6 : wr.cell? ⟨w.heap.size, 6, none⟩ = some (.int .i64 m.rule.hs) := HA.out.cell 6 (by simp);have cA7 : wr.cell? ⟨w.heap.size, 7, none⟩ = some (.int .i64 m.strand) := HA.out.cell 7 (by simp);have cA8 : wr.cell? ⟨w.heap.size, 8, none⟩ = some (.slice ao2 m.pieces.length cap2) := HA.out.cell 8 (by simp);have cA9 : wr.cell? ⟨w.heap.size, 9, none⟩ = some (.slice ao3 m.low.length cap3) := HA.out.cell 9 (by simp);have cA10 : wr.cell? ⟨w.heap.size, 10, none⟩ = some (.slice ao4 m.high.length cap4) := HA.out.cell 10 (by simp);have cA11 : wr.cell? ⟨w.heap.size, 11, none⟩ = some (.int .i64 m.scrap) := HA.out.cell 11 (by simp);clear hown hv0 hA hb;by_cases hlt : k < m.pieces.length
  ·have hkI : (k : Int) < (m.pieces.length : Int) := by omega
   go_wp2_with fail
   have KV := cu _ _ _ _ m wr VR.out.all;clear cA0 cA1 cA2 cA3 cA4 cA5 cA6 cA7 cA8 cA9 cA10 cA11;cases hv : aF m with
   | false =>
    rw [hv] at KV;refine KV.mono ?_;rintro e wq ⟨rfl, hbq⟩;have HBq := bs HB.out hbq;have hk0 : k = 0 := HV0.out hv;subst hk0;have HOq := hide (aJ (ownsRow_below HO.out hbq nl) (Nat.le_succ _));have HF := hide (show bf m st = bg m.pieces st 0 by simp [bf, hv, bg]);clear hbq KV hv;go_wp2_with fail
    go_ret;exact ⟨_, rfl, by rw [HF.out]; exact HOq.out, HBq.out⟩
   | true =>
    rw [hv] at KV;refine KV.mono ?_;rintro e wq ⟨rfl, hbq⟩;have HBq := bs HB.out hbq;have HAq := hide (HA.out.below hbq hzA);have HOq := hide (ownsRow_below HO.out hbq nl);have VQ := hide (VR.out.below hbq);have h5 := (aQ.1 hv).len;have HV1 := hide (show ∀ n : Nat, aF m = false → n = 0 by intro n h; rw [hv] at h; exact absurd h (by simp));have hzq := hbq.size;have cA8 : wq.cell? ⟨w.heap.size, 8, none⟩ = some (.slice ao2 m.pieces.length cap2) := HAq.out.cell 8 (by simp);obtain ⟨_, _, e1, -, -, -, hcl⟩ := VQ.out.pieces;simp only [Value.slice.injEq] at e1;obtain ⟨rfl, -, rfl⟩ := e1;obtain ⟨b, o, rfl, -, hbl, hcs⟩ := hcl (by omega);obtain ⟨⟨r0, r1⟩, -⟩ := hcs k hlt;have hg : m.pieces.getD k pc0 = m.pieces[k] := by simp [hlt]
    have hN : bg m.pieces st (k + 1) = if m.pieces[k].s == st then bg m.pieces st k ++ [(k : Int) + 1] else bg m.pieces st k := by rw [bg, hg]
    have HN := hide hN;obtain ⟨x, hx⟩ : ∃ x, m.pieces[k].s = x := ⟨_, rfl⟩;obtain ⟨y, hy⟩ : ∃ y, m.pieces[k].l = y := ⟨_, rfl⟩;rw [hx] at r1 HN;rw [hy] at r0;clear hcs hx hy hg hN hbq KV hv hcl;cases hq : (x == st) with
    | false =>
     have HN2 := hide (show bg m.pieces st (k + 1) = bg m.pieces st k by rw [HN.out, hq]; rfl);go_wp2_with fail
     go_roundw
     case rel => exact ⟨k + 1, by omega, by go_num, HBq.out, HAq.out, by rw [HN2.out]; exact HOq.out, HV1.out _⟩
     case measure => simp [intOf]; omega
    | true =>
     have HN2 := hide (show bg m.pieces st (k + 1) = bg m.pieces st k ++ [(k : Int) + 1] by rw [HN.out, hq]; rfl);go_wp2_with (at_builtin; refine aA rfl _ _ 27 rfl (w.heap.size + 1) 3 i0 (.int .i64 0) 1 8 Tryz.underlying27 hi0 hz0 hi1 hi2 rfl (by decide) _ _ _ rfl (HOq.out.alloc _) (.slice (some ⟨wq.heap.size, 0, none⟩) 1 1) 1 [.int .i64 ((k : Int) + 1)] rfl ?c0 ?c1 ?c2 ?c3 ?_)
     case c0 => exact Source.lit wq [.int .i64 ((k : Int) + 1)] 1 3 1 rfl (fun u hu => by simp at hu; subst hu; rfl) 1
     case c1 => unfold maxLen; omega
     case c2 => omega
     case c3 => simp; omega
     intro v2 w3 hown2 hgrow2 _;have hB3 : Below (w.heap.size + 1) wq w3 := ((Below.refl _ wq).alloc (by omega) (.cells #[.int .i64 ((k : Int) + 1)] 3)).trans (Below.grow hgrow2 (HOq.out.alloc _) nl (by simp; omega));have HB3 := hide (HBq.out.trans (hB3.mono (Nat.le_succ _)));have HA3 := hide (HAq.out.below hB3 ns);have HO3 := hide (show w3.ownsRow (w.heap.size + 1) 3 1 v2 (bg m.pieces st (k + 1)).length (aC (bg m.pieces st (k + 1))) by rw [HN2.out]; simpa [aC] using hown2);clear hown2 hgrow2 hB3;go_wp2_with fail
     go_roundw
     case rel => exact ⟨k + 1, by omega, by go_num, HB3.out, HA3.out, HO3.out, HV1.out _⟩
     case measure => simp [intOf]; omega
  ·obtain rfl : k = m.pieces.length := by omega
   have HF := hide (show bf m st = bg m.pieces st m.pieces.length by
    unfold bf;split
    ·rfl
    ·rename_i h; rw [HV0.out (by simpa using h)]; rfl)
   have HOq := hide (aJ HO.out (Nat.le_succ _));go_wp2_with fail
   go_ret;exact ⟨_, rfl, by rw [HF.out]; exact HOq.out, HB.out⟩
end Go.Proofs.YtkhecelpafojdaaGreatDoor
